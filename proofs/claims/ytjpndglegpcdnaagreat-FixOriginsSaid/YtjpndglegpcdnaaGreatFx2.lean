/- (fix.Owned).follows. Printed by mk_fx2.py. -/
import Derived.Test.YtjpndglegpcdnaaGreatFxD
import Derived.Test.YtjpndglegpcdnaaGreatJoFits
import Derived.Test.YtjpndglegpcdnaaGreatPosts2
set_option linter.unusedVariables false
set_option linter.unusedSimpArgs false
set_option maxRecDepth 100000
set_option maxHeartbeats 8000000
namespace Go.Proofs.YtjpndglegpcdnaaGreat
open Go.ChangeShapes Go.WideShapes Go.ChangeAt Go.RowKit
theorem tl {d B:Nat} {o:OwD} {vo:List Value} {w:World} (ho:(OwR d).rd w B o vo) (hB:B≤w.heap.size) :
 Calls Tryz.prog 43 #[.agg vo.toArray] w fun z w'=>z=.returned (.bool (ii o))∧Below w.heap.size w w':=by
 obtain ⟨A0,c0,A1,c1,A2,c2,A3,c3,rfl,hr,_,_⟩:=nM ho
 have HR:=zu hr
 clear ho hr
 go_enter Tryz.func43,Tryz.ntmps43
 go_upto_region 1 with fail
 generalize hW:World.alloc _ _=w1
 obtain ⟨hb1,hz⟩:=al1 hW
 have HK1:=zu (n11 hW)
 have HB1:=zu hb1
 have hsz1:=hb1.size
 clear hW hb1 hz
 have k_o:=HK1.out.cell
 have l_o:=HK1.out.lt
 go_wp2_with fail
 refine (lq (vs:=[_,_,_,_,_]) ((RuR d).keep HB1.out hB HR.out) (zv hB hsz1)).mono ?_
 rintro z w2 ⟨rfl,hb2⟩
 have HK2:=zu (HK1.out.later hb2)
 have HB2:=zu (aa HB1.out hb2)
 clear hb2 k_o l_o
 have k_o:=HK2.out.cell
 have l_o:=HK2.out.lt
 have HV:Hid (ii o=(aP o.rule&&(decide (0≤o.block)&&decide (o.block<8)||decide (o.block=15)))):=zu rfl
 cases hm:aP o.rule
 ·rw [hm] at HV
  clear hm
  go_wp2_with fail
  go_ret
  exact ⟨ac HV.out.symm,HB2.out⟩
 rw [hm] at HV
 clear hm
 by_cases h0:0≤o.block
 ·by_cases h8:o.block<8
  ·have e:ii o=true:=by rw [HV.out];simp [h0,h8]
   have HE:=zu e
   clear HV e
   go_wp2_with fail
   go_ret
   exact ⟨ac HE.out.symm,HB2.out⟩
  ·have e:ii o=(decide (o.block<8)||o.block==15):=by rw [HV.out,decide_eq_true h0,decide_eq_false h8];by_cases h:o.block=15<;>simp [h]
   have HE:=zu e
   clear HV e
   go_wp2_with fail
   go_ret
   exact ⟨ac HE.out.symm,HB2.out⟩
 ·have e:ii o=false:=by
   rw [HV.out]
   have h15:¬o.block=15:=by omega
   simp [h0,h15]
  have h15:(o.block==15)=false:=by rw [beq_eq_false_iff_ne];omega
  have HE:=zu e
  clear HV e
  go_wp2_with fail
  go_ret
  exact ⟨ac HE.out.symm,HB2.out⟩
theorem mP {d B c:Nat} {rs:List OwD} {A:Option Addr} {w:World} (hl:RL (OwR d) w B rs A) (hn:rs.length≤140737488351232) (hB:B≤w.heap.size) :
 Calls Tryz.prog 23 #[.slice A rs.length c] w fun z w'=>z=.returned (.bool (rs.all ii))∧Below w.heap.size w w':=by
 have HL:=zu hl
 clear hl
 go_enter Tryz.func23,Tryz.ntmps23
 go_upto_region 2 with fail
 go_loopw [7] (fun i wr=>∃k:Nat,k≤rs.length∧i=.int .i64 k∧Hid (Below w.heap.size w wr)∧Hid (∀i (hi:i<k) (hi':i<rs.length),ii rs[i]=true)) (fun i _=>rs.length-(intOf i).toNat)
 case atStart=>exact ⟨0,zx _,rfl,zu (zy _ _),zu (fun i h=>absurd h (by omega))⟩
 case round=>
  obtain ⟨k,hk,rfl,HW,HALL⟩:=hrel
  have hszr:=HW.out.size
  have hBr:B≤wr.heap.size:=zv hB hszr
  by_cases hlt:k<rs.length
  ·obtain ⟨b,off,rfl,hob⟩:=(HL.out.keep HW.out hB).base (zy _ _) hBr (by omega)
   obtain ⟨x,vs,hx,hlen,hcell,hr⟩:=(HL.out.keep HW.out hB).at_ (zy _ _) hBr hlt
   have HX:=zu hx
   have HRX:=zu hr
   obtain ⟨A0,c0,A1,c1,A2,c2,A3,c3,rfl,_,_,_⟩:=nM hr
   have p0:wr.cell? ⟨b,off+k*7,none⟩=some (.string x.rule.head.name):=hcell 0 _ rfl
   have p1:wr.cell? ⟨b,off+k*7+1,none⟩=some (.slice A0 x.rule.head.terms.length c0):=hcell 1 _ rfl
   have p2:wr.cell? ⟨b,off+k*7+2,none⟩=some (.slice A1 x.rule.body.length c1):=hcell 2 _ rfl
   have p3:wr.cell? ⟨b,off+k*7+3,none⟩=some (.slice A2 x.rule.exprs.length c2):=hcell 3 _ rfl
   have p4:wr.cell? ⟨b,off+k*7+4,none⟩=some (.slice A3 x.rule.scopes.length c3):=hcell 4 _ rfl
   have p5:wr.cell? ⟨b,off+k*7+5,none⟩=some (.int .i64 x.block):=hcell 5 _ rfl
   have p6:wr.cell? ⟨b,off+k*7+6,none⟩=some (.int .u32 x.trusted):=hcell 6 _ rfl
   clear hcell hlen hx hr
   go_upto_region 4 with fail
   generalize hW:World.alloc _ _=w3
   obtain ⟨hb3,hz3⟩:=al1 hW
   have HK3:=zu (n11 hW)
   have HB3:=zu (aa HW.out hb3)
   have HR3:=zu ((OwR d).keep hb3 hBr HRX.out)
   have hsz3:=hb3.size
   clear hW hb3 hz3 p0 p1 p2 p3 p4 p5 p6
   have k_r:=HK3.out.cell
   have l_r:=HK3.out.lt
   go_wp2_with fail
   refine (tl (d:=d) (B:=B) (o:=x) (vo:=[_,_,_,_,_,_,_]) ((OwR d).wide (zw _) HR3.out) (by omega)).mono ?_
   rintro z w4 ⟨rfl,hb4⟩
   have HB4:=zu (aa HB3.out hb4)
   clear hb4 k_r l_r
   by_cases hq:ii x=true
   ·have HQ:=zu hq
    rw [hq]
    clear hq
    go_wp2_with fail
    go_roundw
    case rel=>exact ⟨k+1,by omega,by go_num,HB4,zu (fun i hi hi'=>by
     rcases Nat.lt_or_ge i k with h1 | h1
     ·exact HALL.out i h1 hi'
     ·obtain rfl:i=k:=by omega
      rw [(List.getElem?_eq_some_iff.1 HX.out).2];exact HQ.out)⟩
    case measure=>simp [intOf];omega
   ·simp only [Bool.not_eq_true] at hq
    have HV:Hid (rs.all ii=false):=zu (yK HX.out hq)
    rw [hq]
    clear hq
    go_wp2_with fail
    go_ret
    exact ⟨ac HV.out.symm,HB4.out⟩
  ·have HV:Hid (rs.all ii=true):=zu (allT3_ (k:=k) (by omega) HALL.out)
   go_wp2_with fail
   go_ret
   exact ⟨ac HV.out.symm,HW.out⟩
def noPr:Pr:=⟨⟨#[]⟩,[]⟩
def sq (d:Nat) (w w':World) (r:Option Pr) (z:Ending):Prop:=(∃A c xs,z=.returned (.tuple #[.agg #[.string (r.getD noPr).name,.slice A (r.getD noPr).terms.length c],.bool r.isSome])∧xs.map SV.t=(r.getD noPr).terms∧StkQ w.heap.size d w' xs A c)∧Below w.heap.size w w'
theorem sq.no {d:Nat} {w w':World} (h:Below w.heap.size w w'):sq d w w' none (.returned (.tuple #[.agg #[.string ⟨#[]⟩,.slice none 0 0],.bool false])):=
 ⟨⟨none,0,[],rfl,rfl,StkQ.nil _ _ _⟩,h⟩
theorem nS {fn:Func} {tmps:Array Value} {p u:Tmp} {g:Nat} {w:World} {cs:Array Value} (h:fn.results=#[.cell p 26,.tmp u]) (hp:tmps.getD p undef=.pointer (some ⟨g,0,none⟩)) (hb:Blk w g cs) (hn:cs.size=2) :
 (results fn tmps).run Tryz.prog w=.ok (.tuple #[.agg cs,tmps.getD u undef]) w:=by
 obtain ⟨T,hb⟩:=hb
 rw [results_cell_tmp h]
 have e:tmps[p]?.getD undef=.pointer (some ⟨g,0,none⟩):=by simpa using hp
 have e1:((asAddr (tmps.getD p undef)).run Tryz.prog w)=.ok ⟨g,0,none⟩ w:=by simp [e,asAddr]
 rw [e1,Result.andThen_ok,run_loadVar_row w g T 26 cs (0,0) _ hb Tryz.underlying26 rfl (by rw [hn];kernel_rfl),Result.andThen_ok]
theorem ji {b:Bd}:∀{xs zs:List Tm} {x z:Tm},gO b xs=some zs→nA b x=some z→gO b (xs++[x])=some (zs++[z])
 | [],zs,x,z,h,hz=>by
   simp only [gO,zE] at h
   subst h
   simp [gO,hz]
 | y::xs,zs,x,z,h,hz=>by
   simp only [gO] at h
   split at h
   ·rename_i u hu
    split at h
    ·rename_i us hus
     simp only [zE] at h
     subst h
     simp only [List.cons_append,gO,hu,ji hus hz]
    ·cases h
   ·cases h
theorem mF {b:Bd}:∀{xs:List Tm} {x:Tm},x∈xs→nA b x=none→gO b xs=none
 | y::xs,x,hx,hz=>by
   rcases List.mem_cons.1 hx with rfl | hx
   ·simp [gO,hz]
   ·simp only [gO]
    rw [mF hx hz]
    split<;>rfl
theorem xz {d B cn ct:Nat} {p:Pr} {b:Bd} {vp:List Value} {An At:Option Addr} {w:World} (hp:(PrR (d+1)).rd w B p vp) (hn:RL cV w B (b.names.map mkS) An) (ht:RL (TmR (d+1)) w B b.terms At) (hB:B≤w.heap.size) :
 Calls Tryz.prog 58 #[.agg vp.toArray,.agg (bdV An b.names.length cn At b.terms.length ct)] w fun z w'=>sq d w w' (gP p b) z:=by
 have HP:=zu hp
 have HN:=zu hn
 have HT:=zu ht
 obtain ⟨_,rfl,hps,Ap,cp,rfl,hp1,hp2,hpl⟩:=hp
 have HPL:=zu hpl
 obtain ⟨i0,hi0,hz0,hz1,hz2⟩:=info_parts gS
 clear hn ht hpl
 unfold bdV
 go_enter Tryz.func58,Tryz.ntmps58
 go_wp2_with fail
 generalize hW:World.alloc _ _=w1
 obtain ⟨hb,hz⟩:=al3 hW
 have HBP1:=zu (n31 hW)
 have HBB1:=zu (n32 hW)
 have HBR1:=zu (n33 hW)
 have HB1:=zu hb
 have hsz1:=hb.size
 clear hW hb
 have hB1:=zv hB hsz1
 refine (dl (d:=d+1) (vs:=[_,_]) ((PrR (d+1)).keep HB1.out hB HP.out) hB1).mono ?_
 rintro e w1a ⟨rfl,hb⟩
 have HBPa:=zu (HBP1.out.later hb)
 have HBBa:=zu (HBB1.out.later hb)
 have HBRa:=zu (HBR1.out.later hb)
 have HBa:Hid (Below w.heap.size w w1a):=zu (HB1.out.trans (hb.mono hsz1))
 have hsza:=hb.size
 clear hb
 by_cases h1:aE p=true
 rotate_left
 ·simp only [Bool.not_eq_true] at h1
  rw [h1]
  have HNO:Hid (gP p b=none):=zu (by unfold gP;rw [if_neg];rintro ⟨q1,q2⟩;simp [h1] at *)
  clear h1
  have k_r:=HBRa.out.cell
  have f_r:=HBRa.out.free
  have l_r:=HBRa.out.lt
  go_wp2_with fail
  refine bodyPost_ret (nS rfl rfl (jX HBRa.out (.string ⟨#[]⟩) (.slice none 0 0)) rfl) rfl ?_
  rw [HNO.out]
  exact sq.no (jY HBa.out (by omega) _ _)
 have H1:=zu h1
 rw [h1]
 clear h1
 have k_b:=HBBa.out.cell
 have l_b:=HBBa.out.lt
 go_wp2_with fail
 refine (dm (d:=d) (cn:=cn) (ct:=ct) (HN.out.keep HBa.out hB) (HT.out.keep HBa.out hB) (zv hB HBa.out.size)).mono ?_
 rintro e w2 ⟨rfl,hb⟩
 have HBP2:=zu (HBPa.out.later hb)
 have HBB2:=zu (HBBa.out.later hb)
 have HBR2:=zu (HBRa.out.later hb)
 have HB2:Hid (Below w.heap.size w w2):=zu (HBa.out.trans (hb.mono HBa.out.size))
 have hsz2:=hb.size
 clear hb k_b l_b HBPa HBBa HBRa
 by_cases h2:bH b=true
 rotate_left
 ·simp only [Bool.not_eq_true] at h2
  rw [h2]
  have HNO:Hid (gP p b=none):=zu (by unfold gP;rw [if_neg];rintro ⟨q1,q2⟩;simp [h2] at *)
  clear h2
  have k_r:=HBR2.out.cell
  have f_r:=HBR2.out.free
  have l_r:=HBR2.out.lt
  go_wp2_with fail
  refine bodyPost_ret (nS rfl rfl (jX HBR2.out (.string ⟨#[]⟩) (.slice none 0 0)) rfl) rfl ?_
  rw [HNO.out]
  exact sq.no (jY HB2.out (by omega) _ _)
 have H2:=zu h2
 rw [h2]
 clear h2
 have HMT:=zu (gf H1.out)
 have hp8:=HMT.out.1
 have HOKN:=zu (dS.1 H2.out)
 have HYES:Hid (∀zs,gO b p.terms=some zs→gP p b=some ⟨p.name,zs⟩):=zu (fun zs hz=>by unfold gP;rw [if_pos ⟨H1.out,H2.out⟩,hz])
 have HNON:Hid (gO b p.terms=none→gP p b=none):=zu (fun hz=>by unfold gP;rw [if_pos ⟨H1.out,H2.out⟩,hz])
 have hlr2:=HBR2.out.lt
 have k_p:=HBP2.out.cell
 have l_p:=HBP2.out.lt
 go_upto_region 4 with fail
 generalize hW:World.alloc _ _=w3
 obtain ⟨hb3,hz3⟩:=al1 hW
 have HBO3:=zu (n11 hW)
 have HB3:=zu hb3
 have HBP3:=zu (HBP2.out.later hb3)
 clear hW k_p l_p
 have k_p:=HBP3.out.cell
 have l_p:=HBP3.out.lt
 go_upto_region 5 with fail
 clear k_p l_p hb3
 go_loopw [25] (fun i wr=>∃(k:Nat) (xs:List SV) (A:Option Addr) (c:Nat),k≤p.terms.length∧i=.int .i64 k∧xs.length=k∧Hid (gO b (p.terms.take k)=some (xs.map SV.t))∧Hid (Below w2.heap.size w2 wr)∧Hid (Blk wr w2.heap.size #[.string p.name,.slice A k c])∧Hid (StkQ w3.heap.size d wr xs A c)) (fun i _=>p.terms.length-(intOf i).toNat)
 case atStart=>exact ⟨0,[],none,0,zx _,rfl,rfl,zu rfl,HB3,HBO3,zu (StkQ.nil _ _ _)⟩
 case round=>
  obtain ⟨k,xs,A,c,hk,rfl,hxl,HXT,HWR,HBO,HST⟩:=hrel
  subst hxl
  have hszr:=HWR.out.size
  have HLO:=zu HBO.out.lt
  have hlo:=HLO.out
  have HBw:Hid (Below w.heap.size w wr):=zu (HB2.out.trans (HWR.out.mono HB2.out.size))
  have hBr:B≤wr.heap.size:=zv hB HBw.out.size
  by_cases hlt:xs.length<p.terms.length
  ·obtain ⟨b_,off,rfl,hob⟩:=(HPL.out.keep HBw.out hB).base (zy _ _) hBr (by omega)
   obtain ⟨x,vs,hx,hlen,hcell,hr⟩:=(HPL.out.keep HBw.out hB).at_ (zy _ _) hBr hlt
   have HX:=zu hr
   obtain ⟨Ax,cx,rfl,g1,g2,g3,g4,g5,_⟩:=RTm.cells (show RTm wr B (d+1) x vs from hr)
   have c0:wr.cell? ⟨b_,off+xs.length*4,none⟩=some (.int .i64 x.kind):=hcell 0 _ rfl
   have c1:wr.cell? ⟨b_,off+xs.length*4+1,none⟩=some (.int .i64 x.n):=hcell 1 _ rfl
   have c2:wr.cell? ⟨b_,off+xs.length*4+2,none⟩=some (.string x.s):=hcell 2 _ rfl
   have c3:wr.cell? ⟨b_,off+xs.length*4+3,none⟩=some (.slice Ax x.l.length cx):=hcell 3 _ rfl
   have HXE:Hid (p.terms[xs.length]=x):=zu (by rw [zD hlt] at hx;simpa using hx)
   have HXI:Hid (x∈p.terms):=zu (List.mem_of_getElem? hx)
   have HXM:Hid (fy x=true):=zu (HMT.out.2 x HXI.out)
   clear hcell hlen hx hr
   go_upto_region 7 with fail
   generalize hW:World.alloc _ _=w4
   obtain ⟨hb4,hz4⟩:=al1 hW
   have HBT4:=zu (n11 hW)
   have HBO4:=zu (HBO.out.later hb4)
   have HST4:=zu (HST.out.later hb4)
   have HX4:=zu (RTm.below hb4 hBr HX.out)
   have HWR4:Hid (Below w2.heap.size w2 w4):=zu (HWR.out.trans (hb4.mono hszr))
   have hsz4:=hb4.size
   have HLQ:=zu HBT4.out.lt
   have hlq:=HLQ.out
   clear hW hb4 c0 c1 c2 c3
   by_cases hv:x.kind=1
   rotate_left
   ·have hk1:(x.kind==1)=false:=by simpa using hv
    have HFX:Hid (af x=true):=zu (by unfold af;rw [HXM.out];simpa using hv)
    have HFILL:Hid (nA b p.terms[xs.length]=some x):=zu (by rw [HXE.out];unfold nA;rw [if_neg hv])
    clear hv
    obtain ⟨hle,hl16⟩:=aN HFX.out
    have HLE:=zu hle
    clear hle
    have k_t:=HBT4.out.cell
    have l_t:=HBT4.out.lt
    go_upto_region 12 with fail
    clear k_t l_t
    have HWR6:=zu (HWR4.out)
    have HBT6:=HBT4
    have HBO6:=HBO4
    have HST6:=HST4
    have HU6:=zu (RTm.more (show B≤w4.heap.size by omega) HX4.out)
    have hsz6:wr.heap.size≤w4.heap.size:=hsz4
    generalize w4=w6 at *
    generalize x=u at *
    generalize Ax=Au at *
    generalize cx=cu at *
    have HSL:Hid (∀{w':World},Below w6.heap.size w6 w'→(w'.cell? ⟨w2.heap.size,1,none⟩=some (.slice A xs.length c)∧w'.cell? ⟨wr.heap.size,0,none⟩=some (.int .i64 u.kind)∧w'.cell? ⟨wr.heap.size,1,none⟩=some (.int .i64 u.n)∧w'.cell? ⟨wr.heap.size,2,none⟩=some (.string u.s)∧w'.cell? ⟨wr.heap.size,3,none⟩=some (.slice Au u.l.length cu))):=zu (fun hb=>have h:=(HBT6.out.later hb).cell;⟨(HBO6.out.later hb).cell 1,h 0,h 1,h 2,h 3⟩)
    refine bu (S:=fun w'=>w'.cell? ⟨w2.heap.size,1,none⟩=some (.slice A xs.length c)∧w'.cell? ⟨wr.heap.size,0,none⟩=some (.int .i64 u.kind)∧w'.cell? ⟨wr.heap.size,1,none⟩=some (.int .i64 u.n)∧w'.cell? ⟨wr.heap.size,2,none⟩=some (.string u.s)∧w'.cell? ⟨wr.heap.size,3,none⟩=some (.slice Au u.l.length cu)) 7 (by kernel_rfl) (by kernel_rfl) (by kernel_rfl) (by kernel_rfl) (HSL.out (zy _ _).drew) ?_
    refine aw 0 ?_
    refine aw 1 ?_
    refine aw 2 ?_
    refine aI (rs:=[3]) (by kernel_rfl) rfl (by kernel_rfl) ?_
    refine aA.cons rfl (fun K hK=>?_) aA.nil
    go_simp
    refine (gC (B:=w6.heap.size) (t:=u) (vs:=[_,_,_,_]) (RTm.below (zy _ _).drew (zw _) HU6.out) (zw _) HLE.out hl16).mono ?_
    rintro e w7 ⟨⟨A5,c5,rfl,hown⟩,hb7⟩
    have HOWN:Hid (TmOwn d w6.heap.size w7 u A5 c5):=zu hown
    have HB7:Hid (Below w6.heap.size w6 w7):=zu ((zy w6.heap.size w6).drew.trans hb7)
    have hsz7:=HB7.out.size
    clear hown hb7
    refine hK.out _ _ (HSL.out HB7.out) ?_
    clear hK
    refine aI (rs:=[4]) (by kernel_rfl) rfl (by kernel_rfl) ?_
    refine aA.cons rfl (fun K hK=>?_) aA.nil
    go_simp
    refine hK.out _ _ (HSL.out (HB7.out.alloc hsz7 _)) ?_
    clear hK
    refine aI (rs:=[5]) (by kernel_rfl) rfl (by kernel_rfl) ?_
    refine aA.cons rfl (fun K hK=>?_) aA.nil
    refine cR (R:=SvR) (e:=29) rfl (.tmp 43) (.tmp 46) 24 rfl (bytes:=56) Tryz.underlying24 hi0 hz0 hz1 hz2 rfl (show 0<4 by omega) ck rfl (base:=w3.heap.size) (xs:=xs) (ys:=[⟨u,A5,c5⟩]) (HST6.out.own.later (HB7.out.alloc hsz7 _) (zx _)) rfl (wB (x:=⟨u,A5,c5⟩) zg) rfl (by simp only [zJ,List.length_nil];omega) (by omega) (by rw [World.size_alloc];omega) ?_
    intro v wn_ hown hg hf
    obtain ⟨An2,cn2,hv⟩:∃A c,v=.slice A (xs.length+1) c:=by have:=hown.form;rwa [zA,List.length_singleton] at this
    subst hv
    have happ:=(HST6.out.later (HB7.out.alloc hsz7 _)).app (x:=⟨u,A5,c5⟩) (HOWN.out.at_.later ((zy _ _).alloc (zw _) _)) (HST6.out.apart (zw _) fun a ha=>(HOWN.out.blk a ha).1) (fun a ha=>⟨by have:=(HOWN.out.blk a ha).1;omega,by have:=(HOWN.out.blk a ha).2;rw [World.size_alloc];omega⟩) (by rw [World.size_alloc];omega) hown hg hf
    have HQB:=zu (((HBT6.out.later (HB7.out.alloc hsz7 _)).grown hg (HST.out.own.own_lt (zw _)).symm).cell)
    have HBO9:=zu ((HBO6.out.later (HB7.out.alloc hsz7 _)).grown hg (HST.out.own_ge (by omega)).symm)
    have f_o:=HBO9.out.free
    have k_o9:=HBO9.out.cell
    have HAP:=zu happ.1
    have HWR9:Hid (Below w2.heap.size w2 wn_):=zu (HWR6.out.trans (((HB7.out.alloc hsz7 _).mono (by omega)).trans (happ.2.mono (by omega))))
    clear hown hg hf happ
    refine hK.out _ _ (⟨HBO9.out.cell 1,HQB.out 0,HQB.out 1,HQB.out 2,HQB.out 3⟩) ?_
    clear hK
    refine aw 6 ?_
    refine ep (by kernel_rfl) (by kernel_rfl) rfl (fun K hK=>?_)
    go_simp
    refine hK.out _ _ ?_
    go_wp2_with fail
    go_roundw
    case rel=>exact ⟨xs.length+1,xs++[⟨u,A5,c5⟩],An2,cn2,by omega,by go_num,by rw [zA,List.length_singleton],zu (by rw [List.map_append,List.map_singleton,←List.take_append_getElem hlt];exact ji HXT.out HFILL.out),zu (HWR9.out.setCell (p:=⟨w2.heap.size,1,none⟩) (zw _) _),zu (HBO9.out.set_ 1 _),zu (HAP.out.under (by omega) 1 _)⟩
    case measure=>simp [intOf];omega
   ·have hk1:(x.kind==1)=true:=by simpa using hv
    have HV:=zu hv
    clear hv
    have HBB4:=zu (HBB2.out.later HWR4.out)
    have k_t:=HBT4.out.cell
    have l_t:=HBT4.out.lt
    have k_b:=HBB4.out.cell
    have l_b:=HBB4.out.lt
    go_wp2_with fail
    refine (xM (d:=d) (cn:=cn) (ct:=ct) (HN.out.keep (HB2.out.trans (HWR4.out.mono HB2.out.size)) hB) (HT.out.keep (HB2.out.trans (HWR4.out.mono HB2.out.size)) hB) (by omega)).mono ?_
    rintro e w5 ⟨⟨Au,cu,rfl,htm⟩,hb5⟩
    have HTM:=zu htm
    have HBT5:=zu (HBT4.out.later hb5)
    have HBO5:=zu (HBO4.out.later hb5)
    have HST5:=zu (HST4.out.later hb5)
    have HWR5:Hid (Below w2.heap.size w2 w5):=zu (HWR4.out.trans (hb5.mono (by omega)))
    have HBR5:=zu (HBR2.out.later HWR5.out)
    have hsz5:=hb5.size
    clear k_t l_t k_b l_b htm hb5
    have HLK:Hid (nA b x=cY b (bs x.s)):=zu (by unfold nA;rw [if_pos HV.out])
    rw [if_pos H2.out] at HTM ⊢
    rcases hl:cY b (bs x.s) with _ | u
    ·have HNO:Hid (gP p b=none):=zu (HNON.out (mF HXI.out (HLK.out.trans hl)))
     simp only [Option.getD_none,Option.isSome_none]
     have k_t:=HBT5.out.cell
     have l_t:=HBT5.out.lt
     have f_t:=HBT5.out.free
     go_upto_region 10 with fail
     clear k_t l_t f_t
     have HBR6:=zu ((((HBR5.out.far (c:=wr.heap.size) (by omega) 0 (.int .i64 noT.kind)).far (c:=wr.heap.size) (by omega) 1 (.int .i64 noT.n)).far (c:=wr.heap.size) (by omega) 2 (.string noT.s)).far (c:=wr.heap.size) (by omega) 3 (.slice Au noT.l.length cu))
     have HWR6:Hid (Below w2.heap.size w2 ((((w5.setCell ⟨wr.heap.size,0,none⟩ (.int .i64 noT.kind)).setCell ⟨wr.heap.size,1,none⟩ (.int .i64 noT.n)).setCell ⟨wr.heap.size,2,none⟩ (.string noT.s)).setCell ⟨wr.heap.size,3,none⟩ (.slice Au noT.l.length cu))):=zu (cB HWR5.out (by omega) (.int .i64 noT.kind) (.int .i64 noT.n) (.string noT.s) (.slice Au noT.l.length cu))
     have HBw6:Hid (Below w.heap.size w ((((w5.setCell ⟨wr.heap.size,0,none⟩ (.int .i64 noT.kind)).setCell ⟨wr.heap.size,1,none⟩ (.int .i64 noT.n)).setCell ⟨wr.heap.size,2,none⟩ (.string noT.s)).setCell ⟨wr.heap.size,3,none⟩ (.slice Au noT.l.length cu))):=zu (cB (HB2.out.trans (HWR5.out.mono HB2.out.size)) (by omega) (.int .i64 noT.kind) (.int .i64 noT.n) (.string noT.s) (.slice Au noT.l.length cu))
     generalize (((w5.setCell ⟨wr.heap.size,0,none⟩ (.int .i64 noT.kind)).setCell ⟨wr.heap.size,1,none⟩ (.int .i64 noT.n)).setCell ⟨wr.heap.size,2,none⟩ (.string noT.s)).setCell ⟨wr.heap.size,3,none⟩ (.slice Au noT.l.length cu)=w6 at *
     have k_r:=HBR6.out.cell
     have l_r:=HBR6.out.lt
     have f_r:=HBR6.out.free
     go_wp2_with fail
     refine bodyPost_ret (nS rfl rfl (jX HBR6.out (.string ⟨#[]⟩) (.slice none 0 0)) rfl) rfl ?_
     rw [HNO.out]
     exact sq.no (jY HBw6.out (by omega) _ _)
    ·rw [hl] at HTM
     have HFILL:Hid (nA b p.terms[xs.length]=some u):=zu (by rw [HXE.out];exact HLK.out.trans hl)
     have HUF:Hid (af u=true):=zu (mK HOKN.out.1 hl)
     clear hl
     simp only [Option.getD_some,Option.isSome_some] at HTM ⊢
     obtain ⟨hle,hl16⟩:=aN HUF.out
     have HLE:=zu hle
     clear hle
     have k_t:=HBT5.out.cell
     have l_t:=HBT5.out.lt
     have f_t:=HBT5.out.free
     go_upto_region 10 with fail
     clear k_t l_t f_t
     have HBR6:=zu ((((HBR5.out.far (c:=wr.heap.size) (by omega) 0 (.int .i64 u.kind)).far (c:=wr.heap.size) (by omega) 1 (.int .i64 u.n)).far (c:=wr.heap.size) (by omega) 2 (.string u.s)).far (c:=wr.heap.size) (by omega) 3 (.slice Au u.l.length cu))
     have HWR6:Hid (Below w2.heap.size w2 ((((w5.setCell ⟨wr.heap.size,0,none⟩ (.int .i64 u.kind)).setCell ⟨wr.heap.size,1,none⟩ (.int .i64 u.n)).setCell ⟨wr.heap.size,2,none⟩ (.string u.s)).setCell ⟨wr.heap.size,3,none⟩ (.slice Au u.l.length cu))):=zu (cB HWR5.out (by omega) (.int .i64 u.kind) (.int .i64 u.n) (.string u.s) (.slice Au u.l.length cu))
     have HBw6:Hid (Below w.heap.size w ((((w5.setCell ⟨wr.heap.size,0,none⟩ (.int .i64 u.kind)).setCell ⟨wr.heap.size,1,none⟩ (.int .i64 u.n)).setCell ⟨wr.heap.size,2,none⟩ (.string u.s)).setCell ⟨wr.heap.size,3,none⟩ (.slice Au u.l.length cu))):=zu (cB (HB2.out.trans (HWR5.out.mono HB2.out.size)) (by omega) (.int .i64 u.kind) (.int .i64 u.n) (.string u.s) (.slice Au u.l.length cu))
     have HBT6:=zu (dy HBT5.out (.int .i64 u.kind) (.int .i64 u.n) (.string u.s) (.slice Au u.l.length cu))
     have HBO6:=zu ((((HBO5.out.far (c:=wr.heap.size) (by omega) 0 (.int .i64 u.kind)).far (c:=wr.heap.size) (by omega) 1 (.int .i64 u.n)).far (c:=wr.heap.size) (by omega) 2 (.string u.s)).far (c:=wr.heap.size) (by omega) 3 (.slice Au u.l.length cu))
     have HST6:Hid (StkQ w3.heap.size d ((((w5.setCell ⟨wr.heap.size,0,none⟩ (.int .i64 u.kind)).setCell ⟨wr.heap.size,1,none⟩ (.int .i64 u.n)).setCell ⟨wr.heap.size,2,none⟩ (.string u.s)).setCell ⟨wr.heap.size,3,none⟩ (.slice Au u.l.length cu)) xs A c):=zu ((HST5.out).far4 (HST.out.low (zw _)) (.int .i64 u.kind) (.int .i64 u.n) (.string u.s) (.slice Au u.l.length cu))
     have HU6:=zu ((HTM.out.put4 (g:=wr.heap.size) (by omega) (.int .i64 u.kind) (.int .i64 u.n) (.string u.s) (.slice Au u.l.length cu)).rtm)
     have hsz6:wr.heap.size≤((((w5.setCell ⟨wr.heap.size,0,none⟩ (.int .i64 u.kind)).setCell ⟨wr.heap.size,1,none⟩ (.int .i64 u.n)).setCell ⟨wr.heap.size,2,none⟩ (.string u.s)).setCell ⟨wr.heap.size,3,none⟩ (.slice Au u.l.length cu)).heap.size:=by simp only [World.size_setCell];omega
     generalize (((w5.setCell ⟨wr.heap.size,0,none⟩ (.int .i64 u.kind)).setCell ⟨wr.heap.size,1,none⟩ (.int .i64 u.n)).setCell ⟨wr.heap.size,2,none⟩ (.string u.s)).setCell ⟨wr.heap.size,3,none⟩ (.slice Au u.l.length cu)=w6 at *
     have k_t:=HBT6.out.cell
     have l_t:=HBT6.out.lt
     go_upto_region 12 with fail
     clear k_t l_t
     have HSL:Hid (∀{w':World},Below w6.heap.size w6 w'→(w'.cell? ⟨w2.heap.size,1,none⟩=some (.slice A xs.length c)∧w'.cell? ⟨wr.heap.size,0,none⟩=some (.int .i64 u.kind)∧w'.cell? ⟨wr.heap.size,1,none⟩=some (.int .i64 u.n)∧w'.cell? ⟨wr.heap.size,2,none⟩=some (.string u.s)∧w'.cell? ⟨wr.heap.size,3,none⟩=some (.slice Au u.l.length cu))):=zu (fun hb=>have h:=(HBT6.out.later hb).cell;⟨(HBO6.out.later hb).cell 1,h 0,h 1,h 2,h 3⟩)
     refine bu (S:=fun w'=>w'.cell? ⟨w2.heap.size,1,none⟩=some (.slice A xs.length c)∧w'.cell? ⟨wr.heap.size,0,none⟩=some (.int .i64 u.kind)∧w'.cell? ⟨wr.heap.size,1,none⟩=some (.int .i64 u.n)∧w'.cell? ⟨wr.heap.size,2,none⟩=some (.string u.s)∧w'.cell? ⟨wr.heap.size,3,none⟩=some (.slice Au u.l.length cu)) 7 (by kernel_rfl) (by kernel_rfl) (by kernel_rfl) (by kernel_rfl) (HSL.out (zy _ _).drew) ?_
     refine aw 0 ?_
     refine aw 1 ?_
     refine aw 2 ?_
     refine aI (rs:=[3]) (by kernel_rfl) rfl (by kernel_rfl) ?_
     refine aA.cons rfl (fun K hK=>?_) aA.nil
     go_simp
     refine (gC (B:=w6.heap.size) (t:=u) (vs:=[_,_,_,_]) (RTm.below (zy _ _).drew (zw _) HU6.out) (zw _) HLE.out hl16).mono ?_
     rintro e w7 ⟨⟨A5,c5,rfl,hown⟩,hb7⟩
     have HOWN:Hid (TmOwn d w6.heap.size w7 u A5 c5):=zu hown
     have HB7:Hid (Below w6.heap.size w6 w7):=zu ((zy w6.heap.size w6).drew.trans hb7)
     have hsz7:=HB7.out.size
     clear hown hb7
     refine hK.out _ _ (HSL.out HB7.out) ?_
     clear hK
     refine aI (rs:=[4]) (by kernel_rfl) rfl (by kernel_rfl) ?_
     refine aA.cons rfl (fun K hK=>?_) aA.nil
     go_simp
     refine hK.out _ _ (HSL.out (HB7.out.alloc hsz7 _)) ?_
     clear hK
     refine aI (rs:=[5]) (by kernel_rfl) rfl (by kernel_rfl) ?_
     refine aA.cons rfl (fun K hK=>?_) aA.nil
     refine cR (R:=SvR) (e:=29) rfl (.tmp 43) (.tmp 46) 24 rfl (bytes:=56) Tryz.underlying24 hi0 hz0 hz1 hz2 rfl (show 0<4 by omega) ck rfl (base:=w3.heap.size) (xs:=xs) (ys:=[⟨u,A5,c5⟩]) (HST6.out.own.later (HB7.out.alloc hsz7 _) (zx _)) rfl (wB (x:=⟨u,A5,c5⟩) zg) rfl (by simp only [zJ,List.length_nil];omega) (by omega) (by rw [World.size_alloc];omega) ?_
     intro v wn_ hown hg hf
     obtain ⟨An2,cn2,hv⟩:∃A c,v=.slice A (xs.length+1) c:=by have:=hown.form;rwa [zA,List.length_singleton] at this
     subst hv
     have happ:=(HST6.out.later (HB7.out.alloc hsz7 _)).app (x:=⟨u,A5,c5⟩) (HOWN.out.at_.later ((zy _ _).alloc (zw _) _)) (HST6.out.apart (zw _) fun a ha=>(HOWN.out.blk a ha).1) (fun a ha=>⟨by have:=(HOWN.out.blk a ha).1;omega,by have:=(HOWN.out.blk a ha).2;rw [World.size_alloc];omega⟩) (by rw [World.size_alloc];omega) hown hg hf
     have HQB:=zu (((HBT6.out.later (HB7.out.alloc hsz7 _)).grown hg (HST.out.own.own_lt (zw _)).symm).cell)
     have HBO9:=zu ((HBO6.out.later (HB7.out.alloc hsz7 _)).grown hg (HST.out.own_ge (by omega)).symm)
     have f_o:=HBO9.out.free
     have k_o9:=HBO9.out.cell
     have HAP:=zu happ.1
     have HWR9:Hid (Below w2.heap.size w2 wn_):=zu (HWR6.out.trans (((HB7.out.alloc hsz7 _).mono (by omega)).trans (happ.2.mono (by omega))))
     clear hown hg hf happ
     refine hK.out _ _ (⟨HBO9.out.cell 1,HQB.out 0,HQB.out 1,HQB.out 2,HQB.out 3⟩) ?_
     clear hK
     refine aw 6 ?_
     refine ep (by kernel_rfl) (by kernel_rfl) rfl (fun K hK=>?_)
     go_simp
     refine hK.out _ _ ?_
     go_wp2_with fail
     go_roundw
     case rel=>exact ⟨xs.length+1,xs++[⟨u,A5,c5⟩],An2,cn2,by omega,by go_num,by rw [zA,List.length_singleton],zu (by rw [List.map_append,List.map_singleton,←List.take_append_getElem hlt];exact ji HXT.out HFILL.out),zu (HWR9.out.setCell (p:=⟨w2.heap.size,1,none⟩) (zw _) _),zu (HBO9.out.set_ 1 _),zu (HAP.out.under (by omega) 1 _)⟩
     case measure=>simp [intOf];omega
  ·have HXL:Hid (xs.length=p.terms.length):=zu (by omega)
   have HRS:Hid (gP p b=some ⟨p.name,xs.map SV.t⟩):=zu (HYES.out _ (by have:=HXT.out;rw [HXL.out,List.take_length] at this;exact this))
   have hlm:(xs.map SV.t).length=xs.length:=zB _
   have HBRr:=zu (HBR2.out.later HWR.out)
   have k_o:=HBO.out.cell
   have k_r:=HBRr.out.cell
   have f_r:=HBRr.out.free
   have l_r:=HBRr.out.lt
   go_wp2_with fail
   refine bodyPost_ret (nS rfl rfl (jX HBRr.out (.string p.name) (.slice A xs.length c)) rfl) rfl ?_
   rw [HRS.out]
   exact ⟨⟨A,c,xs,by simp,rfl,((HST.out.under (by omega) 0 _).under (by omega) 1 _).lower (by omega)⟩,jY HBw.out (by omega) _ _⟩
def FolE (d:Nat) (w w':World) (R:List Fc × Int) (z:Ending):Prop:=∃xs A c,z=.returned (.tuple #[.slice A xs.length c,.int .i64 R.2])∧xs.map FV.f=R.1∧FRow w.heap.size d w' xs A c∧Below w.heap.size w w'
theorem FRow.nil (base d:Nat) (w:World):FRow base d w [] none 0:=⟨am.nil _ _ _ _ _,fun x hx=>absurd hx (by simp)⟩
theorem FRow.later {base d c:Nat} {w w':World} {xs:List FV} {A:Option Addr} (h:FRow base d w xs A c) (hb:Below w.heap.size w w'):FRow base d w' xs A c:=h.agree (M:=fun _=>False) (ak.of_below hb) (fun _ _ h=>h.elim)
theorem FRow.app {base base2 d c c':Nat} {w w1:World} {xs:List FV} {A A':Option Addr} {y:FV} (h:FRow base d w xs A c) (hy:FcOk y.f) (hs:fD (fun k=>k<base2) w (fun w'=>(ax (d+1)).rd w' w'.heap.size y.f y.cs)) (hb:base≤base2) (hr:∀k,(Value.slice A xs.length c).ownBlock=some k→k<base2)
 (ho:am FvR 33 w1 base 0 (.slice A' (xs++[y]).length c') (xs++[y])) (hg:w.grownBy w1 (Value.slice A xs.length c).ownBlock) (hf:bA w (.slice A xs.length c) (.slice A' (xs++[y]).length c')):FRow base d w1 (xs++[y]) A' c':=by
 have hag:=ak.grown hg
 have hown:∀k,k<w.heap.size→(Value.slice A' (xs++[y]).length c').ownBlock=some k→(Value.slice A xs.length c).ownBlock=some k:=fun k hk hm=>by
  rcases hf with e | ⟨q,e,hq⟩
  ·rw [←e];exact hm
  ·rw [e] at hm;cases hm;omega
 refine ⟨ho,fun x hx=>?_⟩
 rcases List.mem_append.1 hx with hx | hx
 ·refine ⟨(h.deep x hx).1,(h.deep x hx).2.next hag (fun k hk hm=>.inr hm.symm) (fun k hk hm=>?_)⟩
  rcases hm with hm | hm
  ·exact .inl hm
  ·exact .inr (hown k hk hm)
 ·obtain rfl:x=y:=by simpa using hx
  refine ⟨hy,hs.next hag (fun k hk hm=>hr k hm.symm) (fun k hk hm=>?_)⟩
  rcases hm with hm | hm
  ·exact zz hm hb
  ·exact hr k (hown k hk hm)
def RowF (base d:Nat) (xs:List FV) (v:Value) (w:World):Prop:=∃A c,v=.slice A xs.length c∧FRow base d w xs A c
theorem Stb.rowF (base d:Nat) (xs:List FV):Stb (RowF base d xs):=fun _ _ _ ⟨A,c,e,h⟩ hb=>⟨A,c,e,h.later hb⟩
theorem StkQ.b {base D c:Nat} {w:World} {xs:List SV} {A:Option Addr} (h:StkQ base D w xs A c):StkB base 0 D w xs A c:=⟨h.own,h.tms,fun x hx _=>h.sep x hx,fun x hx _ a ha=>⟨.inr (h.lt x hx a ha).1,(h.lt x hx a ha).2⟩⟩
theorem head_rd {d B:Nat} {w:World} {r:Ru} {v0 v1 v2 v3 v4:Value} (h:(RuR d).rd w B r [v0,v1,v2,v3,v4]):(PrR d).rd w B r.head [v0,v1]:=by
 obtain ⟨_,_,_,_,e,hs,h0,_⟩:=h
 simp only [List.cons.injEq,and_true] at e
 obtain ⟨rfl,rfl,rfl,rfl,rfl⟩:=e
 exact ⟨_,rfl,hs,h0⟩
theorem xZ {w:World} {base B n c:Nat} {L:List AnV} {e:TypeId} {A:Option Addr} (h:am jC e w base B (.slice A n c) L):L.length≤9223372036854775807:=by
 rcases A with _ | a
 ·rw [(am.none_nil h).1];simp
 ·obtain ⟨_,_,h1,h2⟩:=am.some_row h;omega
theorem bitU_eq {k:Int} (h0:0≤k) (h:k.toNat<16):IntKind.u32.wrap (1*2 ^ k.toNat)=cX k.toNat:=by
 unfold cX
 have h1:(2:Nat) ^ k.toNat≤2 ^ 15:=Nat.pow_le_pow_right (by omega) (by omega)
 have h2:((2 ^ k.toNat:Nat):Int)=(2:Int) ^ k.toNat:=by simp
 have e:∀n:Int,IntKind.u32.wrap n=n % 4294967296:=fun _=>rfl
 rw [Int.one_mul,←h2,e]
 exact Int.emod_eq_of_lt (Int.natCast_nonneg _) (by omega)
theorem qC {d baseS B S cs:Nat} {o:OwD} {vo:List Value} {w:World} {fs:List FV} {As:Option Addr} {m:Int} (ho:(OwR (d+1)).rd w B o vo) (hown:ii o=true) (hB:B≤w.heap.size) (hS:StA baseS d w S fs As cs) (hfew:fs.length≤100000) (hm:w.cell? ⟨0,0,none⟩=some (.int .i64 m)) (hp:0<w.heap.size) :
 Calls Tryz.prog 36 #[.agg vo.toArray,.pointer (some ⟨S,0,none⟩)] w fun z w'=>FolE d w w' (aB (fs.map FV.f) o) z:=by
 obtain ⟨A0,c0,A1,c1,A2,c2,A3,c3,rfl,hr,hbl,htr⟩:=nM ho
 have hok:=qR hown
 have HOK:=zu hown
 have HR:=zu hr
 have HS:=zu hS
 have HM:=zu hm
 have h0:=hok.2.1
 have h16:=hok.2.2
 obtain ⟨i0,hi0,hz0,hz1,hz2⟩:=info_parts fd
 clear ho hr hS hm hown hok hbl
 go_enter Tryz.func36,Tryz.ntmps36
 go_upto_region 1 with fail
 generalize hW:World.alloc _ _=w1
 obtain ⟨hb1,hz⟩:=al1 hW
 have HK1:=zu (n11 hW)
 have HB1:=zu hb1
 have hsz1:=hb1.size
 clear hW hb1 hz
 have k_o:=HK1.out.cell
 have l_o:=HK1.out.lt
 go_wp2_with fail
 refine (mh (d:=d) (B:=B) (r:=o.rule) (vr:=[_,_,_,_,_]) (tr:=o.trusted) ((RuR (d+1)).keep HB1.out hB HR.out) (zv hB hsz1) (HS.out.later HB1.out) hfew ((HB1.out.cell (p:=⟨0,0,none⟩) hp).trans HM.out) (zz hp hsz1)).mono ?_
 rintro z w3 ⟨L,AL,cL,rfl,hLx,hLo,hLk,hLd,hb3⟩
 have HK3:=zu (HK1.out.later hb3)
 have HB3:=zu (aa HB1.out hb3)
 have hsz3:=HB3.out.size
 have hw3:w.heap.size<w3.heap.size:=HK3.out.lt
 have HFR:Hid (aB (fs.map FV.f) o=((aZ (fs.map FV.f) o.trusted o.rule).1.filterMap (jn o),(aZ (fs.map FV.f) o.trusted o.rule).2)):=zu rfl
 have HLEN:=zu (gY (fs.map FV.f) o.trusted o.rule)
 generalize aZ (fs.map FV.f) o.trusted o.rule=R at *
 have HLX:=zu hLx
 have HLO:=zu hLo
 have HLK:=zu hLk
 have hLn:=xZ hLo
 have HA3:=zu (fun (w':World) (hb:Below w3.heap.size w3 w') (i:Nat) (hi:i<L.length)=>((hLd L[i] (List.getElem_mem hi)).later hb).here)
 clear hLx hLo hLk hLd hb3 k_o l_o
 go_upto_region 4 with fail
 go_loopw [8,24] (fun u i wr=>∃(j:Nat) (xs:List FV) (A:Option Addr) (c:Nat),j≤L.length∧xs.length≤j∧i=.int .i64 j∧u=.slice A xs.length c∧Hid (xs.map FV.f=(R.1.take j).filterMap (jn o))∧Hid (FRow w3.heap.size d wr xs A c)∧Hid (Below w3.heap.size w3 wr)) (fun _ i _=>L.length-(intOf i).toNat)
 case atStart=>exact ⟨0,[],none,0,zx _,zw _,rfl,rfl,zu rfl,zu (FRow.nil _ _ _),zu (zy _ _)⟩
 case round=>
  obtain ⟨j,xs,A,c,hj,hxj,rfl,rfl,HX,HROW,HW⟩:=hrel
  have hszr:=HW.out.size
  by_cases hlt:j<L.length
  ·obtain ⟨g,cg,eg,hg1,hg2,_⟩:=HLO.out.sh bf (by omega)
   simp only [zG,true_and] at eg
   obtain ⟨rfl,rfl⟩:=eg
   obtain ⟨a0,a1,a2⟩:=gu (HLO.out.later HW.out (zx _)) hlt
   have HRA:=zu (HA3.out wr HW.out j hlt)
   have HYK:=zu (HLK.out _ (List.getElem_mem hlt))
   have HXJ:Hid (R.1[j]? = some L[j].x):=zu (by rw [←HLX.out,List.getElem?_map,zD hlt];rfl)
   have hI0:(0:Int)≤(j:Int):=Int.natCast_nonneg _
   have hI1:(j:Int)<(L.length:Int):=by omega
   generalize L[j]=y at *
   have HTK:Hid (∀q,jn o y.x=q→(R.1.take (j+1)).filterMap (jn o)=(R.1.take j).filterMap (jn o)++q.toList):=zu (fun q hq=>by
    obtain ⟨hjl,e⟩:=List.getElem?_eq_some_iff.1 HXJ.out
    rw [List.take_succ_eq_append_getElem hjl,List.filterMap_append,e]
    simp only [List.filterMap_cons,List.filterMap_nil,hq]
    cases q<;>rfl)
   have HKr:=zu (HK3.out.later HW.out)
   have k_o:=HKr.out.cell
   have l_o:=HKr.out.lt
   go_upto_region 6 with fail
   generalize hW:World.alloc _ _=w4
   obtain ⟨hb4,hz4⟩:=al1 hW
   have HY4:=zu (n11 hW)
   have HK4:=zu (HKr.out.later hb4)
   have HB4:=zu (aa HW.out hb4)
   have HX4:=zu (aa HB3.out HB4.out)
   have hsz4:=hb4.size
   have HPR:=zu (nh ((mZ (d+1)).keep hb4 (zw _) HRA.out))
   have HROW4:=zu (HROW.out.later hb4)
   clear hW hb4 hz4 a0 a1 a2 k_o l_o
   have k_o:=HK4.out.cell
   have l_o:=HK4.out.lt
   have k_a:=HY4.out.cell
   have l_a:=HY4.out.lt
   go_wp2_with fail
   have hHD:(PrR (d+1)).rd w4 wr.heap.size o.rule.head [.string o.rule.head.name,.slice A0 o.rule.head.terms.length c0]:=(PrR (d+1)).wide (zv (zv hB (Nat.le_of_lt hw3)) hszr) ((PrR (d+1)).keep HX4.out hB (head_rd HR.out))
   refine (xz (d:=d) (cn:=y.cn) (ct:=y.ct) (b:=y.x.b) (vp:=[_,_]) hHD HPR.out.1 HPR.out.2 hsz4).mono ?_
   rintro z w5 ⟨⟨Ap,cp,ts,rfl,hts,hq⟩,hb5⟩
   have HK5:=zu (HK4.out.later hb5)
   have HY5:=zu (HY4.out.later hb5)
   have HB5:=zu (aa HB4.out hb5)
   have HROW5:=zu (HROW4.out.later hb5)
   have hsz5:=hb5.size
   have HF:Hid (∀q,gP o.rule.head y.x.b=q→jn o y.x=q.map fun p=>⟨p,orO y.x.o (cX o.block.toNat)⟩):=zu (fun q hq=>by unfold jn;rw [hq];cases q<;>rfl)
   have HTS:=zu hts
   have HQ:=zu hq
   have HBL:Hid (xs.length+1≤1000001):=zu (by
    have h1:=HLEN.out
    rw [←HLX.out,zB] at h1
    omega)
   clear hb5 k_o l_o k_a l_a hHD hts hq
   obtain ⟨F,hF⟩:∃F,gP o.rule.head y.x.b=F:=⟨_,rfl⟩
   have HHF:=zu (HF.out _ hF)
   rw [hF] at HTS ⊢
   clear HF hF
   cases F
   ·have HX1:Hid (xs.map FV.f=(R.1.take (j+1)).filterMap (jn o)):=zu (by rw [HTK.out _ HHF.out,HX.out];simp)
    go_upto_region 7 with fail
    generalize hW:World.alloc _ _=w6
    obtain ⟨hb6,hz6⟩:=al1 hW
    have HROW6:=zu (HROW5.out.later hb6)
    have HB6:=zu (aa HB5.out hb6)
    clear hW hb6 hz6
    go_wp2_with fail
    go_roundw
    case rel=>exact ⟨j+1,xs,A,c,by omega,by omega,by go_num,rfl,HX1,HROW6,HB6⟩
    case measure=>simp [intOf];omega
   ·rename_i p
    have HX1:Hid (xs.map FV.f++[⟨p,orO y.x.o (cX o.block.toNat)⟩]=(R.1.take (j+1)).filterMap (jn o)):=zu (by rw [HTK.out _ HHF.out,HX.out];rfl)
    have HHO:=zu (uY HOK.out HHF.out)
    have HFO:Hid (bT w4.heap.size d w5 ⟨p,orO y.x.o (cX o.block.toNat)⟩ Ap cp):=zu ⟨ts,HTS.out,HQ.out.b⟩
    go_upto_region 8 with fail
    generalize hW:World.alloc _ _=w6
    obtain ⟨hb6,hz6⟩:=al1 hW
    have HP6:=zu (n11 hW)
    have HK6:=zu (HK5.out.later hb6)
    have HY6:=zu (HY5.out.later hb6)
    have HROW6:=zu (HROW5.out.later hb6)
    have HFO6:=zu (HFO.out.later hb6)
    have HB6:=zu (aa HB5.out hb6)
    have hsz6:=hb6.size
    clear hW hb6 hz6
    have hbU:IntKind.u32.wrap (2 ^ o.block.toNat)=cX o.block.toNat:=by have:=bitU_eq h0 h16;rwa [Int.one_mul] at this
    have HST:Hid (yJ [fun v _=>v=.slice A xs.length c,fun v _=>v=.agg #[.string p.name,.slice Ap p.terms.length cp],fun v _=>v=.pointer (some ⟨wr.heap.size,2,none⟩),fun v _=>v=.int .u32 y.x.o,fun v _=>v=.pointer (some ⟨w.heap.size,5,none⟩),fun v _=>v=.int .i64 o.block,fun v _=>v=.int .u32 (cX o.block.toNat),fun v _=>v=.int .u32 (orO y.x.o (cX o.block.toNat)),fun v _=>v=.agg #[.string p.name,.slice Ap p.terms.length cp,.int .u32 (orO y.x.o (cX o.block.toNat))],pZ w3.heap.size 1 #[.string p.name,.slice Ap p.terms.length cp,.int .u32 (orO y.x.o (cX o.block.toNat))] 33,RowF w3.heap.size d (xs++[⟨⟨p,orO y.x.o (cX o.block.toNat)⟩,Ap,cp⟩])]):=zu ⟨Stb.val _,⟨Stb.val _,⟨Stb.val _,⟨Stb.val _,⟨Stb.val _,⟨Stb.val _,⟨Stb.val _,⟨Stb.val _,⟨Stb.val _,⟨Stb.row _ _ _ _,⟨Stb.rowF _ _ _,trivial⟩⟩⟩⟩⟩⟩⟩⟩⟩⟩⟩
    have HH0:Hid (w3.heap.size≤w6.drew.heap.size):=zu (zv HB6.out.size (zw _))
    have HDR:Hid (Below w6.heap.size w6 w6.drew):=zu (zy _ _).drew
    refine cT 11 (nQ [fun v _=>v=.slice A xs.length c,fun v _=>v=.agg #[.string p.name,.slice Ap p.terms.length cp],fun v _=>v=.pointer (some ⟨wr.heap.size,2,none⟩),fun v _=>v=.int .u32 y.x.o,fun v _=>v=.pointer (some ⟨w.heap.size,5,none⟩),fun v _=>v=.int .i64 o.block,fun v _=>v=.int .u32 (cX o.block.toNat),fun v _=>v=.int .u32 (orO y.x.o (cX o.block.toNat)),fun v _=>v=.agg #[.string p.name,.slice Ap p.terms.length cp,.int .u32 (orO y.x.o (cX o.block.toNat))],pZ w3.heap.size 1 #[.string p.name,.slice Ap p.terms.length cp,.int .u32 (orO y.x.o (cX o.block.toNat))] 33,RowF w3.heap.size d (xs++[⟨⟨p,orO y.x.o (cX o.block.toNat)⟩,Ap,cp⟩])]) [10] (w3.heap.size) HH0.out (by kernel_rfl) (by kernel_rfl) (by kernel_rfl) (by kernel_rfl) (by kernel_rfl) rfl (ae (ae (ae (ae (ae (ae (ae (ae (ae (ae (ae iQ ?op0_) ?op1_) ?op2_) ?op3_) ?op4_) ?op5_) ?op6_) ?op7_) ?op8_) ?op9_) ?op10_) ?last_
    case op0_=>
     refine mvA fun T w' hk hb hgr hd K hK=>?_
     have h_:T[8]?.getD undef=.slice A xs.length c:=gqd (mvK hk 8)
     clear hk hd
     go_simp
     exact hK.out _ _ (mvM HST HH0 hb) rfl
    case op1_=>
     refine mvA fun T w' hk hb hgr hd K hK=>?_
     have h_:T[11]?.getD undef=.pointer (some ⟨w5.heap.size,0,none⟩):=gqd (mvK hk 11)
     have k_:=(HP6.out.later (HDR.out.trans (hgr (by kernel_rfl)))).cell
     have l_:=(HP6.out.later (HDR.out.trans (hgr (by kernel_rfl)))).lt
     clear hk hd
     go_simp
     exact hK.out _ _ (mvM HST HH0 hb) rfl
    case op2_=>
     refine mvA fun T w' hk hb hgr hd K hK=>?_
     have h_:T[10]?.getD undef=.pointer (some ⟨wr.heap.size,0,none⟩):=gqd (mvK hk 10)
     clear hk hd
     go_simp
     exact hK.out _ _ (mvM HST HH0 hb) rfl
    case op3_=>
     refine mvA fun T w' hk hb hgr hd K hK=>?_
     have d2:T[40]?.getD undef=.pointer (some ⟨wr.heap.size,2,none⟩):=gqd (mvD hd 2)
     have k_:=(HY6.out.later (HDR.out.trans (hgr (by kernel_rfl)))).cell
     have l_:=(HY6.out.later (HDR.out.trans (hgr (by kernel_rfl)))).lt
     clear hk hd
     go_simp
     exact hK.out _ _ (mvM HST HH0 hb) rfl
    case op4_=>
     refine mvA fun T w' hk hb hgr hd K hK=>?_
     have h_:T[2]?.getD undef=.pointer (some ⟨w.heap.size,0,none⟩):=gqd (mvK hk 2)
     clear hk hd
     go_simp
     exact hK.out _ _ (mvM HST HH0 hb) rfl
    case op5_=>
     refine mvA fun T w' hk hb hgr hd K hK=>?_
     have d4:T[42]?.getD undef=.pointer (some ⟨w.heap.size,5,none⟩):=gqd (mvD hd 4)
     have k_:=(HK6.out.later (HDR.out.trans (hgr (by kernel_rfl)))).cell
     have l_:=(HK6.out.later (HDR.out.trans (hgr (by kernel_rfl)))).lt
     clear hk hd
     go_simp
     exact hK.out _ _ (mvM HST HH0 hb) rfl
    case op6_=>
     refine mvA fun T w' hk hb hgr hd K hK=>?_
     have d5:T[43]?.getD undef=.int .i64 o.block:=gqd (mvD hd 5)
     clear hk hd
     go_simp
     exact hK.out _ _ (mvM HST HH0 hb) rfl
    case op7_=>
     refine mvA fun T w' hk hb hgr hd K hK=>?_
     have d3:T[41]?.getD undef=.int .u32 y.x.o:=gqd (mvD hd 3)
     have d6:T[44]?.getD undef=.int .u32 (cX o.block.toNat):=gqd (mvD hd 6)
     clear hk hd
     go_simp
     exact hK.out _ _ (mvM HST HH0 hb) rfl
    case op8_=>
     refine mvA fun T w' hk hb hgr hd K hK=>?_
     have d1:T[39]?.getD undef=.agg #[.string p.name,.slice Ap p.terms.length cp]:=gqd (mvD hd 1)
     have d7:T[45]?.getD undef=.int .u32 (orO y.x.o (cX o.block.toNat)):=gqd (mvD hd 7)
     clear hk hd
     go_simp
     exact hK.out _ _ (mvM HST HH0 hb) rfl
    case op9_=>
     refine mvA fun T w' hk hb hgr hd K hK=>?_
     have d8:T[46]?.getD undef=.agg #[.string p.name,.slice Ap p.terms.length cp,.int .u32 (orO y.x.o (cX o.block.toNat))]:=gqd (mvD hd 8)
     clear hk hd
     go_simp
     generalize hW:World.alloc _ _=w4
     obtain ⟨hb4,hz4⟩:=al1 hW
     have hN4:=hW▸heap_alloc_new w' _
     clear hW
     exact hK.out _ _ (mvN HST HH0 hb hb4) ⟨_,rfl,zv HH0.out hb.size,hN4⟩
    case op10_=>
     refine mvA fun T w' hk hb hgr hd K hK=>?_
     have d0:=mvD hd 0
     have d9:=mvD hd 9
     replace d0:T.getD 38 undef=.slice A xs.length c:=d0
     obtain ⟨b9,e9,hb9,hc9⟩:=d9
     have hgw:=HDR.out.trans (hgr (by kernel_rfl))
     have HRW:=HROW6.out.later hgw
     refine dD (R:=FvR) (e:=33) (.tmp 38) (.tmp 47) 23 rfl (bytes:=48) Tryz.underlying23 hi0 hz0 hz1 hz2 rfl (show 0<3 by omega) bD (xs:=xs) (base:=w3.heap.size) (B:=0) (v:=.slice A xs.length c) (by exact d0) HRW.own (by exact e9) (ys:=[⟨⟨p,orO y.x.o (cX o.block.toNat)⟩,Ap,cp⟩]) (ym hc9 (bp.one (R:=FvR) rfl)) rfl (zx _) (by have:=HBL.out;simp only [zJ,List.length_nil];omega) (by omega) (zv HB6.out.size hgw.size) ?_
     intro v_1 w7 hown hb7 hg hf
     obtain ⟨A',c',rfl⟩:=hown.form
     exact hK.out _ _ (Moved.keep (hb.trans hb7) rfl [] (by kernel_rfl) (by simp)) ⟨A',c',rfl,HRW.app (base2:=w4.heap.size) HHO.out.2.1 ((HFO6.out.later hgw).stab HHO.out.2.1 (fun k h1 h2=>by omega)) HB4.out.size (fun k hk=>(HROW4.out.own.lt k hk).2) hown hg hf⟩
    case last_=>
     refine mvL fun T w' hk hb hgr hd K hK=>?_
     have d10:=mvD hd 10
     obtain ⟨A',c',e48,hrow⟩:=d10
     replace e48:T.getD 48 undef=_:=e48
     have hT:=ku hk.1
     obtain ⟨f_,hf_⟩:∃f_:Nat→Value,(fun t=>T.getD t undef)=f_:=⟨_,rfl⟩
     rw [hf_] at hT
     have E_:=fun t h=>(congrFun hf_ t).symm.trans (hk.2 t h)
     replace e48:f_ 48=_:=(congrFun hf_ 48).symm.trans e48
     replace hT:T=#[f_ 0,f_ 1,f_ 2,f_ 3,f_ 4,f_ 5,f_ 6,f_ 7,f_ 8,f_ 9,f_ 10,f_ 11,f_ 12,f_ 13,f_ 14,f_ 15,f_ 16,f_ 17,f_ 18,f_ 19,f_ 20,f_ 21,f_ 22,f_ 23,f_ 24,f_ 25,f_ 26,f_ 27,f_ 28,f_ 29,f_ 30,f_ 31,f_ 32,f_ 33,f_ 34,f_ 35,f_ 36,f_ 37,f_ 38,f_ 39,f_ 40,f_ 41,f_ 42,f_ 43,f_ 44,f_ 45,f_ 46,f_ 47,f_ 48,f_ 49,f_ 50,f_ 51]:=hT
     clear hf_
     subst hT
     rw [e48,E_ 0 (by kernel_rfl),E_ 1 (by kernel_rfl),E_ 2 (by kernel_rfl),E_ 3 (by kernel_rfl),E_ 4 (by kernel_rfl),E_ 5 (by kernel_rfl),E_ 6 (by kernel_rfl),E_ 7 (by kernel_rfl),E_ 8 (by kernel_rfl),E_ 9 (by kernel_rfl),E_ 10 (by kernel_rfl),E_ 11 (by kernel_rfl),E_ 12 (by kernel_rfl),E_ 13 (by kernel_rfl),E_ 14 (by kernel_rfl),E_ 15 (by kernel_rfl),E_ 16 (by kernel_rfl),E_ 17 (by kernel_rfl),E_ 18 (by kernel_rfl),E_ 19 (by kernel_rfl),E_ 20 (by kernel_rfl),E_ 21 (by kernel_rfl),E_ 22 (by kernel_rfl),E_ 23 (by kernel_rfl),E_ 24 (by kernel_rfl),E_ 25 (by kernel_rfl),E_ 26 (by kernel_rfl),E_ 27 (by kernel_rfl),E_ 28 (by kernel_rfl),E_ 29 (by kernel_rfl),E_ 30 (by kernel_rfl),E_ 31 (by kernel_rfl),E_ 32 (by kernel_rfl),E_ 33 (by kernel_rfl),E_ 34 (by kernel_rfl),E_ 35 (by kernel_rfl),E_ 36 (by kernel_rfl),E_ 37 (by kernel_rfl),E_ 49 (by kernel_rfl),E_ 50 (by kernel_rfl),E_ 51 (by kernel_rfl)]
     clear E_
     clear hd hk
     go_simp
     refine hK.out _ _ ?_
     clear hK
     have HROW7:=zu hrow
     have HB7:=zu (HB6.out.trans (HDR.out.mono HB6.out.size |>.trans hb))
     clear hb hrow hgr
     have hl:(xs++[(⟨⟨p,orO y.x.o (cX o.block.toNat)⟩,Ap,cp⟩:FV)]).length=xs.length+1:=by simp
     go_wp2_with fail
     go_roundw
     case rel=>exact ⟨j+1,_,A',c',by omega,by omega,by go_num,by rw [hl],zu (by rw [List.map_append];exact HX1.out),HROW7,HB7⟩
     case measure=>simp [intOf];omega
  ·have HV:Hid (aB (fs.map FV.f) o=(xs.map FV.f,R.2)):=zu (by rw [HFR.out,HX.out,List.take_of_length_le (by rw [←HLX.out,zB];omega)])
   go_wp2_with fail
   go_ret2
   exact ⟨xs,A,c,by rw [HV.out];rfl,by rw [HV.out],HROW.out.lower (by omega),aa HB3.out HW.out⟩
end Go.Proofs.YtjpndglegpcdnaaGreat
