/- A region that draws its order, whatever order: what each operation tells (its post) holds of its value as long as the heap only grows; each operation is shown once, from the posts of those it waits for. The last one waits for all. -/
import Derived.Test.YtjpndglegpcdnaaGreatFxAwL
import Derived.Test.YtjpndglegpcdnaaGreatJoFits
import Derived.Test.YtjpndglegpcdnaaGreatHeldA
import Derived.Test.YtjpndglegpcdnaaGreatFc1
import Derived.ProofKit
set_option linter.unusedVariables false
set_option linter.unusedSimpArgs false
set_option maxRecDepth 100000
set_option maxHeartbeats 8000000
namespace Go.Proofs.YtjpndglegpcdnaaGreat
open Go.ChangeShapes Go.WideShapes Go.ChangeAt Go.RowKit
def OwR (d:Nat):Reader OwD where
 k:=7
 rd:=fun w B o vs=>∃v,vs=v++[.int .i64 o.block,.int .u32 o.trusted]∧(RuR d).rd w B o.rule v∧I64 o.block∧U32 o.trusted
 keep:=fun hw hB ⟨v,e,h,ho⟩=>⟨v,e,(RuR _).keep hw hB h,ho⟩
 wide:=fun hB ⟨v,e,h,ho⟩=>⟨v,e,(RuR _).wide hB h,ho⟩
 len:=fun ⟨_,e,h,_⟩=>by rw [e,Ac,(RuR _).len h];rfl
theorem iu {d B:Nat} {w:World} {o:OwD} {vs:List Value} (h:(OwR d).rd w B o vs):∃A0 c0 A1 c1 A2 c2 A3 c3,
 vs=[.string o.rule.head.name,.slice A0 o.rule.head.terms.length c0,.slice A1 o.rule.body.length c1,.slice A2 o.rule.exprs.length c2,.slice A3 o.rule.scopes.length c3,.int .i64 o.block,.int .u32 o.trusted] ∧
 (RuR d).rd w B o.rule [.string o.rule.head.name,.slice A0 o.rule.head.terms.length c0,.slice A1 o.rule.body.length c1,.slice A2 o.rule.exprs.length c2,.slice A3 o.rule.scopes.length c3]∧I64 o.block∧U32 o.trusted:=by
 obtain ⟨v,rfl,hr,h1,h2⟩:=h
 have hr':=hr
 obtain ⟨_,_,_,_,rfl,_,⟨A0,c0,rfl,_⟩,⟨A1,c1,rfl,_⟩,⟨A2,c2,rfl,_⟩,⟨A3,c3,rfl,_⟩⟩:=hr
 exact ⟨A0,c0,A1,c1,A2,c2,A3,c3,rfl,hr',h1,h2⟩
theorem zk {α:Type} {l:List α} {p:α→Bool} {k:Nat} {x:α} (h:l[k]? = some x) (hp:p x=false):l.all p=false:=by
 rw [List.all_eq_false]
 exact ⟨x,List.mem_of_getElem? h,by rw [hp];simp⟩
theorem allT3_ {α:Type} {l:List α} {p:α→Bool} {k:Nat} (hk:l.length≤k) (h:∀i (hi:i<k) (hi':i<l.length),p l[i]=true):l.all p=true:=by
 rw [List.all_eq_true]
 intro x hx
 obtain ⟨i,hi,rfl⟩:=List.getElem_of_mem hx
 exact h i (by omega) hi
theorem mb {base d B S c:Nat} {xs:List FV} {A:Option Addr} {f:Fc} {vf:List Value} {w:World} (hs:StA base d w S xs A c) (hf:(az (d+1)).rd w B f vf) (hB:B≤w.heap.size) (hn:xs.length≤100000) (hft:f.pr.terms.length*40≤140737488351232) :
 Calls Tryz.prog 16 #[.pointer (some ⟨S,0,none⟩),.agg vf.toArray] w fun z w'=>z=.returned (.bool (ip (xs.map FV.f) f))∧Below w.heap.size w w':=by
 obtain ⟨Af,cf,rfl,hsz,h1,h2,h3,hl,ho⟩:=aN hf
 have HS:=zT hs
 have HF:=zT hf
 have HL:=zT hl
 have HO:=zT ho
 clear hs hf hl ho
 go_enter Tryz.func16,Tryz.ntmps16
 have k_s:=HS.out.hd.cell
 have l_s:=HS.out.hd.lt
 go_upto_region 3 with fail
 generalize hW:World.alloc _ _=w2
 obtain ⟨hb,hz⟩:=al1 hW
 have HBA2:=zT (n11 hW)
 have HB2:=zT hb
 have hsz2:=hb.size
 clear hW hb hz k_s l_s
 have HS2:=zT (HS.out.later HB2.out)
 have HRL:=zT (HS2.out.rl (by omega))
 have HLM:Hid ((xs.map FV.f).length=xs.length):=zT (Ad _)
 have HF2:=zT ((az (d+1)).keep HB2.out hB HF.out)
 have hB2:B≤w2.heap.size:=by omega
 have HBS:Hid (∀w9,Below w2.heap.size w2 w9→Calls Tryz.prog 34 #[.slice A xs.length c,.agg #[.string f.pr.name,.slice Af f.pr.terms.length cf,.int .u32 f.o],.func (.func 35) #[] #[]] w9 fun z w'=>z=.returned (.tuple #[.int .i64 (kJ (xs.map FV.f) f),.bool (ip (xs.map FV.f) f)])∧Below w9.heap.size w9 w'):=zT (fun w9 hb9=>by
  have h:=kY (d:=d) (e:=d) (B:=w2.heap.size) (c:=c) (fs:=xs.map FV.f) (t:=f) (vt:=[_,_,_]) (A:=A) (w:=w9) (HRL.out.keep hb9 (zV _)) ((az (d+1)).keep hb9 (zV _) ((az (d+1)).wide hB2 HF2.out)) (fun x hx=>by
   obtain ⟨y,hy,rfl⟩:=List.mem_map.1 hx
   exact HS.out.ok y hy) (by omega) (by rw [HLM.out];omega) hb9.size (csF (xs.map FV.f) f) (fun i hi=>jS hi) (fun i j hij hj h=>nJ HS.out.sort hij hj h)
  rw [HLM.out] at h
  refine h.mono fun z w' ⟨h1,h2⟩=>⟨?_,h2⟩
  rw [h1]
  unfold ip kJ
  rw [HLM.out,Bool.decide_and])
 have q_s:=HS2.out.hd.regrown
 have q_a:=HBA2.out.regrown
 generalize kJ (xs.map FV.f) f=p at *
 generalize hq:ip (xs.map FV.f) f=q at *
 have HQ:=zT hq
 clear hq
 refine wp_region_quiet_below (by kernel_rfl) (by kernel_rfl) ?_
 repeat (go_big_quiet_step ((go_at_call 34;exact Calls.regrown_of (HBS.out _ (below_regrown _ _ _)))))
 refine wpQuiet_nil ?_
 intro w3 hw_
 have hb:Below w2.heap.size w2 w3:=by obtain ⟨p_,rfl⟩:=hw_;exact below_regrown _ _ _
 clear hw_ q_s q_a
 go_wp2_with fail
 go_ret
 exact ⟨by rw [HQ.out];rfl,ac HB2.out hb⟩
theorem mc {base d S c:Nat} {xs:List FV} {A:Option Addr} {w:World} (hs:StA base d w S xs A c) :
 Calls Tryz.prog 13 #[.pointer (some ⟨S,0,none⟩)] w fun z w'=>z=.returned (.int .i64 xs.length)∧w=w':=by
 have k_s:=hs.hd.cell
 go_enter Tryz.func13,Tryz.ntmps13
 go_wp2_with fail
 go_ret
 exact ⟨rfl,rfl⟩
theorem pY {base d S c:Nat} {xs:List FV} {A:Option Addr} {w:World} (hs:StA base d w S xs A c) (hn:xs.length≤100000) :
 Calls Tryz.prog 19 #[.pointer (some ⟨S,0,none⟩)] w fun z w'=>(∃ys A' c',ys.map FV.f=xs.map FV.f∧z=.returned (.slice A' ys.length c')∧FRow w.heap.size d w' ys A' c')∧Below w.heap.size w w':=by
 have HS:=zT hs
 have k_s:=hs.hd.cell
 clear hs
 go_enter Tryz.func19,Tryz.ntmps19
 go_wp2_with fail
 have h:=fM (d:=d) (c:=c) (HS.out.rl (by omega)) (fun f hf=>by
  obtain ⟨y,hy,rfl⟩:=List.mem_map.1 hf
  exact HS.out.ok y hy) (by rw [Ad];omega) (zV _)
 rw [Ad] at h
 refine h.mono ?_
 rintro z w' ⟨⟨ys,A',c',h1,rfl,h2⟩,hb⟩
 have hl:ys.length=xs.length:=by simpa using congrArg List.length h1
 have H:=zT (And.intro h1 (And.intro h2 hb))
 clear h1 h2 hb h
 go_wp2_with fail
 go_ret
 exact ⟨⟨ys,A',c',H.out.1,by rw [hl];rfl,H.out.2.1⟩,H.out.2.2⟩
theorem tJ {d B:Nat} {o:OwD} {vo:List Value} {w:World} (ho:(OwR d).rd w B o vo) (hB:B≤w.heap.size) :
 Calls Tryz.prog 43 #[.agg vo.toArray] w fun z w'=>z=.returned (.bool (jm o))∧Below w.heap.size w w':=by
 obtain ⟨A0,c0,A1,c1,A2,c2,A3,c3,rfl,hr,_,_⟩:=iu ho
 have HR:=zT hr
 clear ho hr
 go_enter Tryz.func43,Tryz.ntmps43
 go_upto_region 1 with fail
 generalize hW:World.alloc _ _=w1
 obtain ⟨hb1,hz⟩:=al1 hW
 have HK1:=zT (n11 hW)
 have HB1:=zT hb1
 have hsz1:=hb1.size
 clear hW hb1 hz
 have k_o:=HK1.out.cell
 have l_o:=HK1.out.lt
 go_wp2_with fail
 refine (lF (vs:=[_,_,_,_,_]) ((RuR d).keep HB1.out hB HR.out) (zU hB hsz1)).mono ?_
 rintro z w2 ⟨rfl,hb2⟩
 have HK2:=zT (HK1.out.later hb2)
 have HB2:=zT (ac HB1.out hb2)
 clear hb2 k_o l_o
 have k_o:=HK2.out.cell
 have l_o:=HK2.out.lt
 have HV:Hid (jm o=(aQ o.rule&&(decide (0≤o.block)&&decide (o.block<8)||decide (o.block=15)))):=zT rfl
 cases hm:aQ o.rule
 ·rw [hm] at HV
  clear hm
  go_wp2_with fail
  go_ret
  exact ⟨ae HV.out.symm,HB2.out⟩
 rw [hm] at HV
 clear hm
 by_cases h0:0≤o.block
 ·by_cases h8:o.block<8
  ·have e:jm o=true:=by rw [HV.out];simp [h0,h8]
   have HE:=zT e
   clear HV e
   go_wp2_with fail
   go_ret
   exact ⟨ae HE.out.symm,HB2.out⟩
  ·have e:jm o=(decide (o.block<8)||o.block==15):=by rw [HV.out,decide_eq_true h0,decide_eq_false h8];by_cases h:o.block=15<;>simp [h]
   have HE:=zT e
   clear HV e
   go_wp2_with fail
   go_ret
   exact ⟨ae HE.out.symm,HB2.out⟩
 ·have e:jm o=false:=by
   rw [HV.out]
   have h15:¬o.block=15:=by omega
   simp [h0,h15]
  have h15:(o.block==15)=false:=by rw [beq_eq_false_iff_ne];omega
  have HE:=zT e
  clear HV e
  go_wp2_with fail
  go_ret
  exact ⟨ae HE.out.symm,HB2.out⟩
theorem nd {d B c:Nat} {rs:List OwD} {A:Option Addr} {w:World} (hl:RL (OwR d) w B rs A) (hn:rs.length≤140737488351232) (hB:B≤w.heap.size) :
 Calls Tryz.prog 23 #[.slice A rs.length c] w fun z w'=>z=.returned (.bool (rs.all jm))∧Below w.heap.size w w':=by
 have HL:=zT hl
 clear hl
 go_enter Tryz.func23,Tryz.ntmps23
 go_upto_region 2 with fail
 go_loopw [7] (fun i wr=>∃k:Nat,k≤rs.length∧i=.int .i64 k∧Hid (Below w.heap.size w wr)∧Hid (∀i (hi:i<k) (hi':i<rs.length),jm rs[i]=true)) (fun i _=>rs.length-(intOf i).toNat)
 case atStart=>exact ⟨0,zW _,rfl,zT (zX _ _),zT (fun i h=>absurd h (by omega))⟩
 case round=>
  obtain ⟨k,hk,rfl,HW,HALL⟩:=hrel
  have hszr:=HW.out.size
  have hBr:B≤wr.heap.size:=zU hB hszr
  by_cases hlt:k<rs.length
  ·obtain ⟨b,off,rfl,hob⟩:=(HL.out.keep HW.out hB).base (zX _ _) hBr (by omega)
   obtain ⟨x,vs,hx,hlen,hcell,hr⟩:=(HL.out.keep HW.out hB).at_ (zX _ _) hBr hlt
   have HX:=zT hx
   have HRX:=zT hr
   obtain ⟨A0,c0,A1,c1,A2,c2,A3,c3,rfl,_,_,_⟩:=iu hr
   have p0:wr.cell? ⟨b,off+k*7,none⟩=some (.string x.rule.head.name):=hcell 0 _ rfl
   have p1:wr.cell? ⟨b,off+k*7+1,none⟩=some (.slice A0 x.rule.head.terms.length c0):=hcell 1 _ rfl
   have p2:wr.cell? ⟨b,off+k*7+2,none⟩=some (.slice A1 x.rule.body.length c1):=hcell 2 _ rfl
   have p3:wr.cell? ⟨b,off+k*7+3,none⟩=some (.slice A2 x.rule.exprs.length c2):=hcell 3 _ rfl
   have p4:wr.cell? ⟨b,off+k*7+4,none⟩=some (.slice A3 x.rule.scopes.length c3):=hcell 4 _ rfl
   have p5:wr.cell? ⟨b,off+k*7+5,none⟩=some (.int .i64 x.block):=hcell 5 _ rfl
   have p6:wr.cell? ⟨b,off+k*7+6,none⟩=some (.int .u32 x.trusted):=hcell 6 _ rfl
   clear hcell hlen hx hr
   go_upto_region 4 with fail
   generalize hW:World.alloc _ _=w3
   obtain ⟨hb3,hz3⟩:=al1 hW
   have HK3:=zT (n11 hW)
   have HB3:=zT (ac HW.out hb3)
   have HR3:=zT ((OwR d).keep hb3 hBr HRX.out)
   have hsz3:=hb3.size
   clear hW hb3 hz3 p0 p1 p2 p3 p4 p5 p6
   have k_r:=HK3.out.cell
   have l_r:=HK3.out.lt
   go_wp2_with fail
   refine (tJ (d:=d) (B:=B) (o:=x) (vo:=[_,_,_,_,_,_,_]) ((OwR d).wide (zV _) HR3.out) (by omega)).mono ?_
   rintro z w4 ⟨rfl,hb4⟩
   have HB4:=zT (ac HB3.out hb4)
   clear hb4 k_r l_r
   by_cases hq:jm x=true
   ·have HQ:=zT hq
    rw [hq]
    clear hq
    go_wp2_with fail
    go_roundw
    case rel=>exact ⟨k+1,by omega,by go_num,HB4,zT (fun i hi hi'=>by
     rcases Nat.lt_or_ge i k with h1 | h1
     ·exact HALL.out i h1 hi'
     ·obtain rfl:i=k:=by omega
      rw [(List.getElem?_eq_some_iff.1 HX.out).2];exact HQ.out)⟩
    case measure=>simp [intOf];omega
   ·simp only [Bool.not_eq_true] at hq
    have HV:Hid (rs.all jm=false):=zT (zk HX.out hq)
    rw [hq]
    clear hq
    go_wp2_with fail
    go_ret
    exact ⟨ae HV.out.symm,HB4.out⟩
  ·have HV:Hid (rs.all jm=true):=zT (allT3_ (k:=k) (by omega) HALL.out)
   go_wp2_with fail
   go_ret
   exact ⟨ae HV.out.symm,HW.out⟩
def noPr:Pr:=⟨⟨#[]⟩,[]⟩
def sJ (d:Nat) (w w':World) (r:Option Pr) (z:Ending):Prop:=(∃A c xs,z=.returned (.tuple #[.agg #[.string (r.getD noPr).name,.slice A (r.getD noPr).terms.length c],.bool r.isSome])∧xs.map SV.t=(r.getD noPr).terms∧StkQ w.heap.size d w' xs A c)∧Below w.heap.size w w'
theorem sJ.no {d:Nat} {w w':World} (h:Below w.heap.size w w'):sJ d w w' none (.returned (.tuple #[.agg #[.string ⟨#[]⟩,.slice none 0 0],.bool false])):=
 ⟨⟨none,0,[],rfl,rfl,StkQ.nil _ _ _⟩,h⟩
theorem oc {fn:Func} {tmps:Array Value} {p u:Tmp} {g:Nat} {w:World} {cs:Array Value} (h:fn.results=#[.cell p 26,.tmp u]) (hp:tmps.getD p undef=.pointer (some ⟨g,0,none⟩)) (hb:Blk w g cs) (hn:cs.size=2) :
 (results fn tmps).run Tryz.prog w=.ok (.tuple #[.agg cs,tmps.getD u undef]) w:=by
 obtain ⟨T,hb⟩:=hb
 rw [results_cell_tmp h]
 have e:tmps[p]?.getD undef=.pointer (some ⟨g,0,none⟩):=by simpa using hp
 have e1:((asAddr (tmps.getD p undef)).run Tryz.prog w)=.ok ⟨g,0,none⟩ w:=by simp [e,asAddr]
 rw [e1,Result.andThen_ok,run_loadVar_row w g T 26 cs (0,0) _ hb Tryz.underlying26 rfl (by rw [hn];kernel_rfl),Result.andThen_ok]
theorem jv {b:Bd}:∀{xs zs:List Tm} {x z:Tm},gS b xs=some zs→nN b x=some z→gS b (xs++[x])=some (zs++[z])
 | [],zs,x,z,h,hz=>by
   simp only [gS,Ai] at h
   subst h
   simp [gS,hz]
 | y::xs,zs,x,z,h,hz=>by
   simp only [gS] at h
   split at h
   ·rename_i u hu
    split at h
    ·rename_i us hus
     simp only [Ai] at h
     subst h
     simp only [List.cons_append,gS,hu,jv hus hz]
    ·cases h
   ·cases h
theorem mR {b:Bd}:∀{xs:List Tm} {x:Tm},x∈xs→nN b x=none→gS b xs=none
 | y::xs,x,hx,hz=>by
   rcases List.mem_cons.1 hx with rfl | hx
   ·simp [gS,hz]
   ·simp only [gS]
    rw [mR hx hz]
    split<;>rfl
theorem xY {d B cn ct:Nat} {p:Pr} {b:Bd} {vp:List Value} {An At:Option Addr} {w:World} (hp:(PrR (d+1)).rd w B p vp) (hn:RL cU w B (b.names.map mkS) An) (ht:RL (TmR (d+1)) w B b.terms At) (hB:B≤w.heap.size) :
 Calls Tryz.prog 58 #[.agg vp.toArray,.agg (bdV An b.names.length cn At b.terms.length ct)] w fun z w'=>sJ d w w' (gT p b) z:=by
 have HP:=zT hp
 have HN:=zT hn
 have HT:=zT ht
 obtain ⟨_,rfl,hps,Ap,cp,rfl,hp1,hp2,hpl⟩:=hp
 have HPL:=zT hpl
 obtain ⟨i0,hi0,hz0,hz1,hz2⟩:=info_parts gX
 clear hn ht hpl
 unfold bdV
 go_enter Tryz.func58,Tryz.ntmps58
 go_wp2_with fail
 generalize hW:World.alloc _ _=w1
 obtain ⟨hb,hz⟩:=al3 hW
 have HBP1:=zT (n31 hW)
 have HBB1:=zT (n32 hW)
 have HBR1:=zT (n33 hW)
 have HB1:=zT hb
 have hsz1:=hb.size
 clear hW hb
 have hB1:=zU hB hsz1
 refine (di (d:=d+1) (vs:=[_,_]) ((PrR (d+1)).keep HB1.out hB HP.out) hB1).mono ?_
 rintro e w1a ⟨rfl,hb⟩
 have HBPa:=zT (HBP1.out.later hb)
 have HBBa:=zT (HBB1.out.later hb)
 have HBRa:=zT (HBR1.out.later hb)
 have HBa:Hid (Below w.heap.size w w1a):=zT (HB1.out.trans (hb.mono hsz1))
 have hsza:=hb.size
 clear hb
 by_cases h1:aD p=true
 rotate_left
 ·simp only [Bool.not_eq_true] at h1
  rw [h1]
  have HNO:Hid (gT p b=none):=zT (by unfold gT;rw [if_neg];rintro ⟨q1,q2⟩;simp [h1] at *)
  clear h1
  have k_r:=HBRa.out.cell
  have f_r:=HBRa.out.free
  have l_r:=HBRa.out.lt
  go_wp2_with fail
  refine bodyPost_ret (oc rfl rfl (kr HBRa.out (.string ⟨#[]⟩) (.slice none 0 0)) rfl) rfl ?_
  rw [HNO.out]
  exact sJ.no (ku HBa.out (by omega) _ _)
 have H1:=zT h1
 rw [h1]
 clear h1
 have k_b:=HBBa.out.cell
 have l_b:=HBBa.out.lt
 go_wp2_with fail
 refine (dj (d:=d) (cn:=cn) (ct:=ct) (HN.out.keep HBa.out hB) (HT.out.keep HBa.out hB) (zU hB HBa.out.size)).mono ?_
 rintro e w2 ⟨rfl,hb⟩
 have HBP2:=zT (HBPa.out.later hb)
 have HBB2:=zT (HBBa.out.later hb)
 have HBR2:=zT (HBRa.out.later hb)
 have HB2:Hid (Below w.heap.size w w2):=zT (HBa.out.trans (hb.mono HBa.out.size))
 have hsz2:=hb.size
 clear hb k_b l_b HBPa HBBa HBRa
 by_cases h2:bE b=true
 rotate_left
 ·simp only [Bool.not_eq_true] at h2
  rw [h2]
  have HNO:Hid (gT p b=none):=zT (by unfold gT;rw [if_neg];rintro ⟨q1,q2⟩;simp [h2] at *)
  clear h2
  have k_r:=HBR2.out.cell
  have f_r:=HBR2.out.free
  have l_r:=HBR2.out.lt
  go_wp2_with fail
  refine bodyPost_ret (oc rfl rfl (kr HBR2.out (.string ⟨#[]⟩) (.slice none 0 0)) rfl) rfl ?_
  rw [HNO.out]
  exact sJ.no (ku HB2.out (by omega) _ _)
 have H2:=zT h2
 rw [h2]
 clear h2
 have HMT:=zT (gd H1.out)
 have hp8:=HMT.out.1
 have HOKN:=zT (dO.1 H2.out)
 have HYES:Hid (∀zs,gS b p.terms=some zs→gT p b=some ⟨p.name,zs⟩):=zT (fun zs hz=>by unfold gT;rw [if_pos ⟨H1.out,H2.out⟩,hz])
 have HNON:Hid (gS b p.terms=none→gT p b=none):=zT (fun hz=>by unfold gT;rw [if_pos ⟨H1.out,H2.out⟩,hz])
 have hlr2:=HBR2.out.lt
 have k_p:=HBP2.out.cell
 have l_p:=HBP2.out.lt
 go_upto_region 4 with fail
 generalize hW:World.alloc _ _=w3
 obtain ⟨hb3,hz3⟩:=al1 hW
 have HBO3:=zT (n11 hW)
 have HB3:=zT hb3
 have HBP3:=zT (HBP2.out.later hb3)
 clear hW k_p l_p
 have k_p:=HBP3.out.cell
 have l_p:=HBP3.out.lt
 go_upto_region 5 with fail
 clear k_p l_p hb3
 go_loopw [25] (fun i wr=>∃(k:Nat) (xs:List SV) (A:Option Addr) (c:Nat),k≤p.terms.length∧i=.int .i64 k∧xs.length=k∧Hid (gS b (p.terms.take k)=some (xs.map SV.t))∧Hid (Below w2.heap.size w2 wr)∧Hid (Blk wr w2.heap.size #[.string p.name,.slice A k c])∧Hid (StkQ w3.heap.size d wr xs A c)) (fun i _=>p.terms.length-(intOf i).toNat)
 case atStart=>exact ⟨0,[],none,0,zW _,rfl,rfl,zT rfl,HB3,HBO3,zT (StkQ.nil _ _ _)⟩
 case round=>
  obtain ⟨k,xs,A,c,hk,rfl,hxl,HXT,HWR,HBO,HST⟩:=hrel
  subst hxl
  have hszr:=HWR.out.size
  have HLO:=zT HBO.out.lt
  have hlo:=HLO.out
  have HBw:Hid (Below w.heap.size w wr):=zT (HB2.out.trans (HWR.out.mono HB2.out.size))
  have hBr:B≤wr.heap.size:=zU hB HBw.out.size
  by_cases hlt:xs.length<p.terms.length
  ·obtain ⟨b_,off,rfl,hob⟩:=(HPL.out.keep HBw.out hB).base (zX _ _) hBr (by omega)
   obtain ⟨x,vs,hx,hlen,hcell,hr⟩:=(HPL.out.keep HBw.out hB).at_ (zX _ _) hBr hlt
   have HX:=zT hr
   obtain ⟨Ax,cx,rfl,g1,g2,g3,g4,g5,_⟩:=RTm.cells (show RTm wr B (d+1) x vs from hr)
   have c0:wr.cell? ⟨b_,off+xs.length*4,none⟩=some (.int .i64 x.kind):=hcell 0 _ rfl
   have c1:wr.cell? ⟨b_,off+xs.length*4+1,none⟩=some (.int .i64 x.n):=hcell 1 _ rfl
   have c2:wr.cell? ⟨b_,off+xs.length*4+2,none⟩=some (.string x.s):=hcell 2 _ rfl
   have c3:wr.cell? ⟨b_,off+xs.length*4+3,none⟩=some (.slice Ax x.l.length cx):=hcell 3 _ rfl
   have HXE:Hid (p.terms[xs.length]=x):=zT (by rw [Ah hlt] at hx;simpa using hx)
   have HXI:Hid (x∈p.terms):=zT (List.mem_of_getElem? hx)
   have HXM:Hid (lE x=true):=zT (HMT.out.2 x HXI.out)
   clear hcell hlen hx hr
   go_upto_region 7 with fail
   generalize hW:World.alloc _ _=w4
   obtain ⟨hb4,hz4⟩:=al1 hW
   have HBT4:=zT (n11 hW)
   have HBO4:=zT (HBO.out.later hb4)
   have HST4:=zT (HST.out.later hb4)
   have HX4:=zT (RTm.below hb4 hBr HX.out)
   have HWR4:Hid (Below w2.heap.size w2 w4):=zT (HWR.out.trans (hb4.mono hszr))
   have hsz4:=hb4.size
   have HLQ:=zT HBT4.out.lt
   have hlq:=HLQ.out
   clear hW hb4 c0 c1 c2 c3
   by_cases hv:x.kind=1
   rotate_left
   ·have hk1:(x.kind==1)=false:=by simpa using hv
    have HFX:Hid (af x=true):=zT (by unfold af;rw [HXM.out];simpa using hv)
    have HFILL:Hid (nN b p.terms[xs.length]=some x):=zT (by rw [HXE.out];unfold nN;rw [if_neg hv])
    clear hv
    obtain ⟨hle,hl16⟩:=aO HFX.out
    have HLE:=zT hle
    clear hle
    have k_t:=HBT4.out.cell
    have l_t:=HBT4.out.lt
    go_upto_region 12 with fail
    clear k_t l_t
    have HWR6:=zT (HWR4.out)
    have HBT6:=HBT4
    have HBO6:=HBO4
    have HST6:=HST4
    have HU6:=zT (RTm.more (show B≤w4.heap.size by omega) HX4.out)
    have hsz6:wr.heap.size≤w4.heap.size:=hsz4
    generalize w4=w6 at *
    generalize x=u at *
    generalize Ax=Au at *
    generalize cx=cu at *
    have HSL:Hid (∀{w':World},Below w6.heap.size w6 w'→(w'.cell? ⟨w2.heap.size,1,none⟩=some (.slice A xs.length c)∧w'.cell? ⟨wr.heap.size,0,none⟩=some (.int .i64 u.kind)∧w'.cell? ⟨wr.heap.size,1,none⟩=some (.int .i64 u.n)∧w'.cell? ⟨wr.heap.size,2,none⟩=some (.string u.s)∧w'.cell? ⟨wr.heap.size,3,none⟩=some (.slice Au u.l.length cu))):=zT (fun hb=>have h:=(HBT6.out.later hb).cell;⟨(HBO6.out.later hb).cell 1,h 0,h 1,h 2,h 3⟩)
    refine bm (S:=fun w'=>w'.cell? ⟨w2.heap.size,1,none⟩=some (.slice A xs.length c)∧w'.cell? ⟨wr.heap.size,0,none⟩=some (.int .i64 u.kind)∧w'.cell? ⟨wr.heap.size,1,none⟩=some (.int .i64 u.n)∧w'.cell? ⟨wr.heap.size,2,none⟩=some (.string u.s)∧w'.cell? ⟨wr.heap.size,3,none⟩=some (.slice Au u.l.length cu)) 7 (by kernel_rfl) (by kernel_rfl) (by kernel_rfl) (by kernel_rfl) (HSL.out (zX _ _).drew) ?_
    refine ay 0 ?_
    refine ay 1 ?_
    refine ay 2 ?_
    refine aI (rs:=[3]) (by kernel_rfl) rfl (by kernel_rfl) ?_
    refine aB.cons rfl (fun K hK=>?_) aB.nil
    go_simp
    refine (gF (B:=w6.heap.size) (t:=u) (vs:=[_,_,_,_]) (RTm.below (zX _ _).drew (zV _) HU6.out) (zV _) HLE.out hl16).mono ?_
    rintro e w7 ⟨⟨A5,c5,rfl,hown⟩,hb7⟩
    have HOWN:Hid (TmOwn d w6.heap.size w7 u A5 c5):=zT hown
    have HB7:Hid (Below w6.heap.size w6 w7):=zT ((zX w6.heap.size w6).drew.trans hb7)
    have hsz7:=HB7.out.size
    clear hown hb7
    refine hK.out _ _ (HSL.out HB7.out) ?_
    clear hK
    refine aI (rs:=[4]) (by kernel_rfl) rfl (by kernel_rfl) ?_
    refine aB.cons rfl (fun K hK=>?_) aB.nil
    go_simp
    refine hK.out _ _ (HSL.out (HB7.out.alloc hsz7 _)) ?_
    clear hK
    refine aI (rs:=[5]) (by kernel_rfl) rfl (by kernel_rfl) ?_
    refine aB.cons rfl (fun K hK=>?_) aB.nil
    refine cR (R:=SvR) (e:=29) rfl (.tmp 43) (.tmp 46) 24 rfl (bytes:=56) Tryz.underlying24 hi0 hz0 hz1 hz2 rfl (show 0<4 by omega) cm rfl (base:=w3.heap.size) (xs:=xs) (ys:=[⟨u,A5,c5⟩]) (HST6.out.own.later (HB7.out.alloc hsz7 _) (zW _)) rfl (xd (x:=⟨u,A5,c5⟩) zG) rfl (by simp only [Aw,List.length_nil];omega) (by omega) (by rw [World.size_alloc];omega) ?_
    intro v wn_ hown hg hf
    obtain ⟨An2,cn2,hv⟩:∃A c,v=.slice A (xs.length+1) c:=by have:=hown.form;rwa [Ac,List.length_singleton] at this
    subst hv
    have happ:=(HST6.out.later (HB7.out.alloc hsz7 _)).app (x:=⟨u,A5,c5⟩) (HOWN.out.at_.later ((zX _ _).alloc (zV _) _)) (HST6.out.apart (zV _) fun a ha=>(HOWN.out.blk a ha).1) (fun a ha=>⟨by have:=(HOWN.out.blk a ha).1;omega,by have:=(HOWN.out.blk a ha).2;rw [World.size_alloc];omega⟩) (by rw [World.size_alloc];omega) hown hg hf
    have HQB:=zT (((HBT6.out.later (HB7.out.alloc hsz7 _)).grown hg (HST.out.own.own_lt (zV _)).symm).cell)
    have HBO9:=zT ((HBO6.out.later (HB7.out.alloc hsz7 _)).grown hg (HST.out.own_ge (by omega)).symm)
    have f_o:=HBO9.out.free
    have k_o9:=HBO9.out.cell
    have HAP:=zT happ.1
    have HWR9:Hid (Below w2.heap.size w2 wn_):=zT (HWR6.out.trans (((HB7.out.alloc hsz7 _).mono (by omega)).trans (happ.2.mono (by omega))))
    clear hown hg hf happ
    refine hK.out _ _ (⟨HBO9.out.cell 1,HQB.out 0,HQB.out 1,HQB.out 2,HQB.out 3⟩) ?_
    clear hK
    refine ay 6 ?_
    refine ef (by kernel_rfl) (by kernel_rfl) rfl (fun K hK=>?_)
    go_simp
    refine hK.out _ _ ?_
    go_wp2_with fail
    go_roundw
    case rel=>exact ⟨xs.length+1,xs++[⟨u,A5,c5⟩],An2,cn2,by omega,by go_num,by rw [Ac,List.length_singleton],zT (by rw [List.map_append,List.map_singleton,←List.take_append_getElem hlt];exact jv HXT.out HFILL.out),zT (HWR9.out.setCell (p:=⟨w2.heap.size,1,none⟩) (zV _) _),zT (HBO9.out.set_ 1 _),zT (HAP.out.under (by omega) 1 _)⟩
    case measure=>simp [intOf];omega
   ·have hk1:(x.kind==1)=true:=by simpa using hv
    have HV:=zT hv
    clear hv
    have HBB4:=zT (HBB2.out.later HWR4.out)
    have k_t:=HBT4.out.cell
    have l_t:=HBT4.out.lt
    have k_b:=HBB4.out.cell
    have l_b:=HBB4.out.lt
    go_wp2_with fail
    refine (yn (d:=d) (cn:=cn) (ct:=ct) (HN.out.keep (HB2.out.trans (HWR4.out.mono HB2.out.size)) hB) (HT.out.keep (HB2.out.trans (HWR4.out.mono HB2.out.size)) hB) (by omega)).mono ?_
    rintro e w5 ⟨⟨Au,cu,rfl,htm⟩,hb5⟩
    have HTM:=zT htm
    have HBT5:=zT (HBT4.out.later hb5)
    have HBO5:=zT (HBO4.out.later hb5)
    have HST5:=zT (HST4.out.later hb5)
    have HWR5:Hid (Below w2.heap.size w2 w5):=zT (HWR4.out.trans (hb5.mono (by omega)))
    have HBR5:=zT (HBR2.out.later HWR5.out)
    have hsz5:=hb5.size
    clear k_t l_t k_b l_b htm hb5
    have HLK:Hid (nN b x=cW b (bs x.s)):=zT (by unfold nN;rw [if_pos HV.out])
    rw [if_pos H2.out] at HTM ⊢
    rcases hl:cW b (bs x.s) with _ | u
    ·have HNO:Hid (gT p b=none):=zT (HNON.out (mR HXI.out (HLK.out.trans hl)))
     simp only [Option.getD_none,Option.isSome_none]
     have k_t:=HBT5.out.cell
     have l_t:=HBT5.out.lt
     have f_t:=HBT5.out.free
     go_upto_region 10 with fail
     clear k_t l_t f_t
     have HBR6:=zT ((((HBR5.out.far (c:=wr.heap.size) (by omega) 0 (.int .i64 noT.kind)).far (c:=wr.heap.size) (by omega) 1 (.int .i64 noT.n)).far (c:=wr.heap.size) (by omega) 2 (.string noT.s)).far (c:=wr.heap.size) (by omega) 3 (.slice Au noT.l.length cu))
     have HWR6:Hid (Below w2.heap.size w2 ((((w5.setCell ⟨wr.heap.size,0,none⟩ (.int .i64 noT.kind)).setCell ⟨wr.heap.size,1,none⟩ (.int .i64 noT.n)).setCell ⟨wr.heap.size,2,none⟩ (.string noT.s)).setCell ⟨wr.heap.size,3,none⟩ (.slice Au noT.l.length cu))):=zT (cC HWR5.out (by omega) (.int .i64 noT.kind) (.int .i64 noT.n) (.string noT.s) (.slice Au noT.l.length cu))
     have HBw6:Hid (Below w.heap.size w ((((w5.setCell ⟨wr.heap.size,0,none⟩ (.int .i64 noT.kind)).setCell ⟨wr.heap.size,1,none⟩ (.int .i64 noT.n)).setCell ⟨wr.heap.size,2,none⟩ (.string noT.s)).setCell ⟨wr.heap.size,3,none⟩ (.slice Au noT.l.length cu))):=zT (cC (HB2.out.trans (HWR5.out.mono HB2.out.size)) (by omega) (.int .i64 noT.kind) (.int .i64 noT.n) (.string noT.s) (.slice Au noT.l.length cu))
     generalize (((w5.setCell ⟨wr.heap.size,0,none⟩ (.int .i64 noT.kind)).setCell ⟨wr.heap.size,1,none⟩ (.int .i64 noT.n)).setCell ⟨wr.heap.size,2,none⟩ (.string noT.s)).setCell ⟨wr.heap.size,3,none⟩ (.slice Au noT.l.length cu)=w6 at *
     have k_r:=HBR6.out.cell
     have l_r:=HBR6.out.lt
     have f_r:=HBR6.out.free
     go_wp2_with fail
     refine bodyPost_ret (oc rfl rfl (kr HBR6.out (.string ⟨#[]⟩) (.slice none 0 0)) rfl) rfl ?_
     rw [HNO.out]
     exact sJ.no (ku HBw6.out (by omega) _ _)
    ·rw [hl] at HTM
     have HFILL:Hid (nN b p.terms[xs.length]=some u):=zT (by rw [HXE.out];exact HLK.out.trans hl)
     have HUF:Hid (af u=true):=zT (mW HOKN.out.1 hl)
     clear hl
     simp only [Option.getD_some,Option.isSome_some] at HTM ⊢
     obtain ⟨hle,hl16⟩:=aO HUF.out
     have HLE:=zT hle
     clear hle
     have k_t:=HBT5.out.cell
     have l_t:=HBT5.out.lt
     have f_t:=HBT5.out.free
     go_upto_region 10 with fail
     clear k_t l_t f_t
     have HBR6:=zT ((((HBR5.out.far (c:=wr.heap.size) (by omega) 0 (.int .i64 u.kind)).far (c:=wr.heap.size) (by omega) 1 (.int .i64 u.n)).far (c:=wr.heap.size) (by omega) 2 (.string u.s)).far (c:=wr.heap.size) (by omega) 3 (.slice Au u.l.length cu))
     have HWR6:Hid (Below w2.heap.size w2 ((((w5.setCell ⟨wr.heap.size,0,none⟩ (.int .i64 u.kind)).setCell ⟨wr.heap.size,1,none⟩ (.int .i64 u.n)).setCell ⟨wr.heap.size,2,none⟩ (.string u.s)).setCell ⟨wr.heap.size,3,none⟩ (.slice Au u.l.length cu))):=zT (cC HWR5.out (by omega) (.int .i64 u.kind) (.int .i64 u.n) (.string u.s) (.slice Au u.l.length cu))
     have HBw6:Hid (Below w.heap.size w ((((w5.setCell ⟨wr.heap.size,0,none⟩ (.int .i64 u.kind)).setCell ⟨wr.heap.size,1,none⟩ (.int .i64 u.n)).setCell ⟨wr.heap.size,2,none⟩ (.string u.s)).setCell ⟨wr.heap.size,3,none⟩ (.slice Au u.l.length cu))):=zT (cC (HB2.out.trans (HWR5.out.mono HB2.out.size)) (by omega) (.int .i64 u.kind) (.int .i64 u.n) (.string u.s) (.slice Au u.l.length cu))
     have HBT6:=zT (dv HBT5.out (.int .i64 u.kind) (.int .i64 u.n) (.string u.s) (.slice Au u.l.length cu))
     have HBO6:=zT ((((HBO5.out.far (c:=wr.heap.size) (by omega) 0 (.int .i64 u.kind)).far (c:=wr.heap.size) (by omega) 1 (.int .i64 u.n)).far (c:=wr.heap.size) (by omega) 2 (.string u.s)).far (c:=wr.heap.size) (by omega) 3 (.slice Au u.l.length cu))
     have HST6:Hid (StkQ w3.heap.size d ((((w5.setCell ⟨wr.heap.size,0,none⟩ (.int .i64 u.kind)).setCell ⟨wr.heap.size,1,none⟩ (.int .i64 u.n)).setCell ⟨wr.heap.size,2,none⟩ (.string u.s)).setCell ⟨wr.heap.size,3,none⟩ (.slice Au u.l.length cu)) xs A c):=zT ((HST5.out).far4 (HST.out.low (zV _)) (.int .i64 u.kind) (.int .i64 u.n) (.string u.s) (.slice Au u.l.length cu))
     have HU6:=zT ((HTM.out.put4 (g:=wr.heap.size) (by omega) (.int .i64 u.kind) (.int .i64 u.n) (.string u.s) (.slice Au u.l.length cu)).rtm)
     have hsz6:wr.heap.size≤((((w5.setCell ⟨wr.heap.size,0,none⟩ (.int .i64 u.kind)).setCell ⟨wr.heap.size,1,none⟩ (.int .i64 u.n)).setCell ⟨wr.heap.size,2,none⟩ (.string u.s)).setCell ⟨wr.heap.size,3,none⟩ (.slice Au u.l.length cu)).heap.size:=by simp only [World.size_setCell];omega
     generalize (((w5.setCell ⟨wr.heap.size,0,none⟩ (.int .i64 u.kind)).setCell ⟨wr.heap.size,1,none⟩ (.int .i64 u.n)).setCell ⟨wr.heap.size,2,none⟩ (.string u.s)).setCell ⟨wr.heap.size,3,none⟩ (.slice Au u.l.length cu)=w6 at *
     have k_t:=HBT6.out.cell
     have l_t:=HBT6.out.lt
     go_upto_region 12 with fail
     clear k_t l_t
     have HSL:Hid (∀{w':World},Below w6.heap.size w6 w'→(w'.cell? ⟨w2.heap.size,1,none⟩=some (.slice A xs.length c)∧w'.cell? ⟨wr.heap.size,0,none⟩=some (.int .i64 u.kind)∧w'.cell? ⟨wr.heap.size,1,none⟩=some (.int .i64 u.n)∧w'.cell? ⟨wr.heap.size,2,none⟩=some (.string u.s)∧w'.cell? ⟨wr.heap.size,3,none⟩=some (.slice Au u.l.length cu))):=zT (fun hb=>have h:=(HBT6.out.later hb).cell;⟨(HBO6.out.later hb).cell 1,h 0,h 1,h 2,h 3⟩)
     refine bm (S:=fun w'=>w'.cell? ⟨w2.heap.size,1,none⟩=some (.slice A xs.length c)∧w'.cell? ⟨wr.heap.size,0,none⟩=some (.int .i64 u.kind)∧w'.cell? ⟨wr.heap.size,1,none⟩=some (.int .i64 u.n)∧w'.cell? ⟨wr.heap.size,2,none⟩=some (.string u.s)∧w'.cell? ⟨wr.heap.size,3,none⟩=some (.slice Au u.l.length cu)) 7 (by kernel_rfl) (by kernel_rfl) (by kernel_rfl) (by kernel_rfl) (HSL.out (zX _ _).drew) ?_
     refine ay 0 ?_
     refine ay 1 ?_
     refine ay 2 ?_
     refine aI (rs:=[3]) (by kernel_rfl) rfl (by kernel_rfl) ?_
     refine aB.cons rfl (fun K hK=>?_) aB.nil
     go_simp
     refine (gF (B:=w6.heap.size) (t:=u) (vs:=[_,_,_,_]) (RTm.below (zX _ _).drew (zV _) HU6.out) (zV _) HLE.out hl16).mono ?_
     rintro e w7 ⟨⟨A5,c5,rfl,hown⟩,hb7⟩
     have HOWN:Hid (TmOwn d w6.heap.size w7 u A5 c5):=zT hown
     have HB7:Hid (Below w6.heap.size w6 w7):=zT ((zX w6.heap.size w6).drew.trans hb7)
     have hsz7:=HB7.out.size
     clear hown hb7
     refine hK.out _ _ (HSL.out HB7.out) ?_
     clear hK
     refine aI (rs:=[4]) (by kernel_rfl) rfl (by kernel_rfl) ?_
     refine aB.cons rfl (fun K hK=>?_) aB.nil
     go_simp
     refine hK.out _ _ (HSL.out (HB7.out.alloc hsz7 _)) ?_
     clear hK
     refine aI (rs:=[5]) (by kernel_rfl) rfl (by kernel_rfl) ?_
     refine aB.cons rfl (fun K hK=>?_) aB.nil
     refine cR (R:=SvR) (e:=29) rfl (.tmp 43) (.tmp 46) 24 rfl (bytes:=56) Tryz.underlying24 hi0 hz0 hz1 hz2 rfl (show 0<4 by omega) cm rfl (base:=w3.heap.size) (xs:=xs) (ys:=[⟨u,A5,c5⟩]) (HST6.out.own.later (HB7.out.alloc hsz7 _) (zW _)) rfl (xd (x:=⟨u,A5,c5⟩) zG) rfl (by simp only [Aw,List.length_nil];omega) (by omega) (by rw [World.size_alloc];omega) ?_
     intro v wn_ hown hg hf
     obtain ⟨An2,cn2,hv⟩:∃A c,v=.slice A (xs.length+1) c:=by have:=hown.form;rwa [Ac,List.length_singleton] at this
     subst hv
     have happ:=(HST6.out.later (HB7.out.alloc hsz7 _)).app (x:=⟨u,A5,c5⟩) (HOWN.out.at_.later ((zX _ _).alloc (zV _) _)) (HST6.out.apart (zV _) fun a ha=>(HOWN.out.blk a ha).1) (fun a ha=>⟨by have:=(HOWN.out.blk a ha).1;omega,by have:=(HOWN.out.blk a ha).2;rw [World.size_alloc];omega⟩) (by rw [World.size_alloc];omega) hown hg hf
     have HQB:=zT (((HBT6.out.later (HB7.out.alloc hsz7 _)).grown hg (HST.out.own.own_lt (zV _)).symm).cell)
     have HBO9:=zT ((HBO6.out.later (HB7.out.alloc hsz7 _)).grown hg (HST.out.own_ge (by omega)).symm)
     have f_o:=HBO9.out.free
     have k_o9:=HBO9.out.cell
     have HAP:=zT happ.1
     have HWR9:Hid (Below w2.heap.size w2 wn_):=zT (HWR6.out.trans (((HB7.out.alloc hsz7 _).mono (by omega)).trans (happ.2.mono (by omega))))
     clear hown hg hf happ
     refine hK.out _ _ (⟨HBO9.out.cell 1,HQB.out 0,HQB.out 1,HQB.out 2,HQB.out 3⟩) ?_
     clear hK
     refine ay 6 ?_
     refine ef (by kernel_rfl) (by kernel_rfl) rfl (fun K hK=>?_)
     go_simp
     refine hK.out _ _ ?_
     go_wp2_with fail
     go_roundw
     case rel=>exact ⟨xs.length+1,xs++[⟨u,A5,c5⟩],An2,cn2,by omega,by go_num,by rw [Ac,List.length_singleton],zT (by rw [List.map_append,List.map_singleton,←List.take_append_getElem hlt];exact jv HXT.out HFILL.out),zT (HWR9.out.setCell (p:=⟨w2.heap.size,1,none⟩) (zV _) _),zT (HBO9.out.set_ 1 _),zT (HAP.out.under (by omega) 1 _)⟩
     case measure=>simp [intOf];omega
  ·have HXL:Hid (xs.length=p.terms.length):=zT (by omega)
   have HRS:Hid (gT p b=some ⟨p.name,xs.map SV.t⟩):=zT (HYES.out _ (by have:=HXT.out;rw [HXL.out,List.take_length] at this;exact this))
   have hlm:(xs.map SV.t).length=xs.length:=Ad _
   have HBRr:=zT (HBR2.out.later HWR.out)
   have k_o:=HBO.out.cell
   have k_r:=HBRr.out.cell
   have f_r:=HBRr.out.free
   have l_r:=HBRr.out.lt
   go_wp2_with fail
   refine bodyPost_ret (oc rfl rfl (kr HBRr.out (.string p.name) (.slice A xs.length c)) rfl) rfl ?_
   rw [HRS.out]
   exact ⟨⟨A,c,xs,by simp,rfl,((HST.out.under (by omega) 0 _).under (by omega) 1 _).lower (by omega)⟩,ku HBw.out (by omega) _ _⟩
section
variable {P:Program} {md:Region.Mode} {ops:Array Oper} {Q:Exit→Act→World→Prop} {n:Nat}
def iH (md:Region.Mode) (o:Oper):List Nat:=(o.after.toList.filter (Region.binds md)).map (·.on)
def ii (ops:Array Oper) (i:Nat):Option Tmp:=(ops[i]?).bind (·.dst)
def pO (md:Region.Mode) (ops:Array Oper):Bool:=(List.range ops.size).all fun i=>match ops[i]? with
 | none=>false
 | some o=>(iH md o).all (fun j=>decide (j<i))&&match o.dst with
   | none=>true
   | some t=>(List.range ops.size).all fun j=>decide (i=j)||ii ops j !=some t
def cE (ops:Array Oper) (post:Nat→Value→World→Prop) (T:Array Value) (w:World) (j:Nat):Prop:=match ii ops j with
 | none=>True
 | some t=>post j (T.getD t undef) w
theorem tS (hB:pO md ops=true) {l:Array Bool} (hl:l.size=ops.size):∀(i:Nat),i<ops.size→l.getD i true=false→Region.ready md ops l≠[]:=by
 intro i
 induction i using Nat.strongRecOn with
 | _ i ih=>
   intro hi hun h0
   obtain ⟨o,ho⟩:∃o,ops[i]? = some o:=⟨_,Array.getElem?_eq_getElem hi⟩
   have hB':=List.all_eq_true.1 hB i (List.mem_range.2 hi)
   simp only [ho,Ag] at hB'
   have hni:i∉Region.ready md ops l:=by rw [h0];simp
   apply hni
   refine mem_ready.2 ⟨hun,o,ho,fun e he hb=>?_⟩
   have hlt:e.on<i:=by
    have:=List.all_eq_true.1 hB'.1 e.on (List.mem_map.2 ⟨e,List.mem_filter.2 ⟨Array.mem_toList_iff.2 he,hb⟩,rfl⟩)
    exact of_decide_eq_true this
   cases hd:l.getD e.on false with
   | true=>rfl
   | false=>exact absurd h0 (ih e.on hlt (by omega) (getD_in (by omega) hd))
theorem sa {T:Array Value} {t u:Nat} {v:Value} (h:t≠u):(T.setIfInBounds t v).getD u undef=T.getD u undef:=by
 simp [Array.getElem?_setIfInBounds_ne h]
theorem put_own {T:Array Value} {t:Nat} {v:Value} (h:t<T.size):(T.setIfInBounds t v).getD t undef=v:=by simp [h]
theorem gi {X:Nat→Prop}:∀i<0,X i:=fun i h=>absurd h (Nat.not_lt_zero i)
theorem ab {X:Nat→Prop} {n:Nat} (h:∀i<n,X i) (hn:X n):∀i<n+1,X i:=fun i hi=>by
 obtain h1 | rfl:=Nat.lt_succ_iff_lt_or_eq.1 hi
 ·exact h i h1
 ·exact hn
theorem ji {T:Array Value} {n:Nat} (h:T.size=n):T=((List.range n).map fun t=>T.getD t undef).toArray:=by
 subst h
 apply Array.ext
 ·simp
 ·intro i h1 h2
  simp [h1]
end
end Go.Proofs.YtjpndglegpcdnaaGreat
