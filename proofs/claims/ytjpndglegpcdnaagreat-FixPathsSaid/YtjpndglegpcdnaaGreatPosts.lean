/- A region that draws its order, whatever order: what each operation tells (its post) holds of its value as long as the heap only grows; each operation is shown once, from the posts of those it waits for. The last one waits for all. -/
import Derived.Test.YtjpndglegpcdnaaGreatJoFits
import Derived.Test.YtjpndglegpcdnaaGreatHeldA
import Derived.Test.YtjpndglegpcdnaaGreatOwn
import Derived.ProofKit
set_option linter.unusedVariables false
set_option linter.unusedSimpArgs false
set_option maxRecDepth 100000
set_option maxHeartbeats 8000000
namespace Go.Proofs.YtjpndglegpcdnaaGreat
open Go.ChangeShapes Go.WideShapes Go.ChangeAt Go.RowKit
def noPr:Pr:=⟨⟨#[]⟩,[]⟩
def ry (d:Nat) (w w':World) (r:Option Pr) (z:Ending):Prop:=(∃A c xs,z=.returned (.tuple #[.agg #[.string (r.getD noPr).name,.slice A (r.getD noPr).terms.length c],.bool r.isSome])∧xs.map SV.t=(r.getD noPr).terms∧StkQ w.heap.size d w' xs A c)∧Below w.heap.size w w'
theorem ry.no {d:Nat} {w w':World} (h:Below w.heap.size w w'):ry d w w' none (.returned (.tuple #[.agg #[.string ⟨#[]⟩,.slice none 0 0],.bool false])):=
 ⟨⟨none,0,[],rfl,rfl,StkQ.nil _ _ _⟩,h⟩
theorem nv {fn:Func} {tmps:Array Value} {p u:Tmp} {g:Nat} {w:World} {cs:Array Value} (h:fn.results=#[.cell p 26,.tmp u]) (hp:tmps.getD p undef=.pointer (some ⟨g,0,none⟩)) (hb:Blk w g cs) (hn:cs.size=2) :
 (results fn tmps).run Tryz.prog w=.ok (.tuple #[.agg cs,tmps.getD u undef]) w:=by
 obtain ⟨T,hb⟩:=hb
 rw [results_cell_tmp h]
 have e:tmps[p]?.getD undef=.pointer (some ⟨g,0,none⟩):=by simpa using hp
 have e1:((asAddr (tmps.getD p undef)).run Tryz.prog w)=.ok ⟨g,0,none⟩ w:=by simp [e,asAddr]
 rw [e1,Result.andThen_ok,run_loadVar_row w g T 26 cs (0,0) _ hb Tryz.underlying26 rfl (by rw [hn];kernel_rfl),Result.andThen_ok]
theorem iV {b:Bd}:∀{xs zs:List Tm} {x z:Tm},gD b xs=some zs→mZ b x=some z→gD b (xs++[x])=some (zs++[z])
 | [],zs,x,z,h,hz=>by
   simp only [gD,yz] at h
   subst h
   simp [gD,hz]
 | y::xs,zs,x,z,h,hz=>by
   simp only [gD] at h
   split at h
   ·rename_i u hu
    split at h
    ·rename_i us hus
     simp only [yz] at h
     subst h
     simp only [List.cons_append,gD,hu,iV hus hz]
    ·cases h
   ·cases h
theorem mj {b:Bd}:∀{xs:List Tm} {x:Tm},x∈xs→mZ b x=none→gD b xs=none
 | y::xs,x,hx,hz=>by
   rcases List.mem_cons.1 hx with rfl | hx
   ·simp [gD,hz]
   ·simp only [gD]
    rw [mj hx hz]
    split<;>rfl
theorem wk {d B cn ct:Nat} {p:Pr} {b:Bd} {vp:List Value} {An At:Option Addr} {w:World} (hp:(PrR (d+1)).rd w B p vp) (hn:RL cR w B (b.names.map mkS) An) (ht:RL (TmR (d+1)) w B b.terms At) (hB:B≤w.heap.size) :
 Calls Tryz.prog 58 #[.agg vp.toArray,.agg (bdV An b.names.length cn At b.terms.length ct)] w fun z w'=>ry d w w' (gE p b) z:=by
 have HP:=ym hp
 have HN:=ym hn
 have HT:=ym ht
 obtain ⟨_,rfl,hps,Ap,cp,rfl,hp1,hp2,hpl⟩:=hp
 have HPL:=ym hpl
 obtain ⟨i0,hi0,hz0,hz1,hz2⟩:=info_parts gJ
 clear hn ht hpl
 unfold bdV
 go_enter Tryz.func58,Tryz.ntmps58
 go_wp2_with fail
 generalize hW:World.alloc _ _=w1
 obtain ⟨hb,hz⟩:=al3 hW
 have HBP1:=ym (n31 hW)
 have HBB1:=ym (n32 hW)
 have HBR1:=ym (n33 hW)
 have HB1:=ym hb
 have hsz1:=hb.size
 clear hW hb
 have hB1:=yn hB hsz1
 refine (cZ (d:=d+1) (vs:=[_,_]) ((PrR (d+1)).keep HB1.out hB HP.out) hB1).mono ?_
 rintro e w1a ⟨rfl,hb⟩
 have HBPa:=ym (HBP1.out.later hb)
 have HBBa:=ym (HBB1.out.later hb)
 have HBRa:=ym (HBR1.out.later hb)
 have HBa:Hid (Below w.heap.size w w1a):=ym (HB1.out.trans (hb.mono hsz1))
 have hsza:=hb.size
 clear hb
 by_cases h1:aB p=true
 rotate_left
 ·simp only [Bool.not_eq_true] at h1
  rw [h1]
  have HNO:Hid (gE p b=none):=ym (by unfold gE;rw [if_neg];rintro ⟨q1,q2⟩;simp [h1] at *)
  clear h1
  have k_r:=HBRa.out.cell
  have f_r:=HBRa.out.free
  have l_r:=HBRa.out.lt
  go_wp2_with fail
  refine bodyPost_ret (nv rfl rfl (jO HBRa.out (.string ⟨#[]⟩) (.slice none 0 0)) rfl) rfl ?_
  rw [HNO.out]
  exact ry.no (jP HBa.out (by omega) _ _)
 have H1:=ym h1
 rw [h1]
 clear h1
 have k_b:=HBBa.out.cell
 have l_b:=HBBa.out.lt
 go_wp2_with fail
 refine (de (d:=d) (cn:=cn) (ct:=ct) (HN.out.keep HBa.out hB) (HT.out.keep HBa.out hB) (yn hB HBa.out.size)).mono ?_
 rintro e w2 ⟨rfl,hb⟩
 have HBP2:=ym (HBPa.out.later hb)
 have HBB2:=ym (HBBa.out.later hb)
 have HBR2:=ym (HBRa.out.later hb)
 have HB2:Hid (Below w.heap.size w w2):=ym (HBa.out.trans (hb.mono HBa.out.size))
 have hsz2:=hb.size
 clear hb k_b l_b HBPa HBBa HBRa
 by_cases h2:bB b=true
 rotate_left
 ·simp only [Bool.not_eq_true] at h2
  rw [h2]
  have HNO:Hid (gE p b=none):=ym (by unfold gE;rw [if_neg];rintro ⟨q1,q2⟩;simp [h2] at *)
  clear h2
  have k_r:=HBR2.out.cell
  have f_r:=HBR2.out.free
  have l_r:=HBR2.out.lt
  go_wp2_with fail
  refine bodyPost_ret (nv rfl rfl (jO HBR2.out (.string ⟨#[]⟩) (.slice none 0 0)) rfl) rfl ?_
  rw [HNO.out]
  exact ry.no (jP HB2.out (by omega) _ _)
 have H2:=ym h2
 rw [h2]
 clear h2
 have HMT:=ym (fO H1.out)
 have hp8:=HMT.out.1
 have HOKN:=ym (dI.1 H2.out)
 have HYES:Hid (∀zs,gD b p.terms=some zs→gE p b=some ⟨p.name,zs⟩):=ym (fun zs hz=>by unfold gE;rw [if_pos ⟨H1.out,H2.out⟩,hz])
 have HNON:Hid (gD b p.terms=none→gE p b=none):=ym (fun hz=>by unfold gE;rw [if_pos ⟨H1.out,H2.out⟩,hz])
 have hlr2:=HBR2.out.lt
 have k_p:=HBP2.out.cell
 have l_p:=HBP2.out.lt
 go_upto_region 4 with fail
 generalize hW:World.alloc _ _=w3
 obtain ⟨hb3,hz3⟩:=al1 hW
 have HBO3:=ym (n11 hW)
 have HB3:=ym hb3
 have HBP3:=ym (HBP2.out.later hb3)
 clear hW k_p l_p
 have k_p:=HBP3.out.cell
 have l_p:=HBP3.out.lt
 go_upto_region 5 with fail
 clear k_p l_p hb3
 go_loopw [25] (fun i wr=>∃(k:Nat) (xs:List SV) (A:Option Addr) (c:Nat),k≤p.terms.length∧i=.int .i64 k∧xs.length=k∧Hid (gD b (p.terms.take k)=some (xs.map SV.t))∧Hid (Below w2.heap.size w2 wr)∧Hid (Blk wr w2.heap.size #[.string p.name,.slice A k c])∧Hid (StkQ w3.heap.size d wr xs A c)) (fun i _=>p.terms.length-(intOf i).toNat)
 case atStart=>exact ⟨0,[],none,0,yp _,rfl,rfl,ym rfl,HB3,HBO3,ym (StkQ.nil _ _ _)⟩
 case round=>
  obtain ⟨k,xs,A,c,hk,rfl,hxl,HXT,HWR,HBO,HST⟩:=hrel
  subst hxl
  have hszr:=HWR.out.size
  have HLO:=ym HBO.out.lt
  have hlo:=HLO.out
  have HBw:Hid (Below w.heap.size w wr):=ym (HB2.out.trans (HWR.out.mono HB2.out.size))
  have hBr:B≤wr.heap.size:=yn hB HBw.out.size
  by_cases hlt:xs.length<p.terms.length
  ·obtain ⟨b_,off,rfl,hob⟩:=(HPL.out.keep HBw.out hB).base (yq _ _) hBr (by omega)
   obtain ⟨x,vs,hx,hlen,hcell,hr⟩:=(HPL.out.keep HBw.out hB).at_ (yq _ _) hBr hlt
   have HX:=ym hr
   obtain ⟨Ax,cx,rfl,g1,g2,g3,g4,g5,_⟩:=RTm.cells (show RTm wr B (d+1) x vs from hr)
   have c0:wr.cell? ⟨b_,off+xs.length*4,none⟩=some (.int .i64 x.kind):=hcell 0 _ rfl
   have c1:wr.cell? ⟨b_,off+xs.length*4+1,none⟩=some (.int .i64 x.n):=hcell 1 _ rfl
   have c2:wr.cell? ⟨b_,off+xs.length*4+2,none⟩=some (.string x.s):=hcell 2 _ rfl
   have c3:wr.cell? ⟨b_,off+xs.length*4+3,none⟩=some (.slice Ax x.l.length cx):=hcell 3 _ rfl
   have HXE:Hid (p.terms[xs.length]=x):=ym (by rw [yy hlt] at hx;simpa using hx)
   have HXI:Hid (x∈p.terms):=ym (List.mem_of_getElem? hx)
   have HXM:Hid (kc x=true):=ym (HMT.out.2 x HXI.out)
   clear hcell hlen hx hr
   go_upto_region 7 with fail
   generalize hW:World.alloc _ _=w4
   obtain ⟨hb4,hz4⟩:=al1 hW
   have HBT4:=ym (n11 hW)
   have HBO4:=ym (HBO.out.later hb4)
   have HST4:=ym (HST.out.later hb4)
   have HX4:=ym (RTm.below hb4 hBr HX.out)
   have HWR4:Hid (Below w2.heap.size w2 w4):=ym (HWR.out.trans (hb4.mono hszr))
   have hsz4:=hb4.size
   have HLQ:=ym HBT4.out.lt
   have hlq:=HLQ.out
   clear hW hb4 c0 c1 c2 c3
   by_cases hv:x.kind=1
   rotate_left
   ·have hk1:(x.kind==1)=false:=by simpa using hv
    have HFX:Hid (af x=true):=ym (by unfold af;rw [HXM.out];simpa using hv)
    have HFILL:Hid (mZ b p.terms[xs.length]=some x):=ym (by rw [HXE.out];unfold mZ;rw [if_neg hv])
    clear hv
    obtain ⟨hle,hl16⟩:=aJ HFX.out
    have HLE:=ym hle
    clear hle
    have k_t:=HBT4.out.cell
    have l_t:=HBT4.out.lt
    go_upto_region 12 with fail
    clear k_t l_t
    have HWR6:=ym (HWR4.out)
    have HBT6:=HBT4
    have HBO6:=HBO4
    have HST6:=HST4
    have HU6:=ym (RTm.more (show B≤w4.heap.size by omega) HX4.out)
    have hsz6:wr.heap.size≤w4.heap.size:=hsz4
    generalize w4=w6 at *
    generalize x=u at *
    generalize Ax=Au at *
    generalize cx=cu at *
    have HSL:Hid (∀{w':World},Below w6.heap.size w6 w'→(w'.cell? ⟨w2.heap.size,1,none⟩=some (.slice A xs.length c)∧w'.cell? ⟨wr.heap.size,0,none⟩=some (.int .i64 u.kind)∧w'.cell? ⟨wr.heap.size,1,none⟩=some (.int .i64 u.n)∧w'.cell? ⟨wr.heap.size,2,none⟩=some (.string u.s)∧w'.cell? ⟨wr.heap.size,3,none⟩=some (.slice Au u.l.length cu))):=ym (fun hb=>have h:=(HBT6.out.later hb).cell;⟨(HBO6.out.later hb).cell 1,h 0,h 1,h 2,h 3⟩)
    refine bj (S:=fun w'=>w'.cell? ⟨w2.heap.size,1,none⟩=some (.slice A xs.length c)∧w'.cell? ⟨wr.heap.size,0,none⟩=some (.int .i64 u.kind)∧w'.cell? ⟨wr.heap.size,1,none⟩=some (.int .i64 u.n)∧w'.cell? ⟨wr.heap.size,2,none⟩=some (.string u.s)∧w'.cell? ⟨wr.heap.size,3,none⟩=some (.slice Au u.l.length cu)) 7 (by kernel_rfl) (by kernel_rfl) (by kernel_rfl) (by kernel_rfl) (HSL.out (yq _ _).drew) ?_
    refine av 0 ?_
    refine av 1 ?_
    refine av 2 ?_
    refine aF (rs:=[3]) (by kernel_rfl) rfl (by kernel_rfl) ?_
    refine ay.cons rfl (fun K hK=>?_) ay.nil
    go_simp
    refine (gj (B:=w6.heap.size) (t:=u) (vs:=[_,_,_,_]) (RTm.below (yq _ _).drew (yo _) HU6.out) (yo _) HLE.out hl16).mono ?_
    rintro e w7 ⟨⟨A5,c5,rfl,hown⟩,hb7⟩
    have HOWN:Hid (TmOwn d w6.heap.size w7 u A5 c5):=ym hown
    have HB7:Hid (Below w6.heap.size w6 w7):=ym ((yq w6.heap.size w6).drew.trans hb7)
    have hsz7:=HB7.out.size
    clear hown hb7
    refine hK.out _ _ (HSL.out HB7.out) ?_
    clear hK
    refine aF (rs:=[4]) (by kernel_rfl) rfl (by kernel_rfl) ?_
    refine ay.cons rfl (fun K hK=>?_) ay.nil
    go_simp
    refine hK.out _ _ (HSL.out (HB7.out.alloc hsz7 _)) ?_
    clear hK
    refine aF (rs:=[5]) (by kernel_rfl) rfl (by kernel_rfl) ?_
    refine ay.cons rfl (fun K hK=>?_) ay.nil
    refine cO (R:=SvR) (e:=29) rfl (.tmp 43) (.tmp 46) 24 rfl (bytes:=56) Tryz.underlying24 hi0 hz0 hz1 hz2 rfl (show 0<4 by omega) cj rfl (base:=w3.heap.size) (xs:=xs) (ys:=[⟨u,A5,c5⟩]) (HST6.out.own.later (HB7.out.alloc hsz7 _) (yp _)) rfl (vg (x:=⟨u,A5,c5⟩) xY) rfl (by simp only [yE,List.length_nil];omega) (by omega) (by rw [World.size_alloc];omega) ?_
    intro v wn_ hown hg hf
    obtain ⟨An2,cn2,hv⟩:∃A c,v=.slice A (xs.length+1) c:=by have:=hown.form;rwa [yv,List.length_singleton] at this
    subst hv
    have happ:=(HST6.out.later (HB7.out.alloc hsz7 _)).app (x:=⟨u,A5,c5⟩) (HOWN.out.at_.later ((yq _ _).alloc (yo _) _)) (HST6.out.apart (yo _) fun a ha=>(HOWN.out.blk a ha).1) (fun a ha=>⟨by have:=(HOWN.out.blk a ha).1;omega,by have:=(HOWN.out.blk a ha).2;rw [World.size_alloc];omega⟩) (by rw [World.size_alloc];omega) hown hg hf
    have HQB:=ym (((HBT6.out.later (HB7.out.alloc hsz7 _)).grown hg (HST.out.own.own_lt (yo _)).symm).cell)
    have HBO9:=ym ((HBO6.out.later (HB7.out.alloc hsz7 _)).grown hg (HST.out.own_ge (by omega)).symm)
    have f_o:=HBO9.out.free
    have k_o9:=HBO9.out.cell
    have HAP:=ym happ.1
    have HWR9:Hid (Below w2.heap.size w2 wn_):=ym (HWR6.out.trans (((HB7.out.alloc hsz7 _).mono (by omega)).trans (happ.2.mono (by omega))))
    clear hown hg hf happ
    refine hK.out _ _ (⟨HBO9.out.cell 1,HQB.out 0,HQB.out 1,HQB.out 2,HQB.out 3⟩) ?_
    clear hK
    refine av 6 ?_
    refine dZ (by kernel_rfl) (by kernel_rfl) rfl (fun K hK=>?_)
    go_simp
    refine hK.out _ _ ?_
    go_wp2_with fail
    go_roundw
    case rel=>exact ⟨xs.length+1,xs++[⟨u,A5,c5⟩],An2,cn2,by omega,by go_num,by rw [yv,List.length_singleton],ym (by rw [List.map_append,List.map_singleton,←List.take_append_getElem hlt];exact iV HXT.out HFILL.out),ym (HWR9.out.setCell (p:=⟨w2.heap.size,1,none⟩) (yo _) _),ym (HBO9.out.set_ 1 _),ym (HAP.out.under (by omega) 1 _)⟩
    case measure=>simp [intOf];omega
   ·have hk1:(x.kind==1)=true:=by simpa using hv
    have HV:=ym hv
    clear hv
    have HBB4:=ym (HBB2.out.later HWR4.out)
    have k_t:=HBT4.out.cell
    have l_t:=HBT4.out.lt
    have k_b:=HBB4.out.cell
    have l_b:=HBB4.out.lt
    go_wp2_with fail
    refine (wJ (d:=d) (cn:=cn) (ct:=ct) (HN.out.keep (HB2.out.trans (HWR4.out.mono HB2.out.size)) hB) (HT.out.keep (HB2.out.trans (HWR4.out.mono HB2.out.size)) hB) (by omega)).mono ?_
    rintro e w5 ⟨⟨Au,cu,rfl,htm⟩,hb5⟩
    have HTM:=ym htm
    have HBT5:=ym (HBT4.out.later hb5)
    have HBO5:=ym (HBO4.out.later hb5)
    have HST5:=ym (HST4.out.later hb5)
    have HWR5:Hid (Below w2.heap.size w2 w5):=ym (HWR4.out.trans (hb5.mono (by omega)))
    have HBR5:=ym (HBR2.out.later HWR5.out)
    have hsz5:=hb5.size
    clear k_t l_t k_b l_b htm hb5
    have HLK:Hid (mZ b x=cT b (bs x.s)):=ym (by unfold mZ;rw [if_pos HV.out])
    rw [if_pos H2.out] at HTM ⊢
    rcases hl:cT b (bs x.s) with _ | u
    ·have HNO:Hid (gE p b=none):=ym (HNON.out (mj HXI.out (HLK.out.trans hl)))
     simp only [Option.getD_none,Option.isSome_none]
     have k_t:=HBT5.out.cell
     have l_t:=HBT5.out.lt
     have f_t:=HBT5.out.free
     go_upto_region 10 with fail
     clear k_t l_t f_t
     have HBR6:=ym ((((HBR5.out.far (c:=wr.heap.size) (by omega) 0 (.int .i64 noT.kind)).far (c:=wr.heap.size) (by omega) 1 (.int .i64 noT.n)).far (c:=wr.heap.size) (by omega) 2 (.string noT.s)).far (c:=wr.heap.size) (by omega) 3 (.slice Au noT.l.length cu))
     have HWR6:Hid (Below w2.heap.size w2 ((((w5.setCell ⟨wr.heap.size,0,none⟩ (.int .i64 noT.kind)).setCell ⟨wr.heap.size,1,none⟩ (.int .i64 noT.n)).setCell ⟨wr.heap.size,2,none⟩ (.string noT.s)).setCell ⟨wr.heap.size,3,none⟩ (.slice Au noT.l.length cu))):=ym (cB HWR5.out (by omega) (.int .i64 noT.kind) (.int .i64 noT.n) (.string noT.s) (.slice Au noT.l.length cu))
     have HBw6:Hid (Below w.heap.size w ((((w5.setCell ⟨wr.heap.size,0,none⟩ (.int .i64 noT.kind)).setCell ⟨wr.heap.size,1,none⟩ (.int .i64 noT.n)).setCell ⟨wr.heap.size,2,none⟩ (.string noT.s)).setCell ⟨wr.heap.size,3,none⟩ (.slice Au noT.l.length cu))):=ym (cB (HB2.out.trans (HWR5.out.mono HB2.out.size)) (by omega) (.int .i64 noT.kind) (.int .i64 noT.n) (.string noT.s) (.slice Au noT.l.length cu))
     generalize (((w5.setCell ⟨wr.heap.size,0,none⟩ (.int .i64 noT.kind)).setCell ⟨wr.heap.size,1,none⟩ (.int .i64 noT.n)).setCell ⟨wr.heap.size,2,none⟩ (.string noT.s)).setCell ⟨wr.heap.size,3,none⟩ (.slice Au noT.l.length cu)=w6 at *
     have k_r:=HBR6.out.cell
     have l_r:=HBR6.out.lt
     have f_r:=HBR6.out.free
     go_wp2_with fail
     refine bodyPost_ret (nv rfl rfl (jO HBR6.out (.string ⟨#[]⟩) (.slice none 0 0)) rfl) rfl ?_
     rw [HNO.out]
     exact ry.no (jP HBw6.out (by omega) _ _)
    ·rw [hl] at HTM
     have HFILL:Hid (mZ b p.terms[xs.length]=some u):=ym (by rw [HXE.out];exact HLK.out.trans hl)
     have HUF:Hid (af u=true):=ym (mr HOKN.out.1 hl)
     clear hl
     simp only [Option.getD_some,Option.isSome_some] at HTM ⊢
     obtain ⟨hle,hl16⟩:=aJ HUF.out
     have HLE:=ym hle
     clear hle
     have k_t:=HBT5.out.cell
     have l_t:=HBT5.out.lt
     have f_t:=HBT5.out.free
     go_upto_region 10 with fail
     clear k_t l_t f_t
     have HBR6:=ym ((((HBR5.out.far (c:=wr.heap.size) (by omega) 0 (.int .i64 u.kind)).far (c:=wr.heap.size) (by omega) 1 (.int .i64 u.n)).far (c:=wr.heap.size) (by omega) 2 (.string u.s)).far (c:=wr.heap.size) (by omega) 3 (.slice Au u.l.length cu))
     have HWR6:Hid (Below w2.heap.size w2 ((((w5.setCell ⟨wr.heap.size,0,none⟩ (.int .i64 u.kind)).setCell ⟨wr.heap.size,1,none⟩ (.int .i64 u.n)).setCell ⟨wr.heap.size,2,none⟩ (.string u.s)).setCell ⟨wr.heap.size,3,none⟩ (.slice Au u.l.length cu))):=ym (cB HWR5.out (by omega) (.int .i64 u.kind) (.int .i64 u.n) (.string u.s) (.slice Au u.l.length cu))
     have HBw6:Hid (Below w.heap.size w ((((w5.setCell ⟨wr.heap.size,0,none⟩ (.int .i64 u.kind)).setCell ⟨wr.heap.size,1,none⟩ (.int .i64 u.n)).setCell ⟨wr.heap.size,2,none⟩ (.string u.s)).setCell ⟨wr.heap.size,3,none⟩ (.slice Au u.l.length cu))):=ym (cB (HB2.out.trans (HWR5.out.mono HB2.out.size)) (by omega) (.int .i64 u.kind) (.int .i64 u.n) (.string u.s) (.slice Au u.l.length cu))
     have HBT6:=ym (dq HBT5.out (.int .i64 u.kind) (.int .i64 u.n) (.string u.s) (.slice Au u.l.length cu))
     have HBO6:=ym ((((HBO5.out.far (c:=wr.heap.size) (by omega) 0 (.int .i64 u.kind)).far (c:=wr.heap.size) (by omega) 1 (.int .i64 u.n)).far (c:=wr.heap.size) (by omega) 2 (.string u.s)).far (c:=wr.heap.size) (by omega) 3 (.slice Au u.l.length cu))
     have HST6:Hid (StkQ w3.heap.size d ((((w5.setCell ⟨wr.heap.size,0,none⟩ (.int .i64 u.kind)).setCell ⟨wr.heap.size,1,none⟩ (.int .i64 u.n)).setCell ⟨wr.heap.size,2,none⟩ (.string u.s)).setCell ⟨wr.heap.size,3,none⟩ (.slice Au u.l.length cu)) xs A c):=ym ((HST5.out).far4 (HST.out.low (yo _)) (.int .i64 u.kind) (.int .i64 u.n) (.string u.s) (.slice Au u.l.length cu))
     have HU6:=ym ((HTM.out.put4 (g:=wr.heap.size) (by omega) (.int .i64 u.kind) (.int .i64 u.n) (.string u.s) (.slice Au u.l.length cu)).rtm)
     have hsz6:wr.heap.size≤((((w5.setCell ⟨wr.heap.size,0,none⟩ (.int .i64 u.kind)).setCell ⟨wr.heap.size,1,none⟩ (.int .i64 u.n)).setCell ⟨wr.heap.size,2,none⟩ (.string u.s)).setCell ⟨wr.heap.size,3,none⟩ (.slice Au u.l.length cu)).heap.size:=by simp only [World.size_setCell];omega
     generalize (((w5.setCell ⟨wr.heap.size,0,none⟩ (.int .i64 u.kind)).setCell ⟨wr.heap.size,1,none⟩ (.int .i64 u.n)).setCell ⟨wr.heap.size,2,none⟩ (.string u.s)).setCell ⟨wr.heap.size,3,none⟩ (.slice Au u.l.length cu)=w6 at *
     have k_t:=HBT6.out.cell
     have l_t:=HBT6.out.lt
     go_upto_region 12 with fail
     clear k_t l_t
     have HSL:Hid (∀{w':World},Below w6.heap.size w6 w'→(w'.cell? ⟨w2.heap.size,1,none⟩=some (.slice A xs.length c)∧w'.cell? ⟨wr.heap.size,0,none⟩=some (.int .i64 u.kind)∧w'.cell? ⟨wr.heap.size,1,none⟩=some (.int .i64 u.n)∧w'.cell? ⟨wr.heap.size,2,none⟩=some (.string u.s)∧w'.cell? ⟨wr.heap.size,3,none⟩=some (.slice Au u.l.length cu))):=ym (fun hb=>have h:=(HBT6.out.later hb).cell;⟨(HBO6.out.later hb).cell 1,h 0,h 1,h 2,h 3⟩)
     refine bj (S:=fun w'=>w'.cell? ⟨w2.heap.size,1,none⟩=some (.slice A xs.length c)∧w'.cell? ⟨wr.heap.size,0,none⟩=some (.int .i64 u.kind)∧w'.cell? ⟨wr.heap.size,1,none⟩=some (.int .i64 u.n)∧w'.cell? ⟨wr.heap.size,2,none⟩=some (.string u.s)∧w'.cell? ⟨wr.heap.size,3,none⟩=some (.slice Au u.l.length cu)) 7 (by kernel_rfl) (by kernel_rfl) (by kernel_rfl) (by kernel_rfl) (HSL.out (yq _ _).drew) ?_
     refine av 0 ?_
     refine av 1 ?_
     refine av 2 ?_
     refine aF (rs:=[3]) (by kernel_rfl) rfl (by kernel_rfl) ?_
     refine ay.cons rfl (fun K hK=>?_) ay.nil
     go_simp
     refine (gj (B:=w6.heap.size) (t:=u) (vs:=[_,_,_,_]) (RTm.below (yq _ _).drew (yo _) HU6.out) (yo _) HLE.out hl16).mono ?_
     rintro e w7 ⟨⟨A5,c5,rfl,hown⟩,hb7⟩
     have HOWN:Hid (TmOwn d w6.heap.size w7 u A5 c5):=ym hown
     have HB7:Hid (Below w6.heap.size w6 w7):=ym ((yq w6.heap.size w6).drew.trans hb7)
     have hsz7:=HB7.out.size
     clear hown hb7
     refine hK.out _ _ (HSL.out HB7.out) ?_
     clear hK
     refine aF (rs:=[4]) (by kernel_rfl) rfl (by kernel_rfl) ?_
     refine ay.cons rfl (fun K hK=>?_) ay.nil
     go_simp
     refine hK.out _ _ (HSL.out (HB7.out.alloc hsz7 _)) ?_
     clear hK
     refine aF (rs:=[5]) (by kernel_rfl) rfl (by kernel_rfl) ?_
     refine ay.cons rfl (fun K hK=>?_) ay.nil
     refine cO (R:=SvR) (e:=29) rfl (.tmp 43) (.tmp 46) 24 rfl (bytes:=56) Tryz.underlying24 hi0 hz0 hz1 hz2 rfl (show 0<4 by omega) cj rfl (base:=w3.heap.size) (xs:=xs) (ys:=[⟨u,A5,c5⟩]) (HST6.out.own.later (HB7.out.alloc hsz7 _) (yp _)) rfl (vg (x:=⟨u,A5,c5⟩) xY) rfl (by simp only [yE,List.length_nil];omega) (by omega) (by rw [World.size_alloc];omega) ?_
     intro v wn_ hown hg hf
     obtain ⟨An2,cn2,hv⟩:∃A c,v=.slice A (xs.length+1) c:=by have:=hown.form;rwa [yv,List.length_singleton] at this
     subst hv
     have happ:=(HST6.out.later (HB7.out.alloc hsz7 _)).app (x:=⟨u,A5,c5⟩) (HOWN.out.at_.later ((yq _ _).alloc (yo _) _)) (HST6.out.apart (yo _) fun a ha=>(HOWN.out.blk a ha).1) (fun a ha=>⟨by have:=(HOWN.out.blk a ha).1;omega,by have:=(HOWN.out.blk a ha).2;rw [World.size_alloc];omega⟩) (by rw [World.size_alloc];omega) hown hg hf
     have HQB:=ym (((HBT6.out.later (HB7.out.alloc hsz7 _)).grown hg (HST.out.own.own_lt (yo _)).symm).cell)
     have HBO9:=ym ((HBO6.out.later (HB7.out.alloc hsz7 _)).grown hg (HST.out.own_ge (by omega)).symm)
     have f_o:=HBO9.out.free
     have k_o9:=HBO9.out.cell
     have HAP:=ym happ.1
     have HWR9:Hid (Below w2.heap.size w2 wn_):=ym (HWR6.out.trans (((HB7.out.alloc hsz7 _).mono (by omega)).trans (happ.2.mono (by omega))))
     clear hown hg hf happ
     refine hK.out _ _ (⟨HBO9.out.cell 1,HQB.out 0,HQB.out 1,HQB.out 2,HQB.out 3⟩) ?_
     clear hK
     refine av 6 ?_
     refine dZ (by kernel_rfl) (by kernel_rfl) rfl (fun K hK=>?_)
     go_simp
     refine hK.out _ _ ?_
     go_wp2_with fail
     go_roundw
     case rel=>exact ⟨xs.length+1,xs++[⟨u,A5,c5⟩],An2,cn2,by omega,by go_num,by rw [yv,List.length_singleton],ym (by rw [List.map_append,List.map_singleton,←List.take_append_getElem hlt];exact iV HXT.out HFILL.out),ym (HWR9.out.setCell (p:=⟨w2.heap.size,1,none⟩) (yo _) _),ym (HBO9.out.set_ 1 _),ym (HAP.out.under (by omega) 1 _)⟩
     case measure=>simp [intOf];omega
  ·have HXL:Hid (xs.length=p.terms.length):=ym (by omega)
   have HRS:Hid (gE p b=some ⟨p.name,xs.map SV.t⟩):=ym (HYES.out _ (by have:=HXT.out;rw [HXL.out,List.take_length] at this;exact this))
   have hlm:(xs.map SV.t).length=xs.length:=yw _
   have HBRr:=ym (HBR2.out.later HWR.out)
   have k_o:=HBO.out.cell
   have k_r:=HBRr.out.cell
   have f_r:=HBRr.out.free
   have l_r:=HBRr.out.lt
   go_wp2_with fail
   refine bodyPost_ret (nv rfl rfl (jO HBRr.out (.string p.name) (.slice A xs.length c)) rfl) rfl ?_
   rw [HRS.out]
   exact ⟨⟨A,c,xs,by simp,rfl,((HST.out.under (by omega) 0 _).under (by omega) 1 _).lower (by omega)⟩,jP HBw.out (by omega) _ _⟩
section
variable {P:Program} {md:Region.Mode} {ops:Array Oper} {Q:Exit→Act→World→Prop} {n:Nat}
def ij (md:Region.Mode) (o:Oper):List Nat:=(o.after.toList.filter (Region.binds md)).map (·.on)
def ik (ops:Array Oper) (i:Nat):Option Tmp:=(ops[i]?).bind (·.dst)
def oU (md:Region.Mode) (ops:Array Oper):Bool:=(List.range ops.size).all fun i=>match ops[i]? with
 | none=>false
 | some o=>(ij md o).all (fun j=>decide (j<i))&&match o.dst with
   | none=>true
   | some t=>(List.range ops.size).all fun j=>decide (i=j)||ik ops j !=some t
def cD (ops:Array Oper) (post:Nat→Value→World→Prop) (T:Array Value) (w:World) (j:Nat):Prop:=match ik ops j with
 | none=>True
 | some t=>post j (T.getD t undef) w
theorem sE (hB:oU md ops=true) {l:Array Bool} (hl:l.size=ops.size):∀(i:Nat),i<ops.size→l.getD i true=false→Region.ready md ops l≠[]:=by
 intro i
 induction i using Nat.strongRecOn with
 | _ i ih=>
   intro hi hun h0
   obtain ⟨o,ho⟩:∃o,ops[i]? = some o:=⟨_,Array.getElem?_eq_getElem hi⟩
   have hB':=List.all_eq_true.1 hB i (List.mem_range.2 hi)
   simp only [ho,yx] at hB'
   have hni:i∉Region.ready md ops l:=by rw [h0];simp
   apply hni
   refine mem_ready.2 ⟨hun,o,ho,fun e he hb=>?_⟩
   have hlt:e.on<i:=by
    have:=List.all_eq_true.1 hB'.1 e.on (List.mem_map.2 ⟨e,List.mem_filter.2 ⟨Array.mem_toList_iff.2 he,hb⟩,rfl⟩)
    exact of_decide_eq_true this
   cases hd:l.getD e.on false with
   | true=>rfl
   | false=>exact absurd h0 (ih e.on hlt (by omega) (getD_in (by omega) hd))
theorem qT {T:Array Value} {t u:Nat} {v:Value} (h:t≠u):(T.setIfInBounds t v).getD u undef=T.getD u undef:=by
 simp [Array.getElem?_setIfInBounds_ne h]
theorem put_own {T:Array Value} {t:Nat} {v:Value} (h:t<T.size):(T.setIfInBounds t v).getD t undef=v:=by simp [h]
theorem dp {X:Nat→Prop}:∀i<0,X i:=fun i h=>absurd h (Nat.not_lt_zero i)
theorem aa {X:Nat→Prop} {n:Nat} (h:∀i<n,X i) (hn:X n):∀i<n+1,X i:=fun i hi=>by
 obtain h1 | rfl:=Nat.lt_succ_iff_lt_or_eq.1 hi
 ·exact h i h1
 ·exact hn
theorem eq {T:Array Value} {n:Nat} (h:T.size=n):T=((List.range n).map fun t=>T.getD t undef).toArray:=by
 subst h
 apply Array.ext
 ·simp
 ·intro i h1 h2
  simp [h1]
end
end Go.Proofs.YtjpndglegpcdnaaGreat
