/- rule: MayQuery, May. -/
import Derived.Test.YtdphibjibnffeaaGreatMapF
import Derived.Test.YtdphibjibnffeaaGreatMeet
set_option linter.unusedVariables false
set_option linter.unusedSimpArgs false
set_option maxRecDepth 100000
set_option maxHeartbeats 8000000
namespace Go.Proofs.YtdphibjibnffeaaGreat
open Go.ChangeShapes Go.WideShapes Go.ChangeAt Go.RowKit
theorem rG (e:List OpD):(fc e).length≤32:=by
 unfold fc
 split
 ·rename_i h
  unfold aM at h
  simp only [Bool.and_eq_true,decide_eq_true_eq] at h
  exact Nat.le_trans (ek _) (Nat.le_trans (gJ e) h.1)
 ·simp
def xd (e:List OpD):Prop:=∀o∈e,o.term.s.size≤140737488351232
theorem nJ {e:List OpD} (h:xd e):∀l∈fc e,l.length≤140737488351232:=by
 intro l hl
 unfold fc at hl
 split at hl
 ·rw [nG] at hl
  unfold bR at hl
  simp only [List.mem_map,List.mem_filter] at hl
  obtain ⟨o,⟨ho,_⟩,rfl⟩:=hl
  rw [gV]
  exact h o ho
 ·simp at hl
theorem ExR.small {d B:Nat} {e:List OpD} {vs:List Value} {w:World} (he:(ExR d).rd w B e vs):xd e:=by
 obtain ⟨_,_,A,c,_,_,_,hl⟩:=he
 intro o ho
 obtain ⟨i,hi,rfl⟩:=List.getElem_of_mem ho
 obtain ⟨b,off,rfl,hb,hc⟩:=hl (by omega)
 obtain ⟨vs,_,⟨x,hx,hr⟩,_⟩:=hc i hi
 obtain ⟨ts,_,_,_,_,ht⟩:=hr
 obtain ⟨_,_,_,_,_,hs,_⟩:=RTm.cells ht
 rw [List.getElem?_eq_getElem hi] at hx
 simp only [Option.some.injEq] at hx
 rw [hx];exact hs
theorem oK (d:Nat) (L:List aY) (A:Option Addr) (c B G:Nat) (w:World) (hl:RL cR w B (L.map mkS) A) (hB:B≤w.heap.size) (hn:L.length≤1000000) (hs:L.Pairwise (· < ·))
 (hG:w.cell? ⟨G,0,none⟩=some (.slice A L.length c)) :
 bQ Tryz.prog (ExR d) cN B w 163 #[.pointer (some ⟨G,0,none⟩)] (fun e=>!kA (fc e) L):=by
 intro e vs w1 hb hr
 have hr0:=hr
 have hsm:=ExR.small hr
 obtain ⟨v,rfl,h3⟩:=hr
 obtain ⟨A1,c1,rfl,_⟩:=h3
 have hGl:G<w.heap.size:=block_lt_of_cell hG
 have hG1:w1.cell? ⟨G,0,none⟩=some (.slice A L.length c):=(hb.cell (p:=⟨G,0,none⟩) hGl).trans hG
 have hGl1:G<w1.heap.size:=by have:=hb.size;omega
 have HL:=Lib.hid (hl.keep hb hB)
 have HR:=Lib.hid hr0
 have HSM:=Lib.hid (nJ hsm)
 have hNL:=rG e
 have HS:=Lib.hid hs
 have HB:=Lib.hid (fun o:Obj=>(Below.refl w1.heap.size w1).alloc (Nat.le_refl _) o)
 have hB1:B≤w1.heap.size:=by have:=hb.size;omega
 clear hl hG hb hs hr0
 show Calls Tryz.prog 163 #[.agg #[.slice A1 e.length c1],.pointer (some ⟨G,0,none⟩)] w1 _
 go_enter Tryz.func163,Tryz.ntmps163
 go_wp2_with fail
 have HW:=Lib.hid (HB.out (.cells #[.slice A1 e.length c1] 59))
 have x0:(w1.alloc (.cells #[.slice A1 e.length c1] 59)).cell? ⟨w1.heap.size,0,none⟩=some (.slice A1 e.length c1):=by go_simp
 have x1:(w1.alloc (.cells #[.slice A1 e.length c1] 59)).cell? ⟨G,0,none⟩=some (.slice A L.length c):=by go_simp
 generalize (w1.alloc (.cells #[.slice A1 e.length c1] 59))=W at *
 have q0:=cell_regrown x0
 have q1:=cell_regrown x1
 refine cJ (ee W) (by kernel_rfl) (by kernel_rfl) (ee.drew W) ?_
 repeat (refine aT rfl rfl (fun K hK=>?_);unfold ee;go_big_quiet_op;refine hK _ ?_;clear hK K)
 refine ci rfl rfl (fun K hK=>?_)
 go_wp2_with fail
 refine (ml (d:=d) (B:=B) (e:=e) (vs:=[_]) ((ExR d).keep HW.out.drew hB1 HR.out) (Nat.le_trans hB1 HW.out.size)).mono ?_
 rintro x w2 ⟨v2,rfl,hown,hb2⟩
 obtain ⟨A2,c2,rfl,hc2,hrl⟩:=hown.reads HSM.out (by omega)
 have HB2:=Lib.hid (HW.out.trans ((Below.refl _ W).drew.trans (hb2.mono (Nat.le_refl _)) |>.mono HW.out.size))
 have HC:=Lib.hid (ee.of ((Below.refl W.heap.size W).drew.trans (hb2.mono (Nat.le_refl _))))
 have HRL:=Lib.hid hrl
 clear hown hb2 hrl
 go_wp2_with fail
 refine ⟨HC.out,?_⟩
 repeat (refine aT rfl rfl (fun K hK=>?_);unfold ee;go_big_quiet_op;refine hK _ ?_;clear hK K)
 refine ci rfl rfl (fun K hK=>?_)
 go_wp2_with fail
 refine (nB (fc e) L A2 A c2 c w2.heap.size w2 HRL.out ((HL.out.keep HB2.out hB1).wide (Nat.le_trans hB1 HB2.out.size)) (Nat.le_refl _) (by omega) hn HS.out).mono ?_
 rintro x w3 ⟨rfl,hb3⟩
 have HC3:=Lib.hid (ee.of (HC.out.below.trans (hb3.mono HC.out.below.size)))
 have HB3:=Lib.hid (HB2.out.trans (hb3.mono HB2.out.size))
 clear hb3
 go_wp2_with fail
 refine ⟨HC3.out,?_⟩
 repeat (refine aT rfl rfl (fun K hK=>?_);unfold ee;go_big_quiet_op;refine hK _ ?_;clear hK K)
 refine kE (fun _=>?_)
 go_wp2_with fail
 go_ret
 exact ⟨rfl,HB3.out⟩
theorem iy {d B:Nat} {w:World} (hB:B≤w.heap.size):bQ Tryz.prog (PrR d) cN B w 66 #[] aN:=fun x vs w1 hb hr=>by
 obtain ⟨v,rfl,_⟩:=id hr
 exact dL (d:=d) (B:=B) (vs:=[_,_]) hr (by have:=hb.size;omega)
theorem iw {d B:Nat} {w:World} (hB:B≤w.heap.size):bQ Tryz.prog (ExR d) cN B w 159 #[] aM:=fun x vs w1 hb hr=>by
 obtain ⟨v,rfl,_⟩:=id hr
 exact cX (d:=d) (B:=B) (vs:=[_]) hr (by have:=hb.size;omega)
theorem gy {B:Nat} {w:World}:bQ Tryz.prog ScR cN B w 161 #[] cE:=fun x vs w1 hb hr=>by
 obtain ⟨rfl,_⟩:=id hr
 exact nE (B:=B) (vs:=[_,_]) hr
def nK (ps:List Pr):List aY:=eJ (aB ps)
def gi (r:Ru):Bool:=(decide (r.body.length≤4)&&r.body.all aN)&&(decide (r.exprs.length≤4)&&r.exprs.all aM)&&(decide (r.scopes.length≤4)&&r.scopes.all cE)&&r.exprs.all (fun e=>kA (fc e) (nK r.body))
theorem vg {r:Ru} (t1:(decide ((r.body.length:Int)≤4)&&r.body.all aN)=true) (t2:(decide ((r.exprs.length:Int)≤4)&&r.exprs.all aM)=true)
 (t3:(decide ((r.scopes.length:Int)≤4)&&r.scopes.all cE)=true):gi r = !r.exprs.any (fun e=>!kA (fc e) (eJ (aB r.body))):=by
 unfold gi nK
 simp only [jE] at t1 t2 t3
 rw [t1,t2,t3,Bool.true_and,Bool.true_and,Bool.true_and,List.not_any_eq_all_not]
 simp only [Bool.not_not]
theorem qT {r:Ru} (t1:(decide ((r.body.length:Int)≤4)&&r.body.all aN)=false):gi r=false:=by
 unfold gi;simp only [jE] at t1;rw [t1];simp only [Bool.false_and]
theorem qU {r:Ru} (t2:(decide ((r.exprs.length:Int)≤4)&&r.exprs.all aM)=false):gi r=false:=by
 unfold gi;simp only [jE] at t2;rw [t2];simp only [Bool.false_and,Bool.and_false]
theorem qV {r:Ru} (t3:(decide ((r.scopes.length:Int)≤4)&&r.scopes.all cE)=false):gi r=false:=by
 unfold gi;simp only [jE] at t3;rw [t3];simp only [Bool.false_and,Bool.and_false]
theorem eU:∀(ps:List Pr),(∀p∈ps,p.terms.length≤8)→(aB ps).length≤8*ps.length
 | [],_=>by simp [aB]
 | p::ps,h=>by
   have h1:=eU ps (fun q hq=>h q (by simp [hq]))
   have h2:=h p (by simp)
   have h3:(ch p.terms).length≤p.terms.length:=by unfold ch;rw [List.length_map];exact List.length_filter_le _ _
   have:aB (p::ps)=ch p.terms++aB ps:=by simp [aB]
   rw [this,List.length_append,List.length_cons]
   omega
theorem fF {p:Pr} (h:aN p=true):p.terms.length≤8:=by
 unfold aN at h
 simp only [Bool.and_eq_true,decide_eq_true_eq] at h
 exact h.2.1
def smallP (ps:List Pr):Prop:=∀p∈ps,∀t∈p.terms,t.s.size≤140737488351232
theorem RSl.smallT {d B:Nat} {ts:List Tm} {v:Value} {w:World} (h:RSl (TmR d) w B ts v):∀t∈ts,t.s.size≤140737488351232:=by
 obtain ⟨A,c,_,_,_,hl⟩:=h
 intro t ht
 obtain ⟨i,hi,rfl⟩:=List.getElem_of_mem ht
 obtain ⟨b,off,rfl,hb,hc⟩:=hl (by omega)
 obtain ⟨vs,_,⟨x,hx,hr⟩,_⟩:=hc i hi
 obtain ⟨_,_,_,_,_,hs,_⟩:=RTm.cells hr
 rw [List.getElem?_eq_getElem hi] at hx
 simp only [Option.some.injEq] at hx
 rw [hx];exact hs
theorem RL.smallP {d B:Nat} {ps:List Pr} {A:Option Addr} {w:World} (h:RL (PrR d) w B ps A):smallP ps:=by
 intro p hp
 obtain ⟨i,hi,rfl⟩:=List.getElem_of_mem hp
 obtain ⟨b,off,rfl,hb,hc⟩:=h (by omega)
 obtain ⟨vs,_,⟨x,hx,hr⟩,_⟩:=hc i hi
 obtain ⟨_,_,_,ht⟩:=hr
 rw [List.getElem?_eq_getElem hi] at hx
 simp only [Option.some.injEq] at hx
 rw [hx];exact RSl.smallT ht
theorem fH {ps:List Pr} (h:smallP ps):∀l∈nK ps,l.length≤140737488351232:=by
 intro l hl
 unfold nK at hl
 rw [nG] at hl
 unfold aB ch at hl
 simp only [List.mem_flatMap,List.mem_map,List.mem_filter] at hl
 obtain ⟨p,hp,t,⟨ht,_⟩,rfl⟩:=hl
 rw [gV]
 exact h p hp t ht
theorem me {d B:Nat} {r:Ru} {vs:List Value} {w:World} (hr:(RuR d).rd w B r vs) (hB:B≤w.heap.size) :
 Calls Tryz.prog 111 #[.agg vs.toArray] w fun x w'=>x=.returned (.bool (gi r))∧Below w.heap.size w w':=by
 obtain ⟨_,_,_,_,rfl,hs,⟨A0,c0,rfl,h01,h02,hl0⟩,⟨A1,c1,rfl,h11,h12,hl1⟩,⟨A2,c2,rfl,h21,h22,hl2⟩,⟨A3,c3,rfl,h31,h32,hl3⟩⟩:=hr
 simp only [PrR,ExR,ScR] at h12 h22 h32
 have HB:=Lib.hid (fun o:Obj=>(Below.refl w.heap.size w).alloc (Nat.le_refl _) o)
 have HL1:=Lib.hid hl1
 have HL2:=Lib.hid hl2
 have HL3:=Lib.hid hl3
 have HSM:=Lib.hid (fH (RL.smallP hl1))
 clear hl0 hl1 hl2 hl3
 by_cases t1:(decide ((r.body.length:Int)≤4)&&r.body.all aN)=true
 ·go_enter Tryz.func111,Tryz.ntmps111
  go_wp2_with fail
  refine (kl d 66 aN 4 r.body A1 c1 B _ (ent Tryz.func66 (by kernel_rfl) rfl) (HL1.out.keep (HB.out _) hB) (Nat.le_trans hB (HB.out _).size) (by omega) (iy (Nat.le_trans hB (HB.out _).size))).mono ?_
  rintro x w1 ⟨rfl,hb1⟩
  have hc1:=iE hb1
  have hz1:w.heap.size<w1.heap.size:=(by have:=hb1.size;simp at this;omega)
  have HB1:=Lib.hid ((HB.out _).trans (hb1.mono (HB.out _).size))
  clear hb1
  by_cases t2:(decide ((r.exprs.length:Int)≤4)&&r.exprs.all aM)=true
  ·go_wp2_with fail
   refine (ki d 159 aM 4 r.exprs A2 c2 B _ (ent Tryz.func159 (by kernel_rfl) rfl) (HL2.out.keep HB1.out hB) (Nat.le_trans hB HB1.out.size) (by omega) (iw (Nat.le_trans hB HB1.out.size))).mono ?_
   rintro x w2 ⟨rfl,hb2⟩
   have hc2:=iE hb2
   have hz2:w.heap.size<w2.heap.size:=(by have:=hb2.size;omega)
   have HB2:=Lib.hid (HB1.out.trans (hb2.mono HB1.out.size))
   clear hb2
   by_cases t3:(decide ((r.scopes.length:Int)≤4)&&r.scopes.all cE)=true
   ·go_wp2_with fail
    refine (jj 161 cE 4 r.scopes A3 c3 B _ (ent Tryz.func161 (by kernel_rfl) rfl) (HL3.out.keep HB2.out hB) (Nat.le_trans hB HB2.out.size) (by omega) gy).mono ?_
    rintro x w3 ⟨rfl,hb3⟩
    have hc3:=iE hb3
    have hz3:w.heap.size<w3.heap.size:=(by have:=hb3.size;omega)
    have HB3:=Lib.hid (HB2.out.trans (hb3.mono HB2.out.size))
    clear hb3
    have hcount:(aB r.body).length≤32:=by
     simp only [Bool.and_eq_true,decide_eq_true_eq,List.all_eq_true] at t1
     have:=eU r.body (fun p hp=>fF (t1.2 p hp))
     omega
    have hlen:(nK r.body).length≤32:=Nat.le_trans (ek _) hcount
    go_wp2_with fail
    refine (kI d r.body A1 c1 B _ (HL1.out.keep HB3.out hB) (Nat.le_trans hB HB3.out.size) (by omega) (by omega)).mono ?_
    rintro x w4 ⟨v4,rfl,hown,hb4⟩
    obtain ⟨A4,c4,rfl,hc4,hrl⟩:=hown.reads HSM.out (by exact Nat.le_trans hlen (by omega))
    have hc4':=iE hb4
    have hz4:w.heap.size<w4.heap.size:=(by have:=hb4.size;omega)
    have HB4:=Lib.hid (HB3.out.trans (hb4.mono HB3.out.size))
    have HRL:=Lib.hid hrl
    clear hown hb4 hrl
    go_wp2_with fail
    have HW:=Lib.hid (HB4.out.trans ((Below.refl w4.heap.size w4).alloc (Nat.le_refl _) (.cells #[.slice A4 (eJ (aB r.body)).length c4] 44) |>.mono HB4.out.size))
    have x0:(w4.alloc (.cells #[.slice A4 (eJ (aB r.body)).length c4] 44)).cell? ⟨w4.heap.size,0,none⟩=some (.slice A4 (eJ (aB r.body)).length c4):=by go_simp
    have hsz:=((Below.refl w4.heap.size w4).alloc (Nat.le_refl _) (.cells #[.slice A4 (eJ (aB r.body)).length c4] 44)).size
    have HRL':=Lib.hid (((HRL.out.keep ((Below.refl w4.heap.size w4).alloc (Nat.le_refl _) (.cells #[.slice A4 (eJ (aB r.body)).length c4] 44)) (Nat.le_refl _))))
    refine (dz d 163 #[.pointer (some ⟨w4.heap.size,0,none⟩)] (fun e=>!kA (fc e) (eJ (aB r.body))) r.exprs A2 c2 _ _ (ent Tryz.func163 (by kernel_rfl) rfl) ((HL2.out.keep HW.out hB).wide (Nat.le_trans hB HW.out.size)) (Nat.le_refl _) (by omega) (oK d (eJ (aB r.body)) A4 c4 _ _ _ (HRL'.out.wide hsz) (Nat.le_refl _) (by exact Nat.le_trans hlen (by omega)) (jq _) x0)).mono ?_
    rintro x w5 ⟨rfl,hb5⟩
    have HB5:=Lib.hid (HW.out.trans (hb5.mono HW.out.size))
    clear hb5
    go_wp2_with fail
    go_ret
    refine ⟨?_,HB5.out⟩
    rw [vg t1 t2 t3]
    rfl
   ·simp only [Bool.not_eq_true] at t3
    go_wp2_with fail
    refine (jj 161 cE 4 r.scopes A3 c3 B _ (ent Tryz.func161 (by kernel_rfl) rfl) (HL3.out.keep HB2.out hB) (Nat.le_trans hB HB2.out.size) (by omega) gy).mono ?_
    rintro x w3 ⟨rfl,hb3⟩
    have HB3:=Lib.hid (HB2.out.trans (hb3.mono HB2.out.size))
    clear hb3
    go_wp2_with fail
    go_ret
    refine ⟨?_,HB3.out⟩
    rw [qV t3]
    rfl
  ·simp only [Bool.not_eq_true] at t2
   go_wp2_with fail
   refine (ki d 159 aM 4 r.exprs A2 c2 B _ (ent Tryz.func159 (by kernel_rfl) rfl) (HL2.out.keep HB1.out hB) (Nat.le_trans hB HB1.out.size) (by omega) (iw (Nat.le_trans hB HB1.out.size))).mono ?_
   rintro x w2 ⟨rfl,hb2⟩
   have HB2:=Lib.hid (HB1.out.trans (hb2.mono HB1.out.size))
   clear hb2
   go_wp2_with fail
   go_ret
   refine ⟨?_,HB2.out⟩
   rw [qU t2]
   rfl
 ·simp only [Bool.not_eq_true] at t1
  go_enter Tryz.func111,Tryz.ntmps111
  go_wp2_with fail
  refine (kl d 66 aN 4 r.body A1 c1 B _ (ent Tryz.func66 (by kernel_rfl) rfl) (HL1.out.keep (HB.out _) hB) (Nat.le_trans hB (HB.out _).size) (by omega) (iy (Nat.le_trans hB (HB.out _).size))).mono ?_
  rintro x w1 ⟨rfl,hb1⟩
  have HB1:=Lib.hid ((HB.out _).trans (hb1.mono (HB.out _).size))
  clear hb1
  go_wp2_with fail
  go_ret
  refine ⟨?_,HB1.out⟩
  rw [qT t1]
  rfl
def aS (r:Ru):Bool:=r.head.name.toList.isEmpty&&decide (r.head.terms.length=0)&&decide (1≤r.body.length+r.exprs.length)&&gi r
def bl (r:Ru):Bool:=aN r.head&&decide (1≤r.body.length)&&gi r&&kA (eJ (aB [r.head])) (eJ (aB r.body))
theorem kF {P:Program} {ops:Array Oper} {C:World→Prop} {Qf:Act→World→Prop} {o:Oper} {rest:List Oper} {a a':Act} {w:World} (hw:Region.wanted o (yielded ops a.tmps)=false) (ha:a.put o.dst undef=a') (h:gp P ops C Qf rest a' w):gp P ops C Qf (o::rest) a w:=
 vN hw (ha▸h)
theorem oJ {r:Ru} (h:gi r=true):(aB r.body).length≤32:=by
 unfold gi at h
 simp only [Bool.and_eq_true,decide_eq_true_eq,List.all_eq_true] at h
 obtain ⟨⟨⟨⟨h1,h2⟩,_⟩,_⟩,_⟩:=h
 have:=eU r.body (fun p hp=>fF (h2 p hp))
 omega
theorem nD {d B:Nat} {r:Ru} {vs:List Value} {w:World} (hr:(RuR d).rd w B r vs) (hB:B≤w.heap.size) :
 Calls Tryz.prog 54 #[.agg vs.toArray] w fun x w'=>x=.returned (.bool (aS r))∧Below w.heap.size w w':=by
 have HR:=Lib.hid hr
 obtain ⟨_,_,_,_,rfl,hs,⟨A0,c0,rfl,h01,h02,hl0⟩,⟨A1,c1,rfl,h11,h12,hl1⟩,⟨A2,c2,rfl,h21,h22,hl2⟩,⟨A3,c3,rfl,h31,h32,hl3⟩⟩:=hr
 simp only [PrR,ExR,ScR,TmR] at h02 h12 h22 h32
 have HB:=Lib.hid (fun o:Obj=>(Below.refl w.heap.size w).alloc (Nat.le_refl _) o)
 clear hl0 hl1 hl2 hl3
 by_cases t1:r.head.name.toList.isEmpty=true
 ·by_cases t2:r.head.terms.length=0
  ·by_cases t3:1≤r.body.length+r.exprs.length
   ·have u2:((r.head.terms.length:Int)==0)=true:=by simp [t2]
    have T2:=Lib.hid t2
    clear t2
    have u3:((r.body.length:Int)+(r.exprs.length:Int)≥1):=by omega
    go_enter Tryz.func54,Tryz.ntmps54
    go_wp2_with fail
    refine (me (d:=d) (B:=B) (r:=r) (vs:=[_,_,_,_,_]) ((RuR d).keep (HB.out _) hB HR.out) (Nat.le_trans hB (HB.out _).size)).mono ?_
    rintro x w1 ⟨rfl,hb1⟩
    have HB1:=Lib.hid ((HB.out _).trans (hb1.mono (HB.out _).size))
    clear hb1
    go_wp2_with fail
    go_ret
    exact ⟨ae (by simp [aS,t1,T2.out,t3]),HB1.out⟩
   ·have u2:((r.head.terms.length:Int)==0)=true:=by simp [t2]
    have T2:=Lib.hid t2
    clear t2
    have u3:¬((r.body.length:Int)+(r.exprs.length:Int)≥1):=by omega
    go_enter Tryz.func54,Tryz.ntmps54
    go_wp2_with fail
    go_ret
    exact ⟨ae (by simp [aS,t3]),HB.out _⟩
  ·have u2:((r.head.terms.length:Int)==0)=false:=by simp [t2]
   go_enter Tryz.func54,Tryz.ntmps54
   go_wp2_with fail
   go_ret
   exact ⟨ae (by simp [aS,t2]),HB.out _⟩
 ·simp only [Bool.not_eq_true] at t1
  go_enter Tryz.func54,Tryz.ntmps54
  go_wp2_with fail
  go_ret
  exact ⟨ae (by simp [aS,t1]),HB.out _⟩
theorem pp {d B:Nat} {r:Ru} {vs:List Value} {w:World} (hr:(RuR d).rd w B r vs) (hB:B≤w.heap.size) :
 Calls Tryz.prog 53 #[.agg vs.toArray] w fun x w'=>x=.returned (.bool (bl r))∧Below w.heap.size w w':=by
 have HR:=Lib.hid hr
 obtain ⟨_,_,_,_,rfl,hs,⟨A0,c0,rfl,h01,h02,hl0⟩,⟨A1,c1,rfl,h11,h12,hl1⟩,⟨A2,c2,rfl,h21,h22,hl2⟩,⟨A3,c3,rfl,h31,h32,hl3⟩⟩:=hr
 simp only [PrR,ExR,ScR,TmR] at h02 h12 h22 h32
 have HB:=Lib.hid (fun o:Obj=>(Below.refl w.heap.size w).alloc (Nat.le_refl _) o)
 have HP:=Lib.hid (show (PrR d).rd w B r.head [.string r.head.name,.slice A0 r.head.terms.length c0] from ⟨_,rfl,hs,_,_,rfl,h01,h02,hl0⟩)
 have HL1:=Lib.hid hl1
 clear hl0 hl1 hl2 hl3
 have e1:((r.body.length:Int)≥1)↔(1≤r.body.length):=by omega
 by_cases t1:aN r.head=true
 ·by_cases t2:1≤r.body.length
  ·by_cases t3:gi r=true
   ·have u2:((r.body.length:Int)≥1):=by omega
    go_enter Tryz.func53,Tryz.ntmps53
    go_wp2_with fail
    have HW:=Lib.hid (HB.out (.cells #[.string r.head.name,.slice A0 r.head.terms.length c0,.slice A1 r.body.length c1,.slice A2 r.exprs.length c2,.slice A3 r.scopes.length c3] 30))
    have x0:(w.alloc (.cells #[.string r.head.name,.slice A0 r.head.terms.length c0,.slice A1 r.body.length c1,.slice A2 r.exprs.length c2,.slice A3 r.scopes.length c3] 30)).cell? ⟨w.heap.size,0,none⟩=some (.string r.head.name):=by go_simp
    have x1:(w.alloc (.cells #[.string r.head.name,.slice A0 r.head.terms.length c0,.slice A1 r.body.length c1,.slice A2 r.exprs.length c2,.slice A3 r.scopes.length c3] 30)).cell? ⟨w.heap.size,1,none⟩=some (.slice A0 r.head.terms.length c0):=by go_simp
    have x2:(w.alloc (.cells #[.string r.head.name,.slice A0 r.head.terms.length c0,.slice A1 r.body.length c1,.slice A2 r.exprs.length c2,.slice A3 r.scopes.length c3] 30)).cell? ⟨w.heap.size,2,none⟩=some (.slice A1 r.body.length c1):=by go_simp
    have x3:(w.alloc (.cells #[.string r.head.name,.slice A0 r.head.terms.length c0,.slice A1 r.body.length c1,.slice A2 r.exprs.length c2,.slice A3 r.scopes.length c3] 30)).cell? ⟨w.heap.size,3,none⟩=some (.slice A2 r.exprs.length c2):=by go_simp
    have x4:(w.alloc (.cells #[.string r.head.name,.slice A0 r.head.terms.length c0,.slice A1 r.body.length c1,.slice A2 r.exprs.length c2,.slice A3 r.scopes.length c3] 30)).cell? ⟨w.heap.size,4,none⟩=some (.slice A3 r.scopes.length c3):=by go_simp
    generalize (w.alloc (.cells #[.string r.head.name,.slice A0 r.head.terms.length c0,.slice A1 r.body.length c1,.slice A2 r.exprs.length c2,.slice A3 r.scopes.length c3] 30))=W at *
    have q0:=cell_regrown x0
    have q1:=cell_regrown x1
    have q2:=cell_regrown x2
    have q3:=cell_regrown x3
    have q4:=cell_regrown x4
    refine cJ (ee W) (by kernel_rfl) (by kernel_rfl) (ee.drew W) ?_
    repeat (refine aT rfl rfl (fun K hK=>?_);unfold ee;go_big_quiet_op;refine hK _ ?_;clear hK K)
    refine ci rfl rfl (fun K hK=>?_)
    go_wp2_with fail
    refine (dL (d:=d) (B:=B) (vs:=[_,_]) ((PrR d).keep HW.out.drew hB HP.out) (Nat.le_trans hB HW.out.size)).mono ?_
    rintro x w1 ⟨rfl,hb1⟩
    have HB1:=Lib.hid (HW.out.trans ((Below.refl _ W).drew.trans (hb1.mono (Nat.le_refl _)) |>.mono HW.out.size))
    have HC:=Lib.hid (ee.of ((Below.refl W.heap.size W).drew.trans (hb1.mono (Nat.le_refl _))))
    clear hb1
    rw [t1]
    go_wp2_with fail
    refine ⟨HC.out,?_⟩
    repeat (refine aT rfl rfl (fun K hK=>?_);unfold ee;go_big_quiet_op;refine hK _ ?_;clear hK K)
    refine ci rfl rfl (fun K hK=>?_)
    go_wp2_with fail
    refine (me (d:=d) (B:=B) (r:=r) (vs:=[_,_,_,_,_]) ((RuR d).keep HB1.out hB HR.out) (Nat.le_trans hB HB1.out.size)).mono ?_
    rintro x w2 ⟨rfl,hb2⟩
    have HB2:=Lib.hid (HB1.out.trans (hb2.mono HB1.out.size))
    have HC2:=Lib.hid (ee.of (HC.out.below.trans (hb2.mono HC.out.below.size)))
    clear hb2
    rw [t3]
    go_wp2_with fail
    refine ⟨HC2.out,?_⟩
    repeat (refine aT rfl rfl (fun K hK=>?_);unfold ee;go_big_quiet_op;refine hK _ ?_;clear hK K)
    refine ci rfl rfl (fun K hK=>?_)
    go_wp2_with fail
    have HW3:=Lib.hid (HB2.out.trans ((Below.refl w2.heap.size w2).alloc (Nat.le_refl _) (.cells #[.string r.head.name,.slice A0 r.head.terms.length c0] 25) |>.mono HB2.out.size))
    have HC3:=Lib.hid (ee.of (HC2.out.below.trans ((Below.refl w2.heap.size w2).alloc (Nat.le_refl _) (.cells #[.string r.head.name,.slice A0 r.head.terms.length c0] 25) |>.mono HC2.out.below.size)))
    have y0:(w2.alloc (.cells #[.string r.head.name,.slice A0 r.head.terms.length c0] 25)).cell? ⟨w2.heap.size,0,none⟩=some (.string r.head.name):=by go_simp
    have y1:(w2.alloc (.cells #[.string r.head.name,.slice A0 r.head.terms.length c0] 25)).cell? ⟨w2.heap.size,1,none⟩=some (.slice A0 r.head.terms.length c0):=by go_simp
    have ysz:w2.heap.size<(w2.alloc (.cells #[.string r.head.name,.slice A0 r.head.terms.length c0] 25)).heap.size:=by go_simp
    refine ⟨HC3.out,?_⟩
    generalize (w2.alloc (.cells #[.string r.head.name,.slice A0 r.head.terms.length c0] 25))=w3 at *
    have HO:=Lib.hid (RL.one (x:=r.head) (b:=w2.heap.size) ysz ((PrR d).wide (Nat.le_trans hB HW3.out.size) ((PrR d).keep HW3.out hB HP.out)) (fun j v hv=>by
     rcases j with _ | _ | j
     ·simp only [List.getElem?_cons_zero,Option.some.injEq] at hv;rw [←hv];exact y0
     ·simp only [List.getElem?_cons_succ,List.getElem?_cons_zero,Option.some.injEq] at hv;rw [←hv];exact y1
     ·simp at hv))
    have hcount1:(aB [r.head]).length≤8:=by
     have:=eU [r.head] (fun p hp=>by simp at hp;rw [hp];exact fF t1)
     simpa using this
    have hcount2:=oJ t3
    have hlen1:(eJ (aB [r.head])).length≤8:=Nat.le_trans (ek _) hcount1
    have hlen2:(eJ (aB r.body)).length≤32:=Nat.le_trans (ek _) hcount2
    have HSM1:=Lib.hid (fH (RL.smallP HO.out))
    have HSM2:=Lib.hid (fH (RL.smallP HL1.out))
    clear y0 y1
    refine ci rfl rfl (fun K hK=>?_)
    go_wp2_with fail
    refine (kI d [r.head] (some ⟨w2.heap.size,0,none⟩) 1 _ _ HO.out (Nat.le_refl _) (by simp) (by omega)).mono ?_
    rintro x w4 ⟨v4,rfl,hown,hb4⟩
    obtain ⟨A4,c4,rfl,hc4,hrl⟩:=hown.reads HSM1.out (by omega)
    have HB4:=Lib.hid (HW3.out.trans (hb4.mono HW3.out.size))
    have HC4:=Lib.hid (ee.of (HC3.out.below.trans (hb4.mono HC3.out.below.size)))
    have HRL:=Lib.hid hrl
    clear hown hb4 hrl
    go_wp2_with fail
    refine ⟨HC4.out,?_⟩
    repeat (refine aT rfl rfl (fun K hK=>?_);unfold ee;go_big_quiet_op;refine hK _ ?_;clear hK K)
    refine ci rfl rfl (fun K hK=>?_)
    go_wp2_with fail
    refine (kI d r.body A1 c1 B _ (HL1.out.keep HB4.out hB) (Nat.le_trans hB HB4.out.size) (by omega) (by omega)).mono ?_
    rintro x w5 ⟨v5,rfl,hown,hb5⟩
    obtain ⟨A5,c5,rfl,hc5,hrl⟩:=hown.reads HSM2.out (by exact Nat.le_trans hlen2 (by omega))
    have HB5:=Lib.hid (HB4.out.trans (hb5.mono HB4.out.size))
    have HC5:=Lib.hid (ee.of (HC4.out.below.trans (hb5.mono HC4.out.below.size)))
    have HRL4:=Lib.hid ((HRL.out.keep hb5 (Nat.le_refl _)).wide hb5.size)
    have HRL5:=Lib.hid hrl
    clear hown hb5 hrl
    go_wp2_with fail
    refine ⟨HC5.out,?_⟩
    repeat (refine aT rfl rfl (fun K hK=>?_);unfold ee;go_big_quiet_op;refine hK _ ?_;clear hK K)
    refine ci rfl rfl (fun K hK=>?_)
    go_wp2_with fail
    refine (nB (eJ (aB [r.head])) (eJ (aB r.body)) A4 A5 c4 c5 _ _ HRL4.out HRL5.out (Nat.le_refl _) (by omega) (by exact Nat.le_trans hlen2 (by omega)) (jq _)).mono ?_
    rintro x w6 ⟨rfl,hb6⟩
    have HB6:=Lib.hid (HB5.out.trans (hb6.mono HB5.out.size))
    have HC6:=Lib.hid (ee.of (HC5.out.below.trans (hb6.mono HC5.out.below.size)))
    clear hb6
    go_wp2_with fail
    refine ⟨HC6.out,?_⟩
    repeat (refine aT rfl rfl (fun K hK=>?_);unfold ee;go_big_quiet_op;refine hK _ ?_;clear hK K)
    refine kE (fun _=>?_)
    go_wp2_with fail
    go_ret
    exact ⟨ae (by simp [bl,t1,t2,t3]),HB6.out⟩
   ·simp only [Bool.not_eq_true] at t3
    have u2:((r.body.length:Int)≥1):=by omega
    go_enter Tryz.func53,Tryz.ntmps53
    go_wp2_with fail
    have HW:=Lib.hid (HB.out (.cells #[.string r.head.name,.slice A0 r.head.terms.length c0,.slice A1 r.body.length c1,.slice A2 r.exprs.length c2,.slice A3 r.scopes.length c3] 30))
    have x0:(w.alloc (.cells #[.string r.head.name,.slice A0 r.head.terms.length c0,.slice A1 r.body.length c1,.slice A2 r.exprs.length c2,.slice A3 r.scopes.length c3] 30)).cell? ⟨w.heap.size,0,none⟩=some (.string r.head.name):=by go_simp
    have x1:(w.alloc (.cells #[.string r.head.name,.slice A0 r.head.terms.length c0,.slice A1 r.body.length c1,.slice A2 r.exprs.length c2,.slice A3 r.scopes.length c3] 30)).cell? ⟨w.heap.size,1,none⟩=some (.slice A0 r.head.terms.length c0):=by go_simp
    have x2:(w.alloc (.cells #[.string r.head.name,.slice A0 r.head.terms.length c0,.slice A1 r.body.length c1,.slice A2 r.exprs.length c2,.slice A3 r.scopes.length c3] 30)).cell? ⟨w.heap.size,2,none⟩=some (.slice A1 r.body.length c1):=by go_simp
    have x3:(w.alloc (.cells #[.string r.head.name,.slice A0 r.head.terms.length c0,.slice A1 r.body.length c1,.slice A2 r.exprs.length c2,.slice A3 r.scopes.length c3] 30)).cell? ⟨w.heap.size,3,none⟩=some (.slice A2 r.exprs.length c2):=by go_simp
    have x4:(w.alloc (.cells #[.string r.head.name,.slice A0 r.head.terms.length c0,.slice A1 r.body.length c1,.slice A2 r.exprs.length c2,.slice A3 r.scopes.length c3] 30)).cell? ⟨w.heap.size,4,none⟩=some (.slice A3 r.scopes.length c3):=by go_simp
    generalize (w.alloc (.cells #[.string r.head.name,.slice A0 r.head.terms.length c0,.slice A1 r.body.length c1,.slice A2 r.exprs.length c2,.slice A3 r.scopes.length c3] 30))=W at *
    have q0:=cell_regrown x0
    have q1:=cell_regrown x1
    have q2:=cell_regrown x2
    have q3:=cell_regrown x3
    have q4:=cell_regrown x4
    refine cJ (ee W) (by kernel_rfl) (by kernel_rfl) (ee.drew W) ?_
    repeat (refine aT rfl rfl (fun K hK=>?_);unfold ee;go_big_quiet_op;refine hK _ ?_;clear hK K)
    refine ci rfl rfl (fun K hK=>?_)
    go_wp2_with fail
    refine (dL (d:=d) (B:=B) (vs:=[_,_]) ((PrR d).keep HW.out.drew hB HP.out) (Nat.le_trans hB HW.out.size)).mono ?_
    rintro x w1 ⟨rfl,hb1⟩
    have HB1:=Lib.hid (HW.out.trans ((Below.refl _ W).drew.trans (hb1.mono (Nat.le_refl _)) |>.mono HW.out.size))
    have HC:=Lib.hid (ee.of ((Below.refl W.heap.size W).drew.trans (hb1.mono (Nat.le_refl _))))
    clear hb1
    rw [t1]
    go_wp2_with fail
    refine ⟨HC.out,?_⟩
    repeat (refine aT rfl rfl (fun K hK=>?_);unfold ee;go_big_quiet_op;refine hK _ ?_;clear hK K)
    refine ci rfl rfl (fun K hK=>?_)
    go_wp2_with fail
    refine (me (d:=d) (B:=B) (r:=r) (vs:=[_,_,_,_,_]) ((RuR d).keep HB1.out hB HR.out) (Nat.le_trans hB HB1.out.size)).mono ?_
    rintro x w2 ⟨rfl,hb2⟩
    have HB2:=Lib.hid (HB1.out.trans (hb2.mono HB1.out.size))
    have HC2:=Lib.hid (ee.of (HC.out.below.trans (hb2.mono HC.out.below.size)))
    clear hb2
    rw [t3]
    go_wp2_with fail
    refine ⟨HC2.out,?_⟩
    repeat first | (refine aT rfl rfl (fun K hK=>?_);unfold ee;go_big_quiet_op;refine hK _ ?_;clear hK K) | (refine kF (a':=?_) rfl ?_ ?_;rotate_left;focus (dsimp only [Act.put];simp only [List.setIfInBounds_toArray,List.set_cons_succ,List.set_cons_zero];rfl))
    refine kE (fun _=>?_)
    go_wp2_with fail
    go_ret
    exact ⟨ae (by simp [bl,t3]),HB2.out⟩
  ·have u2:¬((r.body.length:Int)≥1):=by omega
   go_enter Tryz.func53,Tryz.ntmps53
   go_wp2_with fail
   have HW:=Lib.hid (HB.out (.cells #[.string r.head.name,.slice A0 r.head.terms.length c0,.slice A1 r.body.length c1,.slice A2 r.exprs.length c2,.slice A3 r.scopes.length c3] 30))
   have x0:(w.alloc (.cells #[.string r.head.name,.slice A0 r.head.terms.length c0,.slice A1 r.body.length c1,.slice A2 r.exprs.length c2,.slice A3 r.scopes.length c3] 30)).cell? ⟨w.heap.size,0,none⟩=some (.string r.head.name):=by go_simp
   have x1:(w.alloc (.cells #[.string r.head.name,.slice A0 r.head.terms.length c0,.slice A1 r.body.length c1,.slice A2 r.exprs.length c2,.slice A3 r.scopes.length c3] 30)).cell? ⟨w.heap.size,1,none⟩=some (.slice A0 r.head.terms.length c0):=by go_simp
   have x2:(w.alloc (.cells #[.string r.head.name,.slice A0 r.head.terms.length c0,.slice A1 r.body.length c1,.slice A2 r.exprs.length c2,.slice A3 r.scopes.length c3] 30)).cell? ⟨w.heap.size,2,none⟩=some (.slice A1 r.body.length c1):=by go_simp
   have x3:(w.alloc (.cells #[.string r.head.name,.slice A0 r.head.terms.length c0,.slice A1 r.body.length c1,.slice A2 r.exprs.length c2,.slice A3 r.scopes.length c3] 30)).cell? ⟨w.heap.size,3,none⟩=some (.slice A2 r.exprs.length c2):=by go_simp
   have x4:(w.alloc (.cells #[.string r.head.name,.slice A0 r.head.terms.length c0,.slice A1 r.body.length c1,.slice A2 r.exprs.length c2,.slice A3 r.scopes.length c3] 30)).cell? ⟨w.heap.size,4,none⟩=some (.slice A3 r.scopes.length c3):=by go_simp
   generalize (w.alloc (.cells #[.string r.head.name,.slice A0 r.head.terms.length c0,.slice A1 r.body.length c1,.slice A2 r.exprs.length c2,.slice A3 r.scopes.length c3] 30))=W at *
   have q0:=cell_regrown x0
   have q1:=cell_regrown x1
   have q2:=cell_regrown x2
   have q3:=cell_regrown x3
   have q4:=cell_regrown x4
   refine cJ (ee W) (by kernel_rfl) (by kernel_rfl) (ee.drew W) ?_
   repeat (refine aT rfl rfl (fun K hK=>?_);unfold ee;go_big_quiet_op;refine hK _ ?_;clear hK K)
   refine ci rfl rfl (fun K hK=>?_)
   go_wp2_with fail
   refine (dL (d:=d) (B:=B) (vs:=[_,_]) ((PrR d).keep HW.out.drew hB HP.out) (Nat.le_trans hB HW.out.size)).mono ?_
   rintro x w1 ⟨rfl,hb1⟩
   have HB1:=Lib.hid (HW.out.trans ((Below.refl _ W).drew.trans (hb1.mono (Nat.le_refl _)) |>.mono HW.out.size))
   have HC:=Lib.hid (ee.of ((Below.refl W.heap.size W).drew.trans (hb1.mono (Nat.le_refl _))))
   clear hb1
   rw [t1]
   go_wp2_with fail
   refine ⟨HC.out,?_⟩
   repeat first | (refine aT rfl rfl (fun K hK=>?_);unfold ee;go_big_quiet_op;refine hK _ ?_;clear hK K) | (refine kF (a':=?_) rfl ?_ ?_;rotate_left;focus (dsimp only [Act.put];simp only [List.setIfInBounds_toArray,List.set_cons_succ,List.set_cons_zero];rfl))
   refine kE (fun _=>?_)
   go_wp2_with fail
   go_ret
   exact ⟨ae (by simp [bl,t2]),HB1.out⟩
 ·simp only [Bool.not_eq_true] at t1
  go_enter Tryz.func53,Tryz.ntmps53
  go_wp2_with fail
  have HW:=Lib.hid (HB.out (.cells #[.string r.head.name,.slice A0 r.head.terms.length c0,.slice A1 r.body.length c1,.slice A2 r.exprs.length c2,.slice A3 r.scopes.length c3] 30))
  have x0:(w.alloc (.cells #[.string r.head.name,.slice A0 r.head.terms.length c0,.slice A1 r.body.length c1,.slice A2 r.exprs.length c2,.slice A3 r.scopes.length c3] 30)).cell? ⟨w.heap.size,0,none⟩=some (.string r.head.name):=by go_simp
  have x1:(w.alloc (.cells #[.string r.head.name,.slice A0 r.head.terms.length c0,.slice A1 r.body.length c1,.slice A2 r.exprs.length c2,.slice A3 r.scopes.length c3] 30)).cell? ⟨w.heap.size,1,none⟩=some (.slice A0 r.head.terms.length c0):=by go_simp
  have x2:(w.alloc (.cells #[.string r.head.name,.slice A0 r.head.terms.length c0,.slice A1 r.body.length c1,.slice A2 r.exprs.length c2,.slice A3 r.scopes.length c3] 30)).cell? ⟨w.heap.size,2,none⟩=some (.slice A1 r.body.length c1):=by go_simp
  have x3:(w.alloc (.cells #[.string r.head.name,.slice A0 r.head.terms.length c0,.slice A1 r.body.length c1,.slice A2 r.exprs.length c2,.slice A3 r.scopes.length c3] 30)).cell? ⟨w.heap.size,3,none⟩=some (.slice A2 r.exprs.length c2):=by go_simp
  have x4:(w.alloc (.cells #[.string r.head.name,.slice A0 r.head.terms.length c0,.slice A1 r.body.length c1,.slice A2 r.exprs.length c2,.slice A3 r.scopes.length c3] 30)).cell? ⟨w.heap.size,4,none⟩=some (.slice A3 r.scopes.length c3):=by go_simp
  generalize (w.alloc (.cells #[.string r.head.name,.slice A0 r.head.terms.length c0,.slice A1 r.body.length c1,.slice A2 r.exprs.length c2,.slice A3 r.scopes.length c3] 30))=W at *
  have q0:=cell_regrown x0
  have q1:=cell_regrown x1
  have q2:=cell_regrown x2
  have q3:=cell_regrown x3
  have q4:=cell_regrown x4
  refine cJ (ee W) (by kernel_rfl) (by kernel_rfl) (ee.drew W) ?_
  repeat (refine aT rfl rfl (fun K hK=>?_);unfold ee;go_big_quiet_op;refine hK _ ?_;clear hK K)
  refine ci rfl rfl (fun K hK=>?_)
  go_wp2_with fail
  refine (dL (d:=d) (B:=B) (vs:=[_,_]) ((PrR d).keep HW.out.drew hB HP.out) (Nat.le_trans hB HW.out.size)).mono ?_
  rintro x w1 ⟨rfl,hb1⟩
  have HB1:=Lib.hid (HW.out.trans ((Below.refl _ W).drew.trans (hb1.mono (Nat.le_refl _)) |>.mono HW.out.size))
  have HC:=Lib.hid (ee.of ((Below.refl W.heap.size W).drew.trans (hb1.mono (Nat.le_refl _))))
  clear hb1
  rw [t1]
  go_wp2_with fail
  refine ⟨HC.out,?_⟩
  repeat first | (refine aT rfl rfl (fun K hK=>?_);unfold ee;go_big_quiet_op;refine hK _ ?_;clear hK K) | (refine kF (a':=?_) rfl ?_ ?_;rotate_left;focus (dsimp only [Act.put];simp only [List.setIfInBounds_toArray,List.set_cons_succ,List.set_cons_zero];rfl))
  refine kE (fun _=>?_)
  go_wp2_with fail
  go_ret
  exact ⟨ae (by simp [bl,t1]),HB1.out⟩
end Go.Proofs.YtdphibjibnffeaaGreat
