/- rule: MayQuery, May. -/
import Derived.Test.YtdphibjibnffeaaGreatMapF
import Derived.Test.YtdphibjibnffeaaGreatJoin
set_option linter.unusedVariables false
set_option linter.unusedSimpArgs false
set_option maxRecDepth 100000
set_option maxHeartbeats 8000000
namespace Go.Proofs.YtdphibjibnffeaaGreat
open Go.ChangeShapes Go.WideShapes Go.ChangeAt Go.RowKit
theorem rz (e:List OpD):(eW e).length≤32:=by
 unfold eW
 split
 ·rename_i h
  unfold aL at h
  simp only [Bool.and_eq_true,decide_eq_true_eq] at h
  exact Nat.le_trans (ei _) (Nat.le_trans (gC e) h.1)
 ·simp
def wD (e:List OpD):Prop:=∀o∈e,o.term.s.size≤140737488351232
theorem ni {e:List OpD} (h:wD e):∀l∈eW e,l.length≤140737488351232:=by
 intro l hl
 unfold eW at hl
 split at hl
 ·rw [mL] at hl
  unfold bQ at hl
  simp only [List.mem_map,List.mem_filter] at hl
  obtain ⟨o,⟨ho,_⟩,rfl⟩:=hl
  rw [hU]
  exact h o ho
 ·simp at hl
theorem ExR.small {d B:Nat} {e:List OpD} {vs:List Value} {w:World} (he:(ExR d).rd w B e vs):wD e:=by
 obtain ⟨_,_,A,c,_,_,_,hl⟩:=he
 intro o ho
 obtain ⟨i,hi,rfl⟩:=List.getElem_of_mem ho
 obtain ⟨b,off,rfl,hb,hc⟩:=hl (by omega)
 obtain ⟨vs,_,⟨x,hx,hr⟩,_⟩:=hc i hi
 obtain ⟨ts,_,_,_,_,ht⟩:=hr
 obtain ⟨_,_,_,_,_,hs,_⟩:=RTm.cells ht
 rw [List.getElem?_eq_getElem hi] at hx
 simp only [Option.some.injEq] at hx
 rw [hx];exact hs
theorem oU (d:Nat) (L:List aX) (A:Option Addr) (c B G:Nat) (w:World) (hl:RL cU w B (L.map mkS) A) (hB:B≤w.heap.size) (hn:L.length≤1000000) (hs:L.Pairwise (· < ·))
 (hG:w.cell? ⟨G,0,none⟩=some (.slice A L.length c)) :
 bP Tryz.prog (ExR d) cM B w 163 #[.pointer (some ⟨G,0,none⟩)] (fun e=>!kj (eW e) L):=by
 intro e vs w1 hb hr
 have hr0:=hr
 have hsm:=ExR.small hr
 obtain ⟨v,rfl,h3⟩:=hr
 obtain ⟨A1,c1,rfl,_⟩:=h3
 have hGl:G<w.heap.size:=block_lt_of_cell hG
 have hG1:w1.cell? ⟨G,0,none⟩=some (.slice A L.length c):=(hb.cell (p:=⟨G,0,none⟩) hGl).trans hG
 have hGl1:G<w1.heap.size:=by have:=hb.size;omega
 have HL:=Lib.hid (hl.keep hb hB)
 have HR:=Lib.hid hr0
 have HSM:=Lib.hid (ni hsm)
 have hNL:=rz e
 have HS:=Lib.hid hs
 have HB:=Lib.hid (fun o:Obj=>(Below.refl w1.heap.size w1).alloc (Nat.le_refl _) o)
 have hB1:B≤w1.heap.size:=by have:=hb.size;omega
 clear hl hG hb hs hr0
 show Calls Tryz.prog 163 #[.agg #[.slice A1 e.length c1],.pointer (some ⟨G,0,none⟩)] w1 _
 go_enter Tryz.func163,Tryz.ntmps163
 go_wp2_with fail
 have HW:=Lib.hid (HB.out (.cells #[.slice A1 e.length c1] 59))
 have x0:(w1.alloc (.cells #[.slice A1 e.length c1] 59)).cell? ⟨w1.heap.size,0,none⟩=some (.slice A1 e.length c1):=by go_simp
 have x1:(w1.alloc (.cells #[.slice A1 e.length c1] 59)).cell? ⟨G,0,none⟩=some (.slice A L.length c):=by go_simp
 generalize (w1.alloc (.cells #[.slice A1 e.length c1] 59))=W at *
 have q0:=cell_regrown x0
 have q1:=cell_regrown x1
 refine cG (ej W) (by kernel_rfl) (by kernel_rfl) (ej.drew W) ?_
 repeat (refine aQ rfl rfl (fun K hK=>?_);unfold ej;go_big_quiet_op;refine hK _ ?_;clear hK K)
 refine cd rfl rfl (fun K hK=>?_)
 go_wp2_with fail
 refine (mh (d:=d) (B:=B) (e:=e) (vs:=[_]) ((ExR d).keep HW.out.drew hB1 HR.out) (Nat.le_trans hB1 HW.out.size)).mono ?_
 rintro x w2 ⟨v2,rfl,hown,hb2⟩
 obtain ⟨A2,c2,rfl,hc2,hrl⟩:=hown.reads HSM.out (by omega)
 have HB2:=Lib.hid (HW.out.trans ((Below.refl _ W).drew.trans (hb2.mono (Nat.le_refl _)) |>.mono HW.out.size))
 have HC:=Lib.hid (ej.of ((Below.refl W.heap.size W).drew.trans (hb2.mono (Nat.le_refl _))))
 have HRL:=Lib.hid hrl
 clear hown hb2 hrl
 go_wp2_with fail
 refine ⟨HC.out,?_⟩
 repeat (refine aQ rfl rfl (fun K hK=>?_);unfold ej;go_big_quiet_op;refine hK _ ?_;clear hK K)
 refine cd rfl rfl (fun K hK=>?_)
 go_wp2_with fail
 refine (nu (eW e) L A2 A c2 c w2.heap.size w2 HRL.out ((HL.out.keep HB2.out hB1).wide (Nat.le_trans hB1 HB2.out.size)) (Nat.le_refl _) (by omega) hn HS.out).mono ?_
 rintro x w3 ⟨rfl,hb3⟩
 have HC3:=Lib.hid (ej.of (HC.out.below.trans (hb3.mono HC.out.below.size)))
 have HB3:=Lib.hid (HB2.out.trans (hb3.mono HB2.out.size))
 clear hb3
 go_wp2_with fail
 refine ⟨HC3.out,?_⟩
 repeat (refine aQ rfl rfl (fun K hK=>?_);unfold ej;go_big_quiet_op;refine hK _ ?_;clear hK K)
 refine kW (fun _=>?_)
 go_wp2_with fail
 go_ret
 exact ⟨rfl,HB3.out⟩
theorem gU {d B:Nat} {w:World} (hB:B≤w.heap.size):bP Tryz.prog (PrR d) cM B w 66 #[] aK:=fun x vs w1 hb hr=>by
 obtain ⟨v,rfl,_⟩:=id hr
 exact dX (d:=d) (B:=B) (vs:=[_,_]) hr (by have:=hb.size;omega)
theorem hX {d B:Nat} {w:World} (hB:B≤w.heap.size):bP Tryz.prog (ExR d) cM B w 159 #[] aL:=fun x vs w1 hb hr=>by
 obtain ⟨v,rfl,_⟩:=id hr
 exact cQ (d:=d) (B:=B) (vs:=[_]) hr (by have:=hb.size;omega)
theorem go {B:Nat} {w:World}:bP Tryz.prog ScR cM B w 161 #[] cE:=fun x vs w1 hb hr=>by
 obtain ⟨rfl,_⟩:=id hr
 exact mJ (B:=B) (vs:=[_,_]) hr
def nr (ps:List Pr):List aX:=eG (aA ps)
def gd (r:Ru):Bool:=(decide (r.body.length≤4)&&r.body.all aK)&&(decide (r.exprs.length≤4)&&r.exprs.all aL)&&(decide (r.scopes.length≤4)&&r.scopes.all cE)&&r.exprs.all (fun e=>kj (eW e) (nr r.body))
theorem uW {r:Ru} (t1:(decide ((r.body.length:Int)≤4)&&r.body.all aK)=true) (t2:(decide ((r.exprs.length:Int)≤4)&&r.exprs.all aL)=true)
 (t3:(decide ((r.scopes.length:Int)≤4)&&r.scopes.all cE)=true):gd r = !r.exprs.any (fun e=>!kj (eW e) (eG (aA r.body))):=by
 unfold gd nr
 simp only [jD] at t1 t2 t3
 rw [t1,t2,t3,Bool.true_and,Bool.true_and,Bool.true_and,List.not_any_eq_all_not]
 simp only [Bool.not_not]
theorem rI {r:Ru} (t1:(decide ((r.body.length:Int)≤4)&&r.body.all aK)=false):gd r=false:=by
 unfold gd;simp only [jD] at t1;rw [t1];simp only [Bool.false_and]
theorem qB {r:Ru} (t2:(decide ((r.exprs.length:Int)≤4)&&r.exprs.all aL)=false):gd r=false:=by
 unfold gd;simp only [jD] at t2;rw [t2];simp only [Bool.false_and,Bool.and_false]
theorem rO {r:Ru} (t3:(decide ((r.scopes.length:Int)≤4)&&r.scopes.all cE)=false):gd r=false:=by
 unfold gd;simp only [jD] at t3;rw [t3];simp only [Bool.false_and,Bool.and_false]
theorem eR:∀(ps:List Pr),(∀p∈ps,p.terms.length≤8)→(aA ps).length≤8*ps.length
 | [],_=>by simp [aA]
 | p::ps,h=>by
   have h1:=eR ps (fun q hq=>h q (by simp [hq]))
   have h2:=h p (by simp)
   have h3:(bX p.terms).length≤p.terms.length:=by unfold bX;rw [List.length_map];exact List.length_filter_le _ _
   have:aA (p::ps)=bX p.terms++aA ps:=by simp [aA]
   rw [this,List.length_append,List.length_cons]
   omega
theorem fE {p:Pr} (h:aK p=true):p.terms.length≤8:=by
 unfold aK at h
 simp only [Bool.and_eq_true,decide_eq_true_eq] at h
 exact h.2.1
def smallP (ps:List Pr):Prop:=∀p∈ps,∀t∈p.terms,t.s.size≤140737488351232
theorem RSl.smallT {d B:Nat} {ts:List Tm} {v:Value} {w:World} (h:RSl (TmR d) w B ts v):∀t∈ts,t.s.size≤140737488351232:=by
 obtain ⟨A,c,_,_,_,hl⟩:=h
 intro t ht
 obtain ⟨i,hi,rfl⟩:=List.getElem_of_mem ht
 obtain ⟨b,off,rfl,hb,hc⟩:=hl (by omega)
 obtain ⟨vs,_,⟨x,hx,hr⟩,_⟩:=hc i hi
 obtain ⟨_,_,_,_,_,hs,_⟩:=RTm.cells hr
 rw [List.getElem?_eq_getElem hi] at hx
 simp only [Option.some.injEq] at hx
 rw [hx];exact hs
theorem RL.smallP {d B:Nat} {ps:List Pr} {A:Option Addr} {w:World} (h:RL (PrR d) w B ps A):smallP ps:=by
 intro p hp
 obtain ⟨i,hi,rfl⟩:=List.getElem_of_mem hp
 obtain ⟨b,off,rfl,hb,hc⟩:=h (by omega)
 obtain ⟨vs,_,⟨x,hx,hr⟩,_⟩:=hc i hi
 obtain ⟨_,_,_,ht⟩:=hr
 rw [List.getElem?_eq_getElem hi] at hx
 simp only [Option.some.injEq] at hx
 rw [hx];exact RSl.smallT ht
theorem fx {ps:List Pr} (h:smallP ps):∀l∈nr ps,l.length≤140737488351232:=by
 intro l hl
 unfold nr at hl
 rw [mL] at hl
 unfold aA bX at hl
 simp only [List.mem_flatMap,List.mem_map,List.mem_filter] at hl
 obtain ⟨p,hp,t,⟨ht,_⟩,rfl⟩:=hl
 rw [hU]
 exact h p hp t ht
theorem mc {d B:Nat} {r:Ru} {vs:List Value} {w:World} (hr:(RuR d).rd w B r vs) (hB:B≤w.heap.size) :
 Calls Tryz.prog 111 #[.agg vs.toArray] w fun x w'=>x=.returned (.bool (gd r))∧Below w.heap.size w w':=by
 obtain ⟨_,_,_,_,rfl,hs,⟨A0,c0,rfl,h01,h02,hl0⟩,⟨A1,c1,rfl,h11,h12,hl1⟩,⟨A2,c2,rfl,h21,h22,hl2⟩,⟨A3,c3,rfl,h31,h32,hl3⟩⟩:=hr
 simp only [PrR,ExR,ScR] at h12 h22 h32
 have HB:=Lib.hid (fun o:Obj=>(Below.refl w.heap.size w).alloc (Nat.le_refl _) o)
 have HL1:=Lib.hid hl1
 have HL2:=Lib.hid hl2
 have HL3:=Lib.hid hl3
 have HSM:=Lib.hid (fx (RL.smallP hl1))
 clear hl0 hl1 hl2 hl3
 by_cases t1:(decide ((r.body.length:Int)≤4)&&r.body.all aK)=true
 ·go_enter Tryz.func111,Tryz.ntmps111
  go_wp2_with fail
  refine (kH d 66 aK 4 r.body A1 c1 B _ (ent Tryz.func66 (by kernel_rfl) rfl) (HL1.out.keep (HB.out _) hB) (Nat.le_trans hB (HB.out _).size) (by omega) (gU (Nat.le_trans hB (HB.out _).size))).mono ?_
  rintro x w1 ⟨rfl,hb1⟩
  have hc1:=iO hb1
  have hz1:w.heap.size<w1.heap.size:=(by have:=hb1.size;simp at this;omega)
  have HB1:=Lib.hid ((HB.out _).trans (hb1.mono (HB.out _).size))
  clear hb1
  by_cases t2:(decide ((r.exprs.length:Int)≤4)&&r.exprs.all aL)=true
  ·go_wp2_with fail
   refine (kV d 159 aL 4 r.exprs A2 c2 B _ (ent Tryz.func159 (by kernel_rfl) rfl) (HL2.out.keep HB1.out hB) (Nat.le_trans hB HB1.out.size) (by omega) (hX (Nat.le_trans hB HB1.out.size))).mono ?_
   rintro x w2 ⟨rfl,hb2⟩
   have hc2:=iO hb2
   have hz2:w.heap.size<w2.heap.size:=(by have:=hb2.size;omega)
   have HB2:=Lib.hid (HB1.out.trans (hb2.mono HB1.out.size))
   clear hb2
   by_cases t3:(decide ((r.scopes.length:Int)≤4)&&r.scopes.all cE)=true
   ·go_wp2_with fail
    refine (jk 161 cE 4 r.scopes A3 c3 B _ (ent Tryz.func161 (by kernel_rfl) rfl) (HL3.out.keep HB2.out hB) (Nat.le_trans hB HB2.out.size) (by omega) go).mono ?_
    rintro x w3 ⟨rfl,hb3⟩
    have hc3:=iO hb3
    have hz3:w.heap.size<w3.heap.size:=(by have:=hb3.size;omega)
    have HB3:=Lib.hid (HB2.out.trans (hb3.mono HB2.out.size))
    clear hb3
    have hcount:(aA r.body).length≤32:=by
     simp only [Bool.and_eq_true,decide_eq_true_eq,List.all_eq_true] at t1
     have:=eR r.body (fun p hp=>fE (t1.2 p hp))
     omega
    have hlen:(nr r.body).length≤32:=Nat.le_trans (ei _) hcount
    go_wp2_with fail
    refine (jV d r.body A1 c1 B _ (HL1.out.keep HB3.out hB) (Nat.le_trans hB HB3.out.size) (by omega) (by omega)).mono ?_
    rintro x w4 ⟨v4,rfl,hown,hb4⟩
    obtain ⟨A4,c4,rfl,hc4,hrl⟩:=hown.reads HSM.out (by exact Nat.le_trans hlen (by omega))
    have hc4':=iO hb4
    have hz4:w.heap.size<w4.heap.size:=(by have:=hb4.size;omega)
    have HB4:=Lib.hid (HB3.out.trans (hb4.mono HB3.out.size))
    have HRL:=Lib.hid hrl
    clear hown hb4 hrl
    go_wp2_with fail
    have HW:=Lib.hid (HB4.out.trans ((Below.refl w4.heap.size w4).alloc (Nat.le_refl _) (.cells #[.slice A4 (eG (aA r.body)).length c4] 44) |>.mono HB4.out.size))
    have x0:(w4.alloc (.cells #[.slice A4 (eG (aA r.body)).length c4] 44)).cell? ⟨w4.heap.size,0,none⟩=some (.slice A4 (eG (aA r.body)).length c4):=by go_simp
    have hsz:=((Below.refl w4.heap.size w4).alloc (Nat.le_refl _) (.cells #[.slice A4 (eG (aA r.body)).length c4] 44)).size
    have HRL':=Lib.hid (((HRL.out.keep ((Below.refl w4.heap.size w4).alloc (Nat.le_refl _) (.cells #[.slice A4 (eG (aA r.body)).length c4] 44)) (Nat.le_refl _))))
    refine (dz d 163 #[.pointer (some ⟨w4.heap.size,0,none⟩)] (fun e=>!kj (eW e) (eG (aA r.body))) r.exprs A2 c2 _ _ (ent Tryz.func163 (by kernel_rfl) rfl) ((HL2.out.keep HW.out hB).wide (Nat.le_trans hB HW.out.size)) (Nat.le_refl _) (by omega) (oU d (eG (aA r.body)) A4 c4 _ _ _ (HRL'.out.wide hsz) (Nat.le_refl _) (by exact Nat.le_trans hlen (by omega)) (iW _) x0)).mono ?_
    rintro x w5 ⟨rfl,hb5⟩
    have HB5:=Lib.hid (HW.out.trans (hb5.mono HW.out.size))
    clear hb5
    go_wp2_with fail
    go_ret
    refine ⟨?_,HB5.out⟩
    rw [uW t1 t2 t3]
    rfl
   ·simp only [Bool.not_eq_true] at t3
    go_wp2_with fail
    refine (jk 161 cE 4 r.scopes A3 c3 B _ (ent Tryz.func161 (by kernel_rfl) rfl) (HL3.out.keep HB2.out hB) (Nat.le_trans hB HB2.out.size) (by omega) go).mono ?_
    rintro x w3 ⟨rfl,hb3⟩
    have HB3:=Lib.hid (HB2.out.trans (hb3.mono HB2.out.size))
    clear hb3
    go_wp2_with fail
    go_ret
    refine ⟨?_,HB3.out⟩
    rw [rO t3]
    rfl
  ·simp only [Bool.not_eq_true] at t2
   go_wp2_with fail
   refine (kV d 159 aL 4 r.exprs A2 c2 B _ (ent Tryz.func159 (by kernel_rfl) rfl) (HL2.out.keep HB1.out hB) (Nat.le_trans hB HB1.out.size) (by omega) (hX (Nat.le_trans hB HB1.out.size))).mono ?_
   rintro x w2 ⟨rfl,hb2⟩
   have HB2:=Lib.hid (HB1.out.trans (hb2.mono HB1.out.size))
   clear hb2
   go_wp2_with fail
   go_ret
   refine ⟨?_,HB2.out⟩
   rw [qB t2]
   rfl
 ·simp only [Bool.not_eq_true] at t1
  go_enter Tryz.func111,Tryz.ntmps111
  go_wp2_with fail
  refine (kH d 66 aK 4 r.body A1 c1 B _ (ent Tryz.func66 (by kernel_rfl) rfl) (HL1.out.keep (HB.out _) hB) (Nat.le_trans hB (HB.out _).size) (by omega) (gU (Nat.le_trans hB (HB.out _).size))).mono ?_
  rintro x w1 ⟨rfl,hb1⟩
  have HB1:=Lib.hid ((HB.out _).trans (hb1.mono (HB.out _).size))
  clear hb1
  go_wp2_with fail
  go_ret
  refine ⟨?_,HB1.out⟩
  rw [rI t1]
  rfl
def aR (r:Ru):Bool:=r.head.name.toList.isEmpty&&decide (r.head.terms.length=0)&&decide (1≤r.body.length+r.exprs.length)&&gd r
def bi (r:Ru):Bool:=aK r.head&&decide (1≤r.body.length)&&gd r&&kj (eG (aA [r.head])) (eG (aA r.body))
theorem kc {P:Program} {ops:Array Oper} {C:World→Prop} {Qf:Act→World→Prop} {o:Oper} {rest:List Oper} {a a':Act} {w:World} (hw:Region.wanted o (yielded ops a.tmps)=false) (ha:a.put o.dst undef=a') (h:gg P ops C Qf rest a' w):gg P ops C Qf (o::rest) a w:=
 wj hw (ha▸h)
theorem oR {r:Ru} (h:gd r=true):(aA r.body).length≤32:=by
 unfold gd at h
 simp only [Bool.and_eq_true,decide_eq_true_eq,List.all_eq_true] at h
 obtain ⟨⟨⟨⟨h1,h2⟩,_⟩,_⟩,_⟩:=h
 have:=eR r.body (fun p hp=>fE (h2 p hp))
 omega
theorem mK {d B:Nat} {r:Ru} {vs:List Value} {w:World} (hr:(RuR d).rd w B r vs) (hB:B≤w.heap.size) :
 Calls Tryz.prog 54 #[.agg vs.toArray] w fun x w'=>x=.returned (.bool (aR r))∧Below w.heap.size w w':=by
 have HR:=Lib.hid hr
 obtain ⟨_,_,_,_,rfl,hs,⟨A0,c0,rfl,h01,h02,hl0⟩,⟨A1,c1,rfl,h11,h12,hl1⟩,⟨A2,c2,rfl,h21,h22,hl2⟩,⟨A3,c3,rfl,h31,h32,hl3⟩⟩:=hr
 simp only [PrR,ExR,ScR,TmR] at h02 h12 h22 h32
 have HB:=Lib.hid (fun o:Obj=>(Below.refl w.heap.size w).alloc (Nat.le_refl _) o)
 clear hl0 hl1 hl2 hl3
 by_cases t1:r.head.name.toList.isEmpty=true
 ·by_cases t2:r.head.terms.length=0
  ·by_cases t3:1≤r.body.length+r.exprs.length
   ·have u2:((r.head.terms.length:Int)==0)=true:=by simp [t2]
    have T2:=Lib.hid t2
    clear t2
    have u3:((r.body.length:Int)+(r.exprs.length:Int)≥1):=by omega
    go_enter Tryz.func54,Tryz.ntmps54
    go_wp2_with fail
    refine (mc (d:=d) (B:=B) (r:=r) (vs:=[_,_,_,_,_]) ((RuR d).keep (HB.out _) hB HR.out) (Nat.le_trans hB (HB.out _).size)).mono ?_
    rintro x w1 ⟨rfl,hb1⟩
    have HB1:=Lib.hid ((HB.out _).trans (hb1.mono (HB.out _).size))
    clear hb1
    go_wp2_with fail
    go_ret
    exact ⟨ac (by simp [aR,t1,T2.out,t3]),HB1.out⟩
   ·have u2:((r.head.terms.length:Int)==0)=true:=by simp [t2]
    have T2:=Lib.hid t2
    clear t2
    have u3:¬((r.body.length:Int)+(r.exprs.length:Int)≥1):=by omega
    go_enter Tryz.func54,Tryz.ntmps54
    go_wp2_with fail
    go_ret
    exact ⟨ac (by simp [aR,t3]),HB.out _⟩
  ·have u2:((r.head.terms.length:Int)==0)=false:=by simp [t2]
   go_enter Tryz.func54,Tryz.ntmps54
   go_wp2_with fail
   go_ret
   exact ⟨ac (by simp [aR,t2]),HB.out _⟩
 ·simp only [Bool.not_eq_true] at t1
  go_enter Tryz.func54,Tryz.ntmps54
  go_wp2_with fail
  go_ret
  exact ⟨ac (by simp [aR,t1]),HB.out _⟩
theorem oX {d B:Nat} {r:Ru} {vs:List Value} {w:World} (hr:(RuR d).rd w B r vs) (hB:B≤w.heap.size) :
 Calls Tryz.prog 53 #[.agg vs.toArray] w fun x w'=>x=.returned (.bool (bi r))∧Below w.heap.size w w':=by
 have HR:=Lib.hid hr
 obtain ⟨_,_,_,_,rfl,hs,⟨A0,c0,rfl,h01,h02,hl0⟩,⟨A1,c1,rfl,h11,h12,hl1⟩,⟨A2,c2,rfl,h21,h22,hl2⟩,⟨A3,c3,rfl,h31,h32,hl3⟩⟩:=hr
 simp only [PrR,ExR,ScR,TmR] at h02 h12 h22 h32
 have HB:=Lib.hid (fun o:Obj=>(Below.refl w.heap.size w).alloc (Nat.le_refl _) o)
 have HP:=Lib.hid (show (PrR d).rd w B r.head [.string r.head.name,.slice A0 r.head.terms.length c0] from ⟨_,rfl,hs,_,_,rfl,h01,h02,hl0⟩)
 have HL1:=Lib.hid hl1
 clear hl0 hl1 hl2 hl3
 have e1:((r.body.length:Int)≥1)↔(1≤r.body.length):=by omega
 by_cases t1:aK r.head=true
 ·by_cases t2:1≤r.body.length
  ·by_cases t3:gd r=true
   ·have u2:((r.body.length:Int)≥1):=by omega
    go_enter Tryz.func53,Tryz.ntmps53
    go_wp2_with fail
    have HW:=Lib.hid (HB.out (.cells #[.string r.head.name,.slice A0 r.head.terms.length c0,.slice A1 r.body.length c1,.slice A2 r.exprs.length c2,.slice A3 r.scopes.length c3] 30))
    have x0:(w.alloc (.cells #[.string r.head.name,.slice A0 r.head.terms.length c0,.slice A1 r.body.length c1,.slice A2 r.exprs.length c2,.slice A3 r.scopes.length c3] 30)).cell? ⟨w.heap.size,0,none⟩=some (.string r.head.name):=by go_simp
    have x1:(w.alloc (.cells #[.string r.head.name,.slice A0 r.head.terms.length c0,.slice A1 r.body.length c1,.slice A2 r.exprs.length c2,.slice A3 r.scopes.length c3] 30)).cell? ⟨w.heap.size,1,none⟩=some (.slice A0 r.head.terms.length c0):=by go_simp
    have x2:(w.alloc (.cells #[.string r.head.name,.slice A0 r.head.terms.length c0,.slice A1 r.body.length c1,.slice A2 r.exprs.length c2,.slice A3 r.scopes.length c3] 30)).cell? ⟨w.heap.size,2,none⟩=some (.slice A1 r.body.length c1):=by go_simp
    have x3:(w.alloc (.cells #[.string r.head.name,.slice A0 r.head.terms.length c0,.slice A1 r.body.length c1,.slice A2 r.exprs.length c2,.slice A3 r.scopes.length c3] 30)).cell? ⟨w.heap.size,3,none⟩=some (.slice A2 r.exprs.length c2):=by go_simp
    have x4:(w.alloc (.cells #[.string r.head.name,.slice A0 r.head.terms.length c0,.slice A1 r.body.length c1,.slice A2 r.exprs.length c2,.slice A3 r.scopes.length c3] 30)).cell? ⟨w.heap.size,4,none⟩=some (.slice A3 r.scopes.length c3):=by go_simp
    generalize (w.alloc (.cells #[.string r.head.name,.slice A0 r.head.terms.length c0,.slice A1 r.body.length c1,.slice A2 r.exprs.length c2,.slice A3 r.scopes.length c3] 30))=W at *
    have q0:=cell_regrown x0
    have q1:=cell_regrown x1
    have q2:=cell_regrown x2
    have q3:=cell_regrown x3
    have q4:=cell_regrown x4
    refine cG (ej W) (by kernel_rfl) (by kernel_rfl) (ej.drew W) ?_
    repeat (refine aQ rfl rfl (fun K hK=>?_);unfold ej;go_big_quiet_op;refine hK _ ?_;clear hK K)
    refine cd rfl rfl (fun K hK=>?_)
    go_wp2_with fail
    refine (dX (d:=d) (B:=B) (vs:=[_,_]) ((PrR d).keep HW.out.drew hB HP.out) (Nat.le_trans hB HW.out.size)).mono ?_
    rintro x w1 ⟨rfl,hb1⟩
    have HB1:=Lib.hid (HW.out.trans ((Below.refl _ W).drew.trans (hb1.mono (Nat.le_refl _)) |>.mono HW.out.size))
    have HC:=Lib.hid (ej.of ((Below.refl W.heap.size W).drew.trans (hb1.mono (Nat.le_refl _))))
    clear hb1
    rw [t1]
    go_wp2_with fail
    refine ⟨HC.out,?_⟩
    repeat (refine aQ rfl rfl (fun K hK=>?_);unfold ej;go_big_quiet_op;refine hK _ ?_;clear hK K)
    refine cd rfl rfl (fun K hK=>?_)
    go_wp2_with fail
    refine (mc (d:=d) (B:=B) (r:=r) (vs:=[_,_,_,_,_]) ((RuR d).keep HB1.out hB HR.out) (Nat.le_trans hB HB1.out.size)).mono ?_
    rintro x w2 ⟨rfl,hb2⟩
    have HB2:=Lib.hid (HB1.out.trans (hb2.mono HB1.out.size))
    have HC2:=Lib.hid (ej.of (HC.out.below.trans (hb2.mono HC.out.below.size)))
    clear hb2
    rw [t3]
    go_wp2_with fail
    refine ⟨HC2.out,?_⟩
    repeat (refine aQ rfl rfl (fun K hK=>?_);unfold ej;go_big_quiet_op;refine hK _ ?_;clear hK K)
    refine cd rfl rfl (fun K hK=>?_)
    go_wp2_with fail
    have HW3:=Lib.hid (HB2.out.trans ((Below.refl w2.heap.size w2).alloc (Nat.le_refl _) (.cells #[.string r.head.name,.slice A0 r.head.terms.length c0] 25) |>.mono HB2.out.size))
    have HC3:=Lib.hid (ej.of (HC2.out.below.trans ((Below.refl w2.heap.size w2).alloc (Nat.le_refl _) (.cells #[.string r.head.name,.slice A0 r.head.terms.length c0] 25) |>.mono HC2.out.below.size)))
    have y0:(w2.alloc (.cells #[.string r.head.name,.slice A0 r.head.terms.length c0] 25)).cell? ⟨w2.heap.size,0,none⟩=some (.string r.head.name):=by go_simp
    have y1:(w2.alloc (.cells #[.string r.head.name,.slice A0 r.head.terms.length c0] 25)).cell? ⟨w2.heap.size,1,none⟩=some (.slice A0 r.head.terms.length c0):=by go_simp
    have ysz:w2.heap.size<(w2.alloc (.cells #[.string r.head.name,.slice A0 r.head.terms.length c0] 25)).heap.size:=by go_simp
    refine ⟨HC3.out,?_⟩
    generalize (w2.alloc (.cells #[.string r.head.name,.slice A0 r.head.terms.length c0] 25))=w3 at *
    have HO:=Lib.hid (RL.one (x:=r.head) (b:=w2.heap.size) ysz ((PrR d).wide (Nat.le_trans hB HW3.out.size) ((PrR d).keep HW3.out hB HP.out)) (fun j v hv=>by
     rcases j with _ | _ | j
     ·simp only [List.getElem?_cons_zero,Option.some.injEq] at hv;rw [←hv];exact y0
     ·simp only [List.getElem?_cons_succ,List.getElem?_cons_zero,Option.some.injEq] at hv;rw [←hv];exact y1
     ·simp at hv))
    have hcount1:(aA [r.head]).length≤8:=by
     have:=eR [r.head] (fun p hp=>by simp at hp;rw [hp];exact fE t1)
     simpa using this
    have hcount2:=oR t3
    have hlen1:(eG (aA [r.head])).length≤8:=Nat.le_trans (ei _) hcount1
    have hlen2:(eG (aA r.body)).length≤32:=Nat.le_trans (ei _) hcount2
    have HSM1:=Lib.hid (fx (RL.smallP HO.out))
    have HSM2:=Lib.hid (fx (RL.smallP HL1.out))
    clear y0 y1
    refine cd rfl rfl (fun K hK=>?_)
    go_wp2_with fail
    refine (jV d [r.head] (some ⟨w2.heap.size,0,none⟩) 1 _ _ HO.out (Nat.le_refl _) (by simp) (by omega)).mono ?_
    rintro x w4 ⟨v4,rfl,hown,hb4⟩
    obtain ⟨A4,c4,rfl,hc4,hrl⟩:=hown.reads HSM1.out (by omega)
    have HB4:=Lib.hid (HW3.out.trans (hb4.mono HW3.out.size))
    have HC4:=Lib.hid (ej.of (HC3.out.below.trans (hb4.mono HC3.out.below.size)))
    have HRL:=Lib.hid hrl
    clear hown hb4 hrl
    go_wp2_with fail
    refine ⟨HC4.out,?_⟩
    repeat (refine aQ rfl rfl (fun K hK=>?_);unfold ej;go_big_quiet_op;refine hK _ ?_;clear hK K)
    refine cd rfl rfl (fun K hK=>?_)
    go_wp2_with fail
    refine (jV d r.body A1 c1 B _ (HL1.out.keep HB4.out hB) (Nat.le_trans hB HB4.out.size) (by omega) (by omega)).mono ?_
    rintro x w5 ⟨v5,rfl,hown,hb5⟩
    obtain ⟨A5,c5,rfl,hc5,hrl⟩:=hown.reads HSM2.out (by exact Nat.le_trans hlen2 (by omega))
    have HB5:=Lib.hid (HB4.out.trans (hb5.mono HB4.out.size))
    have HC5:=Lib.hid (ej.of (HC4.out.below.trans (hb5.mono HC4.out.below.size)))
    have HRL4:=Lib.hid ((HRL.out.keep hb5 (Nat.le_refl _)).wide hb5.size)
    have HRL5:=Lib.hid hrl
    clear hown hb5 hrl
    go_wp2_with fail
    refine ⟨HC5.out,?_⟩
    repeat (refine aQ rfl rfl (fun K hK=>?_);unfold ej;go_big_quiet_op;refine hK _ ?_;clear hK K)
    refine cd rfl rfl (fun K hK=>?_)
    go_wp2_with fail
    refine (nu (eG (aA [r.head])) (eG (aA r.body)) A4 A5 c4 c5 _ _ HRL4.out HRL5.out (Nat.le_refl _) (by omega) (by exact Nat.le_trans hlen2 (by omega)) (iW _)).mono ?_
    rintro x w6 ⟨rfl,hb6⟩
    have HB6:=Lib.hid (HB5.out.trans (hb6.mono HB5.out.size))
    have HC6:=Lib.hid (ej.of (HC5.out.below.trans (hb6.mono HC5.out.below.size)))
    clear hb6
    go_wp2_with fail
    refine ⟨HC6.out,?_⟩
    repeat (refine aQ rfl rfl (fun K hK=>?_);unfold ej;go_big_quiet_op;refine hK _ ?_;clear hK K)
    refine kW (fun _=>?_)
    go_wp2_with fail
    go_ret
    exact ⟨ac (by simp [bi,t1,t2,t3]),HB6.out⟩
   ·simp only [Bool.not_eq_true] at t3
    have u2:((r.body.length:Int)≥1):=by omega
    go_enter Tryz.func53,Tryz.ntmps53
    go_wp2_with fail
    have HW:=Lib.hid (HB.out (.cells #[.string r.head.name,.slice A0 r.head.terms.length c0,.slice A1 r.body.length c1,.slice A2 r.exprs.length c2,.slice A3 r.scopes.length c3] 30))
    have x0:(w.alloc (.cells #[.string r.head.name,.slice A0 r.head.terms.length c0,.slice A1 r.body.length c1,.slice A2 r.exprs.length c2,.slice A3 r.scopes.length c3] 30)).cell? ⟨w.heap.size,0,none⟩=some (.string r.head.name):=by go_simp
    have x1:(w.alloc (.cells #[.string r.head.name,.slice A0 r.head.terms.length c0,.slice A1 r.body.length c1,.slice A2 r.exprs.length c2,.slice A3 r.scopes.length c3] 30)).cell? ⟨w.heap.size,1,none⟩=some (.slice A0 r.head.terms.length c0):=by go_simp
    have x2:(w.alloc (.cells #[.string r.head.name,.slice A0 r.head.terms.length c0,.slice A1 r.body.length c1,.slice A2 r.exprs.length c2,.slice A3 r.scopes.length c3] 30)).cell? ⟨w.heap.size,2,none⟩=some (.slice A1 r.body.length c1):=by go_simp
    have x3:(w.alloc (.cells #[.string r.head.name,.slice A0 r.head.terms.length c0,.slice A1 r.body.length c1,.slice A2 r.exprs.length c2,.slice A3 r.scopes.length c3] 30)).cell? ⟨w.heap.size,3,none⟩=some (.slice A2 r.exprs.length c2):=by go_simp
    have x4:(w.alloc (.cells #[.string r.head.name,.slice A0 r.head.terms.length c0,.slice A1 r.body.length c1,.slice A2 r.exprs.length c2,.slice A3 r.scopes.length c3] 30)).cell? ⟨w.heap.size,4,none⟩=some (.slice A3 r.scopes.length c3):=by go_simp
    generalize (w.alloc (.cells #[.string r.head.name,.slice A0 r.head.terms.length c0,.slice A1 r.body.length c1,.slice A2 r.exprs.length c2,.slice A3 r.scopes.length c3] 30))=W at *
    have q0:=cell_regrown x0
    have q1:=cell_regrown x1
    have q2:=cell_regrown x2
    have q3:=cell_regrown x3
    have q4:=cell_regrown x4
    refine cG (ej W) (by kernel_rfl) (by kernel_rfl) (ej.drew W) ?_
    repeat (refine aQ rfl rfl (fun K hK=>?_);unfold ej;go_big_quiet_op;refine hK _ ?_;clear hK K)
    refine cd rfl rfl (fun K hK=>?_)
    go_wp2_with fail
    refine (dX (d:=d) (B:=B) (vs:=[_,_]) ((PrR d).keep HW.out.drew hB HP.out) (Nat.le_trans hB HW.out.size)).mono ?_
    rintro x w1 ⟨rfl,hb1⟩
    have HB1:=Lib.hid (HW.out.trans ((Below.refl _ W).drew.trans (hb1.mono (Nat.le_refl _)) |>.mono HW.out.size))
    have HC:=Lib.hid (ej.of ((Below.refl W.heap.size W).drew.trans (hb1.mono (Nat.le_refl _))))
    clear hb1
    rw [t1]
    go_wp2_with fail
    refine ⟨HC.out,?_⟩
    repeat (refine aQ rfl rfl (fun K hK=>?_);unfold ej;go_big_quiet_op;refine hK _ ?_;clear hK K)
    refine cd rfl rfl (fun K hK=>?_)
    go_wp2_with fail
    refine (mc (d:=d) (B:=B) (r:=r) (vs:=[_,_,_,_,_]) ((RuR d).keep HB1.out hB HR.out) (Nat.le_trans hB HB1.out.size)).mono ?_
    rintro x w2 ⟨rfl,hb2⟩
    have HB2:=Lib.hid (HB1.out.trans (hb2.mono HB1.out.size))
    have HC2:=Lib.hid (ej.of (HC.out.below.trans (hb2.mono HC.out.below.size)))
    clear hb2
    rw [t3]
    go_wp2_with fail
    refine ⟨HC2.out,?_⟩
    repeat first | (refine aQ rfl rfl (fun K hK=>?_);unfold ej;go_big_quiet_op;refine hK _ ?_;clear hK K) | (refine kc (a':=?_) rfl ?_ ?_;rotate_left;focus (dsimp only [Act.put];simp only [List.setIfInBounds_toArray,List.set_cons_succ,List.set_cons_zero];rfl))
    refine kW (fun _=>?_)
    go_wp2_with fail
    go_ret
    exact ⟨ac (by simp [bi,t3]),HB2.out⟩
  ·have u2:¬((r.body.length:Int)≥1):=by omega
   go_enter Tryz.func53,Tryz.ntmps53
   go_wp2_with fail
   have HW:=Lib.hid (HB.out (.cells #[.string r.head.name,.slice A0 r.head.terms.length c0,.slice A1 r.body.length c1,.slice A2 r.exprs.length c2,.slice A3 r.scopes.length c3] 30))
   have x0:(w.alloc (.cells #[.string r.head.name,.slice A0 r.head.terms.length c0,.slice A1 r.body.length c1,.slice A2 r.exprs.length c2,.slice A3 r.scopes.length c3] 30)).cell? ⟨w.heap.size,0,none⟩=some (.string r.head.name):=by go_simp
   have x1:(w.alloc (.cells #[.string r.head.name,.slice A0 r.head.terms.length c0,.slice A1 r.body.length c1,.slice A2 r.exprs.length c2,.slice A3 r.scopes.length c3] 30)).cell? ⟨w.heap.size,1,none⟩=some (.slice A0 r.head.terms.length c0):=by go_simp
   have x2:(w.alloc (.cells #[.string r.head.name,.slice A0 r.head.terms.length c0,.slice A1 r.body.length c1,.slice A2 r.exprs.length c2,.slice A3 r.scopes.length c3] 30)).cell? ⟨w.heap.size,2,none⟩=some (.slice A1 r.body.length c1):=by go_simp
   have x3:(w.alloc (.cells #[.string r.head.name,.slice A0 r.head.terms.length c0,.slice A1 r.body.length c1,.slice A2 r.exprs.length c2,.slice A3 r.scopes.length c3] 30)).cell? ⟨w.heap.size,3,none⟩=some (.slice A2 r.exprs.length c2):=by go_simp
   have x4:(w.alloc (.cells #[.string r.head.name,.slice A0 r.head.terms.length c0,.slice A1 r.body.length c1,.slice A2 r.exprs.length c2,.slice A3 r.scopes.length c3] 30)).cell? ⟨w.heap.size,4,none⟩=some (.slice A3 r.scopes.length c3):=by go_simp
   generalize (w.alloc (.cells #[.string r.head.name,.slice A0 r.head.terms.length c0,.slice A1 r.body.length c1,.slice A2 r.exprs.length c2,.slice A3 r.scopes.length c3] 30))=W at *
   have q0:=cell_regrown x0
   have q1:=cell_regrown x1
   have q2:=cell_regrown x2
   have q3:=cell_regrown x3
   have q4:=cell_regrown x4
   refine cG (ej W) (by kernel_rfl) (by kernel_rfl) (ej.drew W) ?_
   repeat (refine aQ rfl rfl (fun K hK=>?_);unfold ej;go_big_quiet_op;refine hK _ ?_;clear hK K)
   refine cd rfl rfl (fun K hK=>?_)
   go_wp2_with fail
   refine (dX (d:=d) (B:=B) (vs:=[_,_]) ((PrR d).keep HW.out.drew hB HP.out) (Nat.le_trans hB HW.out.size)).mono ?_
   rintro x w1 ⟨rfl,hb1⟩
   have HB1:=Lib.hid (HW.out.trans ((Below.refl _ W).drew.trans (hb1.mono (Nat.le_refl _)) |>.mono HW.out.size))
   have HC:=Lib.hid (ej.of ((Below.refl W.heap.size W).drew.trans (hb1.mono (Nat.le_refl _))))
   clear hb1
   rw [t1]
   go_wp2_with fail
   refine ⟨HC.out,?_⟩
   repeat first | (refine aQ rfl rfl (fun K hK=>?_);unfold ej;go_big_quiet_op;refine hK _ ?_;clear hK K) | (refine kc (a':=?_) rfl ?_ ?_;rotate_left;focus (dsimp only [Act.put];simp only [List.setIfInBounds_toArray,List.set_cons_succ,List.set_cons_zero];rfl))
   refine kW (fun _=>?_)
   go_wp2_with fail
   go_ret
   exact ⟨ac (by simp [bi,t2]),HB1.out⟩
 ·simp only [Bool.not_eq_true] at t1
  go_enter Tryz.func53,Tryz.ntmps53
  go_wp2_with fail
  have HW:=Lib.hid (HB.out (.cells #[.string r.head.name,.slice A0 r.head.terms.length c0,.slice A1 r.body.length c1,.slice A2 r.exprs.length c2,.slice A3 r.scopes.length c3] 30))
  have x0:(w.alloc (.cells #[.string r.head.name,.slice A0 r.head.terms.length c0,.slice A1 r.body.length c1,.slice A2 r.exprs.length c2,.slice A3 r.scopes.length c3] 30)).cell? ⟨w.heap.size,0,none⟩=some (.string r.head.name):=by go_simp
  have x1:(w.alloc (.cells #[.string r.head.name,.slice A0 r.head.terms.length c0,.slice A1 r.body.length c1,.slice A2 r.exprs.length c2,.slice A3 r.scopes.length c3] 30)).cell? ⟨w.heap.size,1,none⟩=some (.slice A0 r.head.terms.length c0):=by go_simp
  have x2:(w.alloc (.cells #[.string r.head.name,.slice A0 r.head.terms.length c0,.slice A1 r.body.length c1,.slice A2 r.exprs.length c2,.slice A3 r.scopes.length c3] 30)).cell? ⟨w.heap.size,2,none⟩=some (.slice A1 r.body.length c1):=by go_simp
  have x3:(w.alloc (.cells #[.string r.head.name,.slice A0 r.head.terms.length c0,.slice A1 r.body.length c1,.slice A2 r.exprs.length c2,.slice A3 r.scopes.length c3] 30)).cell? ⟨w.heap.size,3,none⟩=some (.slice A2 r.exprs.length c2):=by go_simp
  have x4:(w.alloc (.cells #[.string r.head.name,.slice A0 r.head.terms.length c0,.slice A1 r.body.length c1,.slice A2 r.exprs.length c2,.slice A3 r.scopes.length c3] 30)).cell? ⟨w.heap.size,4,none⟩=some (.slice A3 r.scopes.length c3):=by go_simp
  generalize (w.alloc (.cells #[.string r.head.name,.slice A0 r.head.terms.length c0,.slice A1 r.body.length c1,.slice A2 r.exprs.length c2,.slice A3 r.scopes.length c3] 30))=W at *
  have q0:=cell_regrown x0
  have q1:=cell_regrown x1
  have q2:=cell_regrown x2
  have q3:=cell_regrown x3
  have q4:=cell_regrown x4
  refine cG (ej W) (by kernel_rfl) (by kernel_rfl) (ej.drew W) ?_
  repeat (refine aQ rfl rfl (fun K hK=>?_);unfold ej;go_big_quiet_op;refine hK _ ?_;clear hK K)
  refine cd rfl rfl (fun K hK=>?_)
  go_wp2_with fail
  refine (dX (d:=d) (B:=B) (vs:=[_,_]) ((PrR d).keep HW.out.drew hB HP.out) (Nat.le_trans hB HW.out.size)).mono ?_
  rintro x w1 ⟨rfl,hb1⟩
  have HB1:=Lib.hid (HW.out.trans ((Below.refl _ W).drew.trans (hb1.mono (Nat.le_refl _)) |>.mono HW.out.size))
  have HC:=Lib.hid (ej.of ((Below.refl W.heap.size W).drew.trans (hb1.mono (Nat.le_refl _))))
  clear hb1
  rw [t1]
  go_wp2_with fail
  refine ⟨HC.out,?_⟩
  repeat first | (refine aQ rfl rfl (fun K hK=>?_);unfold ej;go_big_quiet_op;refine hK _ ?_;clear hK K) | (refine kc (a':=?_) rfl ?_ ?_;rotate_left;focus (dsimp only [Act.put];simp only [List.setIfInBounds_toArray,List.set_cons_succ,List.set_cons_zero];rfl))
  refine kW (fun _=>?_)
  go_wp2_with fail
  go_ret
  exact ⟨ac (by simp [bi,t1]),HB1.out⟩
end Go.Proofs.YtdphibjibnffeaaGreat
