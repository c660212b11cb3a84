/- The arguments of a statement, opened to plain data. -/
import Derived.Test.YtdphibjibnffeaaGreatRLOne
import Derived.Deep.Slices
import Derived.Deep.Fields
import Derived.ChangeSame
import Derived.SizedLaws
import Derived.Below
set_option linter.unusedVariables false
set_option linter.unusedSimpArgs false
set_option maxRecDepth 100000
set_option maxHeartbeats 8000000
namespace Go.Proofs.YtdphibjibnffeaaGreat
open Go.ChangeShapes Go.WideShapes Go.ChangeAt Go.RowKit
def aB (r:Ru):Bool:=r.head.name.toList.isEmpty&&decide (r.head.terms.length=0)&&decide (1≤r.body.length+r.exprs.length)&&gH r
def bj (r:Ru):Bool:=aK r.head&&decide (1≤r.body.length)&&gH r&&kU (eR (ay [r.head])) (eR (ay r.body))
theorem lc {P:Program} {ops:Array Oper} {C:World→Prop} {Qf:Act→World→Prop} {o:Oper} {rest:List Oper} {a a':Act} {w:World} (hw:Region.wanted o (yielded ops a.tmps)=false) (ha:a.put o.dst undef=a') (h:gK P ops C Qf rest a' w):gK P ops C Qf (o::rest) a w:=
 xx hw (ha▸h)
theorem pz {r:Ru} (h:gH r=true):(ay r.body).length≤32:=by
 unfold gH at h
 simp only [Bool.and_eq_true,decide_eq_true_eq,List.all_eq_true] at h
 obtain ⟨⟨⟨⟨h1,h2⟩,_⟩,_⟩,_⟩:=h
 have:=fi r.body (fun p hp=>fX (h2 p hp))
 omega
theorem fY {d B:Nat} {r:Ru} {vs:List Value} {w:World} (hr:(RuR d).rd w B r vs) (hB:B≤w.heap.size) :
 Calls Tryz.prog 54 #[.agg vs.toArray] w fun x w'=>x=.returned (.bool (aB r))∧Below w.heap.size w w':=by
 have HR:=yW hr
 obtain ⟨_,_,_,_,rfl,hs,⟨A0,c0,rfl,h01,h02,hl0⟩,⟨A1,c1,rfl,h11,h12,hl1⟩,⟨A2,c2,rfl,h21,h22,hl2⟩,⟨A3,c3,rfl,h31,h32,hl3⟩⟩:=hr
 simp only [PrR,ExR,ScR,TmR] at h02 h12 h22 h32
 have HB:=yW (fun o:Obj=>(za w.heap.size w).alloc (yY _) o)
 clear hl0 hl1 hl2 hl3
 by_cases t1:r.head.name.toList.isEmpty=true
 ·by_cases t2:r.head.terms.length=0
  ·by_cases t3:1≤r.body.length+r.exprs.length
   ·have u2:((r.head.terms.length:Int)==0)=true:=by simp [t2]
    have T2:=yW t2
    clear t2
    have u3:((r.body.length:Int)+(r.exprs.length:Int)≥1):=by omega
    go_enter Tryz.func54,Tryz.ntmps54
    go_wp2_with fail
    refine (mL (d:=d) (B:=B) (r:=r) (vs:=[_,_,_,_,_]) ((RuR d).keep (HB.out _) hB HR.out) (yX hB (HB.out _).size)).mono ?_
    rintro x w1 ⟨rfl,hb1⟩
    have HB1:=yW ((HB.out _).trans (hb1.mono (HB.out _).size))
    clear hb1
    go_wp2_with fail
    go_ret
    exact ⟨ac (by simp [aB,t1,T2.out,t3]),HB1.out⟩
   ·have u2:((r.head.terms.length:Int)==0)=true:=by simp [t2]
    have T2:=yW t2
    clear t2
    have u3:¬((r.body.length:Int)+(r.exprs.length:Int)≥1):=by omega
    go_enter Tryz.func54,Tryz.ntmps54
    go_wp2_with fail
    go_ret
    exact ⟨ac (by simp [aB,t3]),HB.out _⟩
  ·have u2:((r.head.terms.length:Int)==0)=false:=by simp [t2]
   go_enter Tryz.func54,Tryz.ntmps54
   go_wp2_with fail
   go_ret
   exact ⟨ac (by simp [aB,t2]),HB.out _⟩
 ·simp only [Bool.not_eq_true] at t1
  go_enter Tryz.func54,Tryz.ntmps54
  go_wp2_with fail
  go_ret
  exact ⟨ac (by simp [aB,t1]),HB.out _⟩
theorem qc {d B:Nat} {r:Ru} {vs:List Value} {w:World} (hr:(RuR d).rd w B r vs) (hB:B≤w.heap.size) :
 Calls Tryz.prog 53 #[.agg vs.toArray] w fun x w'=>x=.returned (.bool (bj r))∧Below w.heap.size w w':=by
 have HR:=yW hr
 obtain ⟨_,_,_,_,rfl,hs,⟨A0,c0,rfl,h01,h02,hl0⟩,⟨A1,c1,rfl,h11,h12,hl1⟩,⟨A2,c2,rfl,h21,h22,hl2⟩,⟨A3,c3,rfl,h31,h32,hl3⟩⟩:=hr
 simp only [PrR,ExR,ScR,TmR] at h02 h12 h22 h32
 have HB:=yW (fun o:Obj=>(za w.heap.size w).alloc (yY _) o)
 have HP:=yW (show (PrR d).rd w B r.head [.string r.head.name,.slice A0 r.head.terms.length c0] from ⟨_,rfl,hs,_,_,rfl,h01,h02,hl0⟩)
 have HL1:=yW hl1
 clear hl0 hl1 hl2 hl3
 have e1:((r.body.length:Int)≥1)↔(1≤r.body.length):=by omega
 by_cases t1:aK r.head=true
 ·by_cases t2:1≤r.body.length
  ·by_cases t3:gH r=true
   ·have u2:((r.body.length:Int)≥1):=by omega
    go_enter Tryz.func53,Tryz.ntmps53
    go_wp2_with fail
    have HW:=yW (HB.out (.cells #[.string r.head.name,.slice A0 r.head.terms.length c0,.slice A1 r.body.length c1,.slice A2 r.exprs.length c2,.slice A3 r.scopes.length c3] 30))
    have x0:(w.alloc (.cells #[.string r.head.name,.slice A0 r.head.terms.length c0,.slice A1 r.body.length c1,.slice A2 r.exprs.length c2,.slice A3 r.scopes.length c3] 30)).cell? ⟨w.heap.size,0,none⟩=some (.string r.head.name):=by go_simp
    have x1:(w.alloc (.cells #[.string r.head.name,.slice A0 r.head.terms.length c0,.slice A1 r.body.length c1,.slice A2 r.exprs.length c2,.slice A3 r.scopes.length c3] 30)).cell? ⟨w.heap.size,1,none⟩=some (.slice A0 r.head.terms.length c0):=by go_simp
    have x2:(w.alloc (.cells #[.string r.head.name,.slice A0 r.head.terms.length c0,.slice A1 r.body.length c1,.slice A2 r.exprs.length c2,.slice A3 r.scopes.length c3] 30)).cell? ⟨w.heap.size,2,none⟩=some (.slice A1 r.body.length c1):=by go_simp
    have x3:(w.alloc (.cells #[.string r.head.name,.slice A0 r.head.terms.length c0,.slice A1 r.body.length c1,.slice A2 r.exprs.length c2,.slice A3 r.scopes.length c3] 30)).cell? ⟨w.heap.size,3,none⟩=some (.slice A2 r.exprs.length c2):=by go_simp
    have x4:(w.alloc (.cells #[.string r.head.name,.slice A0 r.head.terms.length c0,.slice A1 r.body.length c1,.slice A2 r.exprs.length c2,.slice A3 r.scopes.length c3] 30)).cell? ⟨w.heap.size,4,none⟩=some (.slice A3 r.scopes.length c3):=by go_simp
    generalize (w.alloc (.cells #[.string r.head.name,.slice A0 r.head.terms.length c0,.slice A1 r.body.length c1,.slice A2 r.exprs.length c2,.slice A3 r.scopes.length c3] 30))=W at *
    have q0:=cell_regrown x0
    have q1:=cell_regrown x1
    have q2:=cell_regrown x2
    have q3:=cell_regrown x3
    have q4:=cell_regrown x4
    refine cQ (ep W) (by kernel_rfl) (by kernel_rfl) (ep.drew W) ?_
    repeat (refine aQ rfl rfl (fun K hK=>?_);unfold ep;go_big_quiet_op;refine hK _ ?_;clear hK K)
    refine cj rfl rfl (fun K hK=>?_)
    go_wp2_with fail
    refine (dU (d:=d) (B:=B) (vs:=[_,_]) ((PrR d).keep HW.out.drew hB HP.out) (yX hB HW.out.size)).mono ?_
    rintro x w1 ⟨rfl,hb1⟩
    have HB1:=yW (HW.out.trans ((za _ W).drew.trans (hb1.mono (yY _)) |>.mono HW.out.size))
    have HC:=yW (ep.of ((za W.heap.size W).drew.trans (hb1.mono (yY _))))
    clear hb1
    rw [t1]
    go_wp2_with fail
    refine ⟨HC.out,?_⟩
    repeat (refine aQ rfl rfl (fun K hK=>?_);unfold ep;go_big_quiet_op;refine hK _ ?_;clear hK K)
    refine cj rfl rfl (fun K hK=>?_)
    go_wp2_with fail
    refine (mL (d:=d) (B:=B) (r:=r) (vs:=[_,_,_,_,_]) ((RuR d).keep HB1.out hB HR.out) (yX hB HB1.out.size)).mono ?_
    rintro x w2 ⟨rfl,hb2⟩
    have HB2:=yW (HB1.out.trans (hb2.mono HB1.out.size))
    have HC2:=yW (ep.of (HC.out.below.trans (hb2.mono HC.out.below.size)))
    clear hb2
    rw [t3]
    go_wp2_with fail
    refine ⟨HC2.out,?_⟩
    repeat (refine aQ rfl rfl (fun K hK=>?_);unfold ep;go_big_quiet_op;refine hK _ ?_;clear hK K)
    refine cj rfl rfl (fun K hK=>?_)
    go_wp2_with fail
    have HW3:=yW (HB2.out.trans ((za w2.heap.size w2).alloc (yY _) (.cells #[.string r.head.name,.slice A0 r.head.terms.length c0] 25) |>.mono HB2.out.size))
    have HC3:=yW (ep.of (HC2.out.below.trans ((za w2.heap.size w2).alloc (yY _) (.cells #[.string r.head.name,.slice A0 r.head.terms.length c0] 25) |>.mono HC2.out.below.size)))
    have y0:(w2.alloc (.cells #[.string r.head.name,.slice A0 r.head.terms.length c0] 25)).cell? ⟨w2.heap.size,0,none⟩=some (.string r.head.name):=by go_simp
    have y1:(w2.alloc (.cells #[.string r.head.name,.slice A0 r.head.terms.length c0] 25)).cell? ⟨w2.heap.size,1,none⟩=some (.slice A0 r.head.terms.length c0):=by go_simp
    have ysz:w2.heap.size<(w2.alloc (.cells #[.string r.head.name,.slice A0 r.head.terms.length c0] 25)).heap.size:=by go_simp
    refine ⟨HC3.out,?_⟩
    generalize (w2.alloc (.cells #[.string r.head.name,.slice A0 r.head.terms.length c0] 25))=w3 at *
    have HO:=yW (RL.one (x:=r.head) (b:=w2.heap.size) ysz ((PrR d).wide (yX hB HW3.out.size) ((PrR d).keep HW3.out hB HP.out)) (fun j v hv=>by
     rcases j with _ | _ | j
     ·simp only [List.getElem?_cons_zero,Option.some.injEq] at hv;rw [←hv];exact y0
     ·simp only [List.getElem?_cons_succ,List.getElem?_cons_zero,Option.some.injEq] at hv;rw [←hv];exact y1
     ·simp at hv))
    have hcount1:(ay [r.head]).length≤8:=by
     have:=fi [r.head] (fun p hp=>by simp at hp;rw [hp];exact fX t1)
     simpa using this
    have hcount2:=pz t3
    have hlen1:(eR (ay [r.head])).length≤8:=yX (ey _) hcount1
    have hlen2:(eR (ay r.body)).length≤32:=yX (ey _) hcount2
    have HSM1:=yW (fZ (RL.smallP HO.out))
    have HSM2:=yW (fZ (RL.smallP HL1.out))
    clear y0 y1
    refine cj rfl rfl (fun K hK=>?_)
    go_wp2_with fail
    refine (lf d [r.head] (some ⟨w2.heap.size,0,none⟩) 1 _ _ HO.out (yY _) (by simp) (by omega)).mono ?_
    rintro x w4 ⟨v4,rfl,hown,hb4⟩
    obtain ⟨A4,c4,rfl,hc4,hrl⟩:=hown.reads HSM1.out (by omega)
    have HB4:=yW (HW3.out.trans (hb4.mono HW3.out.size))
    have HC4:=yW (ep.of (HC3.out.below.trans (hb4.mono HC3.out.below.size)))
    have HRL:=yW hrl
    clear hown hb4 hrl
    go_wp2_with fail
    refine ⟨HC4.out,?_⟩
    repeat (refine aQ rfl rfl (fun K hK=>?_);unfold ep;go_big_quiet_op;refine hK _ ?_;clear hK K)
    refine cj rfl rfl (fun K hK=>?_)
    go_wp2_with fail
    refine (lf d r.body A1 c1 B _ (HL1.out.keep HB4.out hB) (yX hB HB4.out.size) (by omega) (by omega)).mono ?_
    rintro x w5 ⟨v5,rfl,hown,hb5⟩
    obtain ⟨A5,c5,rfl,hc5,hrl⟩:=hown.reads HSM2.out (by exact yX hlen2 (by omega))
    have HB5:=yW (HB4.out.trans (hb5.mono HB4.out.size))
    have HC5:=yW (ep.of (HC4.out.below.trans (hb5.mono HC4.out.below.size)))
    have HRL4:=yW ((HRL.out.keep hb5 (yY _)).wide hb5.size)
    have HRL5:=yW hrl
    clear hown hb5 hrl
    go_wp2_with fail
    refine ⟨HC5.out,?_⟩
    repeat (refine aQ rfl rfl (fun K hK=>?_);unfold ep;go_big_quiet_op;refine hK _ ?_;clear hK K)
    refine cj rfl rfl (fun K hK=>?_)
    go_wp2_with fail
    refine (ou (eR (ay [r.head])) (eR (ay r.body)) A4 A5 c4 c5 _ _ HRL4.out HRL5.out (yY _) (by omega) (by exact yX hlen2 (by omega)) (jI _)).mono ?_
    rintro x w6 ⟨rfl,hb6⟩
    have HB6:=yW (HB5.out.trans (hb6.mono HB5.out.size))
    have HC6:=yW (ep.of (HC5.out.below.trans (hb6.mono HC5.out.below.size)))
    clear hb6
    go_wp2_with fail
    refine ⟨HC6.out,?_⟩
    repeat (refine aQ rfl rfl (fun K hK=>?_);unfold ep;go_big_quiet_op;refine hK _ ?_;clear hK K)
    refine kZ (fun _=>?_)
    go_wp2_with fail
    go_ret
    exact ⟨ac (by simp [bj,t1,t2,t3]),HB6.out⟩
   ·simp only [Bool.not_eq_true] at t3
    have u2:((r.body.length:Int)≥1):=by omega
    go_enter Tryz.func53,Tryz.ntmps53
    go_wp2_with fail
    have HW:=yW (HB.out (.cells #[.string r.head.name,.slice A0 r.head.terms.length c0,.slice A1 r.body.length c1,.slice A2 r.exprs.length c2,.slice A3 r.scopes.length c3] 30))
    have x0:(w.alloc (.cells #[.string r.head.name,.slice A0 r.head.terms.length c0,.slice A1 r.body.length c1,.slice A2 r.exprs.length c2,.slice A3 r.scopes.length c3] 30)).cell? ⟨w.heap.size,0,none⟩=some (.string r.head.name):=by go_simp
    have x1:(w.alloc (.cells #[.string r.head.name,.slice A0 r.head.terms.length c0,.slice A1 r.body.length c1,.slice A2 r.exprs.length c2,.slice A3 r.scopes.length c3] 30)).cell? ⟨w.heap.size,1,none⟩=some (.slice A0 r.head.terms.length c0):=by go_simp
    have x2:(w.alloc (.cells #[.string r.head.name,.slice A0 r.head.terms.length c0,.slice A1 r.body.length c1,.slice A2 r.exprs.length c2,.slice A3 r.scopes.length c3] 30)).cell? ⟨w.heap.size,2,none⟩=some (.slice A1 r.body.length c1):=by go_simp
    have x3:(w.alloc (.cells #[.string r.head.name,.slice A0 r.head.terms.length c0,.slice A1 r.body.length c1,.slice A2 r.exprs.length c2,.slice A3 r.scopes.length c3] 30)).cell? ⟨w.heap.size,3,none⟩=some (.slice A2 r.exprs.length c2):=by go_simp
    have x4:(w.alloc (.cells #[.string r.head.name,.slice A0 r.head.terms.length c0,.slice A1 r.body.length c1,.slice A2 r.exprs.length c2,.slice A3 r.scopes.length c3] 30)).cell? ⟨w.heap.size,4,none⟩=some (.slice A3 r.scopes.length c3):=by go_simp
    generalize (w.alloc (.cells #[.string r.head.name,.slice A0 r.head.terms.length c0,.slice A1 r.body.length c1,.slice A2 r.exprs.length c2,.slice A3 r.scopes.length c3] 30))=W at *
    have q0:=cell_regrown x0
    have q1:=cell_regrown x1
    have q2:=cell_regrown x2
    have q3:=cell_regrown x3
    have q4:=cell_regrown x4
    refine cQ (ep W) (by kernel_rfl) (by kernel_rfl) (ep.drew W) ?_
    repeat (refine aQ rfl rfl (fun K hK=>?_);unfold ep;go_big_quiet_op;refine hK _ ?_;clear hK K)
    refine cj rfl rfl (fun K hK=>?_)
    go_wp2_with fail
    refine (dU (d:=d) (B:=B) (vs:=[_,_]) ((PrR d).keep HW.out.drew hB HP.out) (yX hB HW.out.size)).mono ?_
    rintro x w1 ⟨rfl,hb1⟩
    have HB1:=yW (HW.out.trans ((za _ W).drew.trans (hb1.mono (yY _)) |>.mono HW.out.size))
    have HC:=yW (ep.of ((za W.heap.size W).drew.trans (hb1.mono (yY _))))
    clear hb1
    rw [t1]
    go_wp2_with fail
    refine ⟨HC.out,?_⟩
    repeat (refine aQ rfl rfl (fun K hK=>?_);unfold ep;go_big_quiet_op;refine hK _ ?_;clear hK K)
    refine cj rfl rfl (fun K hK=>?_)
    go_wp2_with fail
    refine (mL (d:=d) (B:=B) (r:=r) (vs:=[_,_,_,_,_]) ((RuR d).keep HB1.out hB HR.out) (yX hB HB1.out.size)).mono ?_
    rintro x w2 ⟨rfl,hb2⟩
    have HB2:=yW (HB1.out.trans (hb2.mono HB1.out.size))
    have HC2:=yW (ep.of (HC.out.below.trans (hb2.mono HC.out.below.size)))
    clear hb2
    rw [t3]
    go_wp2_with fail
    refine ⟨HC2.out,?_⟩
    repeat first | (refine aQ rfl rfl (fun K hK=>?_);unfold ep;go_big_quiet_op;refine hK _ ?_;clear hK K) | (refine lc (a':=?_) rfl ?_ ?_;rotate_left;focus (dsimp only [Act.put];simp only [List.setIfInBounds_toArray,List.set_cons_succ,List.set_cons_zero];rfl))
    refine kZ (fun _=>?_)
    go_wp2_with fail
    go_ret
    exact ⟨ac (by simp [bj,t3]),HB2.out⟩
  ·have u2:¬((r.body.length:Int)≥1):=by omega
   go_enter Tryz.func53,Tryz.ntmps53
   go_wp2_with fail
   have HW:=yW (HB.out (.cells #[.string r.head.name,.slice A0 r.head.terms.length c0,.slice A1 r.body.length c1,.slice A2 r.exprs.length c2,.slice A3 r.scopes.length c3] 30))
   have x0:(w.alloc (.cells #[.string r.head.name,.slice A0 r.head.terms.length c0,.slice A1 r.body.length c1,.slice A2 r.exprs.length c2,.slice A3 r.scopes.length c3] 30)).cell? ⟨w.heap.size,0,none⟩=some (.string r.head.name):=by go_simp
   have x1:(w.alloc (.cells #[.string r.head.name,.slice A0 r.head.terms.length c0,.slice A1 r.body.length c1,.slice A2 r.exprs.length c2,.slice A3 r.scopes.length c3] 30)).cell? ⟨w.heap.size,1,none⟩=some (.slice A0 r.head.terms.length c0):=by go_simp
   have x2:(w.alloc (.cells #[.string r.head.name,.slice A0 r.head.terms.length c0,.slice A1 r.body.length c1,.slice A2 r.exprs.length c2,.slice A3 r.scopes.length c3] 30)).cell? ⟨w.heap.size,2,none⟩=some (.slice A1 r.body.length c1):=by go_simp
   have x3:(w.alloc (.cells #[.string r.head.name,.slice A0 r.head.terms.length c0,.slice A1 r.body.length c1,.slice A2 r.exprs.length c2,.slice A3 r.scopes.length c3] 30)).cell? ⟨w.heap.size,3,none⟩=some (.slice A2 r.exprs.length c2):=by go_simp
   have x4:(w.alloc (.cells #[.string r.head.name,.slice A0 r.head.terms.length c0,.slice A1 r.body.length c1,.slice A2 r.exprs.length c2,.slice A3 r.scopes.length c3] 30)).cell? ⟨w.heap.size,4,none⟩=some (.slice A3 r.scopes.length c3):=by go_simp
   generalize (w.alloc (.cells #[.string r.head.name,.slice A0 r.head.terms.length c0,.slice A1 r.body.length c1,.slice A2 r.exprs.length c2,.slice A3 r.scopes.length c3] 30))=W at *
   have q0:=cell_regrown x0
   have q1:=cell_regrown x1
   have q2:=cell_regrown x2
   have q3:=cell_regrown x3
   have q4:=cell_regrown x4
   refine cQ (ep W) (by kernel_rfl) (by kernel_rfl) (ep.drew W) ?_
   repeat (refine aQ rfl rfl (fun K hK=>?_);unfold ep;go_big_quiet_op;refine hK _ ?_;clear hK K)
   refine cj rfl rfl (fun K hK=>?_)
   go_wp2_with fail
   refine (dU (d:=d) (B:=B) (vs:=[_,_]) ((PrR d).keep HW.out.drew hB HP.out) (yX hB HW.out.size)).mono ?_
   rintro x w1 ⟨rfl,hb1⟩
   have HB1:=yW (HW.out.trans ((za _ W).drew.trans (hb1.mono (yY _)) |>.mono HW.out.size))
   have HC:=yW (ep.of ((za W.heap.size W).drew.trans (hb1.mono (yY _))))
   clear hb1
   rw [t1]
   go_wp2_with fail
   refine ⟨HC.out,?_⟩
   repeat first | (refine aQ rfl rfl (fun K hK=>?_);unfold ep;go_big_quiet_op;refine hK _ ?_;clear hK K) | (refine lc (a':=?_) rfl ?_ ?_;rotate_left;focus (dsimp only [Act.put];simp only [List.setIfInBounds_toArray,List.set_cons_succ,List.set_cons_zero];rfl))
   refine kZ (fun _=>?_)
   go_wp2_with fail
   go_ret
   exact ⟨ac (by simp [bj,t2]),HB1.out⟩
 ·simp only [Bool.not_eq_true] at t1
  go_enter Tryz.func53,Tryz.ntmps53
  go_wp2_with fail
  have HW:=yW (HB.out (.cells #[.string r.head.name,.slice A0 r.head.terms.length c0,.slice A1 r.body.length c1,.slice A2 r.exprs.length c2,.slice A3 r.scopes.length c3] 30))
  have x0:(w.alloc (.cells #[.string r.head.name,.slice A0 r.head.terms.length c0,.slice A1 r.body.length c1,.slice A2 r.exprs.length c2,.slice A3 r.scopes.length c3] 30)).cell? ⟨w.heap.size,0,none⟩=some (.string r.head.name):=by go_simp
  have x1:(w.alloc (.cells #[.string r.head.name,.slice A0 r.head.terms.length c0,.slice A1 r.body.length c1,.slice A2 r.exprs.length c2,.slice A3 r.scopes.length c3] 30)).cell? ⟨w.heap.size,1,none⟩=some (.slice A0 r.head.terms.length c0):=by go_simp
  have x2:(w.alloc (.cells #[.string r.head.name,.slice A0 r.head.terms.length c0,.slice A1 r.body.length c1,.slice A2 r.exprs.length c2,.slice A3 r.scopes.length c3] 30)).cell? ⟨w.heap.size,2,none⟩=some (.slice A1 r.body.length c1):=by go_simp
  have x3:(w.alloc (.cells #[.string r.head.name,.slice A0 r.head.terms.length c0,.slice A1 r.body.length c1,.slice A2 r.exprs.length c2,.slice A3 r.scopes.length c3] 30)).cell? ⟨w.heap.size,3,none⟩=some (.slice A2 r.exprs.length c2):=by go_simp
  have x4:(w.alloc (.cells #[.string r.head.name,.slice A0 r.head.terms.length c0,.slice A1 r.body.length c1,.slice A2 r.exprs.length c2,.slice A3 r.scopes.length c3] 30)).cell? ⟨w.heap.size,4,none⟩=some (.slice A3 r.scopes.length c3):=by go_simp
  generalize (w.alloc (.cells #[.string r.head.name,.slice A0 r.head.terms.length c0,.slice A1 r.body.length c1,.slice A2 r.exprs.length c2,.slice A3 r.scopes.length c3] 30))=W at *
  have q0:=cell_regrown x0
  have q1:=cell_regrown x1
  have q2:=cell_regrown x2
  have q3:=cell_regrown x3
  have q4:=cell_regrown x4
  refine cQ (ep W) (by kernel_rfl) (by kernel_rfl) (ep.drew W) ?_
  repeat (refine aQ rfl rfl (fun K hK=>?_);unfold ep;go_big_quiet_op;refine hK _ ?_;clear hK K)
  refine cj rfl rfl (fun K hK=>?_)
  go_wp2_with fail
  refine (dU (d:=d) (B:=B) (vs:=[_,_]) ((PrR d).keep HW.out.drew hB HP.out) (yX hB HW.out.size)).mono ?_
  rintro x w1 ⟨rfl,hb1⟩
  have HB1:=yW (HW.out.trans ((za _ W).drew.trans (hb1.mono (yY _)) |>.mono HW.out.size))
  have HC:=yW (ep.of ((za W.heap.size W).drew.trans (hb1.mono (yY _))))
  clear hb1
  rw [t1]
  go_wp2_with fail
  refine ⟨HC.out,?_⟩
  repeat first | (refine aQ rfl rfl (fun K hK=>?_);unfold ep;go_big_quiet_op;refine hK _ ?_;clear hK K) | (refine lc (a':=?_) rfl ?_ ?_;rotate_left;focus (dsimp only [Act.put];simp only [List.setIfInBounds_toArray,List.set_cons_succ,List.set_cons_zero];rfl))
  refine kZ (fun _=>?_)
  go_wp2_with fail
  go_ret
  exact ⟨ac (by simp [bj,t1]),HB1.out⟩
theorem RTm.deep {w:World} {B:Nat}:∀{d:Nat} {t:Tm} {vs:List Value},RTm w B d t vs→RTm w B (d+1) t vs
 | 0,_,_,h=>h.elim
 | d+1,t,vs,⟨A,c,e,h1,h2,h3,h4,h5,h6⟩=>⟨A,c,e,h1,h2,h3,h4,h5,h6.mono fun i vs _ ⟨x,hx,hr⟩=>⟨x,hx,RTm.deep hr⟩⟩
theorem RTm.deeper {w:World} {B:Nat} {d D:Nat} {t:Tm} {vs:List Value} (hd:d≤D) (h:RTm w B d t vs):RTm w B D t vs:=by
 induction D with
 | zero=> have:d=0:=by omega
          subst this;exact h
 | succ D ih=>
   by_cases he:d=D+1
   ·subst he;exact h
   ·exact RTm.deep (ih (by omega))
theorem kB {α:Type}:∀(n:Nat) (P:Nat→α→Prop),(∀i,i<n→∃a,P i a)→∃xs:List α,xs.length=n∧∀i,i<n→∃a,xs[i]? = some a∧P i a
 | 0,_,_=>⟨[],rfl,fun _ h=>by omega⟩
 | n+1,P,h=>by
   obtain ⟨xs,hl,hx⟩:=kB n P (fun i hi=>h i (by omega))
   obtain ⟨a,ha⟩:=h n (by omega)
   refine ⟨xs++[a],by simp [hl],fun i hi=>?_⟩
   by_cases hin:i<n
   ·obtain ⟨b,hb,hp⟩:=hx i hin
    exact ⟨b,by rw [List.getElem?_append_left (by omega)];exact hb,hp⟩
   ·have:i=n:=by omega
    subst this
    exact ⟨a,by rw [List.getElem?_append_right (by omega)];simp [hl],ha⟩
def Ok {H:Type} (P:Program) (t:TypeId) (d:DataW H):Prop:=∀n∈d.weights P t,n≤reachBytes
section
variable {H:Type} {enc:TypeId × Value→H} {P:Program} {w:World} {base:Nat} {held:Bool}
theorem cu {t:TypeId} {fs:Array Field} {fuel:Nat} {cs:List Value} {x:DataW H × List MemPlace} (ht:P.underlying t=some (.struct fs)) (h:DataW.trod enc P w base (fun _=>true) held fuel t cs=some x) (ho:Ok P t x.1) :
 cs.length=P.cellsOf t∧∃n,fuel=n+1∧∀(j:Nat) (f:Field) (ty:TypeId) (off C:Nat),fs[j]? = some f→f.type=ty→f.offset=off→P.cellsOf ty=C→∃y,DataW.trod enc P w base (fun _=>true) held n ty ((cs.drop off).take C)=some y∧Ok P ty y.1:=by
 obtain ⟨xs,n,hn,hx,hc,hl,hf⟩:=DataW.trod_struct ht h
 refine ⟨hc,n,hn,fun j f ty off C hj h1 h2 h3=>?_⟩
 subst h1 h2 h3
 have hjl:j<fs.size:=(Array.getElem?_eq_some_iff.1 hj).1
 have hys:xs[j]? = some (xs[j]'(by omega)):=List.getElem?_eq_getElem (by omega)
 refine ⟨_,(hf j f hj).trans hys,fun m hm=>ho m ?_⟩
 rw [hx]
 simp only [DataW.weights,ht]
 refine DataW.weights_mem_each (j:=j) (t:=f.type) (d:=(xs[j]'(by omega)).1) ?_ ?_ m hm
 ·rw [List.getElem?_map,Array.getElem?_toList,hj];rfl
 ·rw [List.getElem?_map,hys];rfl
theorem gR {e:TypeId}:∀{l:List (DataW H)} {d:DataW H},d∈l→∀n∈d.weights P e,n∈DataW.weightsAll P e l
 | a::l,d,hd,n,hn=>by
   simp only [DataW.weightsAll,List.mem_append]
   rcases List.mem_cons.1 hd with rfl | hd
   ·exact .inl hn
   ·exact .inr (gR hd n hn)
theorem gD {t:TypeId} {fuel:Nat} {cs:List Value} {x:DataW H × List MemPlace} (ht:P.underlying t=some (.int .i64)) (h:DataW.trod enc P w base (fun _=>true) held fuel t cs=some x):∃n,cs=[.int .i64 n]∧I64 n:=by
 obtain ⟨n,hcs,_,hwf⟩:=DataW.trod_int ht h
 refine ⟨n,hcs,?_⟩
 simp only [Lit.wf] at hwf
 unfold I64
 revert hwf
 have e1:IntKind.i64.signed=true:=rfl
 have e2:IntKind.i64.bits=64:=rfl
 simp [IntKind.min,IntKind.max,e1,e2]
theorem hX {t:TypeId} {fuel:Nat} {cs:List Value} {x:DataW H × List MemPlace} (ht:P.underlying t=some .string) (h:DataW.trod enc P w base (fun _=>true) held fuel t cs=some x) (ho:Ok P t x.1):∃s:ByteArray,cs=[.string s]∧s.size≤140737488351232:=by
 obtain ⟨s,hcs,hx,_⟩:=DataW.trod_string ht h
 refine ⟨s,hcs,?_⟩
 have:=ho s.data.toList.length (by rw [hx];simp [DataW.weights])
 simpa [reachBytes] using this
theorem lg {α:Type} (R:Reader α) {D:Nat} {t e:TypeId} {fuel:Nat} {cs:List Value} {x:DataW H × List MemPlace} (ht:P.underlying t=some (.slice e)) (hC:P.cellsOf e=R.k) (hk:0<R.k) {B:Nat} (hb1:P.bytesOf e=B)
 (h:DataW.trod enc P w base (fun _=>true) held fuel t cs=some x) (ho:Ok P t x.1) (hD:fuel≤D+1)
 (hel:∀n,n≤D→∀cs x,DataW.trod enc P w base (fun _=>true) held n e cs=some x→Ok P e x.1→∃a,R.rd w w.heap.size a cs) :
 ∃(xs:List α) (A:Option Addr) (c:Nat),cs=[.slice A xs.length c]∧xs.length≤c∧c*B≤140737488351232∧RL R w w.heap.size xs A:=by
 rcases DataW.trod_slice ht h with ⟨hcs,_⟩ | ⟨a,len,cap,elems,rest,n,hn,hcs,hx,_,hl,_,hlen,hat,hsp,_⟩
 ·exact ⟨[],none,0,hcs,by simp,by simp,fun h0=>by simp at h0⟩
 have hrl:=(hsp rfl).1
 have hcap:cap*P.bytesOf e≤reachBytes:=by
  have:=ho ((elems.length+rest.length)*P.bytesOf e) (by rw [hx];simp [DataW.weights,ht])
  have e1:elems.length+rest.length=cap:=by omega
  rwa [e1] at this
 have hcapk:cap*B≤140737488351232:=by rw [hb1] at hcap;exact hcap
 have hE:∀i,i<len→∃a':α,∃cs',w.cells? base (a.add (i*P.cellsOf e)) (P.cellsOf e)=some cs'∧R.rd w w.heap.size a' cs':=by
  intro i hi
  have h1:=hat i hi
  have hg:elems[i]? = some (elems[i]'(by omega)):=List.getElem?_eq_getElem (by omega)
  rw [hg] at h1
  cases hc:w.cells? base (a.add (i*P.cellsOf e)) (P.cellsOf e) with
  | none=>rw [hc] at h1;simp at h1
  | some cs'=>
    rw [hc] at h1
    simp only [Option.bind_some] at h1
    obtain ⟨a',ha'⟩:=hel n (by omega) cs' _ h1 (fun m hm=>ho m (by
     rw [hx]
     simp only [DataW.weights,ht,List.mem_cons,List.mem_append]
     exact .inr (.inl (gR (List.mem_map.2 ⟨_,List.getElem_mem (by omega),rfl⟩) m hm))))
    exact ⟨a',cs',rfl,ha'⟩
 obtain ⟨xs,hxl,hxs⟩:=kB len _ hE
 refine ⟨xs,some a,cap,by rw [hcs,hxl],by omega,hcapk,fun h0=>?_⟩
 rw [hxl] at h0
 obtain ⟨a0,_,cs0,hc0,hr0⟩:=hxs 0 h0
 obtain ⟨_,hcl0,hat0⟩:=World.cells?_some hc0
 have hcell0:=hat0 0 (by omega)
 have e0:cs0[0]? = some (cs0[0]'(by omega)):=List.getElem?_eq_getElem (by omega)
 rw [e0] at hcell0
 have hsz:a.block<w.heap.size:=by
  have:=block_lt_of_cell hcell0
  simpa [Addr.add] using this
 have hspot:a.spot=none:=by simpa [Addr.add] using World.cell?_spot hcell0
 obtain ⟨b,off,spot⟩:=a
 dsimp only at hspot hsz
 subst hspot
 refine ⟨b,off,rfl,hsz,fun i hi=>?_⟩
 rw [hxl] at hi
 obtain ⟨ai,hai,csi,hci,hri⟩:=hxs i hi
 obtain ⟨_,hcl,hati⟩:=World.cells?_some hci
 refine ⟨csi,by omega,⟨ai,hai,hri⟩,fun j v hj=>?_⟩
 have hjl:j<csi.length:=(List.getElem?_eq_some_iff.1 hj).1
 have:=hati j (by omega)
 rw [hj] at this
 rw [←this,hC]
 congr 1
 simp only [Addr.add]
 split<;>split<;>simp_all<;>omega
theorem iG {α:Type} (R:Reader α) {D:Nat} {t e:TypeId} {fuel:Nat} {cs:List Value} {x:DataW H × List MemPlace} (ht:P.underlying t=some (.slice e)) (hC:P.cellsOf e=R.k) (hk:0<R.k) {B:Nat} (hb0:8*R.k≤B) (hb1:P.bytesOf e=B)
 (h:DataW.trod enc P w base (fun _=>true) held fuel t cs=some x) (ho:Ok P t x.1) (hD:fuel≤D+1)
 (hel:∀n,n≤D→∀cs x,DataW.trod enc P w base (fun _=>true) held n e cs=some x→Ok P e x.1→∃a,R.rd w w.heap.size a cs) :
 ∃xs v,cs=[v]∧RSl R w w.heap.size xs v:=by
 obtain ⟨xs,A,c,e1,h1,h2,h3⟩:=lg R ht hC hk hb1 h ho hD hel
 exact ⟨xs,_,e1,A,c,rfl,h1,⟨yX (Nat.mul_le_mul h1 hb0) h2,by
  have:=Nat.le_mul_of_pos_right c (show 0<B by omega)
  omega⟩,h3⟩
theorem fD:Tryz.prog.cellsOf 3=1:=by kernel_rfl
theorem pH:Tryz.prog.cellsOf 2=1:=by kernel_rfl
theorem fE:Tryz.prog.cellsOf 9=1:=by kernel_rfl
theorem kq:Tryz.prog.cellsOf 23=1:=by kernel_rfl
theorem pG:Tryz.prog.cellsOf 26=1:=by kernel_rfl
theorem pF:Tryz.prog.cellsOf 27=1:=by kernel_rfl
theorem tT:Tryz.prog.cellsOf 57=1:=by kernel_rfl
theorem nD:Tryz.prog.cellsOf 28=1:=by kernel_rfl
theorem gt:Tryz.prog.cellsOf 79=4:=by kernel_rfl
theorem gr:Tryz.prog.cellsOf 25=2:=by kernel_rfl
theorem qP:Tryz.prog.cellsOf 81=7:=by kernel_rfl
theorem ma:Tryz.prog.cellsOf 59=1:=by kernel_rfl
theorem kp:Tryz.prog.cellsOf 213=2:=by kernel_rfl
theorem rR:Tryz.prog.cellsOf 30=5:=by kernel_rfl
theorem qF:∀(n:Nat) (cs:List Value) (x:DataW H × List MemPlace),DataW.trod enc Tryz.prog w base (fun _=>true) held n 79 cs=some x→Ok Tryz.prog 79 x.1→∃t,RTm w w.heap.size n t cs
 | 0,cs,x,h,_=>by simp [DataW.trod] at h
 | n+1,cs,x,h,ho=>by
   obtain ⟨hc,n',hn,hf⟩:=cu (Tryz.underlying79) h ho
   have hn':n'=n:=by omega
   subst hn'
   have hc4:cs.length=4:=hc.trans gt
   match cs,hc4 with
   | [c0,c1,c2,c3],_=>
     obtain ⟨_,h0,_⟩:=hf 0 _ _ _ _ rfl rfl rfl fD
     obtain ⟨_,h1,_⟩:=hf 1 _ _ _ _ rfl rfl rfl pH
     obtain ⟨_,h2,o2⟩:=hf 2 _ _ _ _ rfl rfl rfl fE
     obtain ⟨_,h3,o3⟩:=hf 3 _ _ _ _ rfl rfl rfl kq
     obtain ⟨k0,e0,i0⟩:=gD (Tryz.underlying3) h0
     obtain ⟨k1,e1,i1⟩:=gD (Tryz.underlying2) h1
     obtain ⟨s2,e2,i2⟩:=hX (Tryz.underlying9) h2 o2
     obtain ⟨xs,A,c,e3,g1,g2,hrl⟩:=lg (TmR n') (D:=n') (B:=56) (Tryz.underlying23) gt (by simp [TmR]) (by kernel_rfl) h3 o3 (by omega) (fun m hm cs x hx ho=>by
      obtain ⟨t,ht⟩:=qF m cs x hx ho
      exact ⟨t,RTm.deeper hm ht⟩)
     replace e0:[c0]=_:=e0
     replace e1:[c1]=_:=e1
     replace e2:[c2]=_:=e2
     replace e3:[c3]=_:=e3
     simp only [List.cons.injEq,and_true] at e0 e1 e2 e3
     subst e0 e1 e2 e3
     exact ⟨⟨k0,k1,s2,xs⟩,A,c,rfl,g1,(show xs.length*40≤140737488351232∧c≤9223372036854775807 from ⟨by omega,by omega⟩),i2,i0,i1,hrl⟩
theorem tc {n D:Nat} {cs:List Value} {x:DataW H × List MemPlace} (h:DataW.trod enc Tryz.prog w base (fun _=>true) held n 23 cs=some x) (ho:Ok Tryz.prog 23 x.1) (hD:n≤D):∃ts v,cs=[v]∧RSl (TmR D) w w.heap.size ts v:=
 iG (TmR D) (D:=D) (B:=56) (Tryz.underlying23) gt (by simp [TmR]) (by simp [TmR]) (by kernel_rfl) h ho (by omega) (fun m hm cs x hx ho=>by
  obtain ⟨t,ht⟩:=qF m cs x hx ho
  exact ⟨t,RTm.deeper hm ht⟩)
theorem ln {n D:Nat} {cs:List Value} {x:DataW H × List MemPlace} (h:DataW.trod enc Tryz.prog w base (fun _=>true) held n 25 cs=some x) (ho:Ok Tryz.prog 25 x.1) (hD:n≤D):∃p,(PrR D).rd w w.heap.size p cs:=by
 obtain ⟨hc,n',hn,hf⟩:=cu (Tryz.underlying25) h ho
 have hcl:=hc.trans gr
 match cs,hcl with
 | [c0,c1],_=>
   obtain ⟨_,h0,o0⟩:=hf 0 _ _ _ _ rfl rfl rfl fE
   obtain ⟨_,h1,o1⟩:=hf 1 _ _ _ _ rfl rfl rfl kq
   obtain ⟨s0,e0,i0⟩:=hX (Tryz.underlying9) h0 o0
   obtain ⟨xs,v,e1,g1⟩:=tc (D:=D) h1 o1 (by omega)
   replace e0:[c0]=_:=e0
   replace e1:[c1]=_:=e1
   simp only [List.cons.injEq,and_true] at e0 e1
   subst e0 e1
   exact ⟨⟨s0,xs⟩,_,rfl,i0,g1⟩
theorem sL {n D:Nat} {cs:List Value} {x:DataW H × List MemPlace} (h:DataW.trod enc Tryz.prog w base (fun _=>true) held n 26 cs=some x) (ho:Ok Tryz.prog 26 x.1) (hD:n≤D):∃ts v,cs=[v]∧RSl (PrR D) w w.heap.size ts v:=
 iG (PrR D) (D:=D) (B:=40) (Tryz.underlying26) gr (by simp [PrR]) (by simp [PrR]) (by kernel_rfl) h ho (by omega) (fun m hm cs x hx ho=>ln hx ho hm)
theorem op_open {n D:Nat} {cs:List Value} {x:DataW H × List MemPlace} (h:DataW.trod enc Tryz.prog w base (fun _=>true) held n 81 cs=some x) (ho:Ok Tryz.prog 81 x.1) (hD:n≤D):∃o,(OpR D).rd w w.heap.size o cs:=by
 obtain ⟨hc,n',hn,hf⟩:=cu (Tryz.underlying81) h ho
 have hcl:=hc.trans qP
 match cs,hcl with
 | [c0,c1,c2,c3,c4,c5,c6],_=>
   obtain ⟨_,h0,_⟩:=hf 0 _ _ _ _ rfl rfl rfl fD
   obtain ⟨_,h1,o1⟩:=hf 1 _ _ _ _ rfl rfl rfl gt
   obtain ⟨_,h2,_⟩:=hf 2 _ _ _ _ rfl rfl rfl fD
   obtain ⟨_,h3,_⟩:=hf 3 _ _ _ _ rfl rfl rfl fD
   obtain ⟨k0,e0,i0⟩:=gD (Tryz.underlying3) h0
   obtain ⟨k2,e2,i2⟩:=gD (Tryz.underlying3) h2
   obtain ⟨k3,e3,i3⟩:=gD (Tryz.underlying3) h3
   obtain ⟨t,ht⟩:=qF _ _ _ h1 o1
   replace e0:[c0]=_:=e0
   replace e2:[c5]=_:=e2
   replace e3:[c6]=_:=e3
   replace ht:RTm w w.heap.size n' t [c1,c2,c3,c4]:=ht
   simp only [List.cons.injEq,and_true] at e0 e2 e3
   subst e0 e2 e3
   exact ⟨⟨k0,t,k2,k3⟩,_,rfl,i0,i2,i3,RTm.deeper (by omega) ht⟩
theorem xB {n D:Nat} {cs:List Value} {x:DataW H × List MemPlace} (h:DataW.trod enc Tryz.prog w base (fun _=>true) held n 57 cs=some x) (ho:Ok Tryz.prog 57 x.1) (hD:n≤D):∃ts v,cs=[v]∧RSl (OpR D) w w.heap.size ts v:=
 iG (OpR D) (D:=D) (B:=80) (Tryz.underlying57) qP (by simp [OpR]) (by simp [OpR]) (by kernel_rfl) h ho (by omega) (fun m hm cs x hx ho=>op_open hx ho hm)
theorem uo {n D:Nat} {cs:List Value} {x:DataW H × List MemPlace} (h:DataW.trod enc Tryz.prog w base (fun _=>true) held n 59 cs=some x) (ho:Ok Tryz.prog 59 x.1) (hD:n≤D):∃o,(ExR D).rd w w.heap.size o cs:=by
 obtain ⟨hc,n',hn,hf⟩:=cu (Tryz.underlying59) h ho
 have hcl:=hc.trans ma
 match cs,hcl with
 | [c0],_=>
   obtain ⟨_,h0,o0⟩:=hf 0 _ _ _ _ rfl rfl rfl tT
   obtain ⟨xs,v,e0,g⟩:=xB (D:=D) h0 o0 (by omega)
   exact ⟨xs,v,e0,g⟩
theorem sd {n D:Nat} {cs:List Value} {x:DataW H × List MemPlace} (h:DataW.trod enc Tryz.prog w base (fun _=>true) held n 27 cs=some x) (ho:Ok Tryz.prog 27 x.1) (hD:n≤D):∃ts v,cs=[v]∧RSl (ExR D) w w.heap.size ts v:=
 iG (ExR D) (D:=D) (B:=24) (Tryz.underlying27) ma (by simp [ExR]) (by simp [ExR]) (by kernel_rfl) h ho (by omega) (fun m hm cs x hx ho=>uo hx ho hm)
theorem sV {n:Nat} {cs:List Value} {x:DataW H × List MemPlace} (h:DataW.trod enc Tryz.prog w base (fun _=>true) held n 213 cs=some x) (ho:Ok Tryz.prog 213 x.1):∃o,ScR.rd w w.heap.size o cs:=by
 obtain ⟨hc,n',hn,hf⟩:=cu (Tryz.underlying213) h ho
 have hcl:=hc.trans kp
 match cs,hcl with
 | [c0,c1],_=>
   obtain ⟨_,h0,_⟩:=hf 0 _ _ _ _ rfl rfl rfl fD
   obtain ⟨_,h1,o1⟩:=hf 1 _ _ _ _ rfl rfl rfl fE
   obtain ⟨k0,e0,i0⟩:=gD (Tryz.underlying3) h0
   obtain ⟨s1,e1,i1⟩:=hX (Tryz.underlying9) h1 o1
   replace e0:[c0]=_:=e0
   replace e1:[c1]=_:=e1
   simp only [List.cons.injEq,and_true] at e0 e1
   subst e0 e1
   exact ⟨⟨k0,s1⟩,rfl,i0,i1⟩
theorem qz {n:Nat} {cs:List Value} {x:DataW H × List MemPlace} (h:DataW.trod enc Tryz.prog w base (fun _=>true) held n 28 cs=some x) (ho:Ok Tryz.prog 28 x.1):∃ts v,cs=[v]∧RSl ScR w w.heap.size ts v:=
 iG ScR (D:=n) (B:=24) (Tryz.underlying28) kp (by simp [ScR]) (by simp [ScR]) (by kernel_rfl) h ho (by omega) (fun m hm cs x hx ho=>sV hx ho)
theorem vG {n D:Nat} {cs:List Value} {x:DataW H × List MemPlace} (h:DataW.trod enc Tryz.prog w base (fun _=>true) held n 30 cs=some x) (ho:Ok Tryz.prog 30 x.1) (hD:n≤D):∃r,(RuR D).rd w w.heap.size r cs:=by
 obtain ⟨hc,n',hn,hf⟩:=cu (Tryz.underlying30) h ho
 have hcl:=hc.trans rR
 match cs,hcl with
 | [c0,c1,c2,c3,c4],_=>
   obtain ⟨_,h0,o0⟩:=hf 0 _ _ _ _ rfl rfl rfl gr
   obtain ⟨_,h1,o1⟩:=hf 1 _ _ _ _ rfl rfl rfl pG
   obtain ⟨_,h2,o2⟩:=hf 2 _ _ _ _ rfl rfl rfl pF
   obtain ⟨_,h3,o3⟩:=hf 3 _ _ _ _ rfl rfl rfl nD
   obtain ⟨p,hp⟩:=ln (D:=D) h0 o0 (by omega)
   obtain ⟨b,v1,e1,g1⟩:=sL (D:=D) h1 o1 (by omega)
   obtain ⟨es,v2,e2,g2⟩:=sd (D:=D) h2 o2 (by omega)
   obtain ⟨ss,v3,e3,g3⟩:=qz h3 o3
   replace hp:(PrR D).rd w w.heap.size p [c0,c1]:=hp
   obtain ⟨v0,e0,gs,g0⟩:=hp
   replace e1:[c2]=_:=e1
   replace e2:[c3]=_:=e2
   replace e3:[c4]=_:=e3
   simp only [List.cons.injEq,and_true] at e0 e1 e2 e3
   obtain ⟨rfl,rfl⟩:=e0
   subst e1 e2 e3
   exact ⟨⟨p,b,es,ss⟩,_,_,_,_,rfl,gs,g0,g1,g2,g3⟩
end
end Go.Proofs.YtdphibjibnffeaaGreat
