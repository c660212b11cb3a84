/- The bit of a block. -/
import Derived.Test.YtjpndglegpcdnaaGreatRule3
import Derived.Test.YtjpndglegpcdnaaGreatHasSet
import Derived.Test.YtjpndglegpcdnaaGreatCpt0
import Derived.Test.YtjpndglegpcdnaaGreatPush
set_option linter.unusedVariables false
set_option linter.unusedSimpArgs false
set_option maxRecDepth 100000
set_option maxHeartbeats 8000000
namespace Go.Proofs.YtjpndglegpcdnaaGreat
open Go.ChangeShapes Go.WideShapes Go.ChangeAt Go.RowKit
def bh (r:Ru):Bool:=r.head.name.toList.isEmpty&&decide (r.head.terms.length=0)&&decide (1≤r.body.length+r.exprs.length)&&gU r
def aQ (r:Ru):Bool:=aE r.head&&decide (1≤r.body.length)&&gU r&&iY (eB (az [r.head])) (eB (az r.body))
theorem lR {P:Program} {ops:Array Oper} {C:World→Prop} {Qf:Act→World→Prop} {o:Oper} {rest:List Oper} {a a':Act} {w:World} (hw:Region.wanted o (yielded ops a.tmps)=false) (ha:a.put o.dst undef=a') (h:hI P ops C Qf rest a' w):hI P ops C Qf (o::rest) a w:=
 yR hw (ha▸h)
theorem qK {r:Ru} (h:gU r=true):(az r.body).length≤32:=by
 unfold gU at h
 simp only [AN,AT,List.all_eq_true] at h
 obtain ⟨⟨⟨⟨h1,h2⟩,_⟩,_⟩,_⟩:=h
 have:=fv r.body (fun p hp=>gm (h2 p hp))
 omega
theorem pF {d B:Nat} {r:Ru} {vs:List Value} {w:World} (hr:(RuR d).rd w B r vs) (hB:B≤w.heap.size) :
 Calls Tryz.prog 75 #[.agg vs.toArray] w fun x w'=>x=.returned (.bool (bh r))∧Below w.heap.size w w':=by
 have HR:=AE hr
 obtain ⟨_,_,_,_,rfl,hs,⟨A0,c0,rfl,h01,h02,hl0⟩,⟨A1,c1,rfl,h11,h12,hl1⟩,⟨A2,c2,rfl,h21,h22,hl2⟩,⟨A3,c3,rfl,h31,h32,hl3⟩⟩:=hr
 simp only [PrR,ExR,ScR,TmR] at h02 h12 h22 h32
 have HB:=AE (fun o:Obj=>(AI w.heap.size w).alloc (AG _) o)
 clear hl0 hl1 hl2 hl3
 by_cases t1:r.head.name.toList.isEmpty=true
 ·by_cases t2:r.head.terms.length=0
  ·by_cases t3:1≤r.body.length+r.exprs.length
   ·have u2:((r.head.terms.length:Int)==0)=true:=by simp [t2]
    have T2:=AE t2
    clear t2
    have u3:((r.body.length:Int)+(r.exprs.length:Int)≥1):=by omega
    go_enter Tryz.func75,Tryz.ntmps75
    go_wp2_with fail
    refine (nI (d:=d) (B:=B) (r:=r) (vs:=[_,_,_,_,_]) ((RuR d).keep (HB.out _) hB HR.out) (AF hB (HB.out _).size)).mono ?_
    rintro x w1 ⟨rfl,hb1⟩
    have HB1:=AE ((HB.out _).trans (hb1.mono (HB.out _).size))
    clear hb1
    go_wp2_with fail
    go_ret
    exact ⟨ac (by simp [bh,t1,T2.out,t3]),HB1.out⟩
   ·have u2:((r.head.terms.length:Int)==0)=true:=by simp [t2]
    have T2:=AE t2
    clear t2
    have u3:¬((r.body.length:Int)+(r.exprs.length:Int)≥1):=by omega
    go_enter Tryz.func75,Tryz.ntmps75
    go_wp2_with fail
    go_ret
    exact ⟨ac (by simp [bh,t3]),HB.out _⟩
  ·have u2:((r.head.terms.length:Int)==0)=false:=by simp [t2]
   go_enter Tryz.func75,Tryz.ntmps75
   go_wp2_with fail
   go_ret
   exact ⟨ac (by simp [bh,t2]),HB.out _⟩
 ·simp only [Bool.not_eq_true] at t1
  go_enter Tryz.func75,Tryz.ntmps75
  go_wp2_with fail
  go_ret
  exact ⟨ac (by simp [bh,t1]),HB.out _⟩
theorem lL {d B:Nat} {r:Ru} {vs:List Value} {w:World} (hr:(RuR d).rd w B r vs) (hB:B≤w.heap.size) :
 Calls Tryz.prog 64 #[.agg vs.toArray] w fun x w'=>x=.returned (.bool (aQ r))∧Below w.heap.size w w':=by
 have HR:=AE hr
 obtain ⟨_,_,_,_,rfl,hs,⟨A0,c0,rfl,h01,h02,hl0⟩,⟨A1,c1,rfl,h11,h12,hl1⟩,⟨A2,c2,rfl,h21,h22,hl2⟩,⟨A3,c3,rfl,h31,h32,hl3⟩⟩:=hr
 simp only [PrR,ExR,ScR,TmR] at h02 h12 h22 h32
 have HB:=AE (fun o:Obj=>(AI w.heap.size w).alloc (AG _) o)
 have HP:=AE (show (PrR d).rd w B r.head [.string r.head.name,.slice A0 r.head.terms.length c0] from ⟨_,rfl,hs,_,_,rfl,h01,h02,hl0⟩)
 have HL1:=AE hl1
 clear hl0 hl1 hl2 hl3
 have e1:((r.body.length:Int)≥1)↔(1≤r.body.length):=by omega
 by_cases t1:aE r.head=true
 ·by_cases t2:1≤r.body.length
  ·by_cases t3:gU r=true
   ·have u2:((r.body.length:Int)≥1):=by omega
    go_enter Tryz.func64,Tryz.ntmps64
    go_wp2_with fail
    have HW:=AE (HB.out (.cells #[.string r.head.name,.slice A0 r.head.terms.length c0,.slice A1 r.body.length c1,.slice A2 r.exprs.length c2,.slice A3 r.scopes.length c3] 58))
    have x0:(w.alloc (.cells #[.string r.head.name,.slice A0 r.head.terms.length c0,.slice A1 r.body.length c1,.slice A2 r.exprs.length c2,.slice A3 r.scopes.length c3] 58)).cell? ⟨w.heap.size,0,none⟩=some (.string r.head.name):=by go_simp
    have x1:(w.alloc (.cells #[.string r.head.name,.slice A0 r.head.terms.length c0,.slice A1 r.body.length c1,.slice A2 r.exprs.length c2,.slice A3 r.scopes.length c3] 58)).cell? ⟨w.heap.size,1,none⟩=some (.slice A0 r.head.terms.length c0):=by go_simp
    have x2:(w.alloc (.cells #[.string r.head.name,.slice A0 r.head.terms.length c0,.slice A1 r.body.length c1,.slice A2 r.exprs.length c2,.slice A3 r.scopes.length c3] 58)).cell? ⟨w.heap.size,2,none⟩=some (.slice A1 r.body.length c1):=by go_simp
    have x3:(w.alloc (.cells #[.string r.head.name,.slice A0 r.head.terms.length c0,.slice A1 r.body.length c1,.slice A2 r.exprs.length c2,.slice A3 r.scopes.length c3] 58)).cell? ⟨w.heap.size,3,none⟩=some (.slice A2 r.exprs.length c2):=by go_simp
    have x4:(w.alloc (.cells #[.string r.head.name,.slice A0 r.head.terms.length c0,.slice A1 r.body.length c1,.slice A2 r.exprs.length c2,.slice A3 r.scopes.length c3] 58)).cell? ⟨w.heap.size,4,none⟩=some (.slice A3 r.scopes.length c3):=by go_simp
    generalize (w.alloc (.cells #[.string r.head.name,.slice A0 r.head.terms.length c0,.slice A1 r.body.length c1,.slice A2 r.exprs.length c2,.slice A3 r.scopes.length c3] 58))=W at *
    have q0:=cell_regrown x0
    have q1:=cell_regrown x1
    have q2:=cell_regrown x2
    have q3:=cell_regrown x3
    have q4:=cell_regrown x4
    refine cU (eC W) (by kernel_rfl) (by kernel_rfl) (eC.drew W) ?_
    repeat (refine aY rfl rfl (fun K hK=>?_);unfold eC;go_big_quiet_op;refine hK _ ?_;clear hK K)
    refine cB rfl rfl (fun K hK=>?_)
    go_wp2_with fail
    refine (dm (d:=d) (B:=B) (vs:=[_,_]) ((PrR d).keep HW.out.drew hB HP.out) (AF hB HW.out.size)).mono ?_
    rintro x w1 ⟨rfl,hb1⟩
    have HB1:=AE (HW.out.trans ((AI _ W).drew.trans (hb1.mono (AG _)) |>.mono HW.out.size))
    have HC:=AE (eC.of ((AI W.heap.size W).drew.trans (hb1.mono (AG _))))
    clear hb1
    rw [t1]
    go_wp2_with fail
    refine ⟨HC.out,?_⟩
    repeat (refine aY rfl rfl (fun K hK=>?_);unfold eC;go_big_quiet_op;refine hK _ ?_;clear hK K)
    refine cB rfl rfl (fun K hK=>?_)
    go_wp2_with fail
    refine (nI (d:=d) (B:=B) (r:=r) (vs:=[_,_,_,_,_]) ((RuR d).keep HB1.out hB HR.out) (AF hB HB1.out.size)).mono ?_
    rintro x w2 ⟨rfl,hb2⟩
    have HB2:=AE (HB1.out.trans (hb2.mono HB1.out.size))
    have HC2:=AE (eC.of (HC.out.below.trans (hb2.mono HC.out.below.size)))
    clear hb2
    rw [t3]
    go_wp2_with fail
    refine ⟨HC2.out,?_⟩
    repeat (refine aY rfl rfl (fun K hK=>?_);unfold eC;go_big_quiet_op;refine hK _ ?_;clear hK K)
    refine cB rfl rfl (fun K hK=>?_)
    go_wp2_with fail
    have HW3:=AE (HB2.out.trans ((AI w2.heap.size w2).alloc (AG _) (.cells #[.string r.head.name,.slice A0 r.head.terms.length c0] 26) |>.mono HB2.out.size))
    have HC3:=AE (eC.of (HC2.out.below.trans ((AI w2.heap.size w2).alloc (AG _) (.cells #[.string r.head.name,.slice A0 r.head.terms.length c0] 26) |>.mono HC2.out.below.size)))
    have y0:(w2.alloc (.cells #[.string r.head.name,.slice A0 r.head.terms.length c0] 26)).cell? ⟨w2.heap.size,0,none⟩=some (.string r.head.name):=by go_simp
    have y1:(w2.alloc (.cells #[.string r.head.name,.slice A0 r.head.terms.length c0] 26)).cell? ⟨w2.heap.size,1,none⟩=some (.slice A0 r.head.terms.length c0):=by go_simp
    have ysz:w2.heap.size<(w2.alloc (.cells #[.string r.head.name,.slice A0 r.head.terms.length c0] 26)).heap.size:=by go_simp
    refine ⟨HC3.out,?_⟩
    generalize (w2.alloc (.cells #[.string r.head.name,.slice A0 r.head.terms.length c0] 26))=w3 at *
    have HO:=AE (RL.one (x:=r.head) (b:=w2.heap.size) ysz ((PrR d).wide (AF hB HW3.out.size) ((PrR d).keep HW3.out hB HP.out)) (fun j v hv=>by
     rcases j with _ | _ | j
     ·simp only [AU,AP] at hv;rw [←hv];exact y0
     ·simp only [List.getElem?_cons_succ,AU,AP] at hv;rw [←hv];exact y1
     ·simp at hv))
    have hcount1:(az [r.head]).length≤8:=by
     have:=fv [r.head] (fun p hp=>by simp at hp;rw [hp];exact gm t1)
     simpa using this
    have hcount2:=qK t3
    have hlen1:(eB (az [r.head])).length≤8:=AF (eH _) hcount1
    have hlen2:(eB (az r.body)).length≤32:=AF (eH _) hcount2
    have HSM1:=AE (gp (RL.smallP HO.out))
    have HSM2:=AE (gp (RL.smallP HL1.out))
    clear y0 y1
    refine cB rfl rfl (fun K hK=>?_)
    go_wp2_with fail
    refine (lT d [r.head] (some ⟨w2.heap.size,0,none⟩) 1 _ _ HO.out (AG _) (by simp) (by omega)).mono ?_
    rintro x w4 ⟨v4,rfl,hown,hb4⟩
    obtain ⟨A4,c4,rfl,hc4,hrl⟩:=hown.reads HSM1.out (by omega)
    have HB4:=AE (HW3.out.trans (hb4.mono HW3.out.size))
    have HC4:=AE (eC.of (HC3.out.below.trans (hb4.mono HC3.out.below.size)))
    have HRL:=AE hrl
    clear hown hb4 hrl
    go_wp2_with fail
    refine ⟨HC4.out,?_⟩
    repeat (refine aY rfl rfl (fun K hK=>?_);unfold eC;go_big_quiet_op;refine hK _ ?_;clear hK K)
    refine cB rfl rfl (fun K hK=>?_)
    go_wp2_with fail
    refine (lT d r.body A1 c1 B _ (HL1.out.keep HB4.out hB) (AF hB HB4.out.size) (by omega) (by omega)).mono ?_
    rintro x w5 ⟨v5,rfl,hown,hb5⟩
    obtain ⟨A5,c5,rfl,hc5,hrl⟩:=hown.reads HSM2.out (by exact AF hlen2 (by omega))
    have HB5:=AE (HB4.out.trans (hb5.mono HB4.out.size))
    have HC5:=AE (eC.of (HC4.out.below.trans (hb5.mono HC4.out.below.size)))
    have HRL4:=AE ((HRL.out.keep hb5 (AG _)).wide hb5.size)
    have HRL5:=AE hrl
    clear hown hb5 hrl
    go_wp2_with fail
    refine ⟨HC5.out,?_⟩
    repeat (refine aY rfl rfl (fun K hK=>?_);unfold eC;go_big_quiet_op;refine hK _ ?_;clear hK K)
    refine cB rfl rfl (fun K hK=>?_)
    go_wp2_with fail
    refine (pB (eB (az [r.head])) (eB (az r.body)) A4 A5 c4 c5 _ _ HRL4.out HRL5.out (AG _) (by omega) (by exact AF hlen2 (by omega)) (kp _)).mono ?_
    rintro x w6 ⟨rfl,hb6⟩
    have HB6:=AE (HB5.out.trans (hb6.mono HB5.out.size))
    have HC6:=AE (eC.of (HC5.out.below.trans (hb6.mono HC5.out.below.size)))
    clear hb6
    go_wp2_with fail
    refine ⟨HC6.out,?_⟩
    repeat (refine aY rfl rfl (fun K hK=>?_);unfold eC;go_big_quiet_op;refine hK _ ?_;clear hK K)
    refine lQ (fun _=>?_)
    go_wp2_with fail
    go_ret
    exact ⟨ac (by simp [aQ,t1,t2,t3]),HB6.out⟩
   ·simp only [Bool.not_eq_true] at t3
    have u2:((r.body.length:Int)≥1):=by omega
    go_enter Tryz.func64,Tryz.ntmps64
    go_wp2_with fail
    have HW:=AE (HB.out (.cells #[.string r.head.name,.slice A0 r.head.terms.length c0,.slice A1 r.body.length c1,.slice A2 r.exprs.length c2,.slice A3 r.scopes.length c3] 58))
    have x0:(w.alloc (.cells #[.string r.head.name,.slice A0 r.head.terms.length c0,.slice A1 r.body.length c1,.slice A2 r.exprs.length c2,.slice A3 r.scopes.length c3] 58)).cell? ⟨w.heap.size,0,none⟩=some (.string r.head.name):=by go_simp
    have x1:(w.alloc (.cells #[.string r.head.name,.slice A0 r.head.terms.length c0,.slice A1 r.body.length c1,.slice A2 r.exprs.length c2,.slice A3 r.scopes.length c3] 58)).cell? ⟨w.heap.size,1,none⟩=some (.slice A0 r.head.terms.length c0):=by go_simp
    have x2:(w.alloc (.cells #[.string r.head.name,.slice A0 r.head.terms.length c0,.slice A1 r.body.length c1,.slice A2 r.exprs.length c2,.slice A3 r.scopes.length c3] 58)).cell? ⟨w.heap.size,2,none⟩=some (.slice A1 r.body.length c1):=by go_simp
    have x3:(w.alloc (.cells #[.string r.head.name,.slice A0 r.head.terms.length c0,.slice A1 r.body.length c1,.slice A2 r.exprs.length c2,.slice A3 r.scopes.length c3] 58)).cell? ⟨w.heap.size,3,none⟩=some (.slice A2 r.exprs.length c2):=by go_simp
    have x4:(w.alloc (.cells #[.string r.head.name,.slice A0 r.head.terms.length c0,.slice A1 r.body.length c1,.slice A2 r.exprs.length c2,.slice A3 r.scopes.length c3] 58)).cell? ⟨w.heap.size,4,none⟩=some (.slice A3 r.scopes.length c3):=by go_simp
    generalize (w.alloc (.cells #[.string r.head.name,.slice A0 r.head.terms.length c0,.slice A1 r.body.length c1,.slice A2 r.exprs.length c2,.slice A3 r.scopes.length c3] 58))=W at *
    have q0:=cell_regrown x0
    have q1:=cell_regrown x1
    have q2:=cell_regrown x2
    have q3:=cell_regrown x3
    have q4:=cell_regrown x4
    refine cU (eC W) (by kernel_rfl) (by kernel_rfl) (eC.drew W) ?_
    repeat (refine aY rfl rfl (fun K hK=>?_);unfold eC;go_big_quiet_op;refine hK _ ?_;clear hK K)
    refine cB rfl rfl (fun K hK=>?_)
    go_wp2_with fail
    refine (dm (d:=d) (B:=B) (vs:=[_,_]) ((PrR d).keep HW.out.drew hB HP.out) (AF hB HW.out.size)).mono ?_
    rintro x w1 ⟨rfl,hb1⟩
    have HB1:=AE (HW.out.trans ((AI _ W).drew.trans (hb1.mono (AG _)) |>.mono HW.out.size))
    have HC:=AE (eC.of ((AI W.heap.size W).drew.trans (hb1.mono (AG _))))
    clear hb1
    rw [t1]
    go_wp2_with fail
    refine ⟨HC.out,?_⟩
    repeat (refine aY rfl rfl (fun K hK=>?_);unfold eC;go_big_quiet_op;refine hK _ ?_;clear hK K)
    refine cB rfl rfl (fun K hK=>?_)
    go_wp2_with fail
    refine (nI (d:=d) (B:=B) (r:=r) (vs:=[_,_,_,_,_]) ((RuR d).keep HB1.out hB HR.out) (AF hB HB1.out.size)).mono ?_
    rintro x w2 ⟨rfl,hb2⟩
    have HB2:=AE (HB1.out.trans (hb2.mono HB1.out.size))
    have HC2:=AE (eC.of (HC.out.below.trans (hb2.mono HC.out.below.size)))
    clear hb2
    rw [t3]
    go_wp2_with fail
    refine ⟨HC2.out,?_⟩
    repeat first | (refine aY rfl rfl (fun K hK=>?_);unfold eC;go_big_quiet_op;refine hK _ ?_;clear hK K) | (refine lR (a':=?_) rfl ?_ ?_;rotate_left;focus (dsimp only [Act.put];simp only [List.setIfInBounds_toArray,List.set_cons_succ,List.set_cons_zero];rfl))
    refine lQ (fun _=>?_)
    go_wp2_with fail
    go_ret
    exact ⟨ac (by simp [aQ,t3]),HB2.out⟩
  ·have u2:¬((r.body.length:Int)≥1):=by omega
   go_enter Tryz.func64,Tryz.ntmps64
   go_wp2_with fail
   have HW:=AE (HB.out (.cells #[.string r.head.name,.slice A0 r.head.terms.length c0,.slice A1 r.body.length c1,.slice A2 r.exprs.length c2,.slice A3 r.scopes.length c3] 58))
   have x0:(w.alloc (.cells #[.string r.head.name,.slice A0 r.head.terms.length c0,.slice A1 r.body.length c1,.slice A2 r.exprs.length c2,.slice A3 r.scopes.length c3] 58)).cell? ⟨w.heap.size,0,none⟩=some (.string r.head.name):=by go_simp
   have x1:(w.alloc (.cells #[.string r.head.name,.slice A0 r.head.terms.length c0,.slice A1 r.body.length c1,.slice A2 r.exprs.length c2,.slice A3 r.scopes.length c3] 58)).cell? ⟨w.heap.size,1,none⟩=some (.slice A0 r.head.terms.length c0):=by go_simp
   have x2:(w.alloc (.cells #[.string r.head.name,.slice A0 r.head.terms.length c0,.slice A1 r.body.length c1,.slice A2 r.exprs.length c2,.slice A3 r.scopes.length c3] 58)).cell? ⟨w.heap.size,2,none⟩=some (.slice A1 r.body.length c1):=by go_simp
   have x3:(w.alloc (.cells #[.string r.head.name,.slice A0 r.head.terms.length c0,.slice A1 r.body.length c1,.slice A2 r.exprs.length c2,.slice A3 r.scopes.length c3] 58)).cell? ⟨w.heap.size,3,none⟩=some (.slice A2 r.exprs.length c2):=by go_simp
   have x4:(w.alloc (.cells #[.string r.head.name,.slice A0 r.head.terms.length c0,.slice A1 r.body.length c1,.slice A2 r.exprs.length c2,.slice A3 r.scopes.length c3] 58)).cell? ⟨w.heap.size,4,none⟩=some (.slice A3 r.scopes.length c3):=by go_simp
   generalize (w.alloc (.cells #[.string r.head.name,.slice A0 r.head.terms.length c0,.slice A1 r.body.length c1,.slice A2 r.exprs.length c2,.slice A3 r.scopes.length c3] 58))=W at *
   have q0:=cell_regrown x0
   have q1:=cell_regrown x1
   have q2:=cell_regrown x2
   have q3:=cell_regrown x3
   have q4:=cell_regrown x4
   refine cU (eC W) (by kernel_rfl) (by kernel_rfl) (eC.drew W) ?_
   repeat (refine aY rfl rfl (fun K hK=>?_);unfold eC;go_big_quiet_op;refine hK _ ?_;clear hK K)
   refine cB rfl rfl (fun K hK=>?_)
   go_wp2_with fail
   refine (dm (d:=d) (B:=B) (vs:=[_,_]) ((PrR d).keep HW.out.drew hB HP.out) (AF hB HW.out.size)).mono ?_
   rintro x w1 ⟨rfl,hb1⟩
   have HB1:=AE (HW.out.trans ((AI _ W).drew.trans (hb1.mono (AG _)) |>.mono HW.out.size))
   have HC:=AE (eC.of ((AI W.heap.size W).drew.trans (hb1.mono (AG _))))
   clear hb1
   rw [t1]
   go_wp2_with fail
   refine ⟨HC.out,?_⟩
   repeat first | (refine aY rfl rfl (fun K hK=>?_);unfold eC;go_big_quiet_op;refine hK _ ?_;clear hK K) | (refine lR (a':=?_) rfl ?_ ?_;rotate_left;focus (dsimp only [Act.put];simp only [List.setIfInBounds_toArray,List.set_cons_succ,List.set_cons_zero];rfl))
   refine lQ (fun _=>?_)
   go_wp2_with fail
   go_ret
   exact ⟨ac (by simp [aQ,t2]),HB1.out⟩
 ·simp only [Bool.not_eq_true] at t1
  go_enter Tryz.func64,Tryz.ntmps64
  go_wp2_with fail
  have HW:=AE (HB.out (.cells #[.string r.head.name,.slice A0 r.head.terms.length c0,.slice A1 r.body.length c1,.slice A2 r.exprs.length c2,.slice A3 r.scopes.length c3] 58))
  have x0:(w.alloc (.cells #[.string r.head.name,.slice A0 r.head.terms.length c0,.slice A1 r.body.length c1,.slice A2 r.exprs.length c2,.slice A3 r.scopes.length c3] 58)).cell? ⟨w.heap.size,0,none⟩=some (.string r.head.name):=by go_simp
  have x1:(w.alloc (.cells #[.string r.head.name,.slice A0 r.head.terms.length c0,.slice A1 r.body.length c1,.slice A2 r.exprs.length c2,.slice A3 r.scopes.length c3] 58)).cell? ⟨w.heap.size,1,none⟩=some (.slice A0 r.head.terms.length c0):=by go_simp
  have x2:(w.alloc (.cells #[.string r.head.name,.slice A0 r.head.terms.length c0,.slice A1 r.body.length c1,.slice A2 r.exprs.length c2,.slice A3 r.scopes.length c3] 58)).cell? ⟨w.heap.size,2,none⟩=some (.slice A1 r.body.length c1):=by go_simp
  have x3:(w.alloc (.cells #[.string r.head.name,.slice A0 r.head.terms.length c0,.slice A1 r.body.length c1,.slice A2 r.exprs.length c2,.slice A3 r.scopes.length c3] 58)).cell? ⟨w.heap.size,3,none⟩=some (.slice A2 r.exprs.length c2):=by go_simp
  have x4:(w.alloc (.cells #[.string r.head.name,.slice A0 r.head.terms.length c0,.slice A1 r.body.length c1,.slice A2 r.exprs.length c2,.slice A3 r.scopes.length c3] 58)).cell? ⟨w.heap.size,4,none⟩=some (.slice A3 r.scopes.length c3):=by go_simp
  generalize (w.alloc (.cells #[.string r.head.name,.slice A0 r.head.terms.length c0,.slice A1 r.body.length c1,.slice A2 r.exprs.length c2,.slice A3 r.scopes.length c3] 58))=W at *
  have q0:=cell_regrown x0
  have q1:=cell_regrown x1
  have q2:=cell_regrown x2
  have q3:=cell_regrown x3
  have q4:=cell_regrown x4
  refine cU (eC W) (by kernel_rfl) (by kernel_rfl) (eC.drew W) ?_
  repeat (refine aY rfl rfl (fun K hK=>?_);unfold eC;go_big_quiet_op;refine hK _ ?_;clear hK K)
  refine cB rfl rfl (fun K hK=>?_)
  go_wp2_with fail
  refine (dm (d:=d) (B:=B) (vs:=[_,_]) ((PrR d).keep HW.out.drew hB HP.out) (AF hB HW.out.size)).mono ?_
  rintro x w1 ⟨rfl,hb1⟩
  have HB1:=AE (HW.out.trans ((AI _ W).drew.trans (hb1.mono (AG _)) |>.mono HW.out.size))
  have HC:=AE (eC.of ((AI W.heap.size W).drew.trans (hb1.mono (AG _))))
  clear hb1
  rw [t1]
  go_wp2_with fail
  refine ⟨HC.out,?_⟩
  repeat first | (refine aY rfl rfl (fun K hK=>?_);unfold eC;go_big_quiet_op;refine hK _ ?_;clear hK K) | (refine lR (a':=?_) rfl ?_ ?_;rotate_left;focus (dsimp only [Act.put];simp only [List.setIfInBounds_toArray,List.set_cons_succ,List.set_cons_zero];rfl))
  refine lQ (fun _=>?_)
  go_wp2_with fail
  go_ret
  exact ⟨ac (by simp [aQ,t1]),HB1.out⟩
def be (fs:List Fc) (tr:Int) (r:Ru):List Ans × Int:=
 if (aQ r||bh r)=true then
  if (eJ fs tr r.exprs r.body ju ⟨0,[],0⟩).e=0 then (cpt (fun a b=>aT a b==0) (jm (eJ fs tr r.exprs r.body ju ⟨0,[],0⟩).out),0) else ([],(eJ fs tr r.exprs r.body ju ⟨0,[],0⟩).e)
 else ([],1)
def AnsE (d:Nat) (w w':World) (R:List Ans × Int) (z:Ending):Prop:=
 ∃(L:List AnV) (A:Option Addr) (c:Nat),z=.returned (.tuple #[.slice A L.length c,.int .i64 R.2])∧L.map AnV.x=R.1∧aq jV 116 w' w.heap.size 0 (.slice A L.length c) L∧(∀y∈L,bG y.x.b=true∧U32 y.x.o)∧(∀y∈L,fJ (fun k=>(Value.slice A L.length c).ownBlock=some k) w' (fun w'=>(nA (d+1)).rd w' w'.heap.size y.x y.cs))∧Below w.heap.size w w'
theorem uL:bG ld.x.b=true∧U32 ld.x.o:=⟨rfl,by unfold U32;simp [ld]⟩
theorem pf:∀(ys:List AnV) (p:AnV),(ey qAn p ys).map AnV.x=ey (fun a b=>aT a b==0) p.x (ys.map AnV.x)
 | [],p=>rfl
 | y::ys,p=>by
   rw [List.map_cons,ey,ey,←pf ys y]
   show List.map AnV.x (if (aT y.x p.x==0)=true then _ else _)=_
   split<;>rfl
theorem vw:∀(ys:List AnV),(cpt qAn ys).map AnV.x=cpt (fun a b=>aT a b==0) (ys.map AnV.x)
 | []=>rfl
 | y::ys=>by rw [List.map_cons,cpt,cpt,List.map_cons,pf]
theorem xu (xs:List AnV):((eA (xs.map AnV.x)).map (xs.getD · ld)).length=xs.length:=by rw [AM,mf,AM]
theorem xv (xs:List AnV):((eA (xs.map AnV.x)).map (xs.getD · ld)).map AnV.x=jm (xs.map AnV.x):=by
 rw [jm,List.map_map]
 refine List.map_congr_left fun i hi=>?_
 have h:=sO hi
 rw [AM] at h
 simp [h]
theorem xw (xs:List AnV):∀y∈(eA (xs.map AnV.x)).map (xs.getD · ld),y∈xs:=fun y hy=>by
 obtain ⟨i,hi,rfl⟩:=List.mem_map.1 hy
 have h:=sO hi
 rw [AM] at h
 have e:xs.getD i ld=xs[i]:=by simp [h]
 rw [e];exact List.getElem_mem h
theorem nY {r:Ru} (h:(aQ r||bh r)=true):(∀p∈r.body,aE p=true)∧r.body.length≤4∧r.exprs.length≤4:=by
 have hb:gU r=true:=by
  rcases Bool.or_eq_true_iff.1 h with h | h
  ·simp only [aQ,AN] at h;exact h.1.2
  ·simp only [bh,AN] at h;exact h.2
 simp only [gU,AN,AT,List.all_eq_true] at hb
 exact ⟨hb.1.1.1.2,hb.1.1.1.1,hb.1.1.2.1⟩
theorem mA {d baseS B S cs:Nat} {r:Ru} {vr:List Value} {w:World} {fs:List FV} {As:Option Addr} {tr m:Int} (hr:(RuR (d+1)).rd w B r vr) (hB:B≤w.heap.size) (hS:StA baseS d w S fs As cs) (hfew:fs.length≤100000) (hm:w.cell? ⟨0,0,none⟩=some (.int .i64 m)) (hp:0<w.heap.size) :
 Calls Tryz.prog 57 #[.agg vr.toArray,.pointer (some ⟨S,0,none⟩),.int .u32 tr] w fun z w'=>AnsE d w w' (be (fs.map FV.f) tr r) z:=by
 have HRD:=AE hr
 obtain ⟨_,_,_,_,rfl,hs,⟨A0,c0,rfl,h01,h02,hl0⟩,⟨A1,c1,rfl,h11,h12,hl1⟩,⟨A2,c2,rfl,h21,h22,hl2⟩,⟨A3,c3,rfl,h31,h32,hl3⟩⟩:=hr
 have HST0:Hid ((aQ r||bh r)=true→WkS d w baseS B ⟨.string r.head.name,.slice A0 r.head.terms.length c0,.slice A1 r.body.length c1,.slice A2 r.exprs.length c2,.slice A3 r.scopes.length c3,S,tr⟩ fs As cs r.body A1 c1 r.exprs A2 c2 m):=AE (fun h=>⟨hS,hfew,hB,rfl,hl1,by have:=(nY h).2.1;omega,(nY h).1,rfl,hl2,by have:=(nY h).2.2;omega,hm,hp⟩)
 clear hS hfew hm hl0 hl1 hl2 hl3
 go_enter Tryz.func57,Tryz.ntmps57
 go_upto_region 1 with fail
 generalize hWW:World.alloc _ _=w1
 obtain ⟨hb1,hz⟩:=al1 hWW
 have HR1:=AE (n11 hWW)
 have HB1:=AE hb1
 have hsz1:=hb1.size
 clear hWW hb1 hz
 have k_r:=HR1.out.cell
 have l_r:=HR1.out.lt
 go_wp2_with fail
 refine (lL (vs:=[_,_,_,_,_]) ((RuR (d+1)).keep HB1.out hB HRD.out) (AF hB hsz1)).mono ?_
 rintro e w2 ⟨rfl,hb2⟩
 have HR2:=AE (HR1.out.later hb2)
 have HB2:=AE (aa HB1.out hb2)
 have hsz2:=HB2.out.size
 clear hb2 k_r l_r
 have k_r:=HR2.out.cell
 have l_r:=HR2.out.lt
 by_cases h1:aQ r=true
 ·have hmm:(aQ r||bh r)=true:=by rw [h1];rfl
  have HST:=AE (HST0.out hmm)
  have HBx:=HB2
  rw [h1]
  go_upto_region 4 with fail
  generalize hWW:World.alloc _ _=w4
  obtain ⟨hb4,hz⟩:=al1 hWW
  have HW4:=AE (n11 hWW)
  have HB4:=AE (aa HBx.out hb4)
  have hsz4:=HB4.out.size
  have hl4:=HW4.out.lt
  clear hWW hb4 hz k_r l_r
  have HWK:Hid (WkAt w4.heap.size d w4 w2.heap.size ⟨.string r.head.name,.slice A0 r.head.terms.length c0,.slice A1 r.body.length c1,.slice A2 r.exprs.length c2,.slice A3 r.scopes.length c3,S,tr⟩ 0 [] none 0 0):=AE ⟨HW4.out,hl4,AG _,aq.nil _ _ _ _ _,fun y hy=>absurd hy (by simp),fun y hy=>absurd hy (by simp)⟩
  have HGO2:Hid (Calls Tryz.prog 76 #[.pointer (some ⟨w2.heap.size,0,none⟩),.int .i64 0,.agg #[.slice none 0 0,.slice none 0 0,.int .u32 0]] w4 fun z w'=>WkE w4.heap.size d w2.heap.size ⟨.string r.head.name,.slice A0 r.head.terms.length c0,.slice A1 r.body.length c1,.slice A2 r.exprs.length c2,.slice A3 r.scopes.length c3,S,tr⟩ w4 w' none 0 0 (eJ (fs.map FV.f) tr r.exprs r.body ju ⟨0,[],0⟩) z):=AE (sq HST.out (show w.heap.size≤w2.heap.size from HBx.out.size) r.body 0 rfl (AH _) w4 0 [] none 0 ld HB4.out HWK.out (fun w' _=>qB _ _ _) uL (by simp) (by decide))
  have l_w4:=hl4
  have HBw:Hid (w.heap.size≤w2.heap.size):=AE HBx.out.size
  generalize hWn:w2.heap.size=W at *
  have HR:Hid (be (fs.map FV.f) tr r=if (eJ (fs.map FV.f) tr r.exprs r.body ju ⟨0,[],0⟩).e=0 then (cpt (fun a b=>aT a b==0) (jm (eJ (fs.map FV.f) tr r.exprs r.body ju ⟨0,[],0⟩).out),0) else ([],(eJ (fs.map FV.f) tr r.exprs r.body ju ⟨0,[],0⟩).e)):=AE (if_pos hmm)
  clear hmm
  go_wp2_with fail
  refine HGO2.out.mono ?_
  rintro z w5 ⟨xs,A,c,rfl,hout,hwk,hag,_⟩
  have hfew:=fZ (fs:=fs.map FV.f) (tr:=tr) (es:=r.exprs) (ps:=r.body) (x:=ju) (s:=⟨0,[],0⟩)
  clear HGO2
  generalize eJ (fs.map FV.f) tr r.exprs r.body ju ⟨0,[],0⟩=s at *
  have hn:xs.length≤1000000:=by
   have h1:=hfew.2.1 (by decide)
   have h2:=hfew.2.2
   rw [←hout,AM] at h2
   simp at h2
   omega
  have HB5:Hid (Below w.heap.size w w5):=AE (HB4.out.trans ((hag.below (base:=W) (fun k hk hm=>by rcases hm with h | h<;>first | omega | cases h) (Nat.le_of_lt hl4)).mono HBw.out))
  have HWK5:=AE hwk
  have HOUT:=AE hout
  have HW5:Hid (Blk w5 W #[.string r.head.name,.slice A0 r.head.terms.length c0,.slice A1 r.body.length c1,.slice A2 r.exprs.length c2,.slice A3 r.scopes.length c3,.pointer (some ⟨S,0,none⟩),.int .u32 tr,.int .i64 s.held,.slice A xs.length c,.int .i64 s.e]):=AE hwk.hd
  clear hag hwk hout hfew HW4 HWK
  have k_w:=HW5.out.cell
  have l_w:=HW5.out.lt
  by_cases he:s.e=0
  ·have HRE:Hid (be (fs.map FV.f) tr r=(cpt (fun a b=>aT a b==0) (jm s.out),0)):=AE (by rw [HR.out,if_pos he])
   have he':(s.e !=0)=false:=by rw [he];rfl
   clear HR
   by_cases hx0:xs.length=0
   ·rw [hx0] at k_w
    go_wp2_with fail
    refine qd.mono ?_
    rintro z w6 ⟨rfl,rfl⟩
    go_wp2_with fail
    refine jY.mono ?_
    rintro z w6 ⟨rfl,rfl⟩
    go_wp2_with fail
    go_ret2
    have hx1:xs=[]:=List.length_eq_zero_iff.1 hx0
    have ho:s.out=[]:=by rw [←HOUT.out,hx1];rfl
    exact ⟨[],A,c,by rw [HRE.out];rfl,by rw [HRE.out,ho,(gS []).eq_nil];rfl,by have h:=HWK5.out.row;rw [hx1] at h;exact h.lower (by omega),fun y hy=>absurd hy (by simp),fun y hy=>absurd hy (by simp),HB5.out⟩
   ·have hx:0<xs.length:=by omega
    obtain ⟨g,c1_,e1,hg1,hg2,_⟩:=HWK5.out.row.sh bg hx
    simp only [AR,true_and] at e1
    obtain ⟨rfl,rfl⟩:=e1
    have hgW:g≠W:=by omega
    go_wp2_with fail
    refine (kZ (d:=d+1) HWK5.out.row hx (fun y hy=>xY (HWK5.out.ok y hy).1) (fun y hy=>(HWK5.out.deep y hy).less (fun k _ hk=>.inr (by rw [hk];rfl))) hn).mono ?_
    rintro z w6 ⟨rfl,hrow6,hag6⟩
    have hlen6:=xu xs
    have hmap6:=xv xs
    have hmem6:=xw xs
    generalize (eA (xs.map AnV.x)).map (xs.getD · ld)=ys at *
    have HW6:=AE (hag6.blk HW5.out (fun h=>hgW h.symm))
    have HB6:Hid (Below w.heap.size w w6):=AE (HB5.out.trans (hag6.below (fun k hk hm=>by have:=HBw.out;omega) HB5.out.size))
    have hrow7:aq jV 116 w6 w4.heap.size 0 (.slice (some ⟨g,0,none⟩) ys.length c) ys:=by rw [hlen6];exact hrow6
    have HCP:=AE (mR (d:=d+1) hrow7 (by omega) (fun y hy=>xY (HWK5.out.ok y (hmem6 y hy)).1) (fun y hy=>(HWK5.out.deep y (hmem6 y hy)).next (N:=fun k=>k=g) hag6 (fun k _ hk=>.inr (by rw [hk];rfl)) (fun k _ hk=>.inr (by rw [hk];rfl))) (by omega))
    rw [hlen6] at HCP
    have HM6:=AE (And.intro hmap6 hmem6)
    have HAG6:=AE hag6
    clear hag6 hrow6 hrow7 hlen6 hmap6 hmem6 k_w l_w
    have k_w:=HW6.out.cell
    have l_w:=HW6.out.lt
    go_wp2_with fail
    refine HCP.out.mono ?_
    rintro z w7 ⟨L,hL,rfl,hrow,hag7⟩
    have HROW:=AE hrow
    have HAG7:=AE hag7
    have HL:=AE hL
    clear hrow hag7 hL HCP
    go_wp2_with fail
    go_ret2
    have hsub:∀y∈L,y∈xs:=fun y hy=>HM6.out.2 y (qU qAn (by rw [←HL.out];exact hy))
    exact ⟨L,some ⟨g,0,none⟩,c,by rw [HRE.out];rfl,by rw [HRE.out,HL.out,vw,HM6.out.1,HOUT.out],HROW.out.lower (by omega),fun y hy=>HWK5.out.ok y (hsub y hy),fun y hy=>(HWK5.out.deep y (hsub y hy)).next (N:=fun k=>k=g) (HAG6.out.trans HAG7.out (fun _ _ h=>h)) (fun k _ hk=>.inr (by rw [hk];rfl)) (fun k _ hk=>.inr hk),HB6.out.trans (HAG7.out.below (fun k hk hm=>by have:=HBw.out;omega) HB6.out.size)⟩
  ·have he':(s.e !=0)=true:=by simpa using he
   have HRE:Hid (be (fs.map FV.f) tr r=([],s.e)):=AE (by rw [HR.out,if_neg he])
   clear HR
   go_upto_region 6 with fail
   go_region
   go_wp2_with fail
   go_ret2
   exact ⟨[],none,0,by rw [HRE.out];rfl,by rw [HRE.out];rfl,aq.nil _ _ _ _ _,fun y hy=>absurd hy (by simp),fun y hy=>absurd hy (by simp),HB5.out.drew⟩
 ·have h1':aQ r=false:=by simpa using h1
  rw [h1']
  go_wp2_with fail
  refine (pF (vs:=[_,_,_,_,_]) ((RuR (d+1)).keep HB2.out hB HRD.out) (AF hB hsz2)).mono ?_
  rintro e w3 ⟨rfl,hb3⟩
  have HR3:=AE (HR2.out.later hb3)
  have HB3:=AE (aa HB2.out hb3)
  have hsz3:=HB3.out.size
  clear hb3 k_r l_r
  have k_r:=HR3.out.cell
  have l_r:=HR3.out.lt
  by_cases h2:bh r=true
  ·have hmm:(aQ r||bh r)=true:=by rw [h1',h2];rfl
   have HST:=AE (HST0.out hmm)
   have HBx:=HB3
   rw [h2]
   go_upto_region 4 with fail
   generalize hWW:World.alloc _ _=w4
   obtain ⟨hb4,hz⟩:=al1 hWW
   have HW4:=AE (n11 hWW)
   have HB4:=AE (aa HBx.out hb4)
   have hsz4:=HB4.out.size
   have hl4:=HW4.out.lt
   clear hWW hb4 hz k_r l_r
   have HWK:Hid (WkAt w4.heap.size d w4 w3.heap.size ⟨.string r.head.name,.slice A0 r.head.terms.length c0,.slice A1 r.body.length c1,.slice A2 r.exprs.length c2,.slice A3 r.scopes.length c3,S,tr⟩ 0 [] none 0 0):=AE ⟨HW4.out,hl4,AG _,aq.nil _ _ _ _ _,fun y hy=>absurd hy (by simp),fun y hy=>absurd hy (by simp)⟩
   have HGO2:Hid (Calls Tryz.prog 76 #[.pointer (some ⟨w3.heap.size,0,none⟩),.int .i64 0,.agg #[.slice none 0 0,.slice none 0 0,.int .u32 0]] w4 fun z w'=>WkE w4.heap.size d w3.heap.size ⟨.string r.head.name,.slice A0 r.head.terms.length c0,.slice A1 r.body.length c1,.slice A2 r.exprs.length c2,.slice A3 r.scopes.length c3,S,tr⟩ w4 w' none 0 0 (eJ (fs.map FV.f) tr r.exprs r.body ju ⟨0,[],0⟩) z):=AE (sq HST.out (show w.heap.size≤w3.heap.size from HBx.out.size) r.body 0 rfl (AH _) w4 0 [] none 0 ld HB4.out HWK.out (fun w' _=>qB _ _ _) uL (by simp) (by decide))
   have l_w4:=hl4
   have HBw:Hid (w.heap.size≤w3.heap.size):=AE HBx.out.size
   generalize hWn:w3.heap.size=W at *
   have HR:Hid (be (fs.map FV.f) tr r=if (eJ (fs.map FV.f) tr r.exprs r.body ju ⟨0,[],0⟩).e=0 then (cpt (fun a b=>aT a b==0) (jm (eJ (fs.map FV.f) tr r.exprs r.body ju ⟨0,[],0⟩).out),0) else ([],(eJ (fs.map FV.f) tr r.exprs r.body ju ⟨0,[],0⟩).e)):=AE (if_pos hmm)
   clear hmm
   go_wp2_with fail
   refine HGO2.out.mono ?_
   rintro z w5 ⟨xs,A,c,rfl,hout,hwk,hag,_⟩
   have hfew:=fZ (fs:=fs.map FV.f) (tr:=tr) (es:=r.exprs) (ps:=r.body) (x:=ju) (s:=⟨0,[],0⟩)
   clear HGO2
   generalize eJ (fs.map FV.f) tr r.exprs r.body ju ⟨0,[],0⟩=s at *
   have hn:xs.length≤1000000:=by
    have h1:=hfew.2.1 (by decide)
    have h2:=hfew.2.2
    rw [←hout,AM] at h2
    simp at h2
    omega
   have HB5:Hid (Below w.heap.size w w5):=AE (HB4.out.trans ((hag.below (base:=W) (fun k hk hm=>by rcases hm with h | h<;>first | omega | cases h) (Nat.le_of_lt hl4)).mono HBw.out))
   have HWK5:=AE hwk
   have HOUT:=AE hout
   have HW5:Hid (Blk w5 W #[.string r.head.name,.slice A0 r.head.terms.length c0,.slice A1 r.body.length c1,.slice A2 r.exprs.length c2,.slice A3 r.scopes.length c3,.pointer (some ⟨S,0,none⟩),.int .u32 tr,.int .i64 s.held,.slice A xs.length c,.int .i64 s.e]):=AE hwk.hd
   clear hag hwk hout hfew HW4 HWK
   have k_w:=HW5.out.cell
   have l_w:=HW5.out.lt
   by_cases he:s.e=0
   ·have HRE:Hid (be (fs.map FV.f) tr r=(cpt (fun a b=>aT a b==0) (jm s.out),0)):=AE (by rw [HR.out,if_pos he])
    have he':(s.e !=0)=false:=by rw [he];rfl
    clear HR
    by_cases hx0:xs.length=0
    ·rw [hx0] at k_w
     go_wp2_with fail
     refine qd.mono ?_
     rintro z w6 ⟨rfl,rfl⟩
     go_wp2_with fail
     refine jY.mono ?_
     rintro z w6 ⟨rfl,rfl⟩
     go_wp2_with fail
     go_ret2
     have hx1:xs=[]:=List.length_eq_zero_iff.1 hx0
     have ho:s.out=[]:=by rw [←HOUT.out,hx1];rfl
     exact ⟨[],A,c,by rw [HRE.out];rfl,by rw [HRE.out,ho,(gS []).eq_nil];rfl,by have h:=HWK5.out.row;rw [hx1] at h;exact h.lower (by omega),fun y hy=>absurd hy (by simp),fun y hy=>absurd hy (by simp),HB5.out⟩
    ·have hx:0<xs.length:=by omega
     obtain ⟨g,c1_,e1,hg1,hg2,_⟩:=HWK5.out.row.sh bg hx
     simp only [AR,true_and] at e1
     obtain ⟨rfl,rfl⟩:=e1
     have hgW:g≠W:=by omega
     go_wp2_with fail
     refine (kZ (d:=d+1) HWK5.out.row hx (fun y hy=>xY (HWK5.out.ok y hy).1) (fun y hy=>(HWK5.out.deep y hy).less (fun k _ hk=>.inr (by rw [hk];rfl))) hn).mono ?_
     rintro z w6 ⟨rfl,hrow6,hag6⟩
     have hlen6:=xu xs
     have hmap6:=xv xs
     have hmem6:=xw xs
     generalize (eA (xs.map AnV.x)).map (xs.getD · ld)=ys at *
     have HW6:=AE (hag6.blk HW5.out (fun h=>hgW h.symm))
     have HB6:Hid (Below w.heap.size w w6):=AE (HB5.out.trans (hag6.below (fun k hk hm=>by have:=HBw.out;omega) HB5.out.size))
     have hrow7:aq jV 116 w6 w4.heap.size 0 (.slice (some ⟨g,0,none⟩) ys.length c) ys:=by rw [hlen6];exact hrow6
     have HCP:=AE (mR (d:=d+1) hrow7 (by omega) (fun y hy=>xY (HWK5.out.ok y (hmem6 y hy)).1) (fun y hy=>(HWK5.out.deep y (hmem6 y hy)).next (N:=fun k=>k=g) hag6 (fun k _ hk=>.inr (by rw [hk];rfl)) (fun k _ hk=>.inr (by rw [hk];rfl))) (by omega))
     rw [hlen6] at HCP
     have HM6:=AE (And.intro hmap6 hmem6)
     have HAG6:=AE hag6
     clear hag6 hrow6 hrow7 hlen6 hmap6 hmem6 k_w l_w
     have k_w:=HW6.out.cell
     have l_w:=HW6.out.lt
     go_wp2_with fail
     refine HCP.out.mono ?_
     rintro z w7 ⟨L,hL,rfl,hrow,hag7⟩
     have HROW:=AE hrow
     have HAG7:=AE hag7
     have HL:=AE hL
     clear hrow hag7 hL HCP
     go_wp2_with fail
     go_ret2
     have hsub:∀y∈L,y∈xs:=fun y hy=>HM6.out.2 y (qU qAn (by rw [←HL.out];exact hy))
     exact ⟨L,some ⟨g,0,none⟩,c,by rw [HRE.out];rfl,by rw [HRE.out,HL.out,vw,HM6.out.1,HOUT.out],HROW.out.lower (by omega),fun y hy=>HWK5.out.ok y (hsub y hy),fun y hy=>(HWK5.out.deep y (hsub y hy)).next (N:=fun k=>k=g) (HAG6.out.trans HAG7.out (fun _ _ h=>h)) (fun k _ hk=>.inr (by rw [hk];rfl)) (fun k _ hk=>.inr hk),HB6.out.trans (HAG7.out.below (fun k hk hm=>by have:=HBw.out;omega) HB6.out.size)⟩
   ·have he':(s.e !=0)=true:=by simpa using he
    have HRE:Hid (be (fs.map FV.f) tr r=([],s.e)):=AE (by rw [HR.out,if_neg he])
    clear HR
    go_upto_region 6 with fail
    go_region
    go_wp2_with fail
    go_ret2
    exact ⟨[],none,0,by rw [HRE.out];rfl,by rw [HRE.out];rfl,aq.nil _ _ _ _ _,fun y hy=>absurd hy (by simp),fun y hy=>absurd hy (by simp),HB5.out.drew⟩
  ·have h2':bh r=false:=by simpa using h2
   have hmm:(aQ r||bh r)=false:=by rw [h1',h2'];rfl
   have HR:Hid (be (fs.map FV.f) tr r=([],1)):=AE (by unfold be;rw [if_neg (by rw [hmm];decide)])
   rw [h2']
   clear hmm h1 h2
   go_wp2_with fail
   go_ret2
   exact ⟨[],none,0,by rw [HR.out];rfl,by rw [HR.out];rfl,aq.nil _ _ _ _ _,fun y hy=>absurd hy (by simp),fun y hy=>absurd hy (by simp),HB3.out⟩
theorem nx:∀{a b:List Fc},bH a→bH b→(∀x,x∈a↔x∈b)→a=b
 | [],[],_,_,_=>rfl
 | [],y::b,_,_,h=>absurd ((h y).2 (by simp)) (by simp)
 | x::a,[],_,_,h=>absurd ((h x).1 (by simp)) (by simp)
 | x::a,y::b,ha,hb,h=>by
   unfold bH at ha hb
   rw [List.pairwise_cons] at ha hb
   have e:x=y:=by
    rcases List.mem_cons.1 ((h x).1 (by simp)) with e | e
    ·exact e
    ·rcases List.mem_cons.1 ((h y).2 (by simp)) with e' | e'
     ·exact e'.symm
     ·have h1:=hb.1 x e
      have h2:=ha.1 y e'
      have:=aW.anti x y
      omega
   subst e
   have hna:x∉a:=fun hx=>by have:=ha.1 x hx;rw [aW.self] at this;omega
   have hnb:x∉b:=fun hx=>by have:=hb.1 x hx;rw [aW.self] at this;omega
   rw [nx ha.2 hb.2 fun z=>?_]
   constructor
   ·intro hz
    rcases List.mem_cons.1 ((h z).1 (by simp [hz])) with e | e
    ·subst e;exact absurd hz hna
    ·exact e
   ·intro hz
    rcases List.mem_cons.1 ((h z).2 (by simp [hz])) with e | e
    ·subst e;exact absurd hz hnb
    ·exact e
def uG (f:Fc):Prop:=f.pr.name.size≤140737488351232∧U32 f.o
theorem vF {d B:Nat} {w:World} {f:Fc} {vs:List Value} (h:(ay d).rd w B f vs):uG f:=by
 obtain ⟨A,c,_,h1,_,_,_,_,h2⟩:=aG h
 exact ⟨h1,h2⟩
def stL (l:List Fc):List Fc:=l.foldl fd []
section
variable {fs:List Fc} {f x:Fc}
theorem xU (hs:bH fs) (ho:∀x∈fs,FcOk x) (hf:uG f):x∈fd fs f↔x∈fs∨(x=f∧aD f=true):=by
 unfold fd mv
 by_cases h1:aD f=true
 ·by_cases h2:fe fs f=true
  ·simp only [h1,h2,Bool.not_true,Bool.and_false,Bool.false_eq_true,if_false,and_true]
   constructor
   ·exact .inl
   ·rintro (h | rfl)
    ·exact h
    ·exact (sr hs ho (jp h1 hf.1 hf.2)).1 h2
  ·simp only [h1,Bool.eq_false_iff.2 h2,Bool.not_false,Bool.and_true,if_true,dv,and_true]
   exact or_comm
 ·simp [h1]
theorem addL_ok (ho:∀x∈fs,FcOk x) (hf:uG f):∀x∈fd fs f,FcOk x:=by
 unfold fd mv
 split
 ·rename_i h
  rw [AN] at h
  intro x hx
  rcases dv.1 hx with rfl | h1
  ·exact jp h.1 hf.1 hf.2
  ·exact ho x h1
 ·exact ho
theorem nE (fs:List Fc) (f:Fc):(fd fs f).length≤fs.length+1:=by
 unfold fd
 split
 ·rw [bJ lX];exact AG _
 ·omega
end
theorem jn:∀(l fs:List Fc),bH fs→(∀x∈fs,FcOk x)→(∀f∈l,uG f)→bH (l.foldl fd fs)∧(∀x∈l.foldl fd fs,FcOk x)∧∀x,x∈l.foldl fd fs↔x∈fs∨(x∈l∧aD x=true)
 | [],fs,h1,h2,_=>⟨h1,h2,fun x=>by simp⟩
 | f::l,fs,h1,h2,h3=>by
   obtain ⟨k1,k2,k3⟩:=jn l (fd fs f) (qA h1) (addL_ok h2 (h3 f (by simp))) (fun g hg=>h3 g (by simp [hg]))
   refine ⟨k1,k2,fun x=>?_⟩
   rw [List.foldl_cons,k3,xU h1 h2 (h3 f (by simp)),List.mem_cons]
   constructor
   ·rintro ((h | ⟨rfl,h⟩) | ⟨h,h'⟩)
    ·exact .inl h
    ·exact .inr ⟨.inl rfl,h⟩
    ·exact .inr ⟨.inr h,h'⟩
   ·rintro (h | ⟨rfl | h,h'⟩)
    ·exact .inl (.inl h)
    ·exact .inl (.inr ⟨rfl,h'⟩)
    ·exact .inr ⟨h,h'⟩
section
variable {l l':List Fc} (hl:∀f∈l,uG f)
include hl
theorem um:bH (stL l):=(jn l [] List.Pairwise.nil (by simp) hl).1
theorem stL_ok:∀x∈stL l,FcOk x:=(jn l [] List.Pairwise.nil (by simp) hl).2.1
theorem xy {x:Fc}:x∈stL l↔x∈l∧aD x=true:=by
 have:=(jn l [] List.Pairwise.nil (by simp) hl).2.2 x
 unfold stL
 simpa using this
end
theorem mi:∀(l fs:List Fc),(l.foldl fd fs).length≤fs.length+l.length
 | [],fs=>by simp
 | f::l,fs=>by
   have h1:=mi l (fd fs f)
   have h2:=nE fs f
   rw [List.foldl_cons,AV];omega
theorem sP (l:List Fc) (f:Fc):stL (l++[f])=fd (stL l) f:=by unfold stL;rw [List.foldl_append];rfl
/-! Whom is trusted. -/
/-! More facts. -/
def Ext (s s':Wst):Prop:=s.held≤s'.held∧∃l,s'.out=s.out++l
theorem Ext.refl (s:Wst):Ext s s:=⟨Int.le_refl _,[],by simp⟩
theorem Ext.trans {s t u:Wst} (h:Ext s t) (k:Ext t u):Ext s u:=by
 obtain ⟨h1,l,h2⟩:=h
 obtain ⟨k1,m,k2⟩:=k
 exact ⟨Int.le_trans h1 k1,l++m,by rw [k2,h2,List.append_assoc]⟩
theorem Ext.held {s t:Wst} {h:Int} (k:Ext ⟨s.held+1,s.out,h⟩ t):Ext s t:=by
 obtain ⟨k1,k2⟩:=k
 exact ⟨by simp only at k1;omega,k2⟩
def Sim (s s' t t':Wst):Prop:=s.held≤s'.held→s.e=0→t'.e=0→t.e=0∧t.held≤t'.held∧∃l l',t.out=s.out++l∧t'.out=s'.out++l'∧l.Sublist l'
theorem Sim.add {s s' t t' u u':Wst} (h:Sim s s' t t') (k:Sim t t' u u') (hx:Ext t' u') (he:t'.e=0):Sim s s' u u':=fun h1 h2 h3=>by
 obtain ⟨a1,a2,l,l',a3,a4,a5⟩:=h h1 h2 he
 obtain ⟨b1,b2,m,m',b3,b4,b5⟩:=k a2 a1 h3
 exact ⟨b1,b2,l++m,l'++m',by rw [b3,a3,List.append_assoc],by rw [b4,a4,List.append_assoc],a5.append b5⟩
/-! bH,each once. -/
def RiseA (L:List Ans):Prop:=L.Pairwise fun a b=>aT a b<0
def eqA (a b:Ans):Bool:=aT a b==0
theorem gL:∀{ys:List Ans} {p:Ans},(p::ys).Pairwise (fun a b=>aT a b≤0)→RiseA (ey eqA p ys)∧(∀y∈ey eqA p ys,aT p y<0)∧∀x∈ys,aT p x=0∨∃y∈ey eqA p ys,aT y x=0
 | [],p,_=>⟨List.Pairwise.nil,by simp [ey],by simp⟩
 | y::ys,p,h=>by
   rw [List.pairwise_cons] at h
   obtain ⟨h1,h2,h3⟩:=gL h.2
   have hy:=h.1 y (by simp)
   rw [ey]
   by_cases he:aT y p=0
   ·have he':aT p y=0:=by have:=bX.anti p y;omega
    rw [if_pos (by simp [eqA,he])]
    refine ⟨h1,fun z hz=>bX.le_lt (by omega) (h2 z hz),fun x hx=>?_⟩
    rcases List.mem_cons.1 hx with rfl | hx
    ·exact .inl he'
    ·rcases h3 x hx with h4 | h4
     ·rcases bX.zero_l (z:=x) he' with k | ⟨_,k⟩ | ⟨_,k⟩<;>first | (exact .inl (by omega)) | omega
     ·exact .inr h4
   ·have hlt:aT p y<0:=by have:=bX.anti p y;omega
    rw [if_neg (by simp [eqA,he])]
    refine ⟨List.Pairwise.cons h2 h1,fun z hz=>?_,fun x hx=>?_⟩
    ·rcases List.mem_cons.1 hz with rfl | hz
     ·exact hlt
     ·exact bX.lt_le hlt (Int.le_of_lt (h2 z hz))
    ·rcases List.mem_cons.1 hx with rfl | hx
     ·exact .inr ⟨x,by simp,bX.self x⟩
     ·rcases h3 x hx with h4 | ⟨z,hz,h4⟩
      ·exact .inr ⟨y,by simp,h4⟩
      ·exact .inr ⟨z,by simp [hz],h4⟩
def ml (L:List Ans):List Ans:=cpt eqA (jm L)
theorem ur (L:List Ans):RiseA (ml L)∧(∀x∈L,∃y∈ml L,aT y x=0)∧∀y∈ml L,y∈L:=by
 have hs:=qe L
 have hp:=gS L
 refine ⟨?_,?_,fun y hy=>hp.mem_iff.1 (qU _ hy)⟩
 ·unfold ml
  generalize jm L=S at *
  cases S with
  | nil=>exact List.Pairwise.nil
  | cons p ys=>exact List.Pairwise.cons (gL hs).2.1 (gL hs).1
 ·intro x hx
  have hx':=hp.mem_iff.2 hx
  unfold ml
  generalize jm L=S at *
  cases S with
  | nil=>simp at hx'
  | cons p ys=>
    rcases List.mem_cons.1 hx' with rfl | hx'
    ·exact ⟨x,by simp [cpt],bX.self x⟩
    ·rcases (gL hs).2.2 x hx' with h | ⟨y,hy,h⟩
     ·exact ⟨p,by simp [cpt],h⟩
     ·exact ⟨y,by simp [cpt,hy],h⟩
def zj (fs:List Fc) (tr:Int) (r:Ru):Wst:=eJ fs tr r.exprs r.body ju ⟨0,[],0⟩
theorem lc (fs:List Fc) (tr:Int) (r:Ru):be fs tr r=if (aQ r||bh r)=true then (if (zj fs tr r).e=0 then (ml (zj fs tr r).out,0) else ([],(zj fs tr r).e)) else ([],1):=rfl
theorem rY:∀{a b:List aZ},dH a b=0→a=b
 | [],[],_=>rfl
 | [],_::_,h=>by simp [dH] at h
 | _::_,[],h=>by simp [dH] at h
 | x::a,y::b,h=>by
   rw [dH] at h
   split at h
   ·rename_i h0
    rw [fT.1 h0,rY h]
   ·exact absurd h ‹_›
theorem ans_eq {x y:Ans} (hx:bG x.b=true) (hy:bG y.b=true) (h:aT x y=0):x=y:=by
 simp only [aT,orL] at h
 split at h
 ·rename_i h1
  split at h
  ·rename_i h2
   split at h
   ·rename_i h3
    obtain ⟨⟨n,t⟩,o⟩:=x
    obtain ⟨⟨n',t'⟩,o'⟩:=y
    have e1:n=n':=rY h1
    have e2:t=t':=oB (fun z hz=>(aO ((dX hx).1.fixed z hz)).1) (fun z hz=>(aO ((dX hy).1.fixed z hz)).1) h2
    have e3:o=o':=eb.1 h3
    rw [e1,e2,e3]
   ·exact absurd h ‹_›
  ·exact absurd h ‹_›
 ·exact absurd h ‹_›
def jz (i:Nat):Int:=((2 ^ i:Nat):Int)
end Go.Proofs.YtjpndglegpcdnaaGreat
