/- A region that draws its order, whatever order: what each operation tells (its post) holds of its value as long as the heap only grows; each operation is shown once, from the posts of those it waits for. The last one waits for all. -/
import Derived.Test.YtdphibjibnffeaaGreatRs2
import Derived.Test.YtdphibjibnffeaaGreatRule1
import Derived.Test.YtdphibjibnffeaaGreatHeldA
import Derived.Test.YtdphibjibnffeaaGreatOwn
import Derived.ProofKit
set_option linter.unusedVariables false
set_option linter.unusedSimpArgs false
set_option maxRecDepth 100000
set_option maxHeartbeats 8000000
namespace Go.Proofs.YtdphibjibnffeaaGreat
open Go.ChangeShapes Go.WideShapes Go.ChangeAt Go.RowKit
def yC (t:Tm):Bool:=decide (t.n=0)&&decide (t.s.size=0)&&cN t.l
theorem sS {l:List Tm} {k:Nat} (hlt:k<l.length) (hn:eN l k=false):cN l=false:=by
 rw [Bool.eq_false_iff,cN]
 intro h
 rw [Bool.and_eq_true,List.all_eq_true] at h
 have:=h.1 k (by simpa using hlt)
 rw [hn] at this
 cases this
theorem qu {l:List Tm} (h:16<l.length):cN l=false:=by
 rw [cN,decide_eq_false (by omega),Bool.and_false]
theorem vg (d:Nat) (hM:∀(t:Tm) (vs:List Value) (B:Nat) (w:World),RTm w B d t vs→B≤w.heap.size →
 Calls Tryz.prog 122 #[.agg vs.toArray] w fun e w'=>e=.returned (.bool (fx t))∧Below w.heap.size w w')
 (t:Tm) (vs:List Value) (B:Nat) (w:World) (ht:RTm w B (d+1) t vs) (hB:B≤w.heap.size) :
 Calls Tryz.prog 186 #[.agg vs.toArray] w fun e w'=>e=.returned (.bool (yC t))∧Below w.heap.size w w':=by
 have HM:=yW hM
 clear hM
 obtain ⟨A,c,rfl,hc1,hc2,hs,_,_,hl⟩:=ht.cells
 obtain ⟨kind,n,s,l⟩:=t
 dsimp only at hc1 hc2 hs hl
 have hbel:∀o:Obj,Below w.heap.size w (w.alloc o):=fun o=>(za _ _).alloc (yY _) _
 have HB:=yW hbel
 have HL:=yW hl
 clear hbel ht hl
 by_cases t1:n=0
 rotate_left
 ·have u1:(n !=0)=true:=by simpa using t1
  have T1:=yW t1
  clear t1
  go_enter Tryz.func186,Tryz.ntmps186
  go_wp2_with fail
  go_ret
  exact ⟨ac (by simp [yC,T1.out]),HB.out _⟩
 have u1:(n !=0)=false:=by simpa using t1
 have T1:=yW t1
 clear t1
 by_cases t2:s.size=0
 rotate_left
 ·have u2:s.toList.isEmpty=false:=by rw [aR];simpa using t2
  have T2:=yW t2
  clear t2
  go_enter Tryz.func186,Tryz.ntmps186
  go_wp2_with fail
  go_ret
  exact ⟨ac (by simp [yC,T2.out]),HB.out _⟩
 have u2:s.toList.isEmpty=true:=by rw [aR];simpa using t2
 have T2:=yW t2
 clear t2
 by_cases t3:16<l.length
 ·go_enter Tryz.func186,Tryz.ntmps186
  go_wp2_with fail
  go_ret
  exact ⟨ac (by simp [yC,qu t3]),HB.out _⟩
 go_enter Tryz.func186,Tryz.ntmps186
 go_wp2_with fail
 generalize hW:World.alloc _ _=W
 obtain ⟨hb,hz⟩:=al1 hW
 have bt:=n11 hW
 have HB1:=yW hb
 have hB1:B≤W.heap.size:=by omega
 clear hW hz hb HB
 go_loopw [22] (fun i wr=>∃k:Nat,k≤l.length∧i=.int .i64 k∧Below W.heap.size W wr∧∀i,i<k→eN l i=true) (fun i _=>l.length-(intOf i).toNat)
 case atStart=>exact ⟨0,yZ _,rfl,za _ _,fun i h=>absurd h (by omega)⟩
 case round=>
  obtain ⟨k,hk,rfl,hbw,hall⟩:=hrel
  have HA:=yW hall
  clear hall
  have ct:=(bt.later hbw).cell
  have lt:=(bt.later hbw).lt
  by_cases hlt:k<l.length
  ·have hl:=HL.out.below HB1.out hB
   obtain ⟨b,off,rfl,hb⟩:=hl.base hbw hB1 (by omega)
   obtain ⟨x,Ax,cx,hx,c0,c1,c2,c3,hr⟩:=hl.at_ hbw hB1 hlt
   obtain ⟨y,Ay,cy,hy,f0,f1,f2,f3,hr0⟩:=hl.at_ (k:=0) hbw hB1 (by omega)
   obtain ⟨z,Az,cz,hz,g0,g1,g2,g3,hrz⟩:=hl.at_ (k:=k-1) hbw hB1 (by omega)
   have HR:=yW (mw hx hy hz)
   have HK0:=yW (show k=0→x=y from fun h=>by subst h;rw [hx] at hy;simpa using hy)
   have HBw:=yW hbw
   simp only [Nat.zero_mul,Nat.add_zero] at f0 f1 f2 f3
   clear hx hy hz f1 f2 f3 hl
   go_wp2_with fail
   generalize hW2:World.alloc _ _=W2
   obtain ⟨hb2,hz2⟩:=al1 hW2
   have q0:=(n11 hW2).regrown
   have q1:=((bt.later hbw).later hb2).regrown
   have q4:=cell_regrown ((hb2.cell (p:=⟨b,off,none⟩) hb).trans f0)
   have q5:=cell_regrown ((hb2.cell (p:=⟨b,off+(k-1)*4,none⟩) hb).trans g0)
   have q6:=cell_regrown ((hb2.cell (p:=⟨b,off+(k-1)*4+1,none⟩) hb).trans g1)
   have q7:=cell_regrown ((hb2.cell (p:=⟨b,off+(k-1)*4+2,none⟩) hb).trans g2)
   have q8:=cell_regrown ((hb2.cell (p:=⟨b,off+(k-1)*4+3,none⟩) hb).trans g3)
   have hBW:B≤W2.heap.size:=by have:=hbw.size;omega
   have hrx:=yW (hr.below hb2 (by have:=hbw.size;omega))
   have hrz':=yW (hrz.below hb2 (by have:=hbw.size;omega))
   have HB2:=yW hb2
   have hl0:0<l.length:=by omega
   clear hW2 hz2 hb2 ct lt c0 c1 c2 c3 f0 g0 g1 g2 g3 hr hrz hr0
   have hcases:(x.kind==1)=true∨((x.kind==1)=false∧(x.kind==7)=true)∨((x.kind==1)=false∧(x.kind==7)=false∧fx x=false) ∨
    ((x.kind==1)=false∧(x.kind==7)=false∧fx x=true∧decide (0<k)=false) ∨
    ((x.kind==1)=false∧(x.kind==7)=false∧fx x=true∧0<k∧(x.kind !=y.kind)=true) ∨
    ((x.kind==1)=false∧(x.kind==7)=false∧fx x=true∧0<k∧(x.kind !=y.kind)=false∧decide (0≤aU 3 z x)=true) ∨
    ((x.kind==1)=false∧(x.kind==7)=false∧fx x=true∧0<k∧(x.kind !=y.kind)=false∧decide (0≤aU 3 z x)=false):=by
    cases (x.kind==1)<;>cases (x.kind==7)<;>cases fx x<;>cases (x.kind !=y.kind)<;>cases decide (0≤aU 3 z x)<;>rcases Nat.eq_zero_or_pos k with h | h<;>simp [h]
   rcases hcases with h1 | ⟨h1,h7⟩ | ⟨h1,h7,hm⟩ | ⟨h1,h7,hm,hk0⟩ | ⟨h1,h7,hm,hk0,hy⟩ | ⟨h1,h7,hm,hk0,hy,hc⟩ | ⟨h1,h7,hm,hk0,hy,hc⟩
   all_goals
    refine wp_region_quiet_below (by kernel_rfl) (by kernel_rfl) ?_
    repeat (go_big_quiet_step ((first
     | (go_at_call 122;exact Calls.regrown_of (HM.out x [_,_,_,_] B _ (hrx.out.below (below_regrown _ _ _) hBW) (yX hBW (below_regrown _ _ _).size)))
     | (go_at_call 189;exact Calls.regrown_of (gO (d:=d) (B:=B) (a:=z) (b:=x) (va:=[_,_,_,_]) (vb:=[_,_,_,_]) (hrz'.out.below (below_regrown _ _ _) hBW) (hrx.out.below (below_regrown _ _ _) hBW) (yX hBW (below_regrown _ _ _).size))))))
    refine wpQuiet_nil ?_
    intro w3 hw3
    have hb3:Below W2.heap.size W2 w3:=by obtain ⟨p,rfl⟩:=hw3;exact below_regrown _ _ _
    clear hw3 q0 q1 q4 q5 q6 q7 q8
    have HB3:=yW (ab HBw.out (ab HB2.out hb3))
    have hfin:=yW (ab HB1.out HB3.out)
    clear hb3
    go_wp2_with fail
    try simp only [beq_iff_eq,bne_iff_ne,beq_eq_false_iff_ne,bne_eq_false_iff_eq,decide_eq_true_eq,decide_eq_false_iff_not] at h1
    try simp only [beq_iff_eq,bne_iff_ne,beq_eq_false_iff_ne,bne_eq_false_iff_eq,decide_eq_true_eq,decide_eq_false_iff_not] at h7
    try simp only [beq_iff_eq,bne_iff_ne,beq_eq_false_iff_ne,bne_eq_false_iff_eq,decide_eq_true_eq,decide_eq_false_iff_not] at hk0
    try simp only [beq_iff_eq,bne_iff_ne,beq_eq_false_iff_ne,bne_eq_false_iff_eq,decide_eq_true_eq,decide_eq_false_iff_not] at hy
    try simp only [beq_iff_eq,bne_iff_ne,beq_eq_false_iff_ne,bne_eq_false_iff_eq,decide_eq_true_eq,decide_eq_false_iff_not] at hc
    first
     | (have hn:eN l k=false:=by
         rw [Bool.eq_false_iff]
         intro h
         have h2:=HR.out.1 h
         rw [af] at h2
         simp only [Bool.and_eq_true,decide_eq_true_eq] at h2
         first
          | exact h2.1.1.1.1 h1
          | exact h2.1.1.2 h7
          | (rw [hm] at h2;exact absurd h2.1.1.1.2 (by decide))
          | exact hy h2.1.2
          | (have:=h2.2 hk0;omega)
        go_ret
        exact ⟨ac (by simp [yC,sS hlt hn]),hfin.out⟩)
     | (have hn:eN l k=true:=HR.out.2 (by
         rw [af,hm]
         refine ⟨⟨⟨by simpa using h1,h7⟩,?_⟩,fun h=>?_⟩
         ·first
           | exact hy
           | rw [HK0.out (by omega)]
         ·omega)
        go_roundw
        case rel=>exact ⟨k+1,by omega,by go_num,HB3.out,fun i hi=>by
         rcases Nat.lt_or_ge i k with h1 | h1
         ·exact HA.out i h1
         ·obtain rfl:i=k:=by omega
          exact hn⟩
        case measure=>simp [intOf];omega)
  ·have hfin:=yW (ab HB1.out hbw)
   go_wp2_with fail
   go_ret
   refine ⟨ac ?_,hfin.out⟩
   obtain rfl:k=l.length:=by omega
   have:(List.range l.length).all (eN l)=true:=by simpa using HA.out
   rw [yC]
   simp only [T1.out,T2.out,decide_true,Bool.true_and]
   rw [cN,this,decide_eq_true (by omega)]
   rfl
theorem rh {α:Type} (l:List α):((l.length:Int)==0)=decide (l=[]):=by
 cases l with
 | nil=>simp
 | cons a l=>simp;omega
theorem vB (d:Nat) (hR:∀(t:Tm) (vs:List Value) (B:Nat) (w:World),RTm w B (d+1) t vs→B≤w.heap.size →
 Calls Tryz.prog 186 #[.agg vs.toArray] w fun e w'=>e=.returned (.bool (yC t))∧Below w.heap.size w w')
 (t:Tm) (vs:List Value) (B:Nat) (w:World) (ht:RTm w B (d+1) t vs) (hB:B≤w.heap.size) :
 Calls Tryz.prog 122 #[.agg vs.toArray] w fun e w'=>e=.returned (.bool (fx t))∧Below w.heap.size w w':=by
 have HR:=yW hR
 clear hR
 have HT:=yW ht
 obtain ⟨A,c,rfl,hc1,hc2,hs,_,_,hl⟩:=ht.cells
 obtain ⟨kind,n,s,l⟩:=t
 dsimp only at hc1 hc2 hs hl
 have hbel:∀o:Obj,Below w.heap.size w (w.alloc o):=fun o=>(za _ _).alloc (yY _) _
 have HB:=yW hbel
 clear hbel ht hl
 by_cases hk1:kind=1
 ·subst hk1
  by_cases hn:dW (bs s)=true
  all_goals
   try rw [Bool.not_eq_true] at hn
   go_enter Tryz.func122,Tryz.ntmps122
   go_wp2_with fail
   refine (ec s _ (by unfold maxLen;omega)).mono ?_
   rintro e w' ⟨rfl,rfl⟩
   have HN:=yW hn
   rw [hn]
   go_wp2_with fail
   all_goals
    go_ret
    refine ⟨ac ?_,HB.out _⟩
    clear HR HB HT
    simp [fx,dS,HN.out, *]
    try first
     | omega
     | exact rh _
 have hcases:kind=2∨kind=3∨kind=4∨kind=5∨kind=6∨kind=7∨((kind==1)=false∧(kind==2)=false∧(kind==3)=false∧(kind==4)=false∧(kind==5)=false∧(kind==6)=false∧(kind==7)=false∧(kind !=7)=true):=by
  simp only [beq_eq_false_iff_ne,bne_iff_ne];omega
 clear hk1
 rcases hcases with rfl | rfl | rfl | rfl | rfl | rfl | ⟨k1,k2,k3,k4,k5,k6,k7,k8⟩
 all_goals
  go_enter Tryz.func122,Tryz.ntmps122
  go_wp2_with (go_at_call 186;refine (HR.out ⟨_,_,_,_⟩ [_,_,_,_] B _ (HT.out.below (HB.out _) hB) (yX hB (HB.out _).size)).mono ?_;rintro e w1 ⟨rfl,hb1⟩)
  all_goals go_ret
  all_goals first
   | refine ⟨ac ?_,HB.out _⟩
   | refine ⟨ac ?_,(HB.out _).trans (hb1.mono (HB.out _).size)⟩
  all_goals
   clear HR HB HT
   try simp only [dx,aR,Nat.not_lt,Nat.le_zero_eq,List.length_pos_iff,ne_eq,Classical.not_not,beq_eq_false_iff_ne] at *
   simp [fx,yC,dS,mj, *]
   try first
    | omega
    | exact rh _
    | (rw [Bool.eq_iff_iff];simp;omega)
theorem sR (d:Nat):∀(t:Tm) (vs:List Value) (B:Nat) (w:World),RTm w B d t vs→B≤w.heap.size →
 Calls Tryz.prog 122 #[.agg vs.toArray] w fun e w'=>e=.returned (.bool (fx t))∧Below w.heap.size w w':=by
 induction d with
 | zero=>intro t vs B w h;exact h.elim
 | succ d ih=>exact vB d (vg d ih)
theorem jk {d:Nat} {t:Tm} {vs:List Value} {B:Nat} {w:World} (h:RTm w B d t vs) (hB:B≤w.heap.size) :
 Calls Tryz.prog 122 #[.agg vs.toArray] w fun e w'=>e=.returned (.bool (fx t))∧Below w.heap.size w w':=sR d t vs B w h hB
theorem oR {d:Nat} {t:Tm} {vs:List Value} {B:Nat} {w:World} (h:RTm w B d t vs) (hB:B≤w.heap.size) :
 Calls Tryz.prog 65 #[.agg vs.toArray] w fun e w'=>e=.returned (.bool (af t))∧Below w.heap.size w w':=by
 obtain ⟨A,c,rfl,q1,q2,q3,q4,q5,_⟩:=h.cells
 have HA:=yW h
 clear h
 have hk:(t.kind !=1)=true∨(t.kind !=1)=false:=by cases (t.kind !=1)<;>simp
 have hm:fx t=true∨fx t=false:=by cases fx t<;>simp
 rcases hm with hm | hm
 ·have HM:=yW hm
  clear hm
  rcases hk with hk | hk
  ·have HK:=yW hk
   go_enter Tryz.func65,Tryz.ntmps65
   go_wp2_with fail
   generalize hW:World.alloc _ _=w1
   obtain ⟨hb,hz⟩:=al1 hW
   have b_a_1:=n11 hW
   have HB1:=yW hb
   clear hW hz hb
   refine (jk (t:=t) (vs:=[_,_,_,_]) (HA.out.below HB1.out hB) (yX hB HB1.out.size)).mono ?_
   rintro x w2 ⟨rfl,hb⟩
   have b_a_2:=b_a_1.later hb
   have HB2:=yW (ab HB1.out hb)
   clear b_a_1
   clear hb
   rw [HM.out]
   have k_a:=b_a_2.cell
   have l_a:=b_a_2.lt
   go_wp2_with fail
   clear k_a l_a
   go_ret
   exact ⟨ac (by have h:=HK.out;unfold af;rw [HM.out,Bool.and_true];simp only [bne_iff_ne,bne_eq_false_iff_eq] at h;simp [h]),HB2.out⟩
  ·have HK:=yW hk
   go_enter Tryz.func65,Tryz.ntmps65
   go_wp2_with fail
   generalize hW:World.alloc _ _=w1
   obtain ⟨hb,hz⟩:=al1 hW
   have b_a_1:=n11 hW
   have HB1:=yW hb
   clear hW hz hb
   refine (jk (t:=t) (vs:=[_,_,_,_]) (HA.out.below HB1.out hB) (yX hB HB1.out.size)).mono ?_
   rintro x w2 ⟨rfl,hb⟩
   have b_a_2:=b_a_1.later hb
   have HB2:=yW (ab HB1.out hb)
   clear b_a_1
   clear hb
   rw [HM.out]
   have k_a:=b_a_2.cell
   have l_a:=b_a_2.lt
   go_wp2_with fail
   clear k_a l_a
   go_ret
   exact ⟨ac (by have h:=HK.out;unfold af;rw [HM.out,Bool.and_true];simp only [bne_iff_ne,bne_eq_false_iff_eq] at h;simp [h]),HB2.out⟩
 ·have HM:=yW hm
  clear hm
  go_enter Tryz.func65,Tryz.ntmps65
  go_wp2_with fail
  generalize hW:World.alloc _ _=w1
  obtain ⟨hb,hz⟩:=al1 hW
  have b_a_1:=n11 hW
  have HB1:=yW hb
  clear hW hz hb
  refine (jk (t:=t) (vs:=[_,_,_,_]) (HA.out.below HB1.out hB) (yX hB HB1.out.size)).mono ?_
  rintro x w2 ⟨rfl,hb⟩
  have b_a_2:=b_a_1.later hb
  have HB2:=yW (ab HB1.out hb)
  clear b_a_1
  clear hb
  rw [HM.out]
  have k_a:=b_a_2.cell
  have l_a:=b_a_2.lt
  go_wp2_with fail
  clear k_a l_a
  go_ret
  exact ⟨ac (by unfold af;rw [HM.out,Bool.and_false]),HB2.out⟩
section
variable {P:Program} {md:Region.Mode} {ops:Array Oper} {Q:Exit→Act→World→Prop} {n:Nat}
def fI (md:Region.Mode) (o:Oper):List Nat:=(o.after.toList.filter (Region.binds md)).map (·.on)
def eF (ops:Array Oper) (i:Nat):Option Tmp:=(ops[i]?).bind (·.dst)
def lm (md:Region.Mode) (ops:Array Oper):Bool:=(List.range ops.size).all fun i=>match ops[i]? with
 | none=>false
 | some o=>(fI md o).all (fun j=>decide (j<i))&&match o.dst with
   | none=>true
   | some t=>(List.range ops.size).all fun j=>decide (i=j)||eF ops j !=some t
def bL (ops:Array Oper) (post:Nat→Value→World→Prop) (T:Array Value) (w:World) (j:Nat):Prop:=match eF ops j with
 | none=>True
 | some t=>post j (T.getD t undef) w
def tt (ops:Array Oper) (T0 T:Array Value):Prop:=T.size=T0.size∧∀t,((List.range ops.size).all fun j=>eF ops j !=some t)=true→T.getD t undef=T0.getD t undef
def yk (P:Program) (md:Region.Mode) (ops:Array Oper) (Q:Exit→Act→World→Prop) (post:Nat→Value→World→Prop) (a0:Act) (w0:World) (i:Nat):Prop:=
 ∃o,ops[i]? = some o∧∀(T:Array Value) (w:World),tt ops a0.tmps T→Below w0.heap.size w0 w→(∀j∈fI md o,bL ops post T w j) →
  ∀K:Act→World→Prop,Shut (∀v w',Below w.heap.size w w'→post i v w'→K ((⟨T,a0.defers⟩:Act).put o.dst v) w') →
   if Region.wanted o (yielded ops T)=true then Oper.wp P o ⟨T,a0.defers⟩ w K Q else K ((⟨T,a0.defers⟩:Act).put o.dst undef) w
def yi (P:Program) (ops:Array Oper) (Q:Exit→Act→World→Prop) (post:Nat→Value→World→Prop) (a0:Act) (w0:World) (n:Nat):Prop:=
 ∃o,ops[n]? = some o∧∀(T:Array Value) (w:World),tt ops a0.tmps T→Below w0.heap.size w0 w→(∀j<n,bL ops post T w j) →
  ∀K:Act→World→Prop,Shut (∀a w,Q .normal a w→K a w) →
   if Region.wanted o (yielded ops T)=true then Oper.wp P o ⟨T,a0.defers⟩ w K Q else K ((⟨T,a0.defers⟩:Act).put o.dst undef) w
theorem ms (hB:lm md ops=true) {l:Array Bool} (hl:l.size=ops.size):∀(i:Nat),i<ops.size→l.getD i true=false→Region.ready md ops l≠[]:=by
 intro i
 induction i using Nat.strongRecOn with
 | _ i ih=>
   intro hi hun h0
   obtain ⟨o,ho⟩:∃o,ops[i]? = some o:=⟨_,Array.getElem?_eq_getElem hi⟩
   have hB':=List.all_eq_true.1 hB i (List.mem_range.2 hi)
   simp only [ho,Bool.and_eq_true] at hB'
   have hni:i∉Region.ready md ops l:=by rw [h0];simp
   apply hni
   refine mem_ready.2 ⟨hun,o,ho,fun e he hb=>?_⟩
   have hlt:e.on<i:=by
    have:=List.all_eq_true.1 hB'.1 e.on (List.mem_map.2 ⟨e,List.mem_filter.2 ⟨Array.mem_toList_iff.2 he,hb⟩,rfl⟩)
    exact of_decide_eq_true this
   cases hd:l.getD e.on false with
   | true=>rfl
   | false=>exact absurd h0 (ih e.on hlt (by omega) (getD_in (by omega) hd))
theorem jU {T:Array Value} {t u:Nat} {v:Value} (h:t≠u):(T.setIfInBounds t v).getD u undef=T.getD u undef:=by
 simp [Array.getElem?_setIfInBounds_ne h]
theorem sK {post:Nat→Value→World→Prop} {T:Array Value} {w w':World} {o:Oper} {i j:Nat} {v:Value} {ds:List Deferred} (hB:lm md ops=true) (ho:ops[i]? = some o) (hij:i≠j) (h:bL ops post T w j) (hs:∀i v w w',post i v w→Below w.heap.size w w'→post i v w') (hb:Below w.heap.size w w') :
 bL ops post ((⟨T,ds⟩:Act).put o.dst v).tmps w' j:=by
 have hi:i<ops.size:=(Array.getElem?_eq_some_iff.1 ho).1
 have hB':=List.all_eq_true.1 hB i (List.mem_range.2 hi)
 simp only [ho,Bool.and_eq_true] at hB'
 unfold bL at h ⊢
 cases hd:eF ops j with
 | none=>trivial
 | some t=>
   rw [hd] at h
   have hj:j<ops.size:=by
    unfold eF at hd
    cases hx:ops[j]? with
    | none=>rw [hx] at hd;cases hd
    | some _=>exact (Array.getElem?_eq_some_iff.1 hx).1
   have h2:post j (T.getD t undef) w':=hs _ _ _ _ h hb
   cases hod:o.dst with
   | none=>exact h2
   | some u=>
     have hne:u≠t:=by
      have h3:=hB'.2
      rw [hod] at h3
      have h4:=List.all_eq_true.1 h3 j (List.mem_range.2 hj)
      rw [hd] at h4
      intro e
      subst e
      simp [hij] at h4
     show post j ((T.setIfInBounds u v).getD t undef) w'
     rw [jU hne]
     exact h2
theorem uP {T0 T:Array Value} {o:Oper} {i:Nat} {v:Value} {ds:List Deferred} (ho:ops[i]? = some o) (h:tt ops T0 T):tt ops T0 ((⟨T,ds⟩:Act).put o.dst v).tmps:=by
 cases hod:o.dst with
 | none=>exact h
 | some u=>
   refine ⟨by show (T.setIfInBounds u v).size=_;rw [Array.size_setIfInBounds];exact h.1,fun t ht=>?_⟩
   show (T.setIfInBounds u v).getD t undef=_
   rw [jU ?_]
   ·exact h.2 t ht
   ·intro e
    subst e
    have:=List.all_eq_true.1 ht i (List.mem_range.2 (Array.getElem?_eq_some_iff.1 ho).1)
    simp [eF,ho,hod] at this
theorem vA {T:Array Value} {t:Nat} {v:Value} (h:t<T.size):(T.setIfInBounds t v).getD t undef=v:=by simp [h]
theorem qK {post:Nat→Value→World→Prop} {a0:Act} {w0:World} (hs:∀i v w w',post i v w→Below w.heap.size w w'→post i v w') (hB:lm md ops=true) (hn1:ops.size=n+1)
 (ht:((List.range ops.size).all fun i=>match eF ops i with | none=>true | some t=>decide (t<a0.tmps.size))=true)
 (hop:∀i<n,yk P md ops Q post a0 w0 i) (hlast:yi P ops Q post a0 w0 n) :
 ∀(f:Nat) (l:Array Bool) (T:Array Value) (w:World),UptoInv md ops n l→l.toList.count false≤f→tt ops a0.tmps T→Below w0.heap.size w0 w→(∀j<n,l.getD j false=true→bL ops post T w j) →
  wpAny P md ops Q f l ⟨T,a0.defers⟩ w:=by
 intro f
 induction f with
 | zero=>
   intro l T w inv hc _ _ _
   exfalso
   have h1:=inv.head.tail n (yY _) (by omega)
   have hsz:n<l.size:=by rw [inv.head.size];omega
   have:l[n]? = some false:=by simpa [hsz] using h1
   have h2:false∈l.toList:=by
    rw [Array.mem_toList_iff]
    exact Array.mem_of_getElem? this
   have:=List.count_pos_iff.2 h2
   omega
 | succ f ih=>
   intro l T w inv hc hk hb hd
   have hun:=inv.head.tail n (yY _) (by omega)
   refine ⟨fun h=>absurd h (ms hB inv.head.size n (by omega) hun),fun i hi=>?_⟩
   obtain ⟨hiun,oi,hoi,hall⟩:=mem_ready.1 hi
   have hisz:i<ops.size:=(Array.getElem?_eq_some_iff.1 hoi).1
   have hil:i<l.size:=by rw [inv.head.size];exact hisz
   have hcnt:(l.setIfInBounds i true).toList.count false≤f:=by
    have h1:l.toList[i]'(by simpa using hil)=false:=by simpa [hil] using hiun
    have h2:=List.count_set (a:=true) (b:=false) (l:=l.toList) (i:=i) (by simpa using hil)
    rw [h1,if_pos (show (false==false)=true from rfl),if_neg (show ¬((true==false)=true) by decide)] at h2
    rw [Array.toList_setIfInBounds,h2]
    omega
   have hdep:∀j∈fI md oi,l.getD j false=true:=fun j hj=>by
    obtain ⟨e,he,rfl⟩:=List.mem_map.1 hj
    obtain ⟨he1,he2⟩:=List.mem_filter.1 he
    exact hall e (Array.mem_toList_iff.1 he1) he2
   have hB':=List.all_eq_true.1 hB i (List.mem_range.2 hisz)
   simp only [hoi,Bool.and_eq_true] at hB'
   by_cases hin:i<n
   ·obtain ⟨o,ho,h⟩:=hop i hin
    obtain rfl:oi=o:=Option.some.inj (hoi.symm.trans ho)
    refine wpOp_step ho fun K hK=>h T w hk hb (fun j hj=>hd j (by have:=of_decide_eq_true (List.all_eq_true.1 hB'.1 j hj);omega) (hdep j hj)) K fun v w' hb' hp=>hK _ _ ?_
    rw [show (⟨T,a0.defers⟩:Act).put oi.dst v=⟨((⟨T,a0.defers⟩:Act).put oi.dst v).tmps,a0.defers⟩ by cases oi.dst<;>rfl]
    refine ih (l.setIfInBounds i true) _ w' ⟨inv.head.set hi hin,inv.sink,inv.chain,inv.lt⟩ hcnt (uP ho hk) (hb.trans (hb'.mono hb.size)) (fun j hj hjd=>?_)
    by_cases hij:i=j
    ·subst hij
     have h1:=List.all_eq_true.1 ht i (List.mem_range.2 hisz)
     have h2:eF ops i=oi.dst:=by unfold eF;rw [ho];rfl
     unfold bL
     rw [h2] at h1 ⊢
     cases hod:oi.dst with
     | none=>trivial
     | some t=>
       rw [hod] at h1
       have h3:t<T.size:=by rw [hk.1];exact of_decide_eq_true h1
       show post i ((T.setIfInBounds t v).getD t undef) w'
       rw [vA h3]
       exact hp
    ·exact sK hB ho hij (hd j hj (by rwa [getD_set_ne false hij] at hjd)) hs hb'
   ·obtain rfl:i=n:=by omega
    obtain ⟨o,ho,h⟩:=hlast
    have hdone:∀j<i,l.getD j false=true:=fun j hj=>by
     cases hx:l.getD j false with
     | true=>rfl
     | false=>exact absurd hi (tail_waits inv.sink inv.chain inv.lt inv.head (i-j) j rfl hj (getD_in (by have:=inv.head.size;omega) hx) i (yY _))
    refine wpOp_step ho fun K hK=>h T w hk hb (fun j hj=>hd j hj (hdone j hj)) K fun a' w' hq=>hK _ _ ?_
    have hr:Region.ready md ops (l.setIfInBounds i true)=[]:=by
     rw [List.eq_nil_iff_forall_not_mem]
     intro j hj
     obtain ⟨h1,oj,hoj,_⟩:=mem_ready.1 hj
     have hjs:=(Array.getElem?_eq_some_iff.1 hoj).1
     by_cases hij:i=j
     ·subst hij
      simp [hil] at h1
     ·rw [getD_set_ne true hij] at h1
      have:=hdone j (by omega)
      rw [getD_both h1] at this
      cases this
    cases f with
    | zero=>exact ⟨hr,hq⟩
    | succ f=>exact ⟨fun _=>hq,by rw [hr];simp⟩
theorem lB {a:Act} {w:World} {id:Nat} (n:Nat) (post:Nat→Value→World→Prop) (hm:P.follows .mixedOrders=true) (hsk:Region.sinkB .any ops n=true) (hc:Region.chainB .any ops n=true) (hn:decide (ops.size=n+1)=true)
 (hB:lm .any ops=true) (ht:((List.range ops.size).all fun i=>match eF ops i with | none=>true | some t=>decide (t<a.tmps.size))=true)
 (hs:∀i v w w',post i v w→Below w.heap.size w w'→post i v w')
 (hop:∀i<n,yk P .any ops Q post a w.drew i) (hlast:yi P ops Q post a w.drew n):(Code.region id ops true).wp P Q a w:=by
 have hn':=of_decide_eq_true hn
 refine wp_region_any hm (qK hs hB hn' ht hop hlast ops.size (Array.replicate ops.size false) a.tmps w.drew ⟨⟨by simp,fun j oj hoj hl=>?_,fun t ht ht'=>?_⟩,hsk,hc,by omega⟩ ?_ ⟨rfl,fun _ _=>rfl⟩ (za _ _) fun j hj hl=>?_)
 ·rw [getD_replicate_false] at hl;cases hl
 ·simp [ht']
 ·simp
 ·rw [getD_replicate_false] at hl;cases hl
theorem iK {X:Nat→Prop}:∀i<0,X i:=fun i h=>absurd h (Nat.not_lt_zero i)
theorem ae {X:Nat→Prop} {n:Nat} (h:∀i<n,X i) (hn:X n):∀i<n+1,X i:=fun i hi=>by
 obtain h1 | rfl:=Nat.lt_succ_iff_lt_or_eq.1 hi
 ·exact h i h1
 ·exact hn
theorem kg {T:Array Value} {n:Nat} (h:T.size=n):T=((List.range n).map fun t=>T.getD t undef).toArray:=by
 subst h
 apply Array.ext
 ·simp
 ·intro i h1 h2
  simp [h1]
end
end Go.Proofs.YtdphibjibnffeaaGreat
