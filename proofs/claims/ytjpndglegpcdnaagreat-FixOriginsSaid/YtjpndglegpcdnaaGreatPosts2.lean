/- A region that draws its order, whatever order, where an operation may write into what an earlier one made (an append): each operation is shown once, from the posts of those it waits for; one that does not only let the heap grow shows besides that the posts which others still wait for stay. -/
import Derived.Test.YtjpndglegpcdnaaGreatRef3
import Derived.Test.YtjpndglegpcdnaaGreatHeldA
import Derived.Test.YtjpndglegpcdnaaGreatFc1
import Derived.ProofKit
set_option linter.unusedVariables false
set_option linter.unusedSimpArgs false
set_option maxRecDepth 100000
set_option maxHeartbeats 8000000
namespace Go.Proofs.YtjpndglegpcdnaaGreat
open Go.ChangeShapes Go.WideShapes Go.ChangeAt Go.RowKit
theorem rO {α:Type} (l:List α):((l.length:Int)==0)=decide (l=[]):=by
 cases l with
 | nil=>simp
 | cons a l=>simp;omega
theorem vY (d:Nat) (hR:∀(t:Tm) (vs:List Value) (B:Nat) (w:World),RTm w B (d+1) t vs→B≤w.heap.size →
 Calls Tryz.prog 138 #[.agg vs.toArray] w fun e w'=>e=.returned (.bool (za t))∧Below w.heap.size w w')
 (t:Tm) (vs:List Value) (B:Nat) (w:World) (ht:RTm w B (d+1) t vs) (hB:B≤w.heap.size) :
 Calls Tryz.prog 103 #[.agg vs.toArray] w fun e w'=>e=.returned (.bool (fy t))∧Below w.heap.size w w':=by
 have HR:=zu hR
 clear hR
 have HT:=zu ht
 obtain ⟨A,c,rfl,hc1,hc2,hs,_,_,hl⟩:=ht.cells
 obtain ⟨kind,n,s,l⟩:=t
 dsimp only at hc1 hc2 hs hl
 have hbel:∀o:Obj,Below w.heap.size w (w.alloc o):=fun o=>(zy _ _).alloc (zw _) _
 have HB:=zu hbel
 clear hbel ht hl
 by_cases hk1:kind=1
 ·subst hk1
  by_cases hn:dO (bs s)=true
  all_goals
   try rw [Bool.not_eq_true] at hn
   go_enter Tryz.func103,Tryz.ntmps103
   go_wp2_with fail
   refine (ej s _ (by unfold maxLen;omega)).mono ?_
   rintro e w' ⟨rfl,rfl⟩
   have HN:=zu hn
   rw [hn]
   go_wp2_with fail
   all_goals
    go_ret
    refine ⟨ac ?_,HB.out _⟩
    clear HR HB HT
    simp [fy,ec,HN.out, *]
    try first
     | omega
     | exact rO _
 have hcases:kind=2∨kind=3∨kind=4∨kind=5∨kind=6∨kind=7∨((kind==1)=false∧(kind==2)=false∧(kind==3)=false∧(kind==4)=false∧(kind==5)=false∧(kind==6)=false∧(kind==7)=false∧(kind !=7)=true):=by
  simp only [beq_eq_false_iff_ne,bne_iff_ne];omega
 clear hk1
 rcases hcases with rfl | rfl | rfl | rfl | rfl | rfl | ⟨k1,k2,k3,k4,k5,k6,k7,k8⟩
 all_goals
  go_enter Tryz.func103,Tryz.ntmps103
  go_wp2_with (go_at_call 138;refine (HR.out ⟨_,_,_,_⟩ [_,_,_,_] B _ (HT.out.below (HB.out _) hB) (zv hB (HB.out _).size)).mono ?_;rintro e w1 ⟨rfl,hb1⟩)
  all_goals go_ret
  all_goals first
   | refine ⟨ac ?_,HB.out _⟩
   | refine ⟨ac ?_,(HB.out _).trans (hb1.mono (HB.out _).size)⟩
  all_goals
   clear HR HB HT
   try simp only [dC,be,Nat.not_lt,Nat.le_zero_eq,List.length_pos_iff,ne_eq,Classical.not_not,beq_eq_false_iff_ne] at *
   simp [fy,za,ec,mH, *]
   try first
    | omega
    | exact rO _
    | (rw [Bool.eq_iff_iff];simp;omega)
theorem tA (d:Nat):∀(t:Tm) (vs:List Value) (B:Nat) (w:World),RTm w B d t vs→B≤w.heap.size →
 Calls Tryz.prog 103 #[.agg vs.toArray] w fun e w'=>e=.returned (.bool (fy t))∧Below w.heap.size w w':=by
 induction d with
 | zero=>intro t vs B w h;exact h.elim
 | succ d ih=>exact vY d (vE d ih)
theorem jt {d:Nat} {t:Tm} {vs:List Value} {B:Nat} {w:World} (h:RTm w B d t vs) (hB:B≤w.heap.size) :
 Calls Tryz.prog 103 #[.agg vs.toArray] w fun e w'=>e=.returned (.bool (fy t))∧Below w.heap.size w w':=tA d t vs B w h hB
theorem pE {d:Nat} {t:Tm} {vs:List Value} {B:Nat} {w:World} (h:RTm w B d t vs) (hB:B≤w.heap.size) :
 Calls Tryz.prog 85 #[.agg vs.toArray] w fun e w'=>e=.returned (.bool (af t))∧Below w.heap.size w w':=by
 obtain ⟨A,c,rfl,q1,q2,q3,q4,q5,_⟩:=h.cells
 have HA:=zu h
 clear h
 have hk:(t.kind !=1)=true∨(t.kind !=1)=false:=by cases (t.kind !=1)<;>simp
 have hm:fy t=true∨fy t=false:=by cases fy t<;>simp
 rcases hm with hm | hm
 ·have HM:=zu hm
  clear hm
  rcases hk with hk | hk
  ·have HK:=zu hk
   go_enter Tryz.func85,Tryz.ntmps85
   go_wp2_with fail
   generalize hW:World.alloc _ _=w1
   obtain ⟨hb,hz⟩:=al1 hW
   have b_a_1:=n11 hW
   have HB1:=zu hb
   clear hW hz hb
   refine (jt (t:=t) (vs:=[_,_,_,_]) (HA.out.below HB1.out hB) (zv hB HB1.out.size)).mono ?_
   rintro x w2 ⟨rfl,hb⟩
   have b_a_2:=b_a_1.later hb
   have HB2:=zu (aa HB1.out hb)
   clear b_a_1
   clear hb
   rw [HM.out]
   have k_a:=b_a_2.cell
   have l_a:=b_a_2.lt
   go_wp2_with fail
   clear k_a l_a
   go_ret
   exact ⟨ac (by have h:=HK.out;unfold af;rw [HM.out,Bool.and_true];simp only [bne_iff_ne,bne_eq_false_iff_eq] at h;simp [h]),HB2.out⟩
  ·have HK:=zu hk
   go_enter Tryz.func85,Tryz.ntmps85
   go_wp2_with fail
   generalize hW:World.alloc _ _=w1
   obtain ⟨hb,hz⟩:=al1 hW
   have b_a_1:=n11 hW
   have HB1:=zu hb
   clear hW hz hb
   refine (jt (t:=t) (vs:=[_,_,_,_]) (HA.out.below HB1.out hB) (zv hB HB1.out.size)).mono ?_
   rintro x w2 ⟨rfl,hb⟩
   have b_a_2:=b_a_1.later hb
   have HB2:=zu (aa HB1.out hb)
   clear b_a_1
   clear hb
   rw [HM.out]
   have k_a:=b_a_2.cell
   have l_a:=b_a_2.lt
   go_wp2_with fail
   clear k_a l_a
   go_ret
   exact ⟨ac (by have h:=HK.out;unfold af;rw [HM.out,Bool.and_true];simp only [bne_iff_ne,bne_eq_false_iff_eq] at h;simp [h]),HB2.out⟩
 ·have HM:=zu hm
  clear hm
  go_enter Tryz.func85,Tryz.ntmps85
  go_wp2_with fail
  generalize hW:World.alloc _ _=w1
  obtain ⟨hb,hz⟩:=al1 hW
  have b_a_1:=n11 hW
  have HB1:=zu hb
  clear hW hz hb
  refine (jt (t:=t) (vs:=[_,_,_,_]) (HA.out.below HB1.out hB) (zv hB HB1.out.size)).mono ?_
  rintro x w2 ⟨rfl,hb⟩
  have b_a_2:=b_a_1.later hb
  have HB2:=zu (aa HB1.out hb)
  clear b_a_1
  clear hb
  rw [HM.out]
  have k_a:=b_a_2.cell
  have l_a:=b_a_2.lt
  go_wp2_with fail
  clear k_a l_a
  go_ret
  exact ⟨ac (by unfold af;rw [HM.out,Bool.and_false]),HB2.out⟩
section
variable {P:Program} {md:Region.Mode} {ops:Array Oper} {Q:Exit→Act→World→Prop} {n:Nat}
def iy (md:Region.Mode) (o:Oper):List Nat:=(o.after.toList.filter (Region.binds md)).map (·.on)
def iz (ops:Array Oper) (i:Nat):Option Tmp:=(ops[i]?).bind (·.dst)
def px (md:Region.Mode) (ops:Array Oper):Bool:=(List.range ops.size).all fun i=>match ops[i]? with
 | none=>false
 | some o=>(iy md o).all (fun j=>decide (j<i))&&match o.dst with
   | none=>true
   | some t=>(List.range ops.size).all fun j=>decide (i=j)||iz ops j !=some t
def cD (ops:Array Oper) (post:Nat→Value→World→Prop) (T:Array Value) (w:World) (j:Nat):Prop:=match iz ops j with
 | none=>True
 | some t=>post j (T.getD t undef) w
theorem tx (hB:px md ops=true) {l:Array Bool} (hl:l.size=ops.size):∀(i:Nat),i<ops.size→l.getD i true=false→Region.ready md ops l≠[]:=by
 intro i
 induction i using Nat.strongRecOn with
 | _ i ih=>
   intro hi hun h0
   obtain ⟨o,ho⟩:∃o,ops[i]? = some o:=⟨_,Array.getElem?_eq_getElem hi⟩
   have hB':=List.all_eq_true.1 hB i (List.mem_range.2 hi)
   simp only [ho,zC] at hB'
   have hni:i∉Region.ready md ops l:=by rw [h0];simp
   apply hni
   refine mem_ready.2 ⟨hun,o,ho,fun e he hb=>?_⟩
   have hlt:e.on<i:=by
    have:=List.all_eq_true.1 hB'.1 e.on (List.mem_map.2 ⟨e,List.mem_filter.2 ⟨Array.mem_toList_iff.2 he,hb⟩,rfl⟩)
    exact of_decide_eq_true this
   cases hd:l.getD e.on false with
   | true=>rfl
   | false=>exact absurd h0 (ih e.on hlt (by omega) (getD_in (by omega) hd))
theorem rI {T:Array Value} {t u:Nat} {v:Value} (h:t≠u):(T.setIfInBounds t v).getD u undef=T.getD u undef:=by
 simp [Array.getElem?_setIfInBounds_ne h]
theorem put_own {T:Array Value} {t:Nat} {v:Value} (h:t<T.size):(T.setIfInBounds t v).getD t undef=v:=by simp [h]
theorem iQ {X:Nat→Prop}:∀i<0,X i:=fun i h=>absurd h (Nat.not_lt_zero i)
theorem ae {X:Nat→Prop} {n:Nat} (h:∀i<n,X i) (hn:X n):∀i<n+1,X i:=fun i hi=>by
 obtain h1 | rfl:=Nat.lt_succ_iff_lt_or_eq.1 hi
 ·exact h i h1
 ·exact hn
theorem ku {T:Array Value} {n:Nat} (h:T.size=n):T=((List.range n).map fun t=>T.getD t undef).toArray:=by
 subst h
 apply Array.ext
 ·simp
 ·intro i h1 h2
  simp [h1]
end
section
variable {P:Program} {md:Region.Mode} {ops:Array Oper} {Q:Exit→Act→World→Prop} {n ph:Nat}
def om (ops:Array Oper) (n:Nat) (T0 T:Array Value):Prop:=T.size=T0.size∧∀t,((List.range n).all fun j=>iz ops j !=some t)=true→T.getD t undef=T0.getD t undef
theorem vm {T0 T:Array Value} {o:Oper} {i:Nat} {v:Value} {ds:List Deferred} (ho:ops[i]? = some o) (hi:i<n) (h:om ops n T0 T):om ops n T0 ((⟨T,ds⟩:Act).put o.dst v).tmps:=by
 cases hod:o.dst with
 | none=>exact h
 | some u=>
   refine ⟨by show (T.setIfInBounds u v).size=_;rw [Array.size_setIfInBounds];exact h.1,fun t ht=>?_⟩
   show (T.setIfInBounds u v).getD t undef=_
   rw [rI ?_]
   ·exact h.2 t ht
   ·intro e
    subst e
    have:=List.all_eq_true.1 ht i (List.mem_range.2 hi)
    simp [iz,ho,hod] at this
def xX:Ground→Bool
 | .phase=>false
 | _=>true
def gX (md:Region.Mode) (ph:Nat) (o:Oper):List Nat:=(o.after.toList.filter fun e=>Region.binds md e&&(xX e.ground||decide (ph≤e.on))).map (·.on)
theorem kv {md:Region.Mode} {ph:Nat} {o:Oper} {j:Nat} (h:j∈gX md ph o):j∈iy md o:=by
 obtain ⟨e,he,rfl⟩:=List.mem_map.1 h
 obtain ⟨h1,h2⟩:=List.mem_filter.1 he
 rw [zC] at h2
 exact List.mem_map.2 ⟨e,List.mem_filter.2 ⟨h1,h2.1⟩,rfl⟩
def eX (md:Region.Mode) (ops:Array Oper):Nat→Nat→Nat→Bool
 | 0,_,_=>false
 | n+1,j,i=>match ops[j]? with
   | some oj=>(iy md oj).any fun e=>e==i||eX md ops n e i
   | none=>false
def zh (md:Region.Mode) (ph:Nat) (ops:Array Oper) (i j:Nat):Bool:=decide (j≠i)&&!eX md ops ops.size j i&&(List.range ops.size).any fun k=>decide (k≠i)&&match ops[k]? with
 | some ok=>(gX md ph ok).contains j&&!eX md ops ops.size i k
 | none=>false
def ov (md:Region.Mode) (ops:Array Oper) (wr:List Nat) (i:Nat):Bool:=wr.all fun q=>q==i||eX md ops ops.size q i
structure Moved (md:Region.Mode) (ph:Nat) (ops:Array Oper) (post:Nat→Value→World→Prop) (wr:List Nat) (base:Nat) (w0:World) (i:Nat) (T:Array Value) (w w':World):Prop where
 b:Below base w0 w'
 g:wr.contains i=false→Below w.heap.size w w'
 k:∀j,zh md ph ops i j=true→cD ops post T w j→cD ops post T w' j
theorem cD.grow {post:Nat→Value→World→Prop} {T:Array Value} {w w':World} {j:Nat} (hs:∀i v w w',post i v w→Below w.heap.size w w'→post i v w') (h:cD ops post T w j) (hb:Below w.heap.size w w'):cD ops post T w' j:=by
 unfold cD at h ⊢
 cases hd:iz ops j with
 | none=>trivial
 | some t=>
   rw [hd] at h
   exact hs _ _ _ _ h hb
section
variable {post:Nat→Value→World→Prop} {wr:List Nat} {base:Nat} {w0:World} {i:Nat} {T:Array Value} {w w':World}
theorem Moved.grow (hs:∀i v w w',post i v w→Below w.heap.size w w'→post i v w') (h0:base≤w0.heap.size) (hw:Below base w0 w) (hb:Below w.heap.size w w'):Moved md ph ops post wr base w0 i T w w':=
 ⟨hw.trans (hb.mono (zv h0 hw.size)),fun _=>hb,fun _ _ h=>h.grow hs hb⟩
theorem Moved.keep (hb:Below base w0 w') (hi:wr.contains i=true) (L:List Nat) (hL:((List.range ops.size).all fun j=>!zh md ph ops i j||L.contains j)=true) (h:∀j∈L,cD ops post T w j→cD ops post T w' j):Moved md ph ops post wr base w0 i T w w':=
 ⟨hb,fun h=>(by rw [hi] at h;cases h),fun j hj hp=>by
  rcases Nat.lt_or_ge j ops.size with h1 | h1
  ·have h2:=List.all_eq_true.1 hL j (List.mem_range.2 h1)
   rw [hj] at h2
   exact h j (by simpa using h2) hp
  ·unfold cD iz
   rw [Array.getElem?_eq_none h1]
   trivial⟩
end
def rp (P:Program) (md:Region.Mode) (ph:Nat) (ops:Array Oper) (Q:Exit→Act→World→Prop) (post:Nat→Value→World→Prop) (wr:List Nat) (base n:Nat) (a0:Act) (w0:World) (i:Nat):Prop:=
 ∃o,ops[i]? = some o∧∀(T:Array Value) (w:World),om ops n a0.tmps T→Below base w0 w→(ov md ops wr i=true→Below w0.heap.size w0 w)→(∀j∈gX md ph o,cD ops post T w j) →
  ∀K:Act→World→Prop,Shut (∀v w',Moved md ph ops post wr base w0 i T w w'→post i v w'→K ((⟨T,a0.defers⟩:Act).put o.dst v) w') →
   if Region.wanted o (yielded ops T)=true then Oper.wp P o ⟨T,a0.defers⟩ w K Q else K ((⟨T,a0.defers⟩:Act).put o.dst undef) w
def kc (P:Program) (md:Region.Mode) (ph:Nat) (ops:Array Oper) (Q:Exit→Act→World→Prop) (post:Nat→Value→World→Prop) (wr:List Nat) (base:Nat) (a0:Act) (w0:World) (n:Nat):Prop:=
 ∃o,ops[n]? = some o∧∀(T:Array Value) (w:World),om ops n a0.tmps T→Below base w0 w→(ov md ops wr n=true→Below w0.heap.size w0 w)→(∀j∈gX md ph o,cD ops post T w j) →
  ∀K:Act→World→Prop,Shut (∀a w,Q .normal a w→K a w) →
   if Region.wanted o (yielded ops T)=true then Oper.wp P o ⟨T,a0.defers⟩ w K Q else K ((⟨T,a0.defers⟩:Act).put o.dst undef) w
theorem qW {post:Nat→Value→World→Prop} {T:Array Value} {w:World} {o:Oper} {i j:Nat} {v:Value} {ds:List Deferred} (hB:px md ops=true) (ho:ops[i]? = some o) (hij:i≠j) (h:cD ops post T w j) :
 cD ops post ((⟨T,ds⟩:Act).put o.dst v).tmps w j:=by
 have hi:i<ops.size:=(Array.getElem?_eq_some_iff.1 ho).1
 have hB':=List.all_eq_true.1 hB i (List.mem_range.2 hi)
 simp only [ho,zC] at hB'
 unfold cD at h ⊢
 cases hd:iz ops j with
 | none=>trivial
 | some t=>
   rw [hd] at h
   have hj:j<ops.size:=by
    unfold iz at hd
    cases hx:ops[j]? with
    | none=>rw [hx] at hd;cases hd
    | some _=>exact (Array.getElem?_eq_some_iff.1 hx).1
   cases hod:o.dst with
   | none=>exact h
   | some u=>
     have hne:u≠t:=by
      have h3:=hB'.2
      rw [hod] at h3
      have h4:=List.all_eq_true.1 h3 j (List.mem_range.2 hj)
      rw [hd] at h4
      intro e
      subst e
      simp [hij] at h4
     show post j ((T.setIfInBounds u v).getD t undef) w
     rw [rI hne]
     exact h
def tZ (md:Region.Mode) (ph:Nat) (ops:Array Oper) (l:Array Bool) (j:Nat):Prop:=∃k o,ops[k]? = some o∧l.getD k false=false∧j∈gX md ph o
theorem nL {l:Array Bool} {i:Nat} (hiun:l.getD i false=false) (hcl:∀j oj,ops[j]? = some oj→l.getD j false=true→∀e∈iy md oj,l.getD e false=true):∀(n j:Nat),l.getD j false=true→eX md ops n j i=false
 | 0,_,_=>rfl
 | n+1,j,h=>by
   unfold eX
   cases hoj:ops[j]? with
   | none=>rfl
   | some oj=>
     show ((iy md oj).any fun e=>e==i||eX md ops n e i)=false
     rw [List.any_eq_false]
     intro e he
     have h1:=hcl j oj hoj h e he
     have h2:=nL hiun hcl n e h1
     have h3:e≠i:=by
      rintro rfl
      rw [h1] at hiun
      cases hiun
     rw [h2]
     simp [h3]
theorem mY {l:Array Bool} {k:Nat} (hcl:∀j oj,ops[j]? = some oj→l.getD j false=true→∀e∈iy md oj,l.getD e false=true):∀(n j:Nat) (oj:Oper),ops[j]? = some oj→(∀e∈iy md oj,l.getD e false=true)→eX md ops n j k=true→l.getD k false=true
 | 0,_,_,_,_,h=>by cases h
 | n+1,j,oj,hoj,hd,h=>by
   unfold eX at h
   rw [hoj] at h
   obtain ⟨e,he,h1⟩:=List.any_eq_true.1 h
   have h2:=hd e he
   rcases Bool.or_eq_true_iff.1 h1 with h3 | h3
   ·rw [←beq_iff_eq.1 h3];exact h2
   ·cases hoe:ops[e]? with
    | none=>cases n with
      | zero=>cases h3
      | succ n=>unfold eX at h3;rw [hoe] at h3;cases h3
    | some oe=>exact mY hcl n e oe hoe (hcl e oe hoe h2) h3
theorem rn {post:Nat→Value→World→Prop} {wr:List Nat} {base:Nat} {a0:Act} {w0:World} (h0:base≤w0.heap.size) (hB:px md ops=true) (hn1:ops.size=n+1)
 (ht:((List.range ops.size).all fun i=>match iz ops i with | none=>true | some t=>decide (t<a0.tmps.size))=true)
 (hop:∀i<n,rp P md ph ops Q post wr base n a0 w0 i) (hlast:kc P md ph ops Q post wr base a0 w0 n) :
 ∀(f:Nat) (l:Array Bool) (T:Array Value) (w:World),UptoInv md ops n l→l.toList.count false≤f→om ops n a0.tmps T→Below base w0 w→((∀q∈wr,l.getD q false=false)→Below w0.heap.size w0 w)→(∀j<n,l.getD j false=true→tZ md ph ops l j→cD ops post T w j)→(∀j oj,ops[j]? = some oj→l.getD j false=true→∀e∈iy md oj,l.getD e false=true) →
  wpAny P md ops Q f l ⟨T,a0.defers⟩ w:=by
 intro f
 induction f with
 | zero=>
   intro l T w inv hc _ _ _ _ _
   exfalso
   have h1:=inv.head.tail n (zw _) (by omega)
   have hsz:n<l.size:=by rw [inv.head.size];omega
   have:l[n]? = some false:=by simpa [hsz] using h1
   have h2:false∈l.toList:=by
    rw [Array.mem_toList_iff]
    exact Array.mem_of_getElem? this
   have:=List.count_pos_iff.2 h2
   omega
 | succ f ih=>
   intro l T w inv hc hk hb hgr hd hcl
   have hun:=inv.head.tail n (zw _) (by omega)
   refine ⟨fun h=>absurd h (tx hB inv.head.size n (by omega) hun),fun i hi=>?_⟩
   obtain ⟨hiun,oi,hoi,hall⟩:=mem_ready.1 hi
   have hisz:i<ops.size:=(Array.getElem?_eq_some_iff.1 hoi).1
   have hil:i<l.size:=by rw [inv.head.size];exact hisz
   have hcnt:(l.setIfInBounds i true).toList.count false≤f:=by
    have h1:l.toList[i]'(by simpa using hil)=false:=by simpa [hil] using hiun
    have h2:=List.count_set (a:=true) (b:=false) (l:=l.toList) (i:=i) (by simpa using hil)
    rw [h1,if_pos (show (false==false)=true from rfl),if_neg (show ¬((true==false)=true) by decide)] at h2
    rw [Array.toList_setIfInBounds,h2]
    omega
   have hdep:∀j∈iy md oi,l.getD j false=true:=fun j hj=>by
    obtain ⟨e,he,rfl⟩:=List.mem_map.1 hj
    obtain ⟨he1,he2⟩:=List.mem_filter.1 he
    exact hall e (Array.mem_toList_iff.1 he1) he2
   have hB':=List.all_eq_true.1 hB i (List.mem_range.2 hisz)
   simp only [hoi,zC] at hB'
   have hah:ov md ops wr i=true→Below w0.heap.size w0 w:=fun ha=>hgr fun q hq=>by
    have h1:=List.all_eq_true.1 ha q hq
    cases hx:l.getD q false with
    | false=>rfl
    | true=>
      have h2:=nL (getD_both hiun) hcl ops.size q hx
      rw [h2,Bool.or_false,beq_iff_eq] at h1
      subst h1
      rw [getD_both hiun] at hx
      cases hx
   by_cases hin:i<n
   ·obtain ⟨o,ho,h⟩:=hop i hin
    obtain rfl:oi=o:=Option.some.inj (hoi.symm.trans ho)
    refine wpOp_step ho fun K hK=>h T w hk hb hah (fun j hj=>hd j (by have:=of_decide_eq_true (List.all_eq_true.1 hB'.1 j (kv hj));omega) (hdep j (kv hj)) ⟨i,oi,hoi,getD_both hiun,hj⟩) K fun v w' hm hp=>hK _ _ ?_
    rw [show (⟨T,a0.defers⟩:Act).put oi.dst v=⟨((⟨T,a0.defers⟩:Act).put oi.dst v).tmps,a0.defers⟩ by cases oi.dst<;>rfl]
    refine ih (l.setIfInBounds i true) _ w' ⟨inv.head.set hi hin,inv.sink,inv.chain,inv.lt⟩ hcnt (vm ho hin hk) hm.b (fun hq=>?_) (fun j hj hjd ⟨k,ok,hok,hkl,hjk⟩=>?_) (fun j oj hoj hjd e he=>?_)
    ·have h1:wr.contains i=false:=by
      cases hx:wr.contains i with
      | false=>rfl
      | true=>
        have h2:=hq i (List.contains_iff_mem.1 hx)
        rw [show (l.setIfInBounds i true).getD i false=true by simp [hil]] at h2
        cases h2
     have h2:=hgr fun q hq'=>by
      have h3:=hq q hq'
      have hqi:i≠q:=by
       rintro rfl
       rw [List.contains_iff_mem.2 hq'] at h1
       cases h1
      rwa [getD_set_ne false hqi] at h3
     exact h2.trans ((hm.g h1).mono h2.size)
    ·by_cases hij:i=j
     ·subst hij
      have h1:=List.all_eq_true.1 ht i (List.mem_range.2 hisz)
      have h2:iz ops i=oi.dst:=by unfold iz;rw [ho];rfl
      unfold cD
      rw [h2] at h1 ⊢
      cases hod:oi.dst with
      | none=>trivial
      | some t=>
        rw [hod] at h1
        have h3:t<T.size:=by rw [hk.1];exact of_decide_eq_true h1
        show post i ((T.setIfInBounds t v).getD t undef) w'
        rw [put_own h3]
        exact hp
     ·have hik:i≠k:=by
       rintro rfl
       rw [show (l.setIfInBounds i true).getD i false=true by simp [hil]] at hkl
       cases hkl
      rw [getD_set_ne false hik] at hkl
      have hks:k<ops.size:=(Array.getElem?_eq_some_iff.1 hok).1
      refine qW hB ho hij (hm.k j ?_ (hd j hj (by rwa [getD_set_ne false hij] at hjd) ⟨k,ok,hok,hkl,hjk⟩))
      have hji:eX md ops ops.size j i=false:=nL (hiun:=getD_both hiun) hcl _ j (by rwa [getD_set_ne false hij] at hjd)
      unfold zh
      rw [decide_eq_true (Ne.symm hij),hji,Bool.not_false,Bool.true_and,Bool.true_and,List.any_eq_true]
      refine ⟨k,List.mem_range.2 hks,?_⟩
      rw [decide_eq_true (Ne.symm hik),hok,Bool.true_and]
      show ((gX md ph ok).contains j&&!eX md ops ops.size i k)=true
      rw [zC,List.contains_iff_mem,Bool.not_eq_true']
      refine ⟨hjk,?_⟩
      cases hc:eX md ops ops.size i k with
      | false=>rfl
      | true=>
        have:=mY hcl _ i oi ho hdep hc
        rw [hkl] at this
        cases this
    ·by_cases hij:i=j
     ·subst hij
      obtain rfl:oj=oi:=Option.some.inj (hoj.symm.trans hoi)
      exact getD_set_true (hdep e he)
     ·rw [getD_set_ne false hij] at hjd
      exact getD_set_true (hcl j oj hoj hjd e he)
   ·obtain rfl:i=n:=by omega
    obtain ⟨o,ho,h⟩:=hlast
    obtain rfl:oi=o:=Option.some.inj (hoi.symm.trans ho)
    have hdone:∀j<i,l.getD j false=true:=fun j hj=>by
     cases hx:l.getD j false with
     | true=>rfl
     | false=>exact absurd hi (tail_waits inv.sink inv.chain inv.lt inv.head (i-j) j rfl hj (getD_in (by have:=inv.head.size;omega) hx) i (zw _))
    refine wpOp_step ho fun K hK=>h T w hk hb hah (fun j hj=>hd j (of_decide_eq_true (List.all_eq_true.1 hB'.1 j (kv hj))) (hdone j (of_decide_eq_true (List.all_eq_true.1 hB'.1 j (kv hj)))) ⟨i,oi,hoi,getD_both hiun,hj⟩) K fun a' w' hq=>hK _ _ ?_
    have hr:Region.ready md ops (l.setIfInBounds i true)=[]:=by
     rw [List.eq_nil_iff_forall_not_mem]
     intro j hj
     obtain ⟨h1,oj,hoj,_⟩:=mem_ready.1 hj
     have hjs:=(Array.getElem?_eq_some_iff.1 hoj).1
     by_cases hij:i=j
     ·subst hij
      simp [hil] at h1
     ·rw [getD_set_ne true hij] at h1
      have:=hdone j (by omega)
      rw [getD_both h1] at this
      cases this
    cases f with
    | zero=>exact ⟨hr,hq⟩
    | succ f=>exact ⟨fun _=>hq,by rw [hr];simp⟩
theorem lY {a:Act} {w:World} {id:Nat} (ph n:Nat) (post:Nat→Value→World→Prop) (wr:List Nat) (base:Nat) (hbase:base≤w.heap.size) (hm:P.follows .mixedOrders=true) (hsk:Region.sinkB .any ops n=true) (hc:Region.chainB .any ops n=true) (hn:decide (ops.size=n+1)=true)
 (hB:px .any ops=true) (ht:((List.range ops.size).all fun i=>match iz ops i with | none=>true | some t=>decide (t<a.tmps.size))=true)
 (hop:∀i<n,rp P .any ph ops Q post wr base n a w.drew i) (hlast:kc P .any ph ops Q post wr base a w.drew n):(Code.region id ops true).wp P Q a w:=by
 have hn':=of_decide_eq_true hn
 refine wp_region_any hm (rn (ph:=ph) (w0:=w.drew) hbase hB hn' ht hop hlast ops.size (Array.replicate ops.size false) a.tmps w.drew ⟨⟨by simp,fun j oj hoj hl=>?_,fun t ht ht'=>?_⟩,hsk,hc,by omega⟩ ?_ ⟨rfl,fun _ _=>rfl⟩ (zy _ _) (fun _=>zy _ _) (fun j hj hl _=>?_) (fun j oj _ hl=>?_))
 ·rw [getD_replicate_false] at hl;cases hl
 ·simp [ht']
 ·simp
 ·rw [getD_replicate_false] at hl;cases hl
 ·rw [getD_replicate_false] at hl;cases hl
theorem cT {a:Act} {w:World} {id:Nat} (n:Nat) (post:Nat→Value→World→Prop) (wr:List Nat) (base:Nat) (hbase:base≤w.heap.size) (hm:P.follows .mixedOrders=true) (hsk:Region.sinkB .any ops n=true) (hc:Region.chainB .any ops n=true) (hn:decide (ops.size=n+1)=true)
 (hB:px .any ops=true) (ht:((List.range ops.size).all fun i=>match iz ops i with | none=>true | some t=>decide (t<a.tmps.size))=true)
 (hop:∀i<n,rp P .any 1000000 ops Q post wr base n a w.drew i) (hlast:kc P .any 1000000 ops Q post wr base a w.drew n):(Code.region id ops true).wp P Q a w:=lY 1000000 n post wr base hbase hm hsk hc hn hB ht hop hlast
end
/-! Posts as a list. -/
def nQ (Ps:List (Value→World→Prop)) (i:Nat) (v:Value) (w:World):Prop:=(Ps.getD i fun _ _=>True) v w
def Stb (p:Value→World→Prop):Prop:=∀v w w',p v w→Below w.heap.size w w'→p v w'
def yJ:List (Value→World→Prop)→Prop
 | []=>True
 | p::ps=>Stb p∧yJ ps
theorem js:∀{Ps:List (Value→World→Prop)},yJ Ps→∀i v w w',nQ Ps i v w→Below w.heap.size w w'→nQ Ps i v w'
 | [],_,i,v,w,w',_,_=>by unfold nQ;rw [List.getD_eq_getElem?_getD,List.getElem?_nil];trivial
 | p::ps,h,0,v,w,w',hp,hb=>h.1 v w w' hp hb
 | p::ps,h,i+1,v,w,w',hp,hb=>js h.2 i v w w' hp hb
theorem Stb.val (P:Value→Prop):Stb (fun v _=>P v):=fun _ _ _ h _=>h
theorem Stb.and {p q:Value→World→Prop} (h:Stb p) (k:Stb q):Stb (fun v w=>p v w∧q v w):=fun v w w' hp hb=>⟨h v w w' hp.1 hb,k v w w' hp.2 hb⟩
theorem Stb.ex {α:Type} {p:α→Value→World→Prop} (h:∀a,Stb (p a)):Stb (fun v w=>∃a,p a v w):=fun v w w' ⟨a,hp⟩ hb=>⟨a,h a v w w' hp hb⟩
theorem uh {w w':World} {b:Nat} {o:Obj} (h:w.heap[b]? = some o) (hb:Below w.heap.size w w'):w'.heap[b]? = some o:=(hb.block b (Array.getElem?_eq_some_iff.1 h).1).trans h
def pZ (base n:Nat) (cs:Array Value) (T:TypeId) (v:Value) (w:World):Prop:=∃b,v=.slice (some ⟨b,0,none⟩) n n∧base≤b∧w.heap[b]? = some (.cells cs T (0,0))
theorem Stb.row (base n:Nat) (cs:Array Value) (T:TypeId):Stb (pZ base n cs T):=fun _ _ _ ⟨b,e,h,k⟩ hb=>⟨b,e,h,uh k hb⟩
def pY {α:Type} (R:Reader α) (e:TypeId) (base B:Nat) (xs:List α) (v:Value) (w:World):Prop:=B≤w.heap.size∧am R e w base B v xs
theorem Stb.own {α:Type} (R:Reader α) (e:TypeId) (base B:Nat) (xs:List α):Stb (pY R e base B xs):=fun _ _ _ ⟨h,k⟩ hb=>⟨zv h hb.size,k.later hb h⟩
theorem mvA {P:Program} {md:Region.Mode} {ph:Nat} {ops:Array Oper} {Q:Exit→Act→World→Prop} {post:Nat→Value→World→Prop} {wr:List Nat} {base n i:Nat} {a0:Act} {w0:World} {o:Oper} (h:∀(T:Array Value) (w:World),om ops n a0.tmps T→Below base w0 w→(ov md ops wr i=true→Below w0.heap.size w0 w)→(∀j∈gX md ph o,cD ops post T w j)→∀K:Act→World→Prop,Shut (∀v w',Moved md ph ops post wr base w0 i T w w'→post i v w'→K ((⟨T,a0.defers⟩:Act).put o.dst v) w')→Oper.wp P o ⟨T,a0.defers⟩ w K Q) (ho:ops[i]? = some o:=by exact rfl) (hw:∀T:Array Value,Region.wanted o (yielded ops T)=true:=by exact fun _=>rfl):rp P md ph ops Q post wr base n a0 w0 i:=⟨o,ho,fun T w a b c d K hK=>by rw [if_pos (hw T)];exact h T w a b c d K hK⟩
theorem mvL {P:Program} {md:Region.Mode} {ph:Nat} {ops:Array Oper} {Q:Exit→Act→World→Prop} {post:Nat→Value→World→Prop} {wr:List Nat} {base n:Nat} {a0:Act} {w0:World} {o:Oper} (h:∀(T:Array Value) (w:World),om ops n a0.tmps T→Below base w0 w→(ov md ops wr n=true→Below w0.heap.size w0 w)→(∀j∈gX md ph o,cD ops post T w j)→∀K:Act→World→Prop,Shut (∀a w,Q .normal a w→K a w)→Oper.wp P o ⟨T,a0.defers⟩ w K Q) (ho:ops[n]? = some o:=by exact rfl) (hw:∀T:Array Value,Region.wanted o (yielded ops T)=true:=by exact fun _=>rfl):kc P md ph ops Q post wr base a0 w0 n:=⟨o,ho,fun T w a b c d K hK=>by rw [if_pos (hw T)];exact h T w a b c d K hK⟩
theorem gqd {T:Array Value} {i:Nat} {d v:Value} (h:T.getD i d=v):T[i]?.getD d=v:=by rw [←Array.getD_eq_getD_getElem?];exact h
theorem mvD {md:Region.Mode} {ph:Nat} {ops:Array Oper} {post:Nat→Value→World→Prop} {T:Array Value} {w:World} {o:Oper} (hd:∀j∈gX md ph o,cD ops post T w j) (j:Nat) (h:decide (j∈gX md ph o)=true:=by kernel_rfl):cD ops post T w j:=hd j (of_decide_eq_true h)
theorem mvK {ops:Array Oper} {n:Nat} {T0 T:Array Value} (hk:om ops n T0 T) (t:Nat) (h:((List.range n).all fun j=>iz ops j !=some t)=true:=by kernel_rfl):T.getD t undef=T0.getD t undef:=hk.2 t h
theorem mvM {md:Region.Mode} {ph:Nat} {ops:Array Oper} {Ps:List (Value→World→Prop)} {wr:List Nat} {base i:Nat} {T:Array Value} {w0 w:World} (hs:Hid (yJ Ps)) (h0:Hid (base≤w0.heap.size)) (hw:Below base w0 w):Moved md ph ops (nQ Ps) wr base w0 i T w w:=Moved.grow (js hs.out) h0.out hw (zy _ _)
theorem mvN {md:Region.Mode} {ph:Nat} {ops:Array Oper} {Ps:List (Value→World→Prop)} {wr:List Nat} {base i:Nat} {T:Array Value} {w0 w w':World} (hs:Hid (yJ Ps)) (h0:Hid (base≤w0.heap.size)) (hw:Below base w0 w) (hb:Below w.heap.size w w'):Moved md ph ops (nQ Ps) wr base w0 i T w w':=Moved.grow (js hs.out) h0.out hw hb
end Go.Proofs.YtjpndglegpcdnaaGreat
