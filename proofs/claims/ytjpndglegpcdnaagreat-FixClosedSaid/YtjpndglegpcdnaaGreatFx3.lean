/- fix.fresh: Len, Less, Swap, Pop; a pile of container/heap. Printed by mk_fx3.py. -/
import Derived.Test.YtjpndglegpcdnaaGreatData
import Derived.Test.YtjpndglegpcdnaaGreatRule1
import Derived.ProofKit
import Derived.Test.YtjpndglegpcdnaaGreatJoFill
import Derived.Test.YtjpndglegpcdnaaGreatSet
set_option linter.unusedVariables false
set_option linter.unusedSimpArgs false
set_option maxRecDepth 100000
set_option maxHeartbeats 8000000
namespace Go.Proofs.YtjpndglegpcdnaaGreat
open Go.ChangeShapes Go.WideShapes Go.ChangeAt Go.RowKit
section
variable {P:Program} {md:Region.Mode} {ops:Array Oper} {Q:Exit→Act→World→Prop} {n:Nat}
def iO (md:Region.Mode) (o:Oper):List Nat:=(o.after.toList.filter (Region.binds md)).map (·.on)
def iP (ops:Array Oper) (i:Nat):Option Tmp:=(ops[i]?).bind (·.dst)
def pU (md:Region.Mode) (ops:Array Oper):Bool:=(List.range ops.size).all fun i=>match ops[i]? with
 | none=>false
 | some o=>(iO md o).all (fun j=>decide (j<i))&&match o.dst with
   | none=>true
   | some t=>(List.range ops.size).all fun j=>decide (i=j)||iP ops j !=some t
def cE (ops:Array Oper) (post:Nat→Value→World→Prop) (T:Array Value) (w:World) (j:Nat):Prop:=match iP ops j with
 | none=>True
 | some t=>post j (T.getD t undef) w
theorem ud (hB:pU md ops=true) {l:Array Bool} (hl:l.size=ops.size):∀(i:Nat),i<ops.size→l.getD i true=false→Region.ready md ops l≠[]:=by
 intro i
 induction i using Nat.strongRecOn with
 | _ i ih=>
   intro hi hun h0
   obtain ⟨o,ho⟩:∃o,ops[i]? = some o:=⟨_,Array.getElem?_eq_getElem hi⟩
   have hB':=List.all_eq_true.1 hB i (List.mem_range.2 hi)
   simp only [ho,AN] at hB'
   have hni:i∉Region.ready md ops l:=by rw [h0];simp
   apply hni
   refine mem_ready.2 ⟨hun,o,ho,fun e he hb=>?_⟩
   have hlt:e.on<i:=by
    have:=List.all_eq_true.1 hB'.1 e.on (List.mem_map.2 ⟨e,List.mem_filter.2 ⟨Array.mem_toList_iff.2 he,hb⟩,rfl⟩)
    exact of_decide_eq_true this
   cases hd:l.getD e.on false with
   | true=>rfl
   | false=>exact absurd h0 (ih e.on hlt (by omega) (getD_in (by omega) hd))
theorem sp {T:Array Value} {t u:Nat} {v:Value} (h:t≠u):(T.setIfInBounds t v).getD u undef=T.getD u undef:=by
 simp [Array.getElem?_setIfInBounds_ne h]
theorem put_own {T:Array Value} {t:Nat} {v:Value} (h:t<T.size):(T.setIfInBounds t v).getD t undef=v:=by simp [h]
theorem jh {X:Nat→Prop}:∀i<0,X i:=fun i h=>absurd h (Nat.not_lt_zero i)
theorem ae {X:Nat→Prop} {n:Nat} (h:∀i<n,X i) (hn:X n):∀i<n+1,X i:=fun i hi=>by
 obtain h1 | rfl:=Nat.lt_succ_iff_lt_or_eq.1 hi
 ·exact h i h1
 ·exact hn
theorem kU {T:Array Value} {n:Nat} (h:T.size=n):T=((List.range n).map fun t=>T.getD t undef).toArray:=by
 subst h
 apply Array.ext
 ·simp
 ·intro i h1 h2
  simp [h1]
end
section
variable {P:Program} {md:Region.Mode} {ops:Array Oper} {Q:Exit→Act→World→Prop} {n ph:Nat}
def oI (ops:Array Oper) (n:Nat) (T0 T:Array Value):Prop:=T.size=T0.size∧∀t,((List.range n).all fun j=>iP ops j !=some t)=true→T.getD t undef=T0.getD t undef
theorem wk {T0 T:Array Value} {o:Oper} {i:Nat} {v:Value} {ds:List Deferred} (ho:ops[i]? = some o) (hi:i<n) (h:oI ops n T0 T):oI ops n T0 ((⟨T,ds⟩:Act).put o.dst v).tmps:=by
 cases hod:o.dst with
 | none=>exact h
 | some u=>
   refine ⟨by show (T.setIfInBounds u v).size=_;rw [Array.size_setIfInBounds];exact h.1,fun t ht=>?_⟩
   show (T.setIfInBounds u v).getD t undef=_
   rw [sp ?_]
   ·exact h.2 t ht
   ·intro e
    subst e
    have:=List.all_eq_true.1 ht i (List.mem_range.2 hi)
    simp [iP,ho,hod] at this
def yU:Ground→Bool
 | .phase=>false
 | _=>true
def ie (md:Region.Mode) (ph:Nat) (o:Oper):List Nat:=(o.after.toList.filter fun e=>Region.binds md e&&(yU e.ground||decide (ph≤e.on))).map (·.on)
theorem kV {md:Region.Mode} {ph:Nat} {o:Oper} {j:Nat} (h:j∈ie md ph o):j∈iO md o:=by
 obtain ⟨e,he,rfl⟩:=List.mem_map.1 h
 obtain ⟨h1,h2⟩:=List.mem_filter.1 he
 rw [AN] at h2
 exact List.mem_map.2 ⟨e,List.mem_filter.2 ⟨h1,h2.1⟩,rfl⟩
def fc (md:Region.Mode) (ops:Array Oper):Nat→Nat→Nat→Bool
 | 0,_,_=>false
 | n+1,j,i=>match ops[j]? with
   | some oj=>(iO md oj).any fun e=>e==i||fc md ops n e i
   | none=>false
def Ad (md:Region.Mode) (ph:Nat) (ops:Array Oper) (i j:Nat):Bool:=decide (j≠i)&&!fc md ops ops.size j i&&(List.range ops.size).any fun k=>decide (k≠i)&&match ops[k]? with
 | some ok=>(ie md ph ok).contains j&&!fc md ops ops.size i k
 | none=>false
def oL (md:Region.Mode) (ops:Array Oper) (wr:List Nat) (i:Nat):Bool:=wr.all fun q=>q==i||fc md ops ops.size q i
structure Moved (md:Region.Mode) (ph:Nat) (ops:Array Oper) (post:Nat→Value→World→Prop) (wr:List Nat) (base:Nat) (w0:World) (i:Nat) (T:Array Value) (w w':World):Prop where
 b:Below base w0 w'
 g:wr.contains i=false→Below w.heap.size w w'
 k:∀j,Ad md ph ops i j=true→cE ops post T w j→cE ops post T w' j
theorem cE.grow {post:Nat→Value→World→Prop} {T:Array Value} {w w':World} {j:Nat} (hs:∀i v w w',post i v w→Below w.heap.size w w'→post i v w') (h:cE ops post T w j) (hb:Below w.heap.size w w'):cE ops post T w' j:=by
 unfold cE at h ⊢
 cases hd:iP ops j with
 | none=>trivial
 | some t=>
   rw [hd] at h
   exact hs _ _ _ _ h hb
section
variable {post:Nat→Value→World→Prop} {wr:List Nat} {base:Nat} {w0:World} {i:Nat} {T:Array Value} {w w':World}
theorem Moved.grow (hs:∀i v w w',post i v w→Below w.heap.size w w'→post i v w') (h0:base≤w0.heap.size) (hw:Below base w0 w) (hb:Below w.heap.size w w'):Moved md ph ops post wr base w0 i T w w':=
 ⟨hw.trans (hb.mono (AF h0 hw.size)),fun _=>hb,fun _ _ h=>h.grow hs hb⟩
theorem Moved.keep (hb:Below base w0 w') (hi:wr.contains i=true) (L:List Nat) (hL:((List.range ops.size).all fun j=>!Ad md ph ops i j||L.contains j)=true) (h:∀j∈L,cE ops post T w j→cE ops post T w' j):Moved md ph ops post wr base w0 i T w w':=
 ⟨hb,fun h=>(by rw [hi] at h;cases h),fun j hj hp=>by
  rcases Nat.lt_or_ge j ops.size with h1 | h1
  ·have h2:=List.all_eq_true.1 hL j (List.mem_range.2 h1)
   rw [hj] at h2
   exact h j (by simpa using h2) hp
  ·unfold cE iP
   rw [Array.getElem?_eq_none h1]
   trivial⟩
end
def rT (P:Program) (md:Region.Mode) (ph:Nat) (ops:Array Oper) (Q:Exit→Act→World→Prop) (post:Nat→Value→World→Prop) (wr:List Nat) (base n:Nat) (a0:Act) (w0:World) (i:Nat):Prop:=
 ∃o,ops[i]? = some o∧∀(T:Array Value) (w:World),oI ops n a0.tmps T→Below base w0 w→(oL md ops wr i=true→Below w0.heap.size w0 w)→(∀j∈ie md ph o,cE ops post T w j) →
  ∀K:Act→World→Prop,Shut (∀v w',Moved md ph ops post wr base w0 i T w w'→post i v w'→K ((⟨T,a0.defers⟩:Act).put o.dst v) w') →
   if Region.wanted o (yielded ops T)=true then Oper.wp P o ⟨T,a0.defers⟩ w K Q else K ((⟨T,a0.defers⟩:Act).put o.dst undef) w
def kE (P:Program) (md:Region.Mode) (ph:Nat) (ops:Array Oper) (Q:Exit→Act→World→Prop) (post:Nat→Value→World→Prop) (wr:List Nat) (base:Nat) (a0:Act) (w0:World) (n:Nat):Prop:=
 ∃o,ops[n]? = some o∧∀(T:Array Value) (w:World),oI ops n a0.tmps T→Below base w0 w→(oL md ops wr n=true→Below w0.heap.size w0 w)→(∀j∈ie md ph o,cE ops post T w j) →
  ∀K:Act→World→Prop,Shut (∀a w,Q .normal a w→K a w) →
   if Region.wanted o (yielded ops T)=true then Oper.wp P o ⟨T,a0.defers⟩ w K Q else K ((⟨T,a0.defers⟩:Act).put o.dst undef) w
theorem rC {post:Nat→Value→World→Prop} {T:Array Value} {w:World} {o:Oper} {i j:Nat} {v:Value} {ds:List Deferred} (hB:pU md ops=true) (ho:ops[i]? = some o) (hij:i≠j) (h:cE ops post T w j) :
 cE ops post ((⟨T,ds⟩:Act).put o.dst v).tmps w j:=by
 have hi:i<ops.size:=(Array.getElem?_eq_some_iff.1 ho).1
 have hB':=List.all_eq_true.1 hB i (List.mem_range.2 hi)
 simp only [ho,AN] at hB'
 unfold cE at h ⊢
 cases hd:iP ops j with
 | none=>trivial
 | some t=>
   rw [hd] at h
   have hj:j<ops.size:=by
    unfold iP at hd
    cases hx:ops[j]? with
    | none=>rw [hx] at hd;cases hd
    | some _=>exact (Array.getElem?_eq_some_iff.1 hx).1
   cases hod:o.dst with
   | none=>exact h
   | some u=>
     have hne:u≠t:=by
      have h3:=hB'.2
      rw [hod] at h3
      have h4:=List.all_eq_true.1 h3 j (List.mem_range.2 hj)
      rw [hd] at h4
      intro e
      subst e
      simp [hij] at h4
     show post j ((T.setIfInBounds u v).getD t undef) w
     rw [sp hne]
     exact h
def uI (md:Region.Mode) (ph:Nat) (ops:Array Oper) (l:Array Bool) (j:Nat):Prop:=∃k o,ops[k]? = some o∧l.getD k false=false∧j∈ie md ph o
theorem nZ {l:Array Bool} {i:Nat} (hiun:l.getD i false=false) (hcl:∀j oj,ops[j]? = some oj→l.getD j false=true→∀e∈iO md oj,l.getD e false=true):∀(n j:Nat),l.getD j false=true→fc md ops n j i=false
 | 0,_,_=>rfl
 | n+1,j,h=>by
   unfold fc
   cases hoj:ops[j]? with
   | none=>rfl
   | some oj=>
     show ((iO md oj).any fun e=>e==i||fc md ops n e i)=false
     rw [List.any_eq_false]
     intro e he
     have h1:=hcl j oj hoj h e he
     have h2:=nZ hiun hcl n e h1
     have h3:e≠i:=by
      rintro rfl
      rw [h1] at hiun
      cases hiun
     rw [h2]
     simp [h3]
theorem ny {l:Array Bool} {k:Nat} (hcl:∀j oj,ops[j]? = some oj→l.getD j false=true→∀e∈iO md oj,l.getD e false=true):∀(n j:Nat) (oj:Oper),ops[j]? = some oj→(∀e∈iO md oj,l.getD e false=true)→fc md ops n j k=true→l.getD k false=true
 | 0,_,_,_,_,h=>by cases h
 | n+1,j,oj,hoj,hd,h=>by
   unfold fc at h
   rw [hoj] at h
   obtain ⟨e,he,h1⟩:=List.any_eq_true.1 h
   have h2:=hd e he
   rcases Bool.or_eq_true_iff.1 h1 with h3 | h3
   ·rw [←beq_iff_eq.1 h3];exact h2
   ·cases hoe:ops[e]? with
    | none=>cases n with
      | zero=>cases h3
      | succ n=>unfold fc at h3;rw [hoe] at h3;cases h3
    | some oe=>exact ny hcl n e oe hoe (hcl e oe hoe h2) h3
theorem rR {post:Nat→Value→World→Prop} {wr:List Nat} {base:Nat} {a0:Act} {w0:World} (h0:base≤w0.heap.size) (hB:pU md ops=true) (hn1:ops.size=n+1)
 (ht:((List.range ops.size).all fun i=>match iP ops i with | none=>true | some t=>decide (t<a0.tmps.size))=true)
 (hop:∀i<n,rT P md ph ops Q post wr base n a0 w0 i) (hlast:kE P md ph ops Q post wr base a0 w0 n) :
 ∀(f:Nat) (l:Array Bool) (T:Array Value) (w:World),UptoInv md ops n l→l.toList.count false≤f→oI ops n a0.tmps T→Below base w0 w→((∀q∈wr,l.getD q false=false)→Below w0.heap.size w0 w)→(∀j<n,l.getD j false=true→uI md ph ops l j→cE ops post T w j)→(∀j oj,ops[j]? = some oj→l.getD j false=true→∀e∈iO md oj,l.getD e false=true) →
  wpAny P md ops Q f l ⟨T,a0.defers⟩ w:=by
 intro f
 induction f with
 | zero=>
   intro l T w inv hc _ _ _ _ _
   exfalso
   have h1:=inv.head.tail n (AG _) (by omega)
   have hsz:n<l.size:=by rw [inv.head.size];omega
   have:l[n]? = some false:=by simpa [hsz] using h1
   have h2:false∈l.toList:=by
    rw [Array.mem_toList_iff]
    exact Array.mem_of_getElem? this
   have:=List.count_pos_iff.2 h2
   omega
 | succ f ih=>
   intro l T w inv hc hk hb hgr hd hcl
   have hun:=inv.head.tail n (AG _) (by omega)
   refine ⟨fun h=>absurd h (ud hB inv.head.size n (by omega) hun),fun i hi=>?_⟩
   obtain ⟨hiun,oi,hoi,hall⟩:=mem_ready.1 hi
   have hisz:i<ops.size:=(Array.getElem?_eq_some_iff.1 hoi).1
   have hil:i<l.size:=by rw [inv.head.size];exact hisz
   have hcnt:(l.setIfInBounds i true).toList.count false≤f:=by
    have h1:l.toList[i]'(by simpa using hil)=false:=by simpa [hil] using hiun
    have h2:=List.count_set (a:=true) (b:=false) (l:=l.toList) (i:=i) (by simpa using hil)
    rw [h1,if_pos (show (false==false)=true from rfl),if_neg (show ¬((true==false)=true) by decide)] at h2
    rw [Array.toList_setIfInBounds,h2]
    omega
   have hdep:∀j∈iO md oi,l.getD j false=true:=fun j hj=>by
    obtain ⟨e,he,rfl⟩:=List.mem_map.1 hj
    obtain ⟨he1,he2⟩:=List.mem_filter.1 he
    exact hall e (Array.mem_toList_iff.1 he1) he2
   have hB':=List.all_eq_true.1 hB i (List.mem_range.2 hisz)
   simp only [hoi,AN] at hB'
   have hah:oL md ops wr i=true→Below w0.heap.size w0 w:=fun ha=>hgr fun q hq=>by
    have h1:=List.all_eq_true.1 ha q hq
    cases hx:l.getD q false with
    | false=>rfl
    | true=>
      have h2:=nZ (getD_both hiun) hcl ops.size q hx
      rw [h2,Bool.or_false,beq_iff_eq] at h1
      subst h1
      rw [getD_both hiun] at hx
      cases hx
   by_cases hin:i<n
   ·obtain ⟨o,ho,h⟩:=hop i hin
    obtain rfl:oi=o:=Option.some.inj (hoi.symm.trans ho)
    refine wpOp_step ho fun K hK=>h T w hk hb hah (fun j hj=>hd j (by have:=of_decide_eq_true (List.all_eq_true.1 hB'.1 j (kV hj));omega) (hdep j (kV hj)) ⟨i,oi,hoi,getD_both hiun,hj⟩) K fun v w' hm hp=>hK _ _ ?_
    rw [show (⟨T,a0.defers⟩:Act).put oi.dst v=⟨((⟨T,a0.defers⟩:Act).put oi.dst v).tmps,a0.defers⟩ by cases oi.dst<;>rfl]
    refine ih (l.setIfInBounds i true) _ w' ⟨inv.head.set hi hin,inv.sink,inv.chain,inv.lt⟩ hcnt (wk ho hin hk) hm.b (fun hq=>?_) (fun j hj hjd ⟨k,ok,hok,hkl,hjk⟩=>?_) (fun j oj hoj hjd e he=>?_)
    ·have h1:wr.contains i=false:=by
      cases hx:wr.contains i with
      | false=>rfl
      | true=>
        have h2:=hq i (List.contains_iff_mem.1 hx)
        rw [show (l.setIfInBounds i true).getD i false=true by simp [hil]] at h2
        cases h2
     have h2:=hgr fun q hq'=>by
      have h3:=hq q hq'
      have hqi:i≠q:=by
       rintro rfl
       rw [List.contains_iff_mem.2 hq'] at h1
       cases h1
      rwa [getD_set_ne false hqi] at h3
     exact h2.trans ((hm.g h1).mono h2.size)
    ·by_cases hij:i=j
     ·subst hij
      have h1:=List.all_eq_true.1 ht i (List.mem_range.2 hisz)
      have h2:iP ops i=oi.dst:=by unfold iP;rw [ho];rfl
      unfold cE
      rw [h2] at h1 ⊢
      cases hod:oi.dst with
      | none=>trivial
      | some t=>
        rw [hod] at h1
        have h3:t<T.size:=by rw [hk.1];exact of_decide_eq_true h1
        show post i ((T.setIfInBounds t v).getD t undef) w'
        rw [put_own h3]
        exact hp
     ·have hik:i≠k:=by
       rintro rfl
       rw [show (l.setIfInBounds i true).getD i false=true by simp [hil]] at hkl
       cases hkl
      rw [getD_set_ne false hik] at hkl
      have hks:k<ops.size:=(Array.getElem?_eq_some_iff.1 hok).1
      refine rC hB ho hij (hm.k j ?_ (hd j hj (by rwa [getD_set_ne false hij] at hjd) ⟨k,ok,hok,hkl,hjk⟩))
      have hji:fc md ops ops.size j i=false:=nZ (hiun:=getD_both hiun) hcl _ j (by rwa [getD_set_ne false hij] at hjd)
      unfold Ad
      rw [decide_eq_true (Ne.symm hij),hji,Bool.not_false,Bool.true_and,Bool.true_and,List.any_eq_true]
      refine ⟨k,List.mem_range.2 hks,?_⟩
      rw [decide_eq_true (Ne.symm hik),hok,Bool.true_and]
      show ((ie md ph ok).contains j&&!fc md ops ops.size i k)=true
      rw [AN,List.contains_iff_mem,Bool.not_eq_true']
      refine ⟨hjk,?_⟩
      cases hc:fc md ops ops.size i k with
      | false=>rfl
      | true=>
        have:=ny hcl _ i oi ho hdep hc
        rw [hkl] at this
        cases this
    ·by_cases hij:i=j
     ·subst hij
      obtain rfl:oj=oi:=Option.some.inj (hoj.symm.trans hoi)
      exact getD_set_true (hdep e he)
     ·rw [getD_set_ne false hij] at hjd
      exact getD_set_true (hcl j oj hoj hjd e he)
   ·obtain rfl:i=n:=by omega
    obtain ⟨o,ho,h⟩:=hlast
    obtain rfl:oi=o:=Option.some.inj (hoi.symm.trans ho)
    have hdone:∀j<i,l.getD j false=true:=fun j hj=>by
     cases hx:l.getD j false with
     | true=>rfl
     | false=>exact absurd hi (tail_waits inv.sink inv.chain inv.lt inv.head (i-j) j rfl hj (getD_in (by have:=inv.head.size;omega) hx) i (AG _))
    refine wpOp_step ho fun K hK=>h T w hk hb hah (fun j hj=>hd j (of_decide_eq_true (List.all_eq_true.1 hB'.1 j (kV hj))) (hdone j (of_decide_eq_true (List.all_eq_true.1 hB'.1 j (kV hj)))) ⟨i,oi,hoi,getD_both hiun,hj⟩) K fun a' w' hq=>hK _ _ ?_
    have hr:Region.ready md ops (l.setIfInBounds i true)=[]:=by
     rw [List.eq_nil_iff_forall_not_mem]
     intro j hj
     obtain ⟨h1,oj,hoj,_⟩:=mem_ready.1 hj
     have hjs:=(Array.getElem?_eq_some_iff.1 hoj).1
     by_cases hij:i=j
     ·subst hij
      simp [hil] at h1
     ·rw [getD_set_ne true hij] at h1
      have:=hdone j (by omega)
      rw [getD_both h1] at this
      cases this
    cases f with
    | zero=>exact ⟨hr,hq⟩
    | succ f=>exact ⟨fun _=>hq,by rw [hr];simp⟩
theorem mr {a:Act} {w:World} {id:Nat} (ph n:Nat) (post:Nat→Value→World→Prop) (wr:List Nat) (base:Nat) (hbase:base≤w.heap.size) (hm:P.follows .mixedOrders=true) (hsk:Region.sinkB .any ops n=true) (hc:Region.chainB .any ops n=true) (hn:decide (ops.size=n+1)=true)
 (hB:pU .any ops=true) (ht:((List.range ops.size).all fun i=>match iP ops i with | none=>true | some t=>decide (t<a.tmps.size))=true)
 (hop:∀i<n,rT P .any ph ops Q post wr base n a w.drew i) (hlast:kE P .any ph ops Q post wr base a w.drew n):(Code.region id ops true).wp P Q a w:=by
 have hn':=of_decide_eq_true hn
 refine wp_region_any hm (rR (ph:=ph) (w0:=w.drew) hbase hB hn' ht hop hlast ops.size (Array.replicate ops.size false) a.tmps w.drew ⟨⟨by simp,fun j oj hoj hl=>?_,fun t ht ht'=>?_⟩,hsk,hc,by omega⟩ ?_ ⟨rfl,fun _ _=>rfl⟩ (AI _ _) (fun _=>AI _ _) (fun j hj hl _=>?_) (fun j oj _ hl=>?_))
 ·rw [getD_replicate_false] at hl;cases hl
 ·simp [ht']
 ·simp
 ·rw [getD_replicate_false] at hl;cases hl
 ·rw [getD_replicate_false] at hl;cases hl
theorem cV {a:Act} {w:World} {id:Nat} (n:Nat) (post:Nat→Value→World→Prop) (wr:List Nat) (base:Nat) (hbase:base≤w.heap.size) (hm:P.follows .mixedOrders=true) (hsk:Region.sinkB .any ops n=true) (hc:Region.chainB .any ops n=true) (hn:decide (ops.size=n+1)=true)
 (hB:pU .any ops=true) (ht:((List.range ops.size).all fun i=>match iP ops i with | none=>true | some t=>decide (t<a.tmps.size))=true)
 (hop:∀i<n,rT P .any 1000000 ops Q post wr base n a w.drew i) (hlast:kE P .any 1000000 ops Q post wr base a w.drew n):(Code.region id ops true).wp P Q a w:=mr 1000000 n post wr base hbase hm hsk hc hn hB ht hop hlast
end
/-! Posts as a list. -/
def ol (Ps:List (Value→World→Prop)) (i:Nat) (v:Value) (w:World):Prop:=(Ps.getD i fun _ _=>True) v w
def Stb (p:Value→World→Prop):Prop:=∀v w w',p v w→Below w.heap.size w w'→p v w'
def zF:List (Value→World→Prop)→Prop
 | []=>True
 | p::ps=>Stb p∧zF ps
theorem jL:∀{Ps:List (Value→World→Prop)},zF Ps→∀i v w w',ol Ps i v w→Below w.heap.size w w'→ol Ps i v w'
 | [],_,i,v,w,w',_,_=>by unfold ol;rw [List.getD_eq_getElem?_getD,List.getElem?_nil];trivial
 | p::ps,h,0,v,w,w',hp,hb=>h.1 v w w' hp hb
 | p::ps,h,i+1,v,w,w',hp,hb=>jL h.2 i v w w' hp hb
theorem Stb.val (P:Value→Prop):Stb (fun v _=>P v):=fun _ _ _ h _=>h
theorem Stb.and {p q:Value→World→Prop} (h:Stb p) (k:Stb q):Stb (fun v w=>p v w∧q v w):=fun v w w' hp hb=>⟨h v w w' hp.1 hb,k v w w' hp.2 hb⟩
theorem Stb.ex {α:Type} {p:α→Value→World→Prop} (h:∀a,Stb (p a)):Stb (fun v w=>∃a,p a v w):=fun v w w' ⟨a,hp⟩ hb=>⟨a,h a v w w' hp hb⟩
theorem uQ {w w':World} {b:Nat} {o:Obj} (h:w.heap[b]? = some o) (hb:Below w.heap.size w w'):w'.heap[b]? = some o:=(hb.block b (Array.getElem?_eq_some_iff.1 h).1).trans h
def qz (base n:Nat) (cs:Array Value) (T:TypeId) (v:Value) (w:World):Prop:=∃b,v=.slice (some ⟨b,0,none⟩) n n∧base≤b∧w.heap[b]? = some (.cells cs T (0,0))
theorem Stb.row (base n:Nat) (cs:Array Value) (T:TypeId):Stb (qz base n cs T):=fun _ _ _ ⟨b,e,h,k⟩ hb=>⟨b,e,h,uQ k hb⟩
def qy {α:Type} (R:Reader α) (e:TypeId) (base B:Nat) (xs:List α) (v:Value) (w:World):Prop:=B≤w.heap.size∧aq R e w base B v xs
theorem Stb.own {α:Type} (R:Reader α) (e:TypeId) (base B:Nat) (xs:List α):Stb (qy R e base B xs):=fun _ _ _ ⟨h,k⟩ hb=>⟨AF h hb.size,k.later hb h⟩
theorem mvA {P:Program} {md:Region.Mode} {ph:Nat} {ops:Array Oper} {Q:Exit→Act→World→Prop} {post:Nat→Value→World→Prop} {wr:List Nat} {base n i:Nat} {a0:Act} {w0:World} {o:Oper} (h:∀(T:Array Value) (w:World),oI ops n a0.tmps T→Below base w0 w→(oL md ops wr i=true→Below w0.heap.size w0 w)→(∀j∈ie md ph o,cE ops post T w j)→∀K:Act→World→Prop,Shut (∀v w',Moved md ph ops post wr base w0 i T w w'→post i v w'→K ((⟨T,a0.defers⟩:Act).put o.dst v) w')→Oper.wp P o ⟨T,a0.defers⟩ w K Q) (ho:ops[i]? = some o:=by exact rfl) (hw:∀T:Array Value,Region.wanted o (yielded ops T)=true:=by exact fun _=>rfl):rT P md ph ops Q post wr base n a0 w0 i:=⟨o,ho,fun T w a b c d K hK=>by rw [if_pos (hw T)];exact h T w a b c d K hK⟩
theorem mvL {P:Program} {md:Region.Mode} {ph:Nat} {ops:Array Oper} {Q:Exit→Act→World→Prop} {post:Nat→Value→World→Prop} {wr:List Nat} {base n:Nat} {a0:Act} {w0:World} {o:Oper} (h:∀(T:Array Value) (w:World),oI ops n a0.tmps T→Below base w0 w→(oL md ops wr n=true→Below w0.heap.size w0 w)→(∀j∈ie md ph o,cE ops post T w j)→∀K:Act→World→Prop,Shut (∀a w,Q .normal a w→K a w)→Oper.wp P o ⟨T,a0.defers⟩ w K Q) (ho:ops[n]? = some o:=by exact rfl) (hw:∀T:Array Value,Region.wanted o (yielded ops T)=true:=by exact fun _=>rfl):kE P md ph ops Q post wr base a0 w0 n:=⟨o,ho,fun T w a b c d K hK=>by rw [if_pos (hw T)];exact h T w a b c d K hK⟩
theorem gqd {T:Array Value} {i:Nat} {d v:Value} (h:T.getD i d=v):T[i]?.getD d=v:=by rw [←Array.getD_eq_getD_getElem?];exact h
theorem mvD {md:Region.Mode} {ph:Nat} {ops:Array Oper} {post:Nat→Value→World→Prop} {T:Array Value} {w:World} {o:Oper} (hd:∀j∈ie md ph o,cE ops post T w j) (j:Nat) (h:decide (j∈ie md ph o)=true:=by kernel_rfl):cE ops post T w j:=hd j (of_decide_eq_true h)
theorem mvK {ops:Array Oper} {n:Nat} {T0 T:Array Value} (hk:oI ops n T0 T) (t:Nat) (h:((List.range n).all fun j=>iP ops j !=some t)=true:=by kernel_rfl):T.getD t undef=T0.getD t undef:=hk.2 t h
theorem mvM {md:Region.Mode} {ph:Nat} {ops:Array Oper} {Ps:List (Value→World→Prop)} {wr:List Nat} {base i:Nat} {T:Array Value} {w0 w:World} (hs:Hid (zF Ps)) (h0:Hid (base≤w0.heap.size)) (hw:Below base w0 w):Moved md ph ops (ol Ps) wr base w0 i T w w:=Moved.grow (jL hs.out) h0.out hw (AI _ _)
theorem mvN {md:Region.Mode} {ph:Nat} {ops:Array Oper} {Ps:List (Value→World→Prop)} {wr:List Nat} {base i:Nat} {T:Array Value} {w0 w w':World} (hs:Hid (zF Ps)) (h0:Hid (base≤w0.heap.size)) (hw:Below base w0 w) (hb:Below w.heap.size w w'):Moved md ph ops (ol Ps) wr base w0 i T w w':=Moved.grow (jL hs.out) h0.out hw hb
def FolE (d:Nat) (w w':World) (R:List Fc × Int) (z:Ending):Prop:=∃xs A c,z=.returned (.tuple #[.slice A xs.length c,.int .i64 R.2])∧xs.map FV.f=R.1∧FRow w.heap.size d w' xs A c∧Below w.heap.size w w'
theorem FRow.nil (base d:Nat) (w:World):FRow base d w [] none 0:=⟨aq.nil _ _ _ _ _,fun x hx=>absurd hx (by simp)⟩
theorem FRow.later {base d c:Nat} {w w':World} {xs:List FV} {A:Option Addr} (h:FRow base d w xs A c) (hb:Below w.heap.size w w'):FRow base d w' xs A c:=h.agree (M:=fun _=>False) (al.of_below hb) (fun _ _ h=>h.elim)
theorem FRow.app {base base2 d c c':Nat} {w w1:World} {xs:List FV} {A A':Option Addr} {y:FV} (h:FRow base d w xs A c) (hy:FcOk y.f) (hs:fJ (fun k=>k<base2) w (fun w'=>(ay (d+1)).rd w' w'.heap.size y.f y.cs)) (hb:base≤base2) (hr:∀k,(Value.slice A xs.length c).ownBlock=some k→k<base2)
 (ho:aq FvR 33 w1 base 0 (.slice A' (xs++[y]).length c') (xs++[y])) (hg:w.grownBy w1 (Value.slice A xs.length c).ownBlock) (hf:bk w (.slice A xs.length c) (.slice A' (xs++[y]).length c')):FRow base d w1 (xs++[y]) A' c':=by
 have hag:=al.grown hg
 have hown:∀k,k<w.heap.size→(Value.slice A' (xs++[y]).length c').ownBlock=some k→(Value.slice A xs.length c).ownBlock=some k:=fun k hk hm=>by
  rcases hf with e | ⟨q,e,hq⟩
  ·rw [←e];exact hm
  ·rw [e] at hm;cases hm;omega
 refine ⟨ho,fun x hx=>?_⟩
 rcases List.mem_append.1 hx with hx | hx
 ·refine ⟨(h.deep x hx).1,(h.deep x hx).2.next hag (fun k hk hm=>.inr hm.symm) (fun k hk hm=>?_)⟩
  rcases hm with hm | hm
  ·exact .inl hm
  ·exact .inr (hown k hk hm)
 ·obtain rfl:x=y:=by simpa using hx
  refine ⟨hy,hs.next hag (fun k hk hm=>hr k hm.symm) (fun k hk hm=>?_)⟩
  rcases hm with hm | hm
  ·exact AJ hm hb
  ·exact hr k (hown k hk hm)
def RowF (base d:Nat) (xs:List FV) (v:Value) (w:World):Prop:=∃A c,v=.slice A xs.length c∧FRow base d w xs A c
theorem Stb.rowF (base d:Nat) (xs:List FV):Stb (RowF base d xs):=fun _ _ _ ⟨A,c,e,h⟩ hb=>⟨A,c,e,h.later hb⟩
theorem StkQ.b {base D c:Nat} {w:World} {xs:List SV} {A:Option Addr} (h:StkQ base D w xs A c):StkB base 0 D w xs A c:=⟨h.own,h.tms,fun x hx _=>h.sep x hx,fun x hx _ a ha=>⟨.inr (h.lt x hx a ha).1,(h.lt x hx a ha).2⟩⟩
theorem head_rd {d B:Nat} {w:World} {r:Ru} {v0 v1 v2 v3 v4:Value} (h:(RuR d).rd w B r [v0,v1,v2,v3,v4]):(PrR d).rd w B r.head [v0,v1]:=by
 obtain ⟨_,_,_,_,e,hs,h0,_⟩:=h
 simp only [List.cons.injEq,and_true] at e
 obtain ⟨rfl,rfl,rfl,rfl,rfl⟩:=e
 exact ⟨_,rfl,hs,h0⟩
theorem yX {w:World} {base B n c:Nat} {L:List AnV} {e:TypeId} {A:Option Addr} (h:aq jV e w base B (.slice A n c) L):L.length≤9223372036854775807:=by
 rcases A with _ | a
 ·rw [(aq.none_nil h).1];simp
 ·obtain ⟨_,_,h1,h2⟩:=aq.some_row h;omega
theorem bitU_eq {k:Int} (h0:0≤k) (h:k.toNat<16):IntKind.u32.wrap (1*2 ^ k.toNat)=jz k.toNat:=by
 unfold jz
 have h1:(2:Nat) ^ k.toNat≤2 ^ 15:=Nat.pow_le_pow_right (by omega) (by omega)
 have h2:((2 ^ k.toNat:Nat):Int)=(2:Int) ^ k.toNat:=by simp
 have e:∀n:Int,IntKind.u32.wrap n=n % 4294967296:=fun _=>rfl
 rw [Int.one_mul,←h2,e]
 exact Int.emod_eq_of_lt (Int.natCast_nonneg _) (by omega)
theorem ra {d baseS B S cs:Nat} {o:OwD} {vo:List Value} {w:World} {fs:List FV} {As:Option Addr} {m:Int} (ho:(OwR (d+1)).rd w B o vo) (hown:iF o=true) (hB:B≤w.heap.size) (hS:StA baseS d w S fs As cs) (hfew:fs.length≤100000) (hm:w.cell? ⟨0,0,none⟩=some (.int .i64 m)) (hp:0<w.heap.size) :
 Calls Tryz.prog 36 #[.agg vo.toArray,.pointer (some ⟨S,0,none⟩)] w fun z w'=>FolE d w w' (aC (fs.map FV.f) o) z:=by
 obtain ⟨A0,c0,A1,c1,A2,c2,A3,c3,rfl,hr,hbl,htr⟩:=iA ho
 have hok:=oc hown
 have HOK:=AE hown
 have HR:=AE hr
 have HS:=AE hS
 have HM:=AE hm
 have h0:=hok.2.1
 have h16:=hok.2.2
 obtain ⟨i0,hi0,hz0,hz1,hz2⟩:=info_parts fh
 clear ho hr hS hm hown hok hbl
 go_enter Tryz.func36,Tryz.ntmps36
 go_upto_region 1 with fail
 generalize hW:World.alloc _ _=w1
 obtain ⟨hb1,hz⟩:=al1 hW
 have HK1:=AE (n11 hW)
 have HB1:=AE hb1
 have hsz1:=hb1.size
 clear hW hb1 hz
 have k_o:=HK1.out.cell
 have l_o:=HK1.out.lt
 go_wp2_with fail
 refine (mA (d:=d) (B:=B) (r:=o.rule) (vr:=[_,_,_,_,_]) (tr:=o.trusted) ((RuR (d+1)).keep HB1.out hB HR.out) (AF hB hsz1) (HS.out.later HB1.out) hfew ((HB1.out.cell (p:=⟨0,0,none⟩) hp).trans HM.out) (AJ hp hsz1)).mono ?_
 rintro z w3 ⟨L,AL,cL,rfl,hLx,hLo,hLk,hLd,hb3⟩
 have HK3:=AE (HK1.out.later hb3)
 have HB3:=AE (aa HB1.out hb3)
 have hsz3:=HB3.out.size
 have hw3:w.heap.size<w3.heap.size:=HK3.out.lt
 have HFR:Hid (aC (fs.map FV.f) o=((be (fs.map FV.f) o.trusted o.rule).1.filterMap (jG o),(be (fs.map FV.f) o.trusted o.rule).2)):=AE rfl
 have HLEN:=AE (ii (fs.map FV.f) o.trusted o.rule)
 generalize be (fs.map FV.f) o.trusted o.rule=R at *
 have HLX:=AE hLx
 have HLO:=AE hLo
 have HLK:=AE hLk
 have hLn:=yX hLo
 have HA3:=AE (fun (w':World) (hb:Below w3.heap.size w3 w') (i:Nat) (hi:i<L.length)=>((hLd L[i] (List.getElem_mem hi)).later hb).here)
 clear hLx hLo hLk hLd hb3 k_o l_o
 go_upto_region 4 with fail
 go_loopw [8,24] (fun u i wr=>∃(j:Nat) (xs:List FV) (A:Option Addr) (c:Nat),j≤L.length∧xs.length≤j∧i=.int .i64 j∧u=.slice A xs.length c∧Hid (xs.map FV.f=(R.1.take j).filterMap (jG o))∧Hid (FRow w3.heap.size d wr xs A c)∧Hid (Below w3.heap.size w3 wr)) (fun _ i _=>L.length-(intOf i).toNat)
 case atStart=>exact ⟨0,[],none,0,AH _,AG _,rfl,rfl,AE rfl,AE (FRow.nil _ _ _),AE (AI _ _)⟩
 case round=>
  obtain ⟨j,xs,A,c,hj,hxj,rfl,rfl,HX,HROW,HW⟩:=hrel
  have hszr:=HW.out.size
  by_cases hlt:j<L.length
  ·obtain ⟨g,cg,eg,hg1,hg2,_⟩:=HLO.out.sh bg (by omega)
   simp only [AR,true_and] at eg
   obtain ⟨rfl,rfl⟩:=eg
   obtain ⟨a0,a1,a2⟩:=gF (HLO.out.later HW.out (AH _)) hlt
   have HRA:=AE (HA3.out wr HW.out j hlt)
   have HYK:=AE (HLK.out _ (List.getElem_mem hlt))
   have HXJ:Hid (R.1[j]? = some L[j].x):=AE (by rw [←HLX.out,List.getElem?_map,AO hlt];rfl)
   have hI0:(0:Int)≤(j:Int):=Int.natCast_nonneg _
   have hI1:(j:Int)<(L.length:Int):=by omega
   generalize L[j]=y at *
   have HTK:Hid (∀q,jG o y.x=q→(R.1.take (j+1)).filterMap (jG o)=(R.1.take j).filterMap (jG o)++q.toList):=AE (fun q hq=>by
    obtain ⟨hjl,e⟩:=List.getElem?_eq_some_iff.1 HXJ.out
    rw [List.take_succ_eq_append_getElem hjl,List.filterMap_append,e]
    simp only [List.filterMap_cons,List.filterMap_nil,hq]
    cases q<;>rfl)
   have HKr:=AE (HK3.out.later HW.out)
   have k_o:=HKr.out.cell
   have l_o:=HKr.out.lt
   go_upto_region 6 with fail
   generalize hW:World.alloc _ _=w4
   obtain ⟨hb4,hz4⟩:=al1 hW
   have HY4:=AE (n11 hW)
   have HK4:=AE (HKr.out.later hb4)
   have HB4:=AE (aa HW.out hb4)
   have HX4:=AE (aa HB3.out HB4.out)
   have hsz4:=hb4.size
   have HPR:=AE (nG ((nA (d+1)).keep hb4 (AG _) HRA.out))
   have HROW4:=AE (HROW.out.later hb4)
   clear hW hb4 hz4 a0 a1 a2 k_o l_o
   have k_o:=HK4.out.cell
   have l_o:=HK4.out.lt
   have k_a:=HY4.out.cell
   have l_a:=HY4.out.lt
   go_wp2_with fail
   have hHD:(PrR (d+1)).rd w4 wr.heap.size o.rule.head [.string o.rule.head.name,.slice A0 o.rule.head.terms.length c0]:=(PrR (d+1)).wide (AF (AF hB (Nat.le_of_lt hw3)) hszr) ((PrR (d+1)).keep HX4.out hB (head_rd HR.out))
   refine (yw (d:=d) (cn:=y.cn) (ct:=y.ct) (b:=y.x.b) (vp:=[_,_]) hHD HPR.out.1 HPR.out.2 hsz4).mono ?_
   rintro z w5 ⟨⟨Ap,cp,ts,rfl,hts,hq⟩,hb5⟩
   have HK5:=AE (HK4.out.later hb5)
   have HY5:=AE (HY4.out.later hb5)
   have HB5:=AE (aa HB4.out hb5)
   have HROW5:=AE (HROW4.out.later hb5)
   have hsz5:=hb5.size
   have HF:Hid (∀q,gY o.rule.head y.x.b=q→jG o y.x=q.map fun p=>⟨p,orO y.x.o (jz o.block.toNat)⟩):=AE (fun q hq=>by unfold jG;rw [hq];cases q<;>rfl)
   have HTS:=AE hts
   have HQ:=AE hq
   have HBL:Hid (xs.length+1≤1000001):=AE (by
    have h1:=HLEN.out
    rw [←HLX.out,AM] at h1
    omega)
   clear hb5 k_o l_o k_a l_a hHD hts hq
   obtain ⟨F,hF⟩:∃F,gY o.rule.head y.x.b=F:=⟨_,rfl⟩
   have HHF:=AE (HF.out _ hF)
   rw [hF] at HTS ⊢
   clear HF hF
   cases F
   ·have HX1:Hid (xs.map FV.f=(R.1.take (j+1)).filterMap (jG o)):=AE (by rw [HTK.out _ HHF.out,HX.out];simp)
    go_upto_region 7 with fail
    generalize hW:World.alloc _ _=w6
    obtain ⟨hb6,hz6⟩:=al1 hW
    have HROW6:=AE (HROW5.out.later hb6)
    have HB6:=AE (aa HB5.out hb6)
    clear hW hb6 hz6
    go_wp2_with fail
    go_roundw
    case rel=>exact ⟨j+1,xs,A,c,by omega,by omega,by go_num,rfl,HX1,HROW6,HB6⟩
    case measure=>simp [intOf];omega
   ·rename_i p
    have HX1:Hid (xs.map FV.f++[⟨p,orO y.x.o (jz o.block.toNat)⟩]=(R.1.take (j+1)).filterMap (jG o)):=AE (by rw [HTK.out _ HHF.out,HX.out];rfl)
    have HHO:=AE (vU HOK.out HHF.out)
    have HFO:Hid (bT w4.heap.size d w5 ⟨p,orO y.x.o (jz o.block.toNat)⟩ Ap cp):=AE ⟨ts,HTS.out,HQ.out.b⟩
    go_upto_region 8 with fail
    generalize hW:World.alloc _ _=w6
    obtain ⟨hb6,hz6⟩:=al1 hW
    have HP6:=AE (n11 hW)
    have HK6:=AE (HK5.out.later hb6)
    have HY6:=AE (HY5.out.later hb6)
    have HROW6:=AE (HROW5.out.later hb6)
    have HFO6:=AE (HFO.out.later hb6)
    have HB6:=AE (aa HB5.out hb6)
    have hsz6:=hb6.size
    clear hW hb6 hz6
    have hbU:IntKind.u32.wrap (2 ^ o.block.toNat)=jz o.block.toNat:=by have:=bitU_eq h0 h16;rwa [Int.one_mul] at this
    have HST:Hid (zF [fun v _=>v=.slice A xs.length c,fun v _=>v=.agg #[.string p.name,.slice Ap p.terms.length cp],fun v _=>v=.pointer (some ⟨wr.heap.size,2,none⟩),fun v _=>v=.int .u32 y.x.o,fun v _=>v=.pointer (some ⟨w.heap.size,5,none⟩),fun v _=>v=.int .i64 o.block,fun v _=>v=.int .u32 (jz o.block.toNat),fun v _=>v=.int .u32 (orO y.x.o (jz o.block.toNat)),fun v _=>v=.agg #[.string p.name,.slice Ap p.terms.length cp,.int .u32 (orO y.x.o (jz o.block.toNat))],qz w3.heap.size 1 #[.string p.name,.slice Ap p.terms.length cp,.int .u32 (orO y.x.o (jz o.block.toNat))] 33,RowF w3.heap.size d (xs++[⟨⟨p,orO y.x.o (jz o.block.toNat)⟩,Ap,cp⟩])]):=AE ⟨Stb.val _,⟨Stb.val _,⟨Stb.val _,⟨Stb.val _,⟨Stb.val _,⟨Stb.val _,⟨Stb.val _,⟨Stb.val _,⟨Stb.val _,⟨Stb.row _ _ _ _,⟨Stb.rowF _ _ _,trivial⟩⟩⟩⟩⟩⟩⟩⟩⟩⟩⟩
    have HH0:Hid (w3.heap.size≤w6.drew.heap.size):=AE (AF HB6.out.size (AG _))
    have HDR:Hid (Below w6.heap.size w6 w6.drew):=AE (AI _ _).drew
    refine cV 11 (ol [fun v _=>v=.slice A xs.length c,fun v _=>v=.agg #[.string p.name,.slice Ap p.terms.length cp],fun v _=>v=.pointer (some ⟨wr.heap.size,2,none⟩),fun v _=>v=.int .u32 y.x.o,fun v _=>v=.pointer (some ⟨w.heap.size,5,none⟩),fun v _=>v=.int .i64 o.block,fun v _=>v=.int .u32 (jz o.block.toNat),fun v _=>v=.int .u32 (orO y.x.o (jz o.block.toNat)),fun v _=>v=.agg #[.string p.name,.slice Ap p.terms.length cp,.int .u32 (orO y.x.o (jz o.block.toNat))],qz w3.heap.size 1 #[.string p.name,.slice Ap p.terms.length cp,.int .u32 (orO y.x.o (jz o.block.toNat))] 33,RowF w3.heap.size d (xs++[⟨⟨p,orO y.x.o (jz o.block.toNat)⟩,Ap,cp⟩])]) [10] (w3.heap.size) HH0.out (by kernel_rfl) (by kernel_rfl) (by kernel_rfl) (by kernel_rfl) (by kernel_rfl) rfl (ae (ae (ae (ae (ae (ae (ae (ae (ae (ae (ae jh ?op0_) ?op1_) ?op2_) ?op3_) ?op4_) ?op5_) ?op6_) ?op7_) ?op8_) ?op9_) ?op10_) ?last_
    case op0_=>
     refine mvA fun T w' hk hb hgr hd K hK=>?_
     have h_:T[8]?.getD undef=.slice A xs.length c:=gqd (mvK hk 8)
     clear hk hd
     go_simp
     exact hK.out _ _ (mvM HST HH0 hb) rfl
    case op1_=>
     refine mvA fun T w' hk hb hgr hd K hK=>?_
     have h_:T[11]?.getD undef=.pointer (some ⟨w5.heap.size,0,none⟩):=gqd (mvK hk 11)
     have k_:=(HP6.out.later (HDR.out.trans (hgr (by kernel_rfl)))).cell
     have l_:=(HP6.out.later (HDR.out.trans (hgr (by kernel_rfl)))).lt
     clear hk hd
     go_simp
     exact hK.out _ _ (mvM HST HH0 hb) rfl
    case op2_=>
     refine mvA fun T w' hk hb hgr hd K hK=>?_
     have h_:T[10]?.getD undef=.pointer (some ⟨wr.heap.size,0,none⟩):=gqd (mvK hk 10)
     clear hk hd
     go_simp
     exact hK.out _ _ (mvM HST HH0 hb) rfl
    case op3_=>
     refine mvA fun T w' hk hb hgr hd K hK=>?_
     have d2:T[40]?.getD undef=.pointer (some ⟨wr.heap.size,2,none⟩):=gqd (mvD hd 2)
     have k_:=(HY6.out.later (HDR.out.trans (hgr (by kernel_rfl)))).cell
     have l_:=(HY6.out.later (HDR.out.trans (hgr (by kernel_rfl)))).lt
     clear hk hd
     go_simp
     exact hK.out _ _ (mvM HST HH0 hb) rfl
    case op4_=>
     refine mvA fun T w' hk hb hgr hd K hK=>?_
     have h_:T[2]?.getD undef=.pointer (some ⟨w.heap.size,0,none⟩):=gqd (mvK hk 2)
     clear hk hd
     go_simp
     exact hK.out _ _ (mvM HST HH0 hb) rfl
    case op5_=>
     refine mvA fun T w' hk hb hgr hd K hK=>?_
     have d4:T[42]?.getD undef=.pointer (some ⟨w.heap.size,5,none⟩):=gqd (mvD hd 4)
     have k_:=(HK6.out.later (HDR.out.trans (hgr (by kernel_rfl)))).cell
     have l_:=(HK6.out.later (HDR.out.trans (hgr (by kernel_rfl)))).lt
     clear hk hd
     go_simp
     exact hK.out _ _ (mvM HST HH0 hb) rfl
    case op6_=>
     refine mvA fun T w' hk hb hgr hd K hK=>?_
     have d5:T[43]?.getD undef=.int .i64 o.block:=gqd (mvD hd 5)
     clear hk hd
     go_simp
     exact hK.out _ _ (mvM HST HH0 hb) rfl
    case op7_=>
     refine mvA fun T w' hk hb hgr hd K hK=>?_
     have d3:T[41]?.getD undef=.int .u32 y.x.o:=gqd (mvD hd 3)
     have d6:T[44]?.getD undef=.int .u32 (jz o.block.toNat):=gqd (mvD hd 6)
     clear hk hd
     go_simp
     exact hK.out _ _ (mvM HST HH0 hb) rfl
    case op8_=>
     refine mvA fun T w' hk hb hgr hd K hK=>?_
     have d1:T[39]?.getD undef=.agg #[.string p.name,.slice Ap p.terms.length cp]:=gqd (mvD hd 1)
     have d7:T[45]?.getD undef=.int .u32 (orO y.x.o (jz o.block.toNat)):=gqd (mvD hd 7)
     clear hk hd
     go_simp
     exact hK.out _ _ (mvM HST HH0 hb) rfl
    case op9_=>
     refine mvA fun T w' hk hb hgr hd K hK=>?_
     have d8:T[46]?.getD undef=.agg #[.string p.name,.slice Ap p.terms.length cp,.int .u32 (orO y.x.o (jz o.block.toNat))]:=gqd (mvD hd 8)
     clear hk hd
     go_simp
     generalize hW:World.alloc _ _=w4
     obtain ⟨hb4,hz4⟩:=al1 hW
     have hN4:=hW▸heap_alloc_new w' _
     clear hW
     exact hK.out _ _ (mvN HST HH0 hb hb4) ⟨_,rfl,AF HH0.out hb.size,hN4⟩
    case op10_=>
     refine mvA fun T w' hk hb hgr hd K hK=>?_
     have d0:=mvD hd 0
     have d9:=mvD hd 9
     replace d0:T.getD 38 undef=.slice A xs.length c:=d0
     obtain ⟨b9,e9,hb9,hc9⟩:=d9
     have hgw:=HDR.out.trans (hgr (by kernel_rfl))
     have HRW:=HROW6.out.later hgw
     refine dF (R:=FvR) (e:=33) (.tmp 38) (.tmp 47) 23 rfl (bytes:=48) Tryz.underlying23 hi0 hz0 hz1 hz2 rfl (show 0<3 by omega) bC (xs:=xs) (base:=w3.heap.size) (B:=0) (v:=.slice A xs.length c) (by exact d0) HRW.own (by exact e9) (ys:=[⟨⟨p,orO y.x.o (jz o.block.toNat)⟩,Ap,cp⟩]) (zm hc9 (bu.one (R:=FvR) rfl)) rfl (AH _) (by have:=HBL.out;simp only [AV,List.length_nil];omega) (by omega) (AF HB6.out.size hgw.size) ?_
     intro v_1 w7 hown hb7 hg hf
     obtain ⟨A',c',rfl⟩:=hown.form
     exact hK.out _ _ (Moved.keep (hb.trans hb7) rfl [] (by kernel_rfl) (by simp)) ⟨A',c',rfl,HRW.app (base2:=w4.heap.size) HHO.out.2.1 ((HFO6.out.later hgw).stab HHO.out.2.1 (fun k h1 h2=>by omega)) HB4.out.size (fun k hk=>(HROW4.out.own.lt k hk).2) hown hg hf⟩
    case last_=>
     refine mvL fun T w' hk hb hgr hd K hK=>?_
     have d10:=mvD hd 10
     obtain ⟨A',c',e48,hrow⟩:=d10
     replace e48:T.getD 48 undef=_:=e48
     have hT:=kU hk.1
     obtain ⟨f_,hf_⟩:∃f_:Nat→Value,(fun t=>T.getD t undef)=f_:=⟨_,rfl⟩
     rw [hf_] at hT
     have E_:=fun t h=>(congrFun hf_ t).symm.trans (hk.2 t h)
     replace e48:f_ 48=_:=(congrFun hf_ 48).symm.trans e48
     replace hT:T=#[f_ 0,f_ 1,f_ 2,f_ 3,f_ 4,f_ 5,f_ 6,f_ 7,f_ 8,f_ 9,f_ 10,f_ 11,f_ 12,f_ 13,f_ 14,f_ 15,f_ 16,f_ 17,f_ 18,f_ 19,f_ 20,f_ 21,f_ 22,f_ 23,f_ 24,f_ 25,f_ 26,f_ 27,f_ 28,f_ 29,f_ 30,f_ 31,f_ 32,f_ 33,f_ 34,f_ 35,f_ 36,f_ 37,f_ 38,f_ 39,f_ 40,f_ 41,f_ 42,f_ 43,f_ 44,f_ 45,f_ 46,f_ 47,f_ 48,f_ 49,f_ 50,f_ 51]:=hT
     clear hf_
     subst hT
     rw [e48,E_ 0 (by kernel_rfl),E_ 1 (by kernel_rfl),E_ 2 (by kernel_rfl),E_ 3 (by kernel_rfl),E_ 4 (by kernel_rfl),E_ 5 (by kernel_rfl),E_ 6 (by kernel_rfl),E_ 7 (by kernel_rfl),E_ 8 (by kernel_rfl),E_ 9 (by kernel_rfl),E_ 10 (by kernel_rfl),E_ 11 (by kernel_rfl),E_ 12 (by kernel_rfl),E_ 13 (by kernel_rfl),E_ 14 (by kernel_rfl),E_ 15 (by kernel_rfl),E_ 16 (by kernel_rfl),E_ 17 (by kernel_rfl),E_ 18 (by kernel_rfl),E_ 19 (by kernel_rfl),E_ 20 (by kernel_rfl),E_ 21 (by kernel_rfl),E_ 22 (by kernel_rfl),E_ 23 (by kernel_rfl),E_ 24 (by kernel_rfl),E_ 25 (by kernel_rfl),E_ 26 (by kernel_rfl),E_ 27 (by kernel_rfl),E_ 28 (by kernel_rfl),E_ 29 (by kernel_rfl),E_ 30 (by kernel_rfl),E_ 31 (by kernel_rfl),E_ 32 (by kernel_rfl),E_ 33 (by kernel_rfl),E_ 34 (by kernel_rfl),E_ 35 (by kernel_rfl),E_ 36 (by kernel_rfl),E_ 37 (by kernel_rfl),E_ 49 (by kernel_rfl),E_ 50 (by kernel_rfl),E_ 51 (by kernel_rfl)]
     clear E_
     clear hd hk
     go_simp
     refine hK.out _ _ ?_
     clear hK
     have HROW7:=AE hrow
     have HB7:=AE (HB6.out.trans (HDR.out.mono HB6.out.size |>.trans hb))
     clear hb hrow hgr
     have hl:(xs++[(⟨⟨p,orO y.x.o (jz o.block.toNat)⟩,Ap,cp⟩:FV)]).length=xs.length+1:=by simp
     go_wp2_with fail
     go_roundw
     case rel=>exact ⟨j+1,_,A',c',by omega,by omega,by go_num,by rw [hl],AE (by rw [List.map_append];exact HX1.out),HROW7,HB7⟩
     case measure=>simp [intOf];omega
  ·have HV:Hid (aC (fs.map FV.f) o=(xs.map FV.f,R.2)):=AE (by rw [HFR.out,HX.out,List.take_of_length_le (by rw [←HLX.out,AM];omega)])
   go_wp2_with fail
   go_ret2
   exact ⟨xs,A,c,by rw [HV.out];rfl,by rw [HV.out],HROW.out.lower (by omega),aa HB3.out HW.out⟩
def cFV (x y:FV):Int:=aF x.f y.f
theorem cFV_ord:Ord3 cFV:=aW.by FV.f
def my (cur:Array Value) (xs:List FV):Prop:=∀k,k<xs.length→∀b,b<3→cur[k*3+b]? = (atL de xs k).cs[b]?
def tZ (cur:Array Value) (o:Nat) (x:FV):Array Value:=
 ((cur.setIfInBounds o (.string x.f.pr.name)).setIfInBounds (o+1) (.slice x.a x.f.pr.terms.length x.c)).setIfInBounds (o+2) (.int .u32 x.f.o)
theorem pV {cur:Array Value} {i k b:Nat} {x:FV} (h:i*3+2<cur.size) (hb:b<3):(tZ cur (i*3) x)[k*3+b]? = if k=i then x.cs[b]? else cur[k*3+b]?:=by
 unfold tZ
 simp only [Array.getElem?_setIfInBounds,Array.size_setIfInBounds]
 by_cases hk:k=i
 ·subst hk
  have h4:b=0∨b=1∨b=2:=by omega
  rcases h4 with rfl | rfl | rfl
  ·rw [if_neg (by omega),if_neg (by omega),if_pos (by omega),if_pos (by omega),if_pos rfl];rfl
  ·rw [if_neg (by omega),if_pos (by omega),if_pos (by omega),if_pos rfl];rfl
  ·rw [if_pos (by omega),if_pos (by omega),if_pos rfl];rfl
 ·rw [if_neg (by omega),if_neg (by omega),if_neg (by omega),if_neg hk]
theorem ua {cur:Array Value} {o:Nat} {x:FV}:(tZ cur o x).size=cur.size:=by simp [tZ]
theorem my.size {cur:Array Value} {xs:List FV} (h:my cur xs) {k:Nat} (hk:k<xs.length):k*3+2<cur.size:=by
 have:=h k hk 2 (by omega)
 rcases Nat.lt_or_ge (k*3+2) cur.size with h1 | h1
 ·exact h1
 ·rw [Array.getElem?_eq_none h1] at this;cases this
theorem my.swap {cur:Array Value} {xs:List FV} {i j:Nat} (h:my cur xs) (hi:i<xs.length) (hj:j<xs.length) :
 my (tZ (tZ cur (i*3) (atL de xs j)) (j*3) (atL de xs i)) (sw de xs i j):=by
 intro k hk b hb
 rw [cw] at hk
 rw [pV (by rw [ua];exact h.size hj) hb,mB hi hj]
 by_cases h1:k=j
 ·rw [if_pos h1,if_pos h1]
 ·rw [if_neg h1,if_neg h1,pV (h.size hi) hb]
  by_cases h2:k=i
  ·rw [if_pos h2,if_pos h2]
  ·rw [if_neg h2,if_neg h2];exact h k hk b hb
theorem my.take {cur:Array Value} {xs:List FV} (h:my cur xs) (n:Nat):my cur (xs.take n):=by
 intro k hk b hb
 rw [AW] at hk
 rw [h k (by omega) b hb]
 congr 2
 rw [bO (by omega),bO (by rw [AW];omega),List.getElem_take]
theorem qC {xs:List FV} {k:Nat} (h:k<xs.length):atL de xs k∈xs:=by rw [bO h];exact List.getElem_mem h
structure FPile (d P G cp:Nat) (w:World) (xs:List FV):Prop where
 hd:Blk w P #[.slice (some ⟨G,0,none⟩) xs.length cp]
 row:∃cur,Blk w G cur∧my cur xs
 deep:∀x∈xs,FcOk x.f∧fJ (fun k=>k=P∨k=G) w (fun w'=>(ay (d+1)).rd w' w'.heap.size x.f x.cs)
 few:xs.length≤1000000000000
section
variable {d P G cp:Nat} {w w':World} {xs ys:List FV}
theorem FPile.later (h:FPile d P G cp w xs) (hb:Below w.heap.size w w'):FPile d P G cp w' xs:=by
 obtain ⟨cur,h1,h2⟩:=h.row
 exact ⟨h.hd.later hb,⟨cur,h1.later hb,h2⟩,fun x hx=>⟨(h.deep x hx).1,(h.deep x hx).2.later hb⟩,h.few⟩
theorem FPile.gw (h:FPile d P G cp w xs):G≤w.heap.size:=by
 obtain ⟨cur,h1,_⟩:=h.row
 exact Nat.le_of_lt h1.lt
theorem Exc.agree {g:Nat} {a b:World} (h:Exc g a b):al (fun k=>k=g) a b:=⟨h.1.mono (AH _),h.2⟩
end
theorem dz (A:Option Addr) (n c:Nat) (w:World) :
 Calls Tryz.prog 38 #[.slice A n c] w fun e w'=>e=.returned (.int .i64 n)∧w=w':=by
 go_enter Tryz.func38,Tryz.ntmps38
 go_wp2_with fail
 go_ret
 exact ⟨rfl,rfl⟩
theorem nS {d P G cp i j:Nat} {w:World} {xs:List FV} (h:FPile d P G cp w xs) (hi:i<xs.length) (hj:j<xs.length) :
 Calls Tryz.prog 259 #[.slice (some ⟨G,0,none⟩) xs.length cp,.int .i64 i,.int .i64 j] w fun e w'=>e=.returned (.bool (decide (cFV (atL de xs i) (atL de xs j)<0)))∧Below w.heap.size w w':=by
 have hn:=h.few
 obtain ⟨cur,hG,hr⟩:=h.row
 have hx:=h.deep _ (qC hi)
 have hy:=h.deep _ (qC hj)
 have i0:=hr i hi 0 (by omega)
 have i1:=hr i hi 1 (by omega)
 have i2:=hr i hi 2 (by omega)
 have j0:=hr j hj 0 (by omega)
 have j1:=hr j hj 1 (by omega)
 have j2:=hr j hj 2 (by omega)
 unfold cFV
 generalize atL de xs i=x at *
 generalize atL de xs j=y at *
 simp only [FV.cs,fcV,AU,List.getElem?_cons_succ,Nat.add_zero] at i0 i1 i2 j0 j1 j2
 have HX:=AE hx
 have HY:=AE hy
 clear hx hy h hr
 have q_G:=hG.regrown
 go_enter Tryz.func259,Tryz.ntmps259
 have k_G:=hG.cell
 go_wp2_with fail
 have HC:Hid (∀w9,Below w.heap.size w w9→Calls Tryz.prog 35 #[.agg x.cs.toArray,.agg y.cs.toArray] w9 fun z w'=>z=.returned (.int .i64 (aF x.f y.f))∧Below w9.heap.size w9 w'):=AE (fun w9 hb=>cN (d:=d+1) (e:=d+1) (B:=w9.heap.size) ((HX.out.2.later hb).here) ((HY.out.2.later hb).here) (by have:=HX.out.1.few;omega) (by have:=HY.out.1.few;omega) (AG _))
 simp only [FV.cs,fcV] at HC
 refine wp_region_quiet_below (by kernel_rfl) (by kernel_rfl) ?_
 repeat (go_big_quiet_step ((go_at_call 35;exact Calls.regrown_of (HC.out _ (below_regrown _ _ _)))))
 refine wpQuiet_nil ?_
 intro w1 hw1
 have hb1:Below w.heap.size w w1:=by obtain ⟨p,rfl⟩:=hw1;exact below_regrown _ _ _
 clear hw1 q_G k_G
 go_wp2_with fail
 go_ret
 exact ⟨rfl,hb1⟩
theorem nT {d P G cp i j:Nat} {w:World} {xs:List FV} (h:FPile d P G cp w xs) (hPG:P≠G) (hi:i<xs.length) (hj:j<xs.length) :
 Calls Tryz.prog 261 #[.slice (some ⟨G,0,none⟩) xs.length cp,.int .i64 i,.int .i64 j] w fun e w'=>e=.returned (.tuple #[])∧Exc G w w'∧FPile d P G cp w' (sw de xs i j):=by
 have hn:=h.few
 obtain ⟨cur,hG,hr⟩:=h.row
 have HFIN:Hid (∀w',Exc G w w'→(∃cur',Blk w' G cur'∧my cur' (sw de xs i j))→FPile d P G cp w' (sw de xs i j)):=AE (fun w' he hc=>⟨by rw [cw];exact he.blk hPG h.hd,hc,fun x hx=>by
  have h1:=h.deep x ((oy hi hj).subset hx)
  exact ⟨h1.1,h1.2.next he.agree (fun k _ hk=>.inr hk) (fun k _ hk=>hk)⟩,by rw [cw];exact h.few⟩)
 have HS:=AE (hr.swap hi hj)
 have i0:=hr i hi 0 (by omega)
 have i1:=hr i hi 1 (by omega)
 have i2:=hr i hi 2 (by omega)
 have j0:=hr j hj 0 (by omega)
 have j1:=hr j hj 1 (by omega)
 have j2:=hr j hj 2 (by omega)
 generalize hxe:atL de xs i=x at *
 generalize hye:atL de xs j=y at *
 simp only [FV.cs,fcV,AU,List.getElem?_cons_succ,Nat.add_zero] at i0 i1 i2 j0 j1 j2
 clear h hr
 go_enter Tryz.func261,Tryz.ntmps261
 have k_G:=hG.cell
 have f_G:=hG.free
 by_cases e:j=i
 ·subst e
  obtain rfl:x=y:=by rw [←hxe,←hye]
  go_wp2_with fail
  go_region
  all_goals go_end0
  all_goals refine ⟨rfl,?_,HFIN.out _ ?_ ⟨_,((((((hG.set_ _ _).set_ _ _).set_ _ _).set_ _ _).set_ _ _).set_ _ _).drew,HS.out⟩⟩<;>exact ((((((((Exc.refl G w).set _ _).set _ _).set _ _).set _ _).set _ _).set _ _)).drew
 ·have n00:¬(j*3=i*3):=by omega
  have n01:¬(j*3=i*3+1):=by omega
  have n02:¬(j*3=i*3+2):=by omega
  have n10:¬(j*3+1=i*3):=by omega
  have n11:¬(j*3+1=i*3+1):=by omega
  have n12:¬(j*3+1=i*3+2):=by omega
  have n20:¬(j*3+2=i*3):=by omega
  have n21:¬(j*3+2=i*3+1):=by omega
  have n22:¬(j*3+2=i*3+2):=by omega
  go_wp2_with fail
  go_region
  all_goals go_end0
  all_goals refine ⟨rfl,?_,HFIN.out _ ?_ ⟨_,((((((hG.set_ _ _).set_ _ _).set_ _ _).set_ _ _).set_ _ _).set_ _ _).drew,HS.out⟩⟩<;>exact ((((((((Exc.refl G w).set _ _).set _ _).set _ _).set _ _).set _ _).set _ _)).drew
theorem pp {d P G cp n:Nat} {w:World} {xs:List FV} (h:FPile d P G cp w xs) (hPG:P≠G) (hx:xs.length=n+1) (hc:n+1≤cp) (hc2:cp≤9223372036854775807) :
 Calls Tryz.prog 260 #[.pointer (some ⟨P,0,none⟩)] w fun e w'=>e=.returned (.iface 33 (.agg (atL de xs n).cs.toArray))∧Exc P w w'∧FPile d P G cp w' (xs.take n):=by
 have hn:n+1≤1000000000000:=by rw [←hx];exact h.few
 have HFIN:Hid (∀w',Exc P w w'→Blk w' P #[.slice (some ⟨G,0,none⟩) (xs.take n).length cp]→FPile d P G cp w' (xs.take n)):=AE (fun w' he hd=>by
  obtain ⟨cur,hG,hr⟩:=h.row
  refine ⟨hd,⟨cur,he.blk (Ne.symm hPG) hG,hr.take n⟩,fun x hx=>?_,by rw [AW];omega⟩
  have h1:=h.deep x (List.mem_of_mem_take hx)
  exact ⟨h1.1,h1.2.next he.agree (fun k _ hk=>.inl hk) (fun k _ hk=>hk)⟩)
 have hP:=h.hd
 obtain ⟨cur,hG,hr⟩:=h.row
 have i0:=hr n (by omega) 0 (by omega)
 have i1:=hr n (by omega) 1 (by omega)
 have i2:=hr n (by omega) 2 (by omega)
 have HT:=AE (show (xs.take n).length=n by rw [AW];omega)
 generalize atL de xs n=x at *
 simp only [FV.cs,fcV,AU,List.getElem?_cons_succ,Nat.add_zero] at i0 i1 i2
 rw [hx] at hP
 clear hx hr h
 have kP:=hP.cell
 have fP:=hP.free
 have kG:=hG.cell
 have lP:=hP.lt
 have lG:=hG.lt
 go_enter Tryz.func260,Tryz.ntmps260
 go_wp2_with fail
 go_ret
 refine ⟨rfl,?_,HFIN.out _ ?_ (by rw [HT.out];exact (hP.set_ 0 _).old _)⟩<;>exact ((Exc.refl P w).set 0 _).then (Nat.le_of_lt lP) ((AI _ _).alloc (AG _) _)
theorem iR {name:String} {f:FuncId} (hm:((Tryz.prog.info? 83).bind fun i=>(i.methods.find? (·.name==name)).map fun m=>(m.path.toList,m.func))=some ([],some (f,false)))
 (fuel:Nat) {w:World} {P:Nat} {A:Option Addr} {n c:Nat} (h:w.cell? ⟨P,0,none⟩=some (.slice A n c)) :
 (method (fuel+1) 83 (.pointer (some ⟨P,0,none⟩)) name).run Tryz.prog w=.ok (f,.slice A n c) w:=
 xJ Tryz.underlying83 hm fuel (by
  have ha:(isAgg 84).run Tryz.prog w=.ok false w:=by go_simp
  have hl:(load ⟨P,0,none⟩).run Tryz.prog w=.ok (.slice A n c) w:=by go_simp
  simp [loadVar,Sem.run_bind,ha,hl,h])
theorem sn {d P G cp:Nat} (hPG:P≠G) (hc2:cp≤9223372036854775807):PileG cFV de 83 P G (FPile d P G cp) (fun xs=>.slice (some ⟨G,0,none⟩) xs.length cp) (fun x=>.iface 33 (.agg x.cs.toArray)) 38 259 261 260 (fun n=>n+1≤cp) where
 ord:=cFV_ord
 few:=fun h=>h.few
 later:=fun h hb=>h.later hb
 gw:=fun h=>h.gw
 mlen:=fun h fuel=>iR (by kernel_rfl) fuel (h.hd.cell 0)
 mless:=fun h fuel=>iR (by kernel_rfl) fuel (h.hd.cell 0)
 mswap:=fun h fuel=>iR (by kernel_rfl) fuel (h.hd.cell 0)
 mpop:=fun w fuel=>xI Tryz.underlying83 (by kernel_rfl) fuel
 elen:=ent Tryz.func38 (by kernel_rfl) rfl
 eless:=ent Tryz.func259 (by kernel_rfl) rfl
 eswap:=ent Tryz.func261 (by kernel_rfl) rfl
 epop:=ent Tryz.func260 (by kernel_rfl) rfl
 len:=fun h=>dz _ _ _ _
 less:=fun h hi hj=>nS h hi hj
 swap:=fun h hi hj=>nT h hPG hi hj
 pop:=fun h hx hc=>pp h hPG hx hc hc2
end Go.Proofs.YtjpndglegpcdnaaGreat
