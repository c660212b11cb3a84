/- A region that draws its order, whatever order, where an operation may write into what an earlier one made (an append): each operation is shown once, from the posts of those it waits for; one that does not only let the heap grow shows besides that the posts which others still wait for stay. -/
import Derived.Test.YtjpndglegpcdnaaGreatPosts
set_option linter.unusedVariables false
set_option linter.unusedSimpArgs false
set_option maxRecDepth 100000
set_option maxHeartbeats 8000000
namespace Go.Proofs.YtjpndglegpcdnaaGreat
open Go.ChangeShapes Go.WideShapes Go.ChangeAt Go.RowKit
theorem yu {α:Type _}{xs:Array α}{i:Nat}{d:α}:xs.getD i d=xs[i]?.getD d:=Array.getD_eq_getD_getElem?
section
variable {P:Program} {md:Region.Mode} {ops:Array Oper} {Q:Exit→Act→World→Prop} {n ph:Nat}
def nJ (ops:Array Oper) (n:Nat) (T0 T:Array Value):Prop:=T.size=T0.size∧∀t,((List.range n).all fun j=>ik ops j !=some t)=true→T.getD t undef=T0.getD t undef
theorem uh {T0 T:Array Value} {o:Oper} {i:Nat} {v:Value} {ds:List Deferred} (ho:ops[i]? = some o) (hi:i<n) (h:nJ ops n T0 T):nJ ops n T0 ((⟨T,ds⟩:Act).put o.dst v).tmps:=by
 cases hod:o.dst with
 | none=>exact h
 | some u=>
   refine ⟨by show (T.setIfInBounds u v).size=_;rw [Array.size_setIfInBounds];exact h.1,fun t ht=>?_⟩
   show (T.setIfInBounds u v).getD t undef=_
   rw [qT ?_]
   ·exact h.2 t ht
   ·intro e
    subst e
    have:=List.all_eq_true.1 ht i (List.mem_range.2 hi)
    simp [ik,ho,hod] at this
def wU:Ground→Bool
 | .phase=>false
 | _=>true
def gO (md:Region.Mode) (ph:Nat) (o:Oper):List Nat:=(o.after.toList.filter fun e=>Region.binds md e&&(wU e.ground||decide (ph≤e.on))).map (·.on)
theorem kk {md:Region.Mode} {ph:Nat} {o:Oper} {j:Nat} (h:j∈gO md ph o):j∈ij md o:=by
 obtain ⟨e,he,rfl⟩:=List.mem_map.1 h
 obtain ⟨h1,h2⟩:=List.mem_filter.1 he
 rw [yx] at h2
 exact List.mem_map.2 ⟨e,List.mem_filter.2 ⟨h1,h2.1⟩,rfl⟩
def eM (md:Region.Mode) (ops:Array Oper):Nat→Nat→Nat→Bool
 | 0,_,_=>false
 | n+1,j,i=>match ops[j]? with
   | some oj=>(ij md oj).any fun e=>e==i||eM md ops n e i
   | none=>false
def xZ (md:Region.Mode) (ph:Nat) (ops:Array Oper) (i j:Nat):Bool:=decide (j≠i)&&!eM md ops ops.size j i&&(List.range ops.size).any fun k=>decide (k≠i)&&match ops[k]? with
 | some ok=>(gO md ph ok).contains j&&!eM md ops ops.size i k
 | none=>false
def nO (md:Region.Mode) (ops:Array Oper) (wr:List Nat) (i:Nat):Bool:=wr.all fun q=>q==i||eM md ops ops.size q i
structure Moved (md:Region.Mode) (ph:Nat) (ops:Array Oper) (post:Nat→Value→World→Prop) (wr:List Nat) (base:Nat) (w0:World) (i:Nat) (T:Array Value) (w w':World):Prop where
 b:Below base w0 w'
 g:wr.contains i=false→Below w.heap.size w w'
 k:∀j,xZ md ph ops i j=true→cD ops post T w j→cD ops post T w' j
theorem cD.grow {post:Nat→Value→World→Prop} {T:Array Value} {w w':World} {j:Nat} (hs:∀i v w w',post i v w→Below w.heap.size w w'→post i v w') (h:cD ops post T w j) (hb:Below w.heap.size w w'):cD ops post T w' j:=by
 unfold cD at h ⊢
 cases hd:ik ops j with
 | none=>trivial
 | some t=>
   rw [hd] at h
   exact hs _ _ _ _ h hb
section
variable {post:Nat→Value→World→Prop} {wr:List Nat} {base:Nat} {w0:World} {i:Nat} {T:Array Value} {w w':World}
theorem Moved.grow (hs:∀i v w w',post i v w→Below w.heap.size w w'→post i v w') (h0:base≤w0.heap.size) (hw:Below base w0 w) (hb:Below w.heap.size w w'):Moved md ph ops post wr base w0 i T w w':=
 ⟨hw.trans (hb.mono (yn h0 hw.size)),fun _=>hb,fun _ _ h=>h.grow hs hb⟩
theorem Moved.keep (hb:Below base w0 w') (hi:wr.contains i=true) (L:List Nat) (hL:((List.range ops.size).all fun j=>!xZ md ph ops i j||L.contains j)=true) (h:∀j∈L,cD ops post T w j→cD ops post T w' j):Moved md ph ops post wr base w0 i T w w':=
 ⟨hb,fun h=>(by rw [hi] at h;cases h),fun j hj hp=>by
  rcases Nat.lt_or_ge j ops.size with h1 | h1
  ·have h2:=List.all_eq_true.1 hL j (List.mem_range.2 h1)
   rw [hj] at h2
   exact h j (by simpa using h2) hp
  ·unfold cD ik
   rw [Array.getElem?_eq_none h1]
   trivial⟩
end
def qC (P:Program) (md:Region.Mode) (ph:Nat) (ops:Array Oper) (Q:Exit→Act→World→Prop) (post:Nat→Value→World→Prop) (wr:List Nat) (base n:Nat) (a0:Act) (w0:World) (i:Nat):Prop:=
 ∃o,ops[i]? = some o∧∀(T:Array Value) (w:World),nJ ops n a0.tmps T→Below base w0 w→(nO md ops wr i=true→Below w0.heap.size w0 w)→(∀j∈gO md ph o,cD ops post T w j) →
  ∀K:Act→World→Prop,Shut (∀v w',Moved md ph ops post wr base w0 i T w w'→post i v w'→K ((⟨T,a0.defers⟩:Act).put o.dst v) w') →
   if Region.wanted o (yielded ops T)=true then Oper.wp P o ⟨T,a0.defers⟩ w K Q else K ((⟨T,a0.defers⟩:Act).put o.dst undef) w
def jR (P:Program) (md:Region.Mode) (ph:Nat) (ops:Array Oper) (Q:Exit→Act→World→Prop) (post:Nat→Value→World→Prop) (wr:List Nat) (base:Nat) (a0:Act) (w0:World) (n:Nat):Prop:=
 ∃o,ops[n]? = some o∧∀(T:Array Value) (w:World),nJ ops n a0.tmps T→Below base w0 w→(nO md ops wr n=true→Below w0.heap.size w0 w)→(∀j∈gO md ph o,cD ops post T w j) →
  ∀K:Act→World→Prop,Shut (∀a w,Q .normal a w→K a w) →
   if Region.wanted o (yielded ops T)=true then Oper.wp P o ⟨T,a0.defers⟩ w K Q else K ((⟨T,a0.defers⟩:Act).put o.dst undef) w
theorem qn {post:Nat→Value→World→Prop} {T:Array Value} {w:World} {o:Oper} {i j:Nat} {v:Value} {ds:List Deferred} (hB:oU md ops=true) (ho:ops[i]? = some o) (hij:i≠j) (h:cD ops post T w j) :
 cD ops post ((⟨T,ds⟩:Act).put o.dst v).tmps w j:=by
 have hi:i<ops.size:=(Array.getElem?_eq_some_iff.1 ho).1
 have hB':=List.all_eq_true.1 hB i (List.mem_range.2 hi)
 simp only [ho,yx] at hB'
 unfold cD at h ⊢
 cases hd:ik ops j with
 | none=>trivial
 | some t=>
   rw [hd] at h
   have hj:j<ops.size:=by
    unfold ik at hd
    cases hx:ops[j]? with
    | none=>rw [hx] at hd;cases hd
    | some _=>exact (Array.getElem?_eq_some_iff.1 hx).1
   cases hod:o.dst with
   | none=>exact h
   | some u=>
     have hne:u≠t:=by
      have h3:=hB'.2
      rw [hod] at h3
      have h4:=List.all_eq_true.1 h3 j (List.mem_range.2 hj)
      rw [hd] at h4
      intro e
      subst e
      simp [hij] at h4
     show post j ((T.setIfInBounds u v).getD t undef) w
     rw [qT hne]
     exact h
def tb (md:Region.Mode) (ph:Nat) (ops:Array Oper) (l:Array Bool) (j:Nat):Prop:=∃k o,ops[k]? = some o∧l.getD k false=false∧j∈gO md ph o
theorem nl {l:Array Bool} {i:Nat} (hiun:l.getD i false=false) (hcl:∀j oj,ops[j]? = some oj→l.getD j false=true→∀e∈ij md oj,l.getD e false=true):∀(n j:Nat),l.getD j false=true→eM md ops n j i=false
 | 0,_,_=>rfl
 | n+1,j,h=>by
   unfold eM
   cases hoj:ops[j]? with
   | none=>rfl
   | some oj=>
     show ((ij md oj).any fun e=>e==i||eM md ops n e i)=false
     rw [List.any_eq_false]
     intro e he
     have h1:=hcl j oj hoj h e he
     have h2:=nl hiun hcl n e h1
     have h3:e≠i:=by
      rintro rfl
      rw [h1] at hiun
      cases hiun
     rw [h2]
     simp [h3]
theorem mI {l:Array Bool} {k:Nat} (hcl:∀j oj,ops[j]? = some oj→l.getD j false=true→∀e∈ij md oj,l.getD e false=true):∀(n j:Nat) (oj:Oper),ops[j]? = some oj→(∀e∈ij md oj,l.getD e false=true)→eM md ops n j k=true→l.getD k false=true
 | 0,_,_,_,_,h=>by cases h
 | n+1,j,oj,hoj,hd,h=>by
   unfold eM at h
   rw [hoj] at h
   obtain ⟨e,he,h1⟩:=List.any_eq_true.1 h
   have h2:=hd e he
   rcases Bool.or_eq_true_iff.1 h1 with h3 | h3
   ·rw [←beq_iff_eq.1 h3];exact h2
   ·cases hoe:ops[e]? with
    | none=>cases n with
      | zero=>cases h3
      | succ n=>unfold eM at h3;rw [hoe] at h3;cases h3
    | some oe=>exact mI hcl n e oe hoe (hcl e oe hoe h2) h3
theorem qA {post:Nat→Value→World→Prop} {wr:List Nat} {base:Nat} {a0:Act} {w0:World} (h0:base≤w0.heap.size) (hB:oU md ops=true) (hn1:ops.size=n+1)
 (ht:((List.range ops.size).all fun i=>match ik ops i with | none=>true | some t=>decide (t<a0.tmps.size))=true)
 (hop:∀i<n,qC P md ph ops Q post wr base n a0 w0 i) (hlast:jR P md ph ops Q post wr base a0 w0 n) :
 ∀(f:Nat) (l:Array Bool) (T:Array Value) (w:World),UptoInv md ops n l→l.toList.count false≤f→nJ ops n a0.tmps T→Below base w0 w→((∀q∈wr,l.getD q false=false)→Below w0.heap.size w0 w)→(∀j<n,l.getD j false=true→tb md ph ops l j→cD ops post T w j)→(∀j oj,ops[j]? = some oj→l.getD j false=true→∀e∈ij md oj,l.getD e false=true) →
  wpAny P md ops Q f l ⟨T,a0.defers⟩ w:=by
 intro f
 induction f with
 | zero=>
   intro l T w inv hc _ _ _ _ _
   exfalso
   have h1:=inv.head.tail n (yo _) (by omega)
   have hsz:n<l.size:=by rw [inv.head.size];omega
   have:l[n]? = some false:=by simpa [hsz] using h1
   have h2:false∈l.toList:=by
    rw [Array.mem_toList_iff]
    exact Array.mem_of_getElem? this
   have:=List.count_pos_iff.2 h2
   omega
 | succ f ih=>
   intro l T w inv hc hk hb hgr hd hcl
   have hun:=inv.head.tail n (yo _) (by omega)
   refine ⟨fun h=>absurd h (sE hB inv.head.size n (by omega) hun),fun i hi=>?_⟩
   obtain ⟨hiun,oi,hoi,hall⟩:=mem_ready.1 hi
   have hisz:i<ops.size:=(Array.getElem?_eq_some_iff.1 hoi).1
   have hil:i<l.size:=by rw [inv.head.size];exact hisz
   have hcnt:(l.setIfInBounds i true).toList.count false≤f:=by
    have h1:l.toList[i]'(by simpa using hil)=false:=by simpa [hil] using hiun
    have h2:=List.count_set (a:=true) (b:=false) (l:=l.toList) (i:=i) (by simpa using hil)
    rw [h1,if_pos (show (false==false)=true from rfl),if_neg (show ¬((true==false)=true) by decide)] at h2
    rw [Array.toList_setIfInBounds,h2]
    omega
   have hdep:∀j∈ij md oi,l.getD j false=true:=fun j hj=>by
    obtain ⟨e,he,rfl⟩:=List.mem_map.1 hj
    obtain ⟨he1,he2⟩:=List.mem_filter.1 he
    exact hall e (Array.mem_toList_iff.1 he1) he2
   have hB':=List.all_eq_true.1 hB i (List.mem_range.2 hisz)
   simp only [hoi,yx] at hB'
   have hah:nO md ops wr i=true→Below w0.heap.size w0 w:=fun ha=>hgr fun q hq=>by
    have h1:=List.all_eq_true.1 ha q hq
    cases hx:l.getD q false with
    | false=>rfl
    | true=>
      have h2:=nl (getD_both hiun) hcl ops.size q hx
      rw [h2,Bool.or_false,beq_iff_eq] at h1
      subst h1
      rw [getD_both hiun] at hx
      cases hx
   by_cases hin:i<n
   ·obtain ⟨o,ho,h⟩:=hop i hin
    obtain rfl:oi=o:=Option.some.inj (hoi.symm.trans ho)
    refine wpOp_step ho fun K hK=>h T w hk hb hah (fun j hj=>hd j (by have:=of_decide_eq_true (List.all_eq_true.1 hB'.1 j (kk hj));omega) (hdep j (kk hj)) ⟨i,oi,hoi,getD_both hiun,hj⟩) K fun v w' hm hp=>hK _ _ ?_
    rw [show (⟨T,a0.defers⟩:Act).put oi.dst v=⟨((⟨T,a0.defers⟩:Act).put oi.dst v).tmps,a0.defers⟩ by cases oi.dst<;>rfl]
    refine ih (l.setIfInBounds i true) _ w' ⟨inv.head.set hi hin,inv.sink,inv.chain,inv.lt⟩ hcnt (uh ho hin hk) hm.b (fun hq=>?_) (fun j hj hjd ⟨k,ok,hok,hkl,hjk⟩=>?_) (fun j oj hoj hjd e he=>?_)
    ·have h1:wr.contains i=false:=by
      cases hx:wr.contains i with
      | false=>rfl
      | true=>
        have h2:=hq i (List.contains_iff_mem.1 hx)
        rw [show (l.setIfInBounds i true).getD i false=true by simp [hil]] at h2
        cases h2
     have h2:=hgr fun q hq'=>by
      have h3:=hq q hq'
      have hqi:i≠q:=by
       rintro rfl
       rw [List.contains_iff_mem.2 hq'] at h1
       cases h1
      rwa [getD_set_ne false hqi] at h3
     exact h2.trans ((hm.g h1).mono h2.size)
    ·by_cases hij:i=j
     ·subst hij
      have h1:=List.all_eq_true.1 ht i (List.mem_range.2 hisz)
      have h2:ik ops i=oi.dst:=by unfold ik;rw [ho];rfl
      unfold cD
      rw [h2] at h1 ⊢
      cases hod:oi.dst with
      | none=>trivial
      | some t=>
        rw [hod] at h1
        have h3:t<T.size:=by rw [hk.1];exact of_decide_eq_true h1
        show post i ((T.setIfInBounds t v).getD t undef) w'
        rw [put_own h3]
        exact hp
     ·have hik:i≠k:=by
       rintro rfl
       rw [show (l.setIfInBounds i true).getD i false=true by simp [hil]] at hkl
       cases hkl
      rw [getD_set_ne false hik] at hkl
      have hks:k<ops.size:=(Array.getElem?_eq_some_iff.1 hok).1
      refine qn hB ho hij (hm.k j ?_ (hd j hj (by rwa [getD_set_ne false hij] at hjd) ⟨k,ok,hok,hkl,hjk⟩))
      have hji:eM md ops ops.size j i=false:=nl (hiun:=getD_both hiun) hcl _ j (by rwa [getD_set_ne false hij] at hjd)
      unfold xZ
      rw [decide_eq_true (Ne.symm hij),hji,Bool.not_false,Bool.true_and,Bool.true_and,List.any_eq_true]
      refine ⟨k,List.mem_range.2 hks,?_⟩
      rw [decide_eq_true (Ne.symm hik),hok,Bool.true_and]
      show ((gO md ph ok).contains j&&!eM md ops ops.size i k)=true
      rw [yx,List.contains_iff_mem,Bool.not_eq_true']
      refine ⟨hjk,?_⟩
      cases hc:eM md ops ops.size i k with
      | false=>rfl
      | true=>
        have:=mI hcl _ i oi ho hdep hc
        rw [hkl] at this
        cases this
    ·by_cases hij:i=j
     ·subst hij
      obtain rfl:oj=oi:=Option.some.inj (hoj.symm.trans hoi)
      exact getD_set_true (hdep e he)
     ·rw [getD_set_ne false hij] at hjd
      exact getD_set_true (hcl j oj hoj hjd e he)
   ·obtain rfl:i=n:=by omega
    obtain ⟨o,ho,h⟩:=hlast
    obtain rfl:oi=o:=Option.some.inj (hoi.symm.trans ho)
    have hdone:∀j<i,l.getD j false=true:=fun j hj=>by
     cases hx:l.getD j false with
     | true=>rfl
     | false=>exact absurd hi (tail_waits inv.sink inv.chain inv.lt inv.head (i-j) j rfl hj (getD_in (by have:=inv.head.size;omega) hx) i (yo _))
    refine wpOp_step ho fun K hK=>h T w hk hb hah (fun j hj=>hd j (of_decide_eq_true (List.all_eq_true.1 hB'.1 j (kk hj))) (hdone j (of_decide_eq_true (List.all_eq_true.1 hB'.1 j (kk hj)))) ⟨i,oi,hoi,getD_both hiun,hj⟩) K fun a' w' hq=>hK _ _ ?_
    have hr:Region.ready md ops (l.setIfInBounds i true)=[]:=by
     rw [List.eq_nil_iff_forall_not_mem]
     intro j hj
     obtain ⟨h1,oj,hoj,_⟩:=mem_ready.1 hj
     have hjs:=(Array.getElem?_eq_some_iff.1 hoj).1
     by_cases hij:i=j
     ·subst hij
      simp [hil] at h1
     ·rw [getD_set_ne true hij] at h1
      have:=hdone j (by omega)
      rw [getD_both h1] at this
      cases this
    cases f with
    | zero=>exact ⟨hr,hq⟩
    | succ f=>exact ⟨fun _=>hq,by rw [hr];simp⟩
theorem bR {a:Act} {w:World} {id:Nat} (ph n:Nat) (post:Nat→Value→World→Prop) (wr:List Nat) (base:Nat) (hbase:base≤w.heap.size) (hm:P.follows .mixedOrders=true) (hsk:Region.sinkB .any ops n=true) (hc:Region.chainB .any ops n=true) (hn:decide (ops.size=n+1)=true)
 (hB:oU .any ops=true) (ht:((List.range ops.size).all fun i=>match ik ops i with | none=>true | some t=>decide (t<a.tmps.size))=true)
 (hop:∀i<n,qC P .any ph ops Q post wr base n a w.drew i) (hlast:jR P .any ph ops Q post wr base a w.drew n):(Code.region id ops true).wp P Q a w:=by
 have hn':=of_decide_eq_true hn
 refine wp_region_any hm (qA (ph:=ph) (w0:=w.drew) hbase hB hn' ht hop hlast ops.size (Array.replicate ops.size false) a.tmps w.drew ⟨⟨by simp,fun j oj hoj hl=>?_,fun t ht ht'=>?_⟩,hsk,hc,by omega⟩ ?_ ⟨rfl,fun _ _=>rfl⟩ (yq _ _) (fun _=>yq _ _) (fun j hj hl _=>?_) (fun j oj _ hl=>?_))
 ·rw [getD_replicate_false] at hl;cases hl
 ·simp [ht']
 ·simp
 ·rw [getD_replicate_false] at hl;cases hl
 ·rw [getD_replicate_false] at hl;cases hl
theorem cQ {a:Act} {w:World} {id:Nat} (n:Nat) (post:Nat→Value→World→Prop) (wr:List Nat) (base:Nat) (hbase:base≤w.heap.size) (hm:P.follows .mixedOrders=true) (hsk:Region.sinkB .any ops n=true) (hc:Region.chainB .any ops n=true) (hn:decide (ops.size=n+1)=true)
 (hB:oU .any ops=true) (ht:((List.range ops.size).all fun i=>match ik ops i with | none=>true | some t=>decide (t<a.tmps.size))=true)
 (hop:∀i<n,qC P .any 1000000 ops Q post wr base n a w.drew i) (hlast:jR P .any 1000000 ops Q post wr base a w.drew n):(Code.region id ops true).wp P Q a w:=bR 1000000 n post wr base hbase hm hsk hc hn hB ht hop hlast
end
/-! Posts as a list. -/
def je (Ps:List (Value→World→Prop)) (i:Nat) (v:Value) (w:World):Prop:=(Ps.getD i fun _ _=>True) v w
def Stb (p:Value→World→Prop):Prop:=∀v w w',p v w→Below w.heap.size w w'→p v w'
def sX:List (Value→World→Prop)→Prop
 | []=>True
 | p::ps=>Stb p∧sX ps
theorem jf:∀{Ps:List (Value→World→Prop)},sX Ps→∀i v w w',je Ps i v w→Below w.heap.size w w'→je Ps i v w'
 | [],_,i,v,w,w',_,_=>by unfold je;rw [List.getD_eq_getElem?_getD,List.getElem?_nil];trivial
 | p::ps,h,0,v,w,w',hp,hb=>h.1 v w w' hp hb
 | p::ps,h,i+1,v,w,w',hp,hb=>jf h.2 i v w w' hp hb
theorem Stb.val (P:Value→Prop):Stb (fun v _=>P v):=fun _ _ _ h _=>h
theorem Stb.and {p q:Value→World→Prop} (h:Stb p) (k:Stb q):Stb (fun v w=>p v w∧q v w):=fun v w w' hp hb=>⟨h v w w' hp.1 hb,k v w w' hp.2 hb⟩
theorem Stb.ex {α:Type} {p:α→Value→World→Prop} (h:∀a,Stb (p a)):Stb (fun v w=>∃a,p a v w):=fun v w w' ⟨a,hp⟩ hb=>⟨a,h a v w w' hp hb⟩
theorem fu {w w':World} {b:Nat} {o:Obj} (h:w.heap[b]? = some o) (hb:Below w.heap.size w w'):w'.heap[b]? = some o:=(hb.block b (Array.getElem?_eq_some_iff.1 h).1).trans h
def pq (base n:Nat) (cs:Array Value) (T:TypeId) (v:Value) (w:World):Prop:=∃b,v=.slice (some ⟨b,0,none⟩) n n∧base≤b∧w.heap[b]? = some (.cells cs T (0,0))
theorem Stb.row (base n:Nat) (cs:Array Value) (T:TypeId):Stb (pq base n cs T):=fun _ _ _ ⟨b,e,h,k⟩ hb=>⟨b,e,h,fu k hb⟩
def OwnAt {α:Type} (R:Reader α) (e:TypeId) (base B:Nat) (xs:List α) (v:Value) (w:World):Prop:=B≤w.heap.size∧am R e w base B v xs
theorem Stb.own {α:Type} (R:Reader α) (e:TypeId) (base B:Nat) (xs:List α):Stb (OwnAt R e base B xs):=fun _ _ _ ⟨h,k⟩ hb=>⟨yn h hb.size,k.later hb h⟩
theorem mvA {P:Program} {md:Region.Mode} {ph:Nat} {ops:Array Oper} {Q:Exit→Act→World→Prop} {post:Nat→Value→World→Prop} {wr:List Nat} {base n i:Nat} {a0:Act} {w0:World} {o:Oper} (h:∀(T:Array Value) (w:World),nJ ops n a0.tmps T→Below base w0 w→(nO md ops wr i=true→Below w0.heap.size w0 w)→(∀j∈gO md ph o,cD ops post T w j)→∀K:Act→World→Prop,Shut (∀v w',Moved md ph ops post wr base w0 i T w w'→post i v w'→K ((⟨T,a0.defers⟩:Act).put o.dst v) w')→Oper.wp P o ⟨T,a0.defers⟩ w K Q) (ho:ops[i]? = some o:=by exact rfl) (hw:∀T:Array Value,Region.wanted o (yielded ops T)=true:=by exact fun _=>rfl):qC P md ph ops Q post wr base n a0 w0 i:=⟨o,ho,fun T w a b c d K hK=>by rw [if_pos (hw T)];exact h T w a b c d K hK⟩
theorem mvL {P:Program} {md:Region.Mode} {ph:Nat} {ops:Array Oper} {Q:Exit→Act→World→Prop} {post:Nat→Value→World→Prop} {wr:List Nat} {base n:Nat} {a0:Act} {w0:World} {o:Oper} (h:∀(T:Array Value) (w:World),nJ ops n a0.tmps T→Below base w0 w→(nO md ops wr n=true→Below w0.heap.size w0 w)→(∀j∈gO md ph o,cD ops post T w j)→∀K:Act→World→Prop,Shut (∀a w,Q .normal a w→K a w)→Oper.wp P o ⟨T,a0.defers⟩ w K Q) (ho:ops[n]? = some o:=by exact rfl) (hw:∀T:Array Value,Region.wanted o (yielded ops T)=true:=by exact fun _=>rfl):jR P md ph ops Q post wr base a0 w0 n:=⟨o,ho,fun T w a b c d K hK=>by rw [if_pos (hw T)];exact h T w a b c d K hK⟩
theorem gqd {T:Array Value} {i:Nat} {d v:Value} (h:T.getD i d=v):T[i]?.getD d=v:=by rw [←yu];exact h
theorem mvD {md:Region.Mode} {ph:Nat} {ops:Array Oper} {post:Nat→Value→World→Prop} {T:Array Value} {w:World} {o:Oper} (hd:∀j∈gO md ph o,cD ops post T w j) (j:Nat) (h:decide (j∈gO md ph o)=true:=by kernel_rfl):cD ops post T w j:=hd j (of_decide_eq_true h)
theorem mvK {ops:Array Oper} {n:Nat} {T0 T:Array Value} (hk:nJ ops n T0 T) (t:Nat) (h:((List.range n).all fun j=>ik ops j !=some t)=true:=by kernel_rfl):T.getD t undef=T0.getD t undef:=hk.2 t h
theorem mvM {md:Region.Mode} {ph:Nat} {ops:Array Oper} {Ps:List (Value→World→Prop)} {wr:List Nat} {base i:Nat} {T:Array Value} {w0 w:World} (hs:Hid (sX Ps)) (h0:Hid (base≤w0.heap.size)) (hw:Below base w0 w):Moved md ph ops (je Ps) wr base w0 i T w w:=Moved.grow (jf hs.out) h0.out hw (yq _ _)
theorem mvN {md:Region.Mode} {ph:Nat} {ops:Array Oper} {Ps:List (Value→World→Prop)} {wr:List Nat} {base i:Nat} {T:Array Value} {w0 w w':World} (hs:Hid (sX Ps)) (h0:Hid (base≤w0.heap.size)) (hw:Below base w0 w) (hb:Below w.heap.size w w'):Moved md ph ops (je Ps) wr base w0 i T w w':=Moved.grow (jf hs.out) h0.out hw hb
end Go.Proofs.YtjpndglegpcdnaaGreat
