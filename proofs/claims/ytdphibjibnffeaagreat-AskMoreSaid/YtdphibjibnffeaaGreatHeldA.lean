/- A region that draws its order: one condition on the world that every operation keeps, and no last operation that waits for all others. -/
import Derived.Deep.RegionHeld3
import Derived.StillTail
import Derived.ProofKit
set_option linter.unusedVariables false
set_option linter.unusedSimpArgs false
set_option maxRecDepth 100000
set_option maxHeartbeats 8000000
namespace Go.Proofs.YtdphibjibnffeaaGreat
section
variable {P:Program} {md:Region.Mode} {ops:Array Oper} {Q:Exit→Act→World→Prop} {S:World→Prop} {n:Nat}
def jK (P:Program) (md:Region.Mode) (ops:Array Oper) (Q:Exit→Act→World→Prop) (S:World→Prop) (n:Nat):Nat→Array Bool→Act→World→Prop
 | 0,l,a,w=>Region.ready md ops l=[]∧Q .normal a w
 | f+1,l,a,w=>(Region.ready md ops l=[]→Q .normal a w)∧∀i∈Region.ready md ops l,wpOp P ops Q i (fun a' w'=>(i<n→S w')∧jK P md ops Q S n f (l.setIfInBounds i true) a' w') a w
theorem fj:∀(f:Nat) (l:Array Bool) (a:Act) (w:World),jK P md ops Q S n f l a w→wpAny P md ops Q f l a w
 | 0,_,_,_,h=>h
 | f+1,_,_,_,h=>⟨h.1,fun i hi=>wpOp_mono (fun a' w' h'=>fj f _ a' w' h'.2) (h.2 i hi)⟩
structure UptoInv (md:Region.Mode) (ops:Array Oper) (n:Nat) (l:Array Bool):Prop where
 head:HeadInv md ops n l
 sink:Region.sinkB md ops n=true
 chain:Region.chainB md ops n=true
 lt:n<ops.size
theorem tf {i:Nat} {oi:Oper} {v:Value} (hi:ops[i]? = some oi) (hin:i<n) (hsel:∀(j:Nat) (o:Oper) cs b,ops[j]? = some o→o.op≠.select cs b)
 (hQ:∀c a w,Q (.panic c) (a.put oi.dst v) w→Q (.panic c) a w) :
 ∀(f:Nat) (l:Array Bool) (a:Act) (w:World),UptoInv md ops n l →
  (∀j oj,ops[j]? = some oj→j≠i→l.getD j true=false→(∀e∈oj.after,Region.binds md e=true→e.on≠i)→oi.apart ops oj=true) →
  i∈Region.ready md ops l→YieldsIf P ops S oi v a→S w →
  jK P md ops Q S n f (l.setIfInBounds i true) (a.put oi.dst v) w→jK P md ops Q S n (f+1) l a w:=by
 intro f
 induction f with
 | zero=>
   intro l a w _ _ hr hy hS H
   refine ⟨fun h=>(by rw [h] at hr;cases hr),fun j hj=>?_⟩
   by_cases hji:j=i
   ·subst hji;exact hy.wpOp hi hS ⟨fun _=>hS,H⟩
   ·have h1:=ready_mono hj hji
    rw [H.1] at h1
    cases h1
 | succ f ih=>
   intro l a w inv hfree hr hy hS H
   refine ⟨fun h=>(by rw [h] at hr;cases hr),fun j hj=>?_⟩
   by_cases hji:j=i
   ·subst hji;exact hy.wpOp hi hS ⟨fun _=>hS,H⟩
   ·have hjn:j<n:=by
     rcases Nat.lt_or_ge j n with h | h
     ·exact h
     ·exact absurd hj (tail_waits inv.sink inv.chain inv.lt inv.head (n-i) i rfl hin (mem_ready.1 hr).1 j h)
    have h1:=H.2 j (ready_mono hj hji)
    obtain ⟨hjun,oj,hoj,hall⟩:=mem_ready.1 hj
    have hnot:∀e∈oj.after,Region.binds md e=true→e.on≠i:=fun e he hb heq=>by
     have k1:=hall e he hb
     have k0:=(mem_ready.1 hr).1
     rw [heq] at k1
     rw [getD_both k0] at k1
     cases k1
    have h2:=wpOp_putIf hoj (hfree j oj hoj hji hjun hnot) (fun cs b=>hsel i oi cs b hi) (fun cs b=>hsel j oj cs b hoj) hQ hy h1
    have hfree':∀k ok,ops[k]? = some ok→k≠i→(l.setIfInBounds j true).getD k true=false →
     (∀e∈ok.after,Region.binds md e=true→e.on≠i)→oi.apart ops ok=true:=fun k ok hk hki hun hno=>by
     refine hfree k ok hk hki ?_ hno
     by_cases hjk:j=k
     ·subst hjk;exact hjun
     ·rw [getD_set_ne true hjk] at hun;exact hun
    refine wpOp_mono (fun a' w' h3=>⟨h3.2.1,ih (l.setIfInBounds j true) a' w' ⟨inv.head.set hj hjn,inv.sink,inv.chain,inv.lt⟩ hfree' (ready_mono hr (Ne.symm hji)) h3.1 (h3.2.1 hjn) ?_⟩) h2
    rw [Array.setIfInBounds_comm _ _ hji]
    exact h3.2.2
def yH (P:Program) (md:Region.Mode) (ops:Array Oper) (Q:Exit→Act→World→Prop) (S:World→Prop) (n:Nat) (f:Nat) (l:Array Bool) (a:Act) (w:World):Prop:=
 UptoInv md ops n l→S w→jK P md ops Q S n f l a w
theorem al {i:Nat} {oi:Oper} {v:Value} {f:Nat} {l:Array Bool} {a:Act} {w:World} (hi:ops[i]? = some oi) (hin:decide (i<n)=true)
 (hs:Region.noSelect ops=true) (hf:Region.free md ops l i=true) (hr:(Region.ready md ops l).contains i=true)
 (hQ:∀c a w,Q (.panic c) (a.put oi.dst v) w→Q (.panic c) a w) (hw:Region.wanted oi (yielded ops a.tmps)=true) (hy:∀w,S w→(execOp a.eval oi).run P w=.ok (.value v) w)
 (h:yH P md ops Q S n f (l.setIfInBounds i true) (a.put oi.dst v) w):yH P md ops Q S n (f+1) l a w:=fun inv hS=>by
 have hri:i∈Region.ready md ops l:=by simpa using hr
 have hin':=of_decide_eq_true hin
 exact tf hi hin' (Region.noSelect_spec hs) hQ f l a w inv (Region.free_spec hi hf) hri (.inl ⟨hw,hy⟩) hS (h ⟨inv.head.set hri hin',inv.sink,inv.chain,inv.lt⟩ hS)
def aL (P:Program) (md:Region.Mode) (ops:Array Oper) (Q:Exit→Act→World→Prop) (S:World→Prop) (n f:Nat) (l:Array Bool) (a:Act) (w:World) (rs:List Nat):Prop:=
 ∀i∈rs,wpOp P ops Q i (fun a' w'=>S w'∧yH P md ops Q S n f (l.setIfInBounds i true) a' w') a w
theorem aL.nil {f:Nat} {l:Array Bool} {a:Act} {w:World}:aL P md ops Q S n f l a w []:=fun _ h=>by cases h
theorem aL.cons {f:Nat} {l:Array Bool} {a:Act} {w:World} {i:Nat} {o:Oper} {rs:List Nat} (ho:ops[i]? = some o)
 (h:∀K':Act→World→Prop,Shut (∀a w,S w→yH P md ops Q S n f (l.setIfInBounds i true) a w→K' a w)→if Region.wanted o (yielded ops a.tmps)=true then Oper.wp P o a w K' Q else K' (a.put o.dst undef) w)
 (hs:aL P md ops Q S n f l a w rs):aL P md ops Q S n f l a w (i::rs):=fun j hj=>by
 rcases List.mem_cons.1 hj with rfl | hj
 ·exact wpOp_step ho (fun K' hK=>h K' (fun a w hS hW=>hK a w ⟨hS,hW⟩))
 ·exact hs j hj
theorem aY {rs:List Nat} {f:Nat} {l:Array Bool} {a:Act} {w:World} (hr:Region.ready md ops l=rs) (hne:rs.isEmpty=false) (hlt:(rs.all fun i=>decide (i<n))=true)
 (h:aL P md ops Q S n f l a w rs):yH P md ops Q S n (f+1) l a w:=fun inv hS=>by
 subst hr
 refine ⟨fun h0=>(by rw [h0] at hne;cases hne),fun i hi=>?_⟩
 have hin:i<n:=by simpa using List.all_eq_true.1 hlt i hi
 exact wpOp_mono (fun a' w' h'=>⟨fun _=>h'.1,h'.2 ⟨inv.head.set hi hin,inv.sink,inv.chain,inv.lt⟩ h'.1⟩) (h i hi)
theorem gg {f:Nat} {l:Array Bool} {a:Act} {w:World} {o:Oper} (hr:Region.ready md ops l=[n]) (hr2:Region.ready md ops (l.setIfInBounds n true)=[]) (ho:ops[n]? = some o)
 (h:∀K':Act→World→Prop,Shut (∀a w,Q .normal a w→K' a w)→if Region.wanted o (yielded ops a.tmps)=true then Oper.wp P o a w K' Q else K' (a.put o.dst undef) w):yH P md ops Q S n (f+1) l a w:=fun inv hS=>by
 refine ⟨fun h0=>(by rw [hr] at h0;cases h0),fun i hi=>?_⟩
 rw [hr] at hi
 obtain rfl:i=n:=by simpa using hi
 refine wpOp_step ho (fun K' hK=>h K' fun a w hq=>hK a w ⟨fun hlt=>absurd hlt (Nat.lt_irrefl _),?_⟩)
 cases f with
 | zero=>exact ⟨hr2,hq⟩
 | succ f=>exact ⟨fun _=>hq,by rw [hr2];simp⟩
theorem ci {id:Nat} {a:Act} {w:World} (n:Nat) (hm:P.follows .mixedOrders=true) (hs:Region.sinkB .any ops n=true) (hc:Region.chainB .any ops n=true) (hn:decide (n<ops.size)=true) (hS:S w.drew)
 (h:yH P .any ops Q S n ops.size (Array.replicate ops.size false) a w.drew):(Code.region id ops true).wp P Q a w:=by
 have hn':=of_decide_eq_true hn
 refine wp_region_any hm (fj _ _ _ _ (h ⟨⟨by simp,fun j oj hoj hl=>?_,fun t ht ht'=>?_⟩,hs,hc,hn'⟩ hS))
 ·rw [getD_replicate_false] at hl;cases hl
 ·simp [ht']
end
section
variable {P:Program} {md:Region.Mode} {ops:Array Oper} {Q:Exit→Act→World→Prop} {S:World→Prop}
theorem xL {j:Nat} {l:Array Bool} (hj:j∈Region.ready md ops l):j<ops.size:=by
 obtain ⟨_,oj,hoj,_⟩:=mem_ready.1 hj
 exact (Array.getElem?_eq_some_iff.1 hoj).1
theorem qH {i:Nat} {oi:Oper} {v:Value} (hi:ops[i]? = some oi) (hsel:∀(j:Nat) (o:Oper) cs b,ops[j]? = some o→o.op≠.select cs b)
 (hQ:∀c a w,Q (.panic c) (a.put oi.dst v) w→Q (.panic c) a w) :
 ∀(f:Nat) (l:Array Bool) (a:Act) (w:World),
  (∀j oj,ops[j]? = some oj→j≠i→l.getD j true=false→(∀e∈oj.after,Region.binds md e=true→e.on≠i)→oi.apart ops oj=true) →
  i∈Region.ready md ops l→YieldsIf P ops S oi v a→S w →
  jK P md ops Q S ops.size f (l.setIfInBounds i true) (a.put oi.dst v) w→jK P md ops Q S ops.size (f+1) l a w:=by
 intro f
 induction f with
 | zero=>
   intro l a w _ hr hy hS H
   refine ⟨fun h=>(by rw [h] at hr;cases hr),fun j hj=>?_⟩
   by_cases hji:j=i
   ·subst hji;exact hy.wpOp hi hS ⟨fun _=>hS,H⟩
   ·have h1:=ready_mono hj hji
    rw [H.1] at h1
    cases h1
 | succ f ih=>
   intro l a w hfree hr hy hS H
   refine ⟨fun h=>(by rw [h] at hr;cases hr),fun j hj=>?_⟩
   by_cases hji:j=i
   ·subst hji;exact hy.wpOp hi hS ⟨fun _=>hS,H⟩
   ·have hjn:=xL hj
    have h1:=H.2 j (ready_mono hj hji)
    obtain ⟨hjun,oj,hoj,hall⟩:=mem_ready.1 hj
    have hnot:∀e∈oj.after,Region.binds md e=true→e.on≠i:=fun e he hb heq=>by
     have k1:=hall e he hb
     have k0:=(mem_ready.1 hr).1
     rw [heq] at k1
     rw [getD_both k0] at k1
     cases k1
    have h2:=wpOp_putIf hoj (hfree j oj hoj hji hjun hnot) (fun cs b=>hsel i oi cs b hi) (fun cs b=>hsel j oj cs b hoj) hQ hy h1
    have hfree':∀k ok,ops[k]? = some ok→k≠i→(l.setIfInBounds j true).getD k true=false →
     (∀e∈ok.after,Region.binds md e=true→e.on≠i)→oi.apart ops ok=true:=fun k ok hk hki hun hno=>by
     refine hfree k ok hk hki ?_ hno
     by_cases hjk:j=k
     ·subst hjk;exact hjun
     ·rw [getD_set_ne true hjk] at hun;exact hun
    refine wpOp_mono (fun a' w' h3=>⟨h3.2.1,ih (l.setIfInBounds j true) a' w' hfree' (ready_mono hr (Ne.symm hji)) h3.1 (h3.2.1 hjn) ?_⟩) h2
    rw [Array.setIfInBounds_comm _ _ hji]
    exact h3.2.2
def pk (P:Program) (md:Region.Mode) (ops:Array Oper) (Q:Exit→Act→World→Prop) (S:World→Prop) (f:Nat) (l:Array Bool) (a:Act) (w:World):Prop:=
 S w→jK P md ops Q S ops.size f l a w
theorem aa {i:Nat} {oi:Oper} {v:Value} {f:Nat} {l:Array Bool} {a:Act} {w:World} (hi:ops[i]? = some oi)
 (hs:Region.noSelect ops=true) (hf:Region.free md ops l i=true) (hr:(Region.ready md ops l).contains i=true)
 (hQ:∀c a w,Q (.panic c) (a.put oi.dst v) w→Q (.panic c) a w) (hw:Region.wanted oi (yielded ops a.tmps)=true) (hy:∀w,S w→(execOp a.eval oi).run P w=.ok (.value v) w)
 (h:pk P md ops Q S f (l.setIfInBounds i true) (a.put oi.dst v) w):pk P md ops Q S (f+1) l a w:=fun hS=>by
 have hri:i∈Region.ready md ops l:=by simpa using hr
 exact qH hi (Region.noSelect_spec hs) hQ f l a w (Region.free_spec hi hf) hri (.inl ⟨hw,hy⟩) hS (h hS)
def ak (P:Program) (md:Region.Mode) (ops:Array Oper) (Q:Exit→Act→World→Prop) (S:World→Prop) (f:Nat) (l:Array Bool) (a:Act) (w:World) (rs:List Nat):Prop:=
 ∀i∈rs,wpOp P ops Q i (fun a' w'=>S w'∧pk P md ops Q S f (l.setIfInBounds i true) a' w') a w
theorem ak.nil {f:Nat} {l:Array Bool} {a:Act} {w:World}:ak P md ops Q S f l a w []:=fun _ h=>by cases h
theorem ak.cons {f:Nat} {l:Array Bool} {a:Act} {w:World} {i:Nat} {o:Oper} {rs:List Nat} (ho:ops[i]? = some o)
 (h:∀K':Act→World→Prop,Shut (∀a w,S w→pk P md ops Q S f (l.setIfInBounds i true) a w→K' a w)→if Region.wanted o (yielded ops a.tmps)=true then Oper.wp P o a w K' Q else K' (a.put o.dst undef) w)
 (hs:ak P md ops Q S f l a w rs):ak P md ops Q S f l a w (i::rs):=fun j hj=>by
 rcases List.mem_cons.1 hj with rfl | hj
 ·exact wpOp_step ho (fun K' hK=>h K' (fun a w hS hW=>hK a w ⟨hS,hW⟩))
 ·exact hs j hj
theorem au {rs:List Nat} {f:Nat} {l:Array Bool} {a:Act} {w:World} (hr:Region.ready md ops l=rs) (hne:rs.isEmpty=false)
 (h:ak P md ops Q S f l a w rs):pk P md ops Q S (f+1) l a w:=fun hS=>by
 subst hr
 refine ⟨fun h0=>(by rw [h0] at hne;cases hne),fun i hi=>wpOp_mono (fun a' w' h'=>⟨fun _=>h'.1,h'.2 h'.1⟩) (h i hi)⟩
theorem bG {f:Nat} {l:Array Bool} {a:Act} {w:World} (hr:Region.ready md ops l=[]) (h:Q .normal a w):pk P md ops Q S f l a w:=fun _=>by
 cases f with
 | zero=>exact ⟨hr,h⟩
 | succ f=>exact ⟨fun _=>h,by rw [hr];simp⟩
theorem aG {id:Nat} {a:Act} {w:World} (S:World→Prop) (hm:P.follows .mixedOrders=true) (hS:S w.drew)
 (h:pk P .any ops Q S ops.size (Array.replicate ops.size false) a w.drew):(Code.region id ops true).wp P Q a w:=
 wp_region_any hm (fj _ _ _ _ (h hS))
end
end Go.Proofs.YtdphibjibnffeaaGreat
