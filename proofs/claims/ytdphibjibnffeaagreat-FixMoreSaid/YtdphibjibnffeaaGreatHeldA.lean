/- A region that draws its order: one condition on the world that every operation keeps, and no last operation that waits for all others. -/
import Derived.Shelf.SlSortCmp.WholeK
import Derived.Shelf.SlGeneric
import Derived.Ground.SlsfProg
import Derived.Test.YtdphibjibnffeaaGreatProg
import Derived.Deep.RegionHeld3
import Derived.StillTail
import Derived.ProofKit
set_option linter.unusedVariables false
set_option linter.unusedSimpArgs false
set_option maxRecDepth 100000
set_option maxHeartbeats 8000000
namespace Go.Proofs
open Go.Shelf
def Tryz.sortAns_ren:Go.Shelf.Ren:=⟨fun | 6=>56 | 15=>117 | 14=>116 | 28=>182 | 29=>183 | 20=>174 | 21=>175 | 22=>176 | 23=>177 | 24=>178 | 25=>179 | 26=>180 | 27=>181 | 46=>231 | 47=>232 | 48=>233 | 49=>234 | 50=>235 | 57=>268 | n=>n,fun | 22=>40 | 24=>48 | 25=>49 | 3=>3 | 39=>101 | 0=>0 | 53=>31 | 55=>83 | 4=>4 | 46=>226 | 45=>225 | 50=>156 | 5=>5 | 9=>9 | 66=>260 | 70=>264 | 76=>285 | 77=>286 | n=>n,fun | n=>n⟩
theorem Tryz.sortAns:Go.Proofs.SlLaysF0.n6 Tryz.prog Tryz.sortAns_ren:={
 mixed:=by kernel_rfl
 f6:=⟨Tryz.f56.name,by decide,Tryz.func56.trans (congrArg some (by kernel_rfl))⟩
 f14:=⟨Tryz.f116.name,by decide,Tryz.func116.trans (congrArg some (by kernel_rfl))⟩
 f15:=Tryz.func117.trans (congrArg some (by kernel_rfl))
 f20:=⟨Tryz.f174.name,by decide,Tryz.func174.trans (congrArg some (by kernel_rfl))⟩
 f21:=⟨Tryz.f175.name,by decide,Tryz.func175.trans (congrArg some (by kernel_rfl))⟩
 f22:=⟨Tryz.f176.name,by decide,Tryz.func176.trans (congrArg some (by kernel_rfl))⟩
 f23:=⟨Tryz.f177.name,by decide,Tryz.func177.trans (congrArg some (by kernel_rfl))⟩
 f24:=⟨Tryz.f178.name,by decide,Tryz.func178.trans (congrArg some (by kernel_rfl))⟩
 f25:=⟨Tryz.f179.name,by decide,Tryz.func179.trans (congrArg some (by kernel_rfl))⟩
 f26:=⟨Tryz.f180.name,by decide,Tryz.func180.trans (congrArg some (by kernel_rfl))⟩
 f27:=⟨Tryz.f181.name,by decide,Tryz.func181.trans (congrArg some (by kernel_rfl))⟩
 f28:=Tryz.func182.trans (congrArg some (by kernel_rfl))
 f29:=Tryz.func183.trans (congrArg some (by kernel_rfl))
 f46:=⟨Tryz.f231.name,by decide,Tryz.func231.trans (congrArg some (by kernel_rfl))⟩
 f47:=Tryz.func232.trans (congrArg some (by kernel_rfl))
 f48:=Tryz.func233.trans (congrArg some (by kernel_rfl))
 f49:=⟨Tryz.f234.name,by decide,Tryz.func234.trans (congrArg some (by kernel_rfl))⟩
 f50:=⟨Tryz.f235.name,by decide,Tryz.func235.trans (congrArg some (by kernel_rfl))⟩
 f57:=⟨Tryz.f268.name,by decide,Tryz.func268.trans (congrArg some (by kernel_rfl))⟩
 t0:=Tryz.underlying0
 a0:=Tryz.isAgg0
 z0:=Tryz.sizeOf0
 v0:=Tryz.zeroValue0
 t3:=Tryz.underlying3
 a3:=Tryz.isAgg3
 z3:=Tryz.sizeOf3
 v3:=Tryz.zeroValue3
 t4:=Tryz.underlying4
 a4:=Tryz.isAgg4
 z4:=Tryz.sizeOf4
 v4:=Tryz.zeroValue4
 t5:=Tryz.underlying5
 a5:=Tryz.isAgg5
 z5:=Tryz.sizeOf5
 v5:=Tryz.zeroValue5
 t9:=Tryz.underlying9
 a9:=Tryz.isAgg9
 z9:=Tryz.sizeOf9
 v9:=Tryz.zeroValue9
 t22:=Tryz.underlying40
 a22:=Tryz.isAgg40
 z22:=Tryz.sizeOf40
 v22:=Tryz.zeroValue40
 t25:=Tryz.underlying49
 a25:=Tryz.isAgg49
 z25:=Tryz.sizeOf49
 v25:=Tryz.zeroValue49
 t39:=Tryz.underlying101
 a39:=Tryz.isAgg101
 z39:=Tryz.sizeOf101
 v39:=Tryz.zeroValue101
 t45:=Tryz.underlying225
 a45:=Tryz.isAgg225
 z45:=Tryz.sizeOf225
 v45:=Tryz.zeroValue225
 t46:=Tryz.underlying226
 a46:=Tryz.isAgg226
 z46:=Tryz.sizeOf226
 v46:=Tryz.zeroValue226
 t50:=Tryz.underlying156
 a50:=Tryz.isAgg156
 z50:=Tryz.sizeOf156
 v50:=Tryz.zeroValue156
 t53:=Tryz.underlying31
 a53:=Tryz.isAgg31
 z53:=Tryz.sizeOf31
 v53:=Tryz.zeroValue31
 t55:=Tryz.underlying83
 a55:=Tryz.isAgg83
 z55:=Tryz.sizeOf83
 v55:=Tryz.zeroValue83
 t66:=Tryz.underlying260
 a66:=Tryz.isAgg260
 z66:=Tryz.sizeOf260
 v66:=Tryz.zeroValue260
 t70:=Tryz.underlying264
 a70:=Tryz.isAgg264
 z70:=Tryz.sizeOf264
 v70:=Tryz.zeroValue264
 t76:=Tryz.underlying285
 a76:=Tryz.isAgg285
 z76:=Tryz.sizeOf285
 v76:=Tryz.zeroValue285
 t77:=Tryz.underlying286
 a77:=Tryz.isAgg286
 z77:=Tryz.sizeOf286
 v77:=Tryz.zeroValue286 }
end Go.Proofs
namespace Go.Proofs.YtdphibjibnffeaaGreat
section
variable {P:Program} {md:Region.Mode} {ops:Array Oper} {Q:Exit→Act→World→Prop} {S:World→Prop} {n:Nat}
def kg (P:Program) (md:Region.Mode) (ops:Array Oper) (Q:Exit→Act→World→Prop) (S:World→Prop) (n:Nat):Nat→Array Bool→Act→World→Prop
 | 0,l,a,w=>Region.ready md ops l=[]∧Q .normal a w
 | f+1,l,a,w=>(Region.ready md ops l=[]→Q .normal a w)∧∀i∈Region.ready md ops l,wpOp P ops Q i (fun a' w'=>(i<n→S w')∧kg P md ops Q S n f (l.setIfInBounds i true) a' w') a w
theorem fp:∀(f:Nat) (l:Array Bool) (a:Act) (w:World),kg P md ops Q S n f l a w→wpAny P md ops Q f l a w
 | 0,_,_,_,h=>h
 | f+1,_,_,_,h=>⟨h.1,fun i hi=>wpOp_mono (fun a' w' h'=>fp f _ a' w' h'.2) (h.2 i hi)⟩
structure UptoInv (md:Region.Mode) (ops:Array Oper) (n:Nat) (l:Array Bool):Prop where
 head:HeadInv md ops n l
 sink:Region.sinkB md ops n=true
 chain:Region.chainB md ops n=true
 lt:n<ops.size
theorem uc {i:Nat} {oi:Oper} {v:Value} (hi:ops[i]? = some oi) (hin:i<n) (hsel:∀(j:Nat) (o:Oper) cs b,ops[j]? = some o→o.op≠.select cs b)
 (hQ:∀c a w,Q (.panic c) (a.put oi.dst v) w→Q (.panic c) a w) :
 ∀(f:Nat) (l:Array Bool) (a:Act) (w:World),UptoInv md ops n l →
  (∀j oj,ops[j]? = some oj→j≠i→l.getD j true=false→(∀e∈oj.after,Region.binds md e=true→e.on≠i)→oi.apart ops oj=true) →
  i∈Region.ready md ops l→YieldsIf P ops S oi v a→S w →
  kg P md ops Q S n f (l.setIfInBounds i true) (a.put oi.dst v) w→kg P md ops Q S n (f+1) l a w:=by
 intro f
 induction f with
 | zero=>
   intro l a w _ _ hr hy hS H
   refine ⟨fun h=>(by rw [h] at hr;cases hr),fun j hj=>?_⟩
   by_cases hji:j=i
   ·subst hji;exact hy.wpOp hi hS ⟨fun _=>hS,H⟩
   ·have h1:=ready_mono hj hji
    rw [H.1] at h1
    cases h1
 | succ f ih=>
   intro l a w inv hfree hr hy hS H
   refine ⟨fun h=>(by rw [h] at hr;cases hr),fun j hj=>?_⟩
   by_cases hji:j=i
   ·subst hji;exact hy.wpOp hi hS ⟨fun _=>hS,H⟩
   ·have hjn:j<n:=by
     rcases Nat.lt_or_ge j n with h | h
     ·exact h
     ·exact absurd hj (tail_waits inv.sink inv.chain inv.lt inv.head (n-i) i rfl hin (mem_ready.1 hr).1 j h)
    have h1:=H.2 j (ready_mono hj hji)
    obtain ⟨hjun,oj,hoj,hall⟩:=mem_ready.1 hj
    have hnot:∀e∈oj.after,Region.binds md e=true→e.on≠i:=fun e he hb heq=>by
     have k1:=hall e he hb
     have k0:=(mem_ready.1 hr).1
     rw [heq] at k1
     rw [getD_both k0] at k1
     cases k1
    have h2:=wpOp_putIf hoj (hfree j oj hoj hji hjun hnot) (fun cs b=>hsel i oi cs b hi) (fun cs b=>hsel j oj cs b hoj) hQ hy h1
    have hfree':∀k ok,ops[k]? = some ok→k≠i→(l.setIfInBounds j true).getD k true=false →
     (∀e∈ok.after,Region.binds md e=true→e.on≠i)→oi.apart ops ok=true:=fun k ok hk hki hun hno=>by
     refine hfree k ok hk hki ?_ hno
     by_cases hjk:j=k
     ·subst hjk;exact hjun
     ·rw [getD_set_ne true hjk] at hun;exact hun
    refine wpOp_mono (fun a' w' h3=>⟨h3.2.1,ih (l.setIfInBounds j true) a' w' ⟨inv.head.set hj hjn,inv.sink,inv.chain,inv.lt⟩ hfree' (ready_mono hr (Ne.symm hji)) h3.1 (h3.2.1 hjn) ?_⟩) h2
    rw [Array.setIfInBounds_comm _ _ hji]
    exact h3.2.2
def xm (P:Program) (md:Region.Mode) (ops:Array Oper) (Q:Exit→Act→World→Prop) (S:World→Prop) (n:Nat) (f:Nat) (l:Array Bool) (a:Act) (w:World):Prop:=
 UptoInv md ops n l→S w→kg P md ops Q S n f l a w
theorem wW {i:Nat} {oi:Oper} {v:Value} {f:Nat} {l:Array Bool} {a:Act} {w:World} (hi:ops[i]? = some oi) (hin:decide (i<n)=true)
 (hs:Region.noSelect ops=true) (hf:Region.free md ops l i=true) (hr:(Region.ready md ops l).contains i=true)
 (hQ:∀c a w,Q (.panic c) (a.put oi.dst v) w→Q (.panic c) a w) (hw:Region.wanted oi (yielded ops a.tmps)=true) (hy:∀w,S w→(execOp a.eval oi).run P w=.ok (.value v) w)
 (h:xm P md ops Q S n f (l.setIfInBounds i true) (a.put oi.dst v) w):xm P md ops Q S n (f+1) l a w:=fun inv hS=>by
 have hri:i∈Region.ready md ops l:=by simpa using hr
 have hin':=of_decide_eq_true hin
 exact uc hi hin' (Region.noSelect_spec hs) hQ f l a w inv (Region.free_spec hi hf) hri (.inl ⟨hw,hy⟩) hS (h ⟨inv.head.set hri hin',inv.sink,inv.chain,inv.lt⟩ hS)
theorem ax (i:Nat) {oi:Oper} {v:Value} {f:Nat} {l:Array Bool} {a:Act} {w:World} (h:xm P md ops Q S n f (l.setIfInBounds i true) (a.put oi.dst v) w) (hi:ops[i]? = some oi:=by exact rfl) (hin:decide (i<n)=true:=by kernel_rfl) (hs:Region.noSelect ops=true:=by kernel_rfl) (hf:Region.free md ops l i=true:=by kernel_rfl) (hr:(Region.ready md ops l).contains i=true:=by kernel_rfl)
 (hQ:∀c a w,Q (.panic c) (a.put oi.dst v) w→Q (.panic c) a w:=by exact fun _ _ _ h=>h) (hw:Region.wanted oi (yielded ops a.tmps)=true:=by exact rfl) (hy:∀w,S w→(execOp a.eval oi).run P w=.ok (.value v) w:=by (intro w' hS';(try dsimp only at hS');go_simp;(try with_reducible rfl))):xm P md ops Q S n (f+1) l a w:=wW hi hin hs hf hr hQ hw hy h
def aB (P:Program) (md:Region.Mode) (ops:Array Oper) (Q:Exit→Act→World→Prop) (S:World→Prop) (n f:Nat) (l:Array Bool) (a:Act) (w:World) (rs:List Nat):Prop:=
 ∀i∈rs,wpOp P ops Q i (fun a' w'=>S w'∧xm P md ops Q S n f (l.setIfInBounds i true) a' w') a w
theorem aB.nil {f:Nat} {l:Array Bool} {a:Act} {w:World}:aB P md ops Q S n f l a w []:=fun _ h=>by cases h
theorem aB.cons {f:Nat} {l:Array Bool} {a:Act} {w:World} {i:Nat} {o:Oper} {rs:List Nat} (ho:ops[i]? = some o)
 (h:∀K':Act→World→Prop,Shut (∀a w,S w→xm P md ops Q S n f (l.setIfInBounds i true) a w→K' a w)→if Region.wanted o (yielded ops a.tmps)=true then Oper.wp P o a w K' Q else K' (a.put o.dst undef) w)
 (hs:aB P md ops Q S n f l a w rs):aB P md ops Q S n f l a w (i::rs):=fun j hj=>by
 rcases List.mem_cons.1 hj with rfl | hj
 ·exact wpOp_step ho (fun K' hK=>h K' (fun a w hS hW=>hK a w ⟨hS,hW⟩))
 ·exact hs j hj
theorem aI {rs:List Nat} {f:Nat} {l:Array Bool} {a:Act} {w:World} (hr:Region.ready md ops l=rs) (hne:rs.isEmpty=false) (hlt:(rs.all fun i=>decide (i<n))=true)
 (h:aB P md ops Q S n f l a w rs):xm P md ops Q S n (f+1) l a w:=fun inv hS=>by
 subst hr
 refine ⟨fun h0=>(by rw [h0] at hne;cases hne),fun i hi=>?_⟩
 have hin:i<n:=by simpa using List.all_eq_true.1 hlt i hi
 exact wpOp_mono (fun a' w' h'=>⟨fun _=>h'.1,h'.2 ⟨inv.head.set hi hin,inv.sink,inv.chain,inv.lt⟩ h'.1⟩) (h i hi)
theorem ei {f:Nat} {l:Array Bool} {a:Act} {w:World} {o:Oper} (hr:Region.ready md ops l=[n]) (hr2:Region.ready md ops (l.setIfInBounds n true)=[]) (ho:ops[n]? = some o)
 (h:∀K':Act→World→Prop,Shut (∀a w,Q .normal a w→K' a w)→if Region.wanted o (yielded ops a.tmps)=true then Oper.wp P o a w K' Q else K' (a.put o.dst undef) w):xm P md ops Q S n (f+1) l a w:=fun inv hS=>by
 refine ⟨fun h0=>(by rw [hr] at h0;cases h0),fun i hi=>?_⟩
 rw [hr] at hi
 obtain rfl:i=n:=by simpa using hi
 refine wpOp_step ho (fun K' hK=>h K' fun a w hq=>hK a w ⟨fun hlt=>absurd hlt (Nat.lt_irrefl _),?_⟩)
 cases f with
 | zero=>exact ⟨hr2,hq⟩
 | succ f=>exact ⟨fun _=>hq,by rw [hr2];simp⟩
theorem bp {id:Nat} {a:Act} {w:World} (n:Nat) (hm:P.follows .mixedOrders=true) (hs:Region.sinkB .any ops n=true) (hc:Region.chainB .any ops n=true) (hn:decide (n<ops.size)=true) (hS:S w.drew)
 (h:xm P .any ops Q S n ops.size (Array.replicate ops.size false) a w.drew):(Code.region id ops true).wp P Q a w:=by
 have hn':=of_decide_eq_true hn
 refine wp_region_any hm (fp _ _ _ _ (h ⟨⟨by simp,fun j oj hoj hl=>?_,fun t ht ht'=>?_⟩,hs,hc,hn'⟩ hS))
 ·rw [getD_replicate_false] at hl;cases hl
 ·simp [ht']
end
section
variable {P:Program} {md:Region.Mode} {ops:Array Oper} {Q:Exit→Act→World→Prop} {S:World→Prop}
theorem yy {j:Nat} {l:Array Bool} (hj:j∈Region.ready md ops l):j<ops.size:=by
 obtain ⟨_,oj,hoj,_⟩:=mem_ready.1 hj
 exact (Array.getElem?_eq_some_iff.1 hoj).1
theorem ry {i:Nat} {oi:Oper} {v:Value} (hi:ops[i]? = some oi) (hsel:∀(j:Nat) (o:Oper) cs b,ops[j]? = some o→o.op≠.select cs b)
 (hQ:∀c a w,Q (.panic c) (a.put oi.dst v) w→Q (.panic c) a w) :
 ∀(f:Nat) (l:Array Bool) (a:Act) (w:World),
  (∀j oj,ops[j]? = some oj→j≠i→l.getD j true=false→(∀e∈oj.after,Region.binds md e=true→e.on≠i)→oi.apart ops oj=true) →
  i∈Region.ready md ops l→YieldsIf P ops S oi v a→S w →
  kg P md ops Q S ops.size f (l.setIfInBounds i true) (a.put oi.dst v) w→kg P md ops Q S ops.size (f+1) l a w:=by
 intro f
 induction f with
 | zero=>
   intro l a w _ hr hy hS H
   refine ⟨fun h=>(by rw [h] at hr;cases hr),fun j hj=>?_⟩
   by_cases hji:j=i
   ·subst hji;exact hy.wpOp hi hS ⟨fun _=>hS,H⟩
   ·have h1:=ready_mono hj hji
    rw [H.1] at h1
    cases h1
 | succ f ih=>
   intro l a w hfree hr hy hS H
   refine ⟨fun h=>(by rw [h] at hr;cases hr),fun j hj=>?_⟩
   by_cases hji:j=i
   ·subst hji;exact hy.wpOp hi hS ⟨fun _=>hS,H⟩
   ·have hjn:=yy hj
    have h1:=H.2 j (ready_mono hj hji)
    obtain ⟨hjun,oj,hoj,hall⟩:=mem_ready.1 hj
    have hnot:∀e∈oj.after,Region.binds md e=true→e.on≠i:=fun e he hb heq=>by
     have k1:=hall e he hb
     have k0:=(mem_ready.1 hr).1
     rw [heq] at k1
     rw [getD_both k0] at k1
     cases k1
    have h2:=wpOp_putIf hoj (hfree j oj hoj hji hjun hnot) (fun cs b=>hsel i oi cs b hi) (fun cs b=>hsel j oj cs b hoj) hQ hy h1
    have hfree':∀k ok,ops[k]? = some ok→k≠i→(l.setIfInBounds j true).getD k true=false →
     (∀e∈ok.after,Region.binds md e=true→e.on≠i)→oi.apart ops ok=true:=fun k ok hk hki hun hno=>by
     refine hfree k ok hk hki ?_ hno
     by_cases hjk:j=k
     ·subst hjk;exact hjun
     ·rw [getD_set_ne true hjk] at hun;exact hun
    refine wpOp_mono (fun a' w' h3=>⟨h3.2.1,ih (l.setIfInBounds j true) a' w' hfree' (ready_mono hr (Ne.symm hji)) h3.1 (h3.2.1 hjn) ?_⟩) h2
    rw [Array.setIfInBounds_comm _ _ hji]
    exact h3.2.2
def nl (P:Program) (md:Region.Mode) (ops:Array Oper) (Q:Exit→Act→World→Prop) (S:World→Prop) (f:Nat) (l:Array Bool) (a:Act) (w:World):Prop:=
 S w→kg P md ops Q S ops.size f l a w
theorem ub {i:Nat} {oi:Oper} {v:Value} {f:Nat} {l:Array Bool} {a:Act} {w:World} (hi:ops[i]? = some oi)
 (hs:Region.noSelect ops=true) (hf:Region.free md ops l i=true) (hr:(Region.ready md ops l).contains i=true)
 (hQ:∀c a w,Q (.panic c) (a.put oi.dst v) w→Q (.panic c) a w) (hw:Region.wanted oi (yielded ops a.tmps)=true) (hy:∀w,S w→(execOp a.eval oi).run P w=.ok (.value v) w)
 (h:nl P md ops Q S f (l.setIfInBounds i true) (a.put oi.dst v) w):nl P md ops Q S (f+1) l a w:=fun hS=>by
 have hri:i∈Region.ready md ops l:=by simpa using hr
 exact ry hi (Region.noSelect_spec hs) hQ f l a w (Region.free_spec hi hf) hri (.inl ⟨hw,hy⟩) hS (h hS)
theorem aa (i:Nat) {oi:Oper} {v:Value} {f:Nat} {l:Array Bool} {a:Act} {w:World} (h:nl P md ops Q S f (l.setIfInBounds i true) (a.put oi.dst v) w) (hi:ops[i]? = some oi:=by exact rfl) (hs:Region.noSelect ops=true:=by kernel_rfl) (hf:Region.free md ops l i=true:=by kernel_rfl) (hr:(Region.ready md ops l).contains i=true:=by kernel_rfl)
 (hQ:∀c a w,Q (.panic c) (a.put oi.dst v) w→Q (.panic c) a w:=by exact fun _ _ _ h=>h) (hw:Region.wanted oi (yielded ops a.tmps)=true:=by exact rfl) (hy:∀w,S w→(execOp a.eval oi).run P w=.ok (.value v) w:=by (intro w' hS';(try dsimp only at hS');go_simp;(try with_reducible rfl))):nl P md ops Q S (f+1) l a w:=ub hi hs hf hr hQ hw hy h
def al (P:Program) (md:Region.Mode) (ops:Array Oper) (Q:Exit→Act→World→Prop) (S:World→Prop) (f:Nat) (l:Array Bool) (a:Act) (w:World) (rs:List Nat):Prop:=
 ∀i∈rs,wpOp P ops Q i (fun a' w'=>S w'∧nl P md ops Q S f (l.setIfInBounds i true) a' w') a w
theorem al.nil {f:Nat} {l:Array Bool} {a:Act} {w:World}:al P md ops Q S f l a w []:=fun _ h=>by cases h
theorem al.cons {f:Nat} {l:Array Bool} {a:Act} {w:World} {i:Nat} {o:Oper} {rs:List Nat} (ho:ops[i]? = some o)
 (h:∀K':Act→World→Prop,Shut (∀a w,S w→nl P md ops Q S f (l.setIfInBounds i true) a w→K' a w)→if Region.wanted o (yielded ops a.tmps)=true then Oper.wp P o a w K' Q else K' (a.put o.dst undef) w)
 (hs:al P md ops Q S f l a w rs):al P md ops Q S f l a w (i::rs):=fun j hj=>by
 rcases List.mem_cons.1 hj with rfl | hj
 ·exact wpOp_step ho (fun K' hK=>h K' (fun a w hS hW=>hK a w ⟨hS,hW⟩))
 ·exact hs j hj
theorem aw {rs:List Nat} {f:Nat} {l:Array Bool} {a:Act} {w:World} (hr:Region.ready md ops l=rs) (hne:rs.isEmpty=false)
 (h:al P md ops Q S f l a w rs):nl P md ops Q S (f+1) l a w:=fun hS=>by
 subst hr
 refine ⟨fun h0=>(by rw [h0] at hne;cases hne),fun i hi=>wpOp_mono (fun a' w' h'=>⟨fun _=>h'.1,h'.2 h'.1⟩) (h i hi)⟩
theorem bZ {f:Nat} {l:Array Bool} {a:Act} {w:World} (hr:Region.ready md ops l=[]) (h:Q .normal a w):nl P md ops Q S f l a w:=fun _=>by
 cases f with
 | zero=>exact ⟨hr,h⟩
 | succ f=>exact ⟨fun _=>h,by rw [hr];simp⟩
theorem aQ {id:Nat} {a:Act} {w:World} (S:World→Prop) (hm:P.follows .mixedOrders=true) (hS:S w.drew)
 (h:nl P .any ops Q S ops.size (Array.replicate ops.size false) a w.drew):(Code.region id ops true).wp P Q a w:=
 wp_region_any hm (fp _ _ _ _ (h hS))
end
end Go.Proofs.YtdphibjibnffeaaGreat
