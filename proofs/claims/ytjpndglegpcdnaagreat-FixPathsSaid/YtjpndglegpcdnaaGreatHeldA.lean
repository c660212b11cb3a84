/- A region that draws its order: one condition on the world that every operation keeps, and no last operation that waits for all others. -/
import Derived.Shelf.SlSortCmp.WholeK
import Derived.Shelf.SlGeneric
import Derived.Ground.SlsfProg
import Derived.Test.YtjpndglegpcdnaaGreatProg
import Derived.Deep.RegionHeld3
import Derived.StillTail
import Derived.ProofKit
set_option linter.unusedVariables false
set_option linter.unusedSimpArgs false
set_option maxRecDepth 100000
set_option maxHeartbeats 8000000
namespace Go.Proofs
open Go.Shelf
def Tryz.sortAns_ren:Go.Shelf.Ren:=⟨fun | 6=>77 | 15=>99 | 14=>98 | 28=>135 | 29=>136 | 20=>127 | 21=>128 | 22=>129 | 23=>130 | 24=>131 | 25=>132 | 26=>133 | 27=>134 | 46=>157 | 47=>158 | 48=>159 | 49=>160 | 50=>161 | 57=>182 | n=>n,fun | 22=>109 | 24=>116 | 25=>141 | 3=>3 | 39=>61 | 0=>0 | 53=>31 | 55=>22 | 4=>4 | 46=>184 | 45=>183 | 50=>77 | 5=>5 | 9=>9 | 66=>202 | 70=>206 | 76=>223 | 77=>224 | n=>n,fun | n=>n⟩
theorem Tryz.sortAns:Go.Proofs.SlLaysF0.n6 Tryz.prog Tryz.sortAns_ren:={
 mixed:=by kernel_rfl
 f6:=⟨Tryz.f77.name,by decide,Tryz.func77.trans (congrArg some (by kernel_rfl))⟩
 f14:=⟨Tryz.f98.name,by decide,Tryz.func98.trans (congrArg some (by kernel_rfl))⟩
 f15:=Tryz.func99.trans (congrArg some (by kernel_rfl))
 f20:=⟨Tryz.f127.name,by decide,Tryz.func127.trans (congrArg some (by kernel_rfl))⟩
 f21:=⟨Tryz.f128.name,by decide,Tryz.func128.trans (congrArg some (by kernel_rfl))⟩
 f22:=⟨Tryz.f129.name,by decide,Tryz.func129.trans (congrArg some (by kernel_rfl))⟩
 f23:=⟨Tryz.f130.name,by decide,Tryz.func130.trans (congrArg some (by kernel_rfl))⟩
 f24:=⟨Tryz.f131.name,by decide,Tryz.func131.trans (congrArg some (by kernel_rfl))⟩
 f25:=⟨Tryz.f132.name,by decide,Tryz.func132.trans (congrArg some (by kernel_rfl))⟩
 f26:=⟨Tryz.f133.name,by decide,Tryz.func133.trans (congrArg some (by kernel_rfl))⟩
 f27:=⟨Tryz.f134.name,by decide,Tryz.func134.trans (congrArg some (by kernel_rfl))⟩
 f28:=Tryz.func135.trans (congrArg some (by kernel_rfl))
 f29:=Tryz.func136.trans (congrArg some (by kernel_rfl))
 f46:=⟨Tryz.f157.name,by decide,Tryz.func157.trans (congrArg some (by kernel_rfl))⟩
 f47:=Tryz.func158.trans (congrArg some (by kernel_rfl))
 f48:=Tryz.func159.trans (congrArg some (by kernel_rfl))
 f49:=⟨Tryz.f160.name,by decide,Tryz.func160.trans (congrArg some (by kernel_rfl))⟩
 f50:=⟨Tryz.f161.name,by decide,Tryz.func161.trans (congrArg some (by kernel_rfl))⟩
 f57:=⟨Tryz.f182.name,by decide,Tryz.func182.trans (congrArg some (by kernel_rfl))⟩
 t0:=Tryz.underlying0
 a0:=Tryz.isAgg0
 z0:=Tryz.sizeOf0
 v0:=Tryz.zeroValue0
 t3:=Tryz.underlying3
 a3:=Tryz.isAgg3
 z3:=Tryz.sizeOf3
 v3:=Tryz.zeroValue3
 t4:=Tryz.underlying4
 a4:=Tryz.isAgg4
 z4:=Tryz.sizeOf4
 v4:=Tryz.zeroValue4
 t5:=Tryz.underlying5
 a5:=Tryz.isAgg5
 z5:=Tryz.sizeOf5
 v5:=Tryz.zeroValue5
 t9:=Tryz.underlying9
 a9:=Tryz.isAgg9
 z9:=Tryz.sizeOf9
 v9:=Tryz.zeroValue9
 t22:=Tryz.underlying109
 a22:=Tryz.isAgg109
 z22:=Tryz.sizeOf109
 v22:=Tryz.zeroValue109
 t25:=Tryz.underlying141
 a25:=Tryz.isAgg141
 z25:=Tryz.sizeOf141
 v25:=Tryz.zeroValue141
 t39:=Tryz.underlying61
 a39:=Tryz.isAgg61
 z39:=Tryz.sizeOf61
 v39:=Tryz.zeroValue61
 t45:=Tryz.underlying183
 a45:=Tryz.isAgg183
 z45:=Tryz.sizeOf183
 v45:=Tryz.zeroValue183
 t46:=Tryz.underlying184
 a46:=Tryz.isAgg184
 z46:=Tryz.sizeOf184
 v46:=Tryz.zeroValue184
 t50:=Tryz.underlying77
 a50:=Tryz.isAgg77
 z50:=Tryz.sizeOf77
 v50:=Tryz.zeroValue77
 t53:=Tryz.underlying31
 a53:=Tryz.isAgg31
 z53:=Tryz.sizeOf31
 v53:=Tryz.zeroValue31
 t55:=Tryz.underlying22
 a55:=Tryz.isAgg22
 z55:=Tryz.sizeOf22
 v55:=Tryz.zeroValue22
 t66:=Tryz.underlying202
 a66:=Tryz.isAgg202
 z66:=Tryz.sizeOf202
 v66:=Tryz.zeroValue202
 t70:=Tryz.underlying206
 a70:=Tryz.isAgg206
 z70:=Tryz.sizeOf206
 v70:=Tryz.zeroValue206
 t76:=Tryz.underlying223
 a76:=Tryz.isAgg223
 z76:=Tryz.sizeOf223
 v76:=Tryz.zeroValue223
 t77:=Tryz.underlying224
 a77:=Tryz.isAgg224
 z77:=Tryz.sizeOf224
 v77:=Tryz.zeroValue224 }
end Go.Proofs
namespace Go.Proofs.YtjpndglegpcdnaaGreat
section
variable {P:Program} {md:Region.Mode} {ops:Array Oper} {Q:Exit→Act→World→Prop} {S:World→Prop} {n:Nat}
def jI (P:Program) (md:Region.Mode) (ops:Array Oper) (Q:Exit→Act→World→Prop) (S:World→Prop) (n:Nat):Nat→Array Bool→Act→World→Prop
 | 0,l,a,w=>Region.ready md ops l=[]∧Q .normal a w
 | f+1,l,a,w=>(Region.ready md ops l=[]→Q .normal a w)∧∀i∈Region.ready md ops l,wpOp P ops Q i (fun a' w'=>(i<n→S w')∧jI P md ops Q S n f (l.setIfInBounds i true) a' w') a w
theorem fe:∀(f:Nat) (l:Array Bool) (a:Act) (w:World),jI P md ops Q S n f l a w→wpAny P md ops Q f l a w
 | 0,_,_,_,h=>h
 | f+1,_,_,_,h=>⟨h.1,fun i hi=>wpOp_mono (fun a' w' h'=>fe f _ a' w' h'.2) (h.2 i hi)⟩
structure UptoInv (md:Region.Mode) (ops:Array Oper) (n:Nat) (l:Array Bool):Prop where
 head:HeadInv md ops n l
 sink:Region.sinkB md ops n=true
 chain:Region.chainB md ops n=true
 lt:n<ops.size
theorem sQ {i:Nat} {oi:Oper} {v:Value} (hi:ops[i]? = some oi) (hin:i<n) (hsel:∀(j:Nat) (o:Oper) cs b,ops[j]? = some o→o.op≠.select cs b)
 (hQ:∀c a w,Q (.panic c) (a.put oi.dst v) w→Q (.panic c) a w) :
 ∀(f:Nat) (l:Array Bool) (a:Act) (w:World),UptoInv md ops n l →
  (∀j oj,ops[j]? = some oj→j≠i→l.getD j true=false→(∀e∈oj.after,Region.binds md e=true→e.on≠i)→oi.apart ops oj=true) →
  i∈Region.ready md ops l→YieldsIf P ops S oi v a→S w →
  jI P md ops Q S n f (l.setIfInBounds i true) (a.put oi.dst v) w→jI P md ops Q S n (f+1) l a w:=by
 intro f
 induction f with
 | zero=>
   intro l a w _ _ hr hy hS H
   refine ⟨fun h=>(by rw [h] at hr;cases hr),fun j hj=>?_⟩
   by_cases hji:j=i
   ·subst hji;exact hy.wpOp hi hS ⟨fun _=>hS,H⟩
   ·have h1:=ready_mono hj hji
    rw [H.1] at h1
    cases h1
 | succ f ih=>
   intro l a w inv hfree hr hy hS H
   refine ⟨fun h=>(by rw [h] at hr;cases hr),fun j hj=>?_⟩
   by_cases hji:j=i
   ·subst hji;exact hy.wpOp hi hS ⟨fun _=>hS,H⟩
   ·have hjn:j<n:=by
     rcases Nat.lt_or_ge j n with h | h
     ·exact h
     ·exact absurd hj (tail_waits inv.sink inv.chain inv.lt inv.head (n-i) i rfl hin (mem_ready.1 hr).1 j h)
    have h1:=H.2 j (ready_mono hj hji)
    obtain ⟨hjun,oj,hoj,hall⟩:=mem_ready.1 hj
    have hnot:∀e∈oj.after,Region.binds md e=true→e.on≠i:=fun e he hb heq=>by
     have k1:=hall e he hb
     have k0:=(mem_ready.1 hr).1
     rw [heq] at k1
     rw [getD_both k0] at k1
     cases k1
    have h2:=wpOp_putIf hoj (hfree j oj hoj hji hjun hnot) (fun cs b=>hsel i oi cs b hi) (fun cs b=>hsel j oj cs b hoj) hQ hy h1
    have hfree':∀k ok,ops[k]? = some ok→k≠i→(l.setIfInBounds j true).getD k true=false →
     (∀e∈ok.after,Region.binds md e=true→e.on≠i)→oi.apart ops ok=true:=fun k ok hk hki hun hno=>by
     refine hfree k ok hk hki ?_ hno
     by_cases hjk:j=k
     ·subst hjk;exact hjun
     ·rw [getD_set_ne true hjk] at hun;exact hun
    refine wpOp_mono (fun a' w' h3=>⟨h3.2.1,ih (l.setIfInBounds j true) a' w' ⟨inv.head.set hj hjn,inv.sink,inv.chain,inv.lt⟩ hfree' (ready_mono hr (Ne.symm hji)) h3.1 (h3.2.1 hjn) ?_⟩) h2
    rw [Array.setIfInBounds_comm _ _ hji]
    exact h3.2.2
def vI (P:Program) (md:Region.Mode) (ops:Array Oper) (Q:Exit→Act→World→Prop) (S:World→Prop) (n:Nat) (f:Nat) (l:Array Bool) (a:Act) (w:World):Prop:=
 UptoInv md ops n l→S w→jI P md ops Q S n f l a w
theorem vq {i:Nat} {oi:Oper} {v:Value} {f:Nat} {l:Array Bool} {a:Act} {w:World} (hi:ops[i]? = some oi) (hin:decide (i<n)=true)
 (hs:Region.noSelect ops=true) (hf:Region.free md ops l i=true) (hr:(Region.ready md ops l).contains i=true)
 (hQ:∀c a w,Q (.panic c) (a.put oi.dst v) w→Q (.panic c) a w) (hw:Region.wanted oi (yielded ops a.tmps)=true) (hy:∀w,S w→(execOp a.eval oi).run P w=.ok (.value v) w)
 (h:vI P md ops Q S n f (l.setIfInBounds i true) (a.put oi.dst v) w):vI P md ops Q S n (f+1) l a w:=fun inv hS=>by
 have hri:i∈Region.ready md ops l:=by simpa using hr
 have hin':=of_decide_eq_true hin
 exact sQ hi hin' (Region.noSelect_spec hs) hQ f l a w inv (Region.free_spec hi hf) hri (.inl ⟨hw,hy⟩) hS (h ⟨inv.head.set hri hin',inv.sink,inv.chain,inv.lt⟩ hS)
theorem av (i:Nat) {oi:Oper} {v:Value} {f:Nat} {l:Array Bool} {a:Act} {w:World} (h:vI P md ops Q S n f (l.setIfInBounds i true) (a.put oi.dst v) w) (hi:ops[i]? = some oi:=by exact rfl) (hin:decide (i<n)=true:=by kernel_rfl) (hs:Region.noSelect ops=true:=by kernel_rfl) (hf:Region.free md ops l i=true:=by kernel_rfl) (hr:(Region.ready md ops l).contains i=true:=by kernel_rfl)
 (hQ:∀c a w,Q (.panic c) (a.put oi.dst v) w→Q (.panic c) a w:=by exact fun _ _ _ h=>h) (hw:Region.wanted oi (yielded ops a.tmps)=true:=by exact rfl) (hy:∀w,S w→(execOp a.eval oi).run P w=.ok (.value v) w:=by (intro w' hS';(try dsimp only at hS');go_simp;(try with_reducible rfl))):vI P md ops Q S n (f+1) l a w:=vq hi hin hs hf hr hQ hw hy h
def ay (P:Program) (md:Region.Mode) (ops:Array Oper) (Q:Exit→Act→World→Prop) (S:World→Prop) (n f:Nat) (l:Array Bool) (a:Act) (w:World) (rs:List Nat):Prop:=
 ∀i∈rs,wpOp P ops Q i (fun a' w'=>S w'∧vI P md ops Q S n f (l.setIfInBounds i true) a' w') a w
theorem ay.nil {f:Nat} {l:Array Bool} {a:Act} {w:World}:ay P md ops Q S n f l a w []:=fun _ h=>by cases h
theorem ay.cons {f:Nat} {l:Array Bool} {a:Act} {w:World} {i:Nat} {o:Oper} {rs:List Nat} (ho:ops[i]? = some o)
 (h:∀K':Act→World→Prop,Shut (∀a w,S w→vI P md ops Q S n f (l.setIfInBounds i true) a w→K' a w)→if Region.wanted o (yielded ops a.tmps)=true then Oper.wp P o a w K' Q else K' (a.put o.dst undef) w)
 (hs:ay P md ops Q S n f l a w rs):ay P md ops Q S n f l a w (i::rs):=fun j hj=>by
 rcases List.mem_cons.1 hj with rfl | hj
 ·exact wpOp_step ho (fun K' hK=>h K' (fun a w hS hW=>hK a w ⟨hS,hW⟩))
 ·exact hs j hj
theorem aF {rs:List Nat} {f:Nat} {l:Array Bool} {a:Act} {w:World} (hr:Region.ready md ops l=rs) (hne:rs.isEmpty=false) (hlt:(rs.all fun i=>decide (i<n))=true)
 (h:ay P md ops Q S n f l a w rs):vI P md ops Q S n (f+1) l a w:=fun inv hS=>by
 subst hr
 refine ⟨fun h0=>(by rw [h0] at hne;cases hne),fun i hi=>?_⟩
 have hin:i<n:=by simpa using List.all_eq_true.1 hlt i hi
 exact wpOp_mono (fun a' w' h'=>⟨fun _=>h'.1,h'.2 ⟨inv.head.set hi hin,inv.sink,inv.chain,inv.lt⟩ h'.1⟩) (h i hi)
theorem dZ {f:Nat} {l:Array Bool} {a:Act} {w:World} {o:Oper} (hr:Region.ready md ops l=[n]) (hr2:Region.ready md ops (l.setIfInBounds n true)=[]) (ho:ops[n]? = some o)
 (h:∀K':Act→World→Prop,Shut (∀a w,Q .normal a w→K' a w)→if Region.wanted o (yielded ops a.tmps)=true then Oper.wp P o a w K' Q else K' (a.put o.dst undef) w):vI P md ops Q S n (f+1) l a w:=fun inv hS=>by
 refine ⟨fun h0=>(by rw [hr] at h0;cases h0),fun i hi=>?_⟩
 rw [hr] at hi
 obtain rfl:i=n:=by simpa using hi
 refine wpOp_step ho (fun K' hK=>h K' fun a w hq=>hK a w ⟨fun hlt=>absurd hlt (Nat.lt_irrefl _),?_⟩)
 cases f with
 | zero=>exact ⟨hr2,hq⟩
 | succ f=>exact ⟨fun _=>hq,by rw [hr2];simp⟩
theorem bj {id:Nat} {a:Act} {w:World} (n:Nat) (hm:P.follows .mixedOrders=true) (hs:Region.sinkB .any ops n=true) (hc:Region.chainB .any ops n=true) (hn:decide (n<ops.size)=true) (hS:S w.drew)
 (h:vI P .any ops Q S n ops.size (Array.replicate ops.size false) a w.drew):(Code.region id ops true).wp P Q a w:=by
 have hn':=of_decide_eq_true hn
 refine wp_region_any hm (fe _ _ _ _ (h ⟨⟨by simp,fun j oj hoj hl=>?_,fun t ht ht'=>?_⟩,hs,hc,hn'⟩ hS))
 ·rw [getD_replicate_false] at hl;cases hl
 ·simp [ht']
end
section
variable {P:Program} {md:Region.Mode} {ops:Array Oper} {Q:Exit→Act→World→Prop} {S:World→Prop}
theorem xe {j:Nat} {l:Array Bool} (hj:j∈Region.ready md ops l):j<ops.size:=by
 obtain ⟨_,oj,hoj,_⟩:=mem_ready.1 hj
 exact (Array.getElem?_eq_some_iff.1 hoj).1
theorem qy {i:Nat} {oi:Oper} {v:Value} (hi:ops[i]? = some oi) (hsel:∀(j:Nat) (o:Oper) cs b,ops[j]? = some o→o.op≠.select cs b)
 (hQ:∀c a w,Q (.panic c) (a.put oi.dst v) w→Q (.panic c) a w) :
 ∀(f:Nat) (l:Array Bool) (a:Act) (w:World),
  (∀j oj,ops[j]? = some oj→j≠i→l.getD j true=false→(∀e∈oj.after,Region.binds md e=true→e.on≠i)→oi.apart ops oj=true) →
  i∈Region.ready md ops l→YieldsIf P ops S oi v a→S w →
  jI P md ops Q S ops.size f (l.setIfInBounds i true) (a.put oi.dst v) w→jI P md ops Q S ops.size (f+1) l a w:=by
 intro f
 induction f with
 | zero=>
   intro l a w _ hr hy hS H
   refine ⟨fun h=>(by rw [h] at hr;cases hr),fun j hj=>?_⟩
   by_cases hji:j=i
   ·subst hji;exact hy.wpOp hi hS ⟨fun _=>hS,H⟩
   ·have h1:=ready_mono hj hji
    rw [H.1] at h1
    cases h1
 | succ f ih=>
   intro l a w hfree hr hy hS H
   refine ⟨fun h=>(by rw [h] at hr;cases hr),fun j hj=>?_⟩
   by_cases hji:j=i
   ·subst hji;exact hy.wpOp hi hS ⟨fun _=>hS,H⟩
   ·have hjn:=xe hj
    have h1:=H.2 j (ready_mono hj hji)
    obtain ⟨hjun,oj,hoj,hall⟩:=mem_ready.1 hj
    have hnot:∀e∈oj.after,Region.binds md e=true→e.on≠i:=fun e he hb heq=>by
     have k1:=hall e he hb
     have k0:=(mem_ready.1 hr).1
     rw [heq] at k1
     rw [getD_both k0] at k1
     cases k1
    have h2:=wpOp_putIf hoj (hfree j oj hoj hji hjun hnot) (fun cs b=>hsel i oi cs b hi) (fun cs b=>hsel j oj cs b hoj) hQ hy h1
    have hfree':∀k ok,ops[k]? = some ok→k≠i→(l.setIfInBounds j true).getD k true=false →
     (∀e∈ok.after,Region.binds md e=true→e.on≠i)→oi.apart ops ok=true:=fun k ok hk hki hun hno=>by
     refine hfree k ok hk hki ?_ hno
     by_cases hjk:j=k
     ·subst hjk;exact hjun
     ·rw [getD_set_ne true hjk] at hun;exact hun
    refine wpOp_mono (fun a' w' h3=>⟨h3.2.1,ih (l.setIfInBounds j true) a' w' hfree' (ready_mono hr (Ne.symm hji)) h3.1 (h3.2.1 hjn) ?_⟩) h2
    rw [Array.setIfInBounds_comm _ _ hji]
    exact h3.2.2
def mM (P:Program) (md:Region.Mode) (ops:Array Oper) (Q:Exit→Act→World→Prop) (S:World→Prop) (f:Nat) (l:Array Bool) (a:Act) (w:World):Prop:=
 S w→jI P md ops Q S ops.size f l a w
theorem sP {i:Nat} {oi:Oper} {v:Value} {f:Nat} {l:Array Bool} {a:Act} {w:World} (hi:ops[i]? = some oi)
 (hs:Region.noSelect ops=true) (hf:Region.free md ops l i=true) (hr:(Region.ready md ops l).contains i=true)
 (hQ:∀c a w,Q (.panic c) (a.put oi.dst v) w→Q (.panic c) a w) (hw:Region.wanted oi (yielded ops a.tmps)=true) (hy:∀w,S w→(execOp a.eval oi).run P w=.ok (.value v) w)
 (h:mM P md ops Q S f (l.setIfInBounds i true) (a.put oi.dst v) w):mM P md ops Q S (f+1) l a w:=fun hS=>by
 have hri:i∈Region.ready md ops l:=by simpa using hr
 exact qy hi (Region.noSelect_spec hs) hQ f l a w (Region.free_spec hi hf) hri (.inl ⟨hw,hy⟩) hS (h hS)
theorem ab (i:Nat) {oi:Oper} {v:Value} {f:Nat} {l:Array Bool} {a:Act} {w:World} (h:mM P md ops Q S f (l.setIfInBounds i true) (a.put oi.dst v) w) (hi:ops[i]? = some oi:=by exact rfl) (hs:Region.noSelect ops=true:=by kernel_rfl) (hf:Region.free md ops l i=true:=by kernel_rfl) (hr:(Region.ready md ops l).contains i=true:=by kernel_rfl)
 (hQ:∀c a w,Q (.panic c) (a.put oi.dst v) w→Q (.panic c) a w:=by exact fun _ _ _ h=>h) (hw:Region.wanted oi (yielded ops a.tmps)=true:=by exact rfl) (hy:∀w,S w→(execOp a.eval oi).run P w=.ok (.value v) w:=by (intro w' hS';(try dsimp only at hS');go_simp;(try with_reducible rfl))):mM P md ops Q S (f+1) l a w:=sP hi hs hf hr hQ hw hy h
def aj (P:Program) (md:Region.Mode) (ops:Array Oper) (Q:Exit→Act→World→Prop) (S:World→Prop) (f:Nat) (l:Array Bool) (a:Act) (w:World) (rs:List Nat):Prop:=
 ∀i∈rs,wpOp P ops Q i (fun a' w'=>S w'∧mM P md ops Q S f (l.setIfInBounds i true) a' w') a w
theorem aj.nil {f:Nat} {l:Array Bool} {a:Act} {w:World}:aj P md ops Q S f l a w []:=fun _ h=>by cases h
theorem aj.cons {f:Nat} {l:Array Bool} {a:Act} {w:World} {i:Nat} {o:Oper} {rs:List Nat} (ho:ops[i]? = some o)
 (h:∀K':Act→World→Prop,Shut (∀a w,S w→mM P md ops Q S f (l.setIfInBounds i true) a w→K' a w)→if Region.wanted o (yielded ops a.tmps)=true then Oper.wp P o a w K' Q else K' (a.put o.dst undef) w)
 (hs:aj P md ops Q S f l a w rs):aj P md ops Q S f l a w (i::rs):=fun j hj=>by
 rcases List.mem_cons.1 hj with rfl | hj
 ·exact wpOp_step ho (fun K' hK=>h K' (fun a w hS hW=>hK a w ⟨hS,hW⟩))
 ·exact hs j hj
theorem au {rs:List Nat} {f:Nat} {l:Array Bool} {a:Act} {w:World} (hr:Region.ready md ops l=rs) (hne:rs.isEmpty=false)
 (h:aj P md ops Q S f l a w rs):mM P md ops Q S (f+1) l a w:=fun hS=>by
 subst hr
 refine ⟨fun h0=>(by rw [h0] at hne;cases hne),fun i hi=>wpOp_mono (fun a' w' h'=>⟨fun _=>h'.1,h'.2 h'.1⟩) (h i hi)⟩
theorem bY {f:Nat} {l:Array Bool} {a:Act} {w:World} (hr:Region.ready md ops l=[]) (h:Q .normal a w):mM P md ops Q S f l a w:=fun _=>by
 cases f with
 | zero=>exact ⟨hr,h⟩
 | succ f=>exact ⟨fun _=>h,by rw [hr];simp⟩
theorem aN {id:Nat} {a:Act} {w:World} (S:World→Prop) (hm:P.follows .mixedOrders=true) (hS:S w.drew)
 (h:mM P .any ops Q S ops.size (Array.replicate ops.size false) a w.drew):(Code.region id ops true).wp P Q a w:=
 wp_region_any hm (fe _ _ _ _ (h hS))
end
end Go.Proofs.YtjpndglegpcdnaaGreat
