/-
  Plain data for the statements of this seat (terms, predicates, rules ..) and what it means that cells of memory read as such data. No Go text is walked here.
-/
import Derived.Shelf.SlSortCmp.WholeK
import Derived.Shelf.SlGeneric
import Derived.Ground.SlsfProg
import Derived.Test.YtjpndglegpcdnaaGreatProg
import Derived.Deep.RegionHeld3
import Derived.StillTail
import Derived.ProofKit
import Derived.Test.YtjpndglegpcdnaaGreatRows
import Derived.WalkKit
import Derived.Lib.QuietBelow
import Derived.BigQuiet
set_option linter.unusedVariables false
set_option linter.unusedSimpArgs false
set_option maxRecDepth 100000
set_option maxHeartbeats 8000000
namespace Go.Proofs
open Go.Shelf
theorem AK {α:Type _}{x y:List α}:(x++y).length=x.length+y.length:=List.length_append
theorem AN(a b:Bool):((a&&b)=true)=(a=true∧b=true):=Bool.and_eq_true a b
def Tryz.sortAns_ren:Go.Shelf.Ren:=⟨fun | 6=>77 | 15=>99 | 14=>98 | 28=>135 | 29=>136 | 20=>127 | 21=>128 | 22=>129 | 23=>130 | 24=>131 | 25=>132 | 26=>133 | 27=>134 | 46=>157 | 47=>158 | 48=>159 | 49=>160 | 50=>161 | 57=>182 | n=>n,fun | 22=>109 | 24=>116 | 25=>141 | 3=>3 | 39=>61 | 0=>0 | 53=>31 | 55=>22 | 4=>4 | 46=>184 | 45=>183 | 50=>77 | 5=>5 | 9=>9 | 66=>202 | 70=>206 | 76=>223 | 77=>224 | n=>n,fun | n=>n⟩
theorem Tryz.sortAns:Go.Proofs.SlLaysF0.n6 Tryz.prog Tryz.sortAns_ren:={
 mixed:=by kernel_rfl
 f6:=⟨Tryz.f77.name,by decide,Tryz.func77.trans (congrArg some (by kernel_rfl))⟩
 f14:=⟨Tryz.f98.name,by decide,Tryz.func98.trans (congrArg some (by kernel_rfl))⟩
 f15:=Tryz.func99.trans (congrArg some (by kernel_rfl))
 f20:=⟨Tryz.f127.name,by decide,Tryz.func127.trans (congrArg some (by kernel_rfl))⟩
 f21:=⟨Tryz.f128.name,by decide,Tryz.func128.trans (congrArg some (by kernel_rfl))⟩
 f22:=⟨Tryz.f129.name,by decide,Tryz.func129.trans (congrArg some (by kernel_rfl))⟩
 f23:=⟨Tryz.f130.name,by decide,Tryz.func130.trans (congrArg some (by kernel_rfl))⟩
 f24:=⟨Tryz.f131.name,by decide,Tryz.func131.trans (congrArg some (by kernel_rfl))⟩
 f25:=⟨Tryz.f132.name,by decide,Tryz.func132.trans (congrArg some (by kernel_rfl))⟩
 f26:=⟨Tryz.f133.name,by decide,Tryz.func133.trans (congrArg some (by kernel_rfl))⟩
 f27:=⟨Tryz.f134.name,by decide,Tryz.func134.trans (congrArg some (by kernel_rfl))⟩
 f28:=Tryz.func135.trans (congrArg some (by kernel_rfl))
 f29:=Tryz.func136.trans (congrArg some (by kernel_rfl))
 f46:=⟨Tryz.f157.name,by decide,Tryz.func157.trans (congrArg some (by kernel_rfl))⟩
 f47:=Tryz.func158.trans (congrArg some (by kernel_rfl))
 f48:=Tryz.func159.trans (congrArg some (by kernel_rfl))
 f49:=⟨Tryz.f160.name,by decide,Tryz.func160.trans (congrArg some (by kernel_rfl))⟩
 f50:=⟨Tryz.f161.name,by decide,Tryz.func161.trans (congrArg some (by kernel_rfl))⟩
 f57:=⟨Tryz.f182.name,by decide,Tryz.func182.trans (congrArg some (by kernel_rfl))⟩
 t0:=Tryz.underlying0
 a0:=Tryz.isAgg0
 z0:=Tryz.sizeOf0
 v0:=Tryz.zeroValue0
 t3:=Tryz.underlying3
 a3:=Tryz.isAgg3
 z3:=Tryz.sizeOf3
 v3:=Tryz.zeroValue3
 t4:=Tryz.underlying4
 a4:=Tryz.isAgg4
 z4:=Tryz.sizeOf4
 v4:=Tryz.zeroValue4
 t5:=Tryz.underlying5
 a5:=Tryz.isAgg5
 z5:=Tryz.sizeOf5
 v5:=Tryz.zeroValue5
 t9:=Tryz.underlying9
 a9:=Tryz.isAgg9
 z9:=Tryz.sizeOf9
 v9:=Tryz.zeroValue9
 t22:=Tryz.underlying109
 a22:=Tryz.isAgg109
 z22:=Tryz.sizeOf109
 v22:=Tryz.zeroValue109
 t25:=Tryz.underlying141
 a25:=Tryz.isAgg141
 z25:=Tryz.sizeOf141
 v25:=Tryz.zeroValue141
 t39:=Tryz.underlying61
 a39:=Tryz.isAgg61
 z39:=Tryz.sizeOf61
 v39:=Tryz.zeroValue61
 t45:=Tryz.underlying183
 a45:=Tryz.isAgg183
 z45:=Tryz.sizeOf183
 v45:=Tryz.zeroValue183
 t46:=Tryz.underlying184
 a46:=Tryz.isAgg184
 z46:=Tryz.sizeOf184
 v46:=Tryz.zeroValue184
 t50:=Tryz.underlying77
 a50:=Tryz.isAgg77
 z50:=Tryz.sizeOf77
 v50:=Tryz.zeroValue77
 t53:=Tryz.underlying31
 a53:=Tryz.isAgg31
 z53:=Tryz.sizeOf31
 v53:=Tryz.zeroValue31
 t55:=Tryz.underlying22
 a55:=Tryz.isAgg22
 z55:=Tryz.sizeOf22
 v55:=Tryz.zeroValue22
 t66:=Tryz.underlying202
 a66:=Tryz.isAgg202
 z66:=Tryz.sizeOf202
 v66:=Tryz.zeroValue202
 t70:=Tryz.underlying206
 a70:=Tryz.isAgg206
 z70:=Tryz.sizeOf206
 v70:=Tryz.zeroValue206
 t76:=Tryz.underlying223
 a76:=Tryz.isAgg223
 z76:=Tryz.sizeOf223
 v76:=Tryz.zeroValue223
 t77:=Tryz.underlying224
 a77:=Tryz.isAgg224
 z77:=Tryz.sizeOf224
 v77:=Tryz.zeroValue224 }
end Go.Proofs
namespace Go.Proofs.YtjpndglegpcdnaaGreat
section
variable {P:Program} {md:Region.Mode} {ops:Array Oper} {Q:Exit→Act→World→Prop} {S:World→Prop} {n:Nat}
def kr (P:Program) (md:Region.Mode) (ops:Array Oper) (Q:Exit→Act→World→Prop) (S:World→Prop) (n:Nat):Nat→Array Bool→Act→World→Prop
 | 0,l,a,w=>Region.ready md ops l=[]∧Q .normal a w
 | f+1,l,a,w=>(Region.ready md ops l=[]→Q .normal a w)∧∀i∈Region.ready md ops l,wpOp P ops Q i (fun a' w'=>(i<n→S w')∧kr P md ops Q S n f (l.setIfInBounds i true) a' w') a w
theorem fw:∀(f:Nat) (l:Array Bool) (a:Act) (w:World),kr P md ops Q S n f l a w→wpAny P md ops Q f l a w
 | 0,_,_,_,h=>h
 | f+1,_,_,_,h=>⟨h.1,fun i hi=>wpOp_mono (fun a' w' h'=>fw f _ a' w' h'.2) (h.2 i hi)⟩
structure UptoInv (md:Region.Mode) (ops:Array Oper) (n:Nat) (l:Array Bool):Prop where
 head:HeadInv md ops n l
 sink:Region.sinkB md ops n=true
 chain:Region.chainB md ops n=true
 lt:n<ops.size
theorem ux {i:Nat} {oi:Oper} {v:Value} (hi:ops[i]? = some oi) (hin:i<n) (hsel:∀(j:Nat) (o:Oper) cs b,ops[j]? = some o→o.op≠.select cs b)
 (hQ:∀c a w,Q (.panic c) (a.put oi.dst v) w→Q (.panic c) a w) :
 ∀(f:Nat) (l:Array Bool) (a:Act) (w:World),UptoInv md ops n l →
  (∀j oj,ops[j]? = some oj→j≠i→l.getD j true=false→(∀e∈oj.after,Region.binds md e=true→e.on≠i)→oi.apart ops oj=true) →
  i∈Region.ready md ops l→YieldsIf P ops S oi v a→S w →
  kr P md ops Q S n f (l.setIfInBounds i true) (a.put oi.dst v) w→kr P md ops Q S n (f+1) l a w:=by
 intro f
 induction f with
 | zero=>
   intro l a w _ _ hr hy hS H
   refine ⟨fun h=>(by rw [h] at hr;cases hr),fun j hj=>?_⟩
   by_cases hji:j=i
   ·subst hji;exact hy.wpOp hi hS ⟨fun _=>hS,H⟩
   ·have h1:=ready_mono hj hji
    rw [H.1] at h1
    cases h1
 | succ f ih=>
   intro l a w inv hfree hr hy hS H
   refine ⟨fun h=>(by rw [h] at hr;cases hr),fun j hj=>?_⟩
   by_cases hji:j=i
   ·subst hji;exact hy.wpOp hi hS ⟨fun _=>hS,H⟩
   ·have hjn:j<n:=by
     rcases Nat.lt_or_ge j n with h | h
     ·exact h
     ·exact absurd hj (tail_waits inv.sink inv.chain inv.lt inv.head (n-i) i rfl hin (mem_ready.1 hr).1 j h)
    have h1:=H.2 j (ready_mono hj hji)
    obtain ⟨hjun,oj,hoj,hall⟩:=mem_ready.1 hj
    have hnot:∀e∈oj.after,Region.binds md e=true→e.on≠i:=fun e he hb heq=>by
     have k1:=hall e he hb
     have k0:=(mem_ready.1 hr).1
     rw [heq] at k1
     rw [getD_both k0] at k1
     cases k1
    have h2:=wpOp_putIf hoj (hfree j oj hoj hji hjun hnot) (fun cs b=>hsel i oi cs b hi) (fun cs b=>hsel j oj cs b hoj) hQ hy h1
    have hfree':∀k ok,ops[k]? = some ok→k≠i→(l.setIfInBounds j true).getD k true=false →
     (∀e∈ok.after,Region.binds md e=true→e.on≠i)→oi.apart ops ok=true:=fun k ok hk hki hun hno=>by
     refine hfree k ok hk hki ?_ hno
     by_cases hjk:j=k
     ·subst hjk;exact hjun
     ·rw [getD_set_ne true hjk] at hun;exact hun
    refine wpOp_mono (fun a' w' h3=>⟨h3.2.1,ih (l.setIfInBounds j true) a' w' ⟨inv.head.set hj hjn,inv.sink,inv.chain,inv.lt⟩ hfree' (ready_mono hr (Ne.symm hji)) h3.1 (h3.2.1 hjn) ?_⟩) h2
    rw [Array.setIfInBounds_comm _ _ hji]
    exact h3.2.2
def xS (P:Program) (md:Region.Mode) (ops:Array Oper) (Q:Exit→Act→World→Prop) (S:World→Prop) (n:Nat) (f:Nat) (l:Array Bool) (a:Act) (w:World):Prop:=
 UptoInv md ops n l→S w→kr P md ops Q S n f l a w
theorem xH {i:Nat} {oi:Oper} {v:Value} {f:Nat} {l:Array Bool} {a:Act} {w:World} (hi:ops[i]? = some oi) (hin:decide (i<n)=true)
 (hs:Region.noSelect ops=true) (hf:Region.free md ops l i=true) (hr:(Region.ready md ops l).contains i=true)
 (hQ:∀c a w,Q (.panic c) (a.put oi.dst v) w→Q (.panic c) a w) (hw:Region.wanted oi (yielded ops a.tmps)=true) (hy:∀w,S w→(execOp a.eval oi).run P w=.ok (.value v) w)
 (h:xS P md ops Q S n f (l.setIfInBounds i true) (a.put oi.dst v) w):xS P md ops Q S n (f+1) l a w:=fun inv hS=>by
 have hri:i∈Region.ready md ops l:=by simpa using hr
 have hin':=of_decide_eq_true hin
 exact ux hi hin' (Region.noSelect_spec hs) hQ f l a w inv (Region.free_spec hi hf) hri (.inl ⟨hw,hy⟩) hS (h ⟨inv.head.set hri hin',inv.sink,inv.chain,inv.lt⟩ hS)
theorem ax (i:Nat) {oi:Oper} {v:Value} {f:Nat} {l:Array Bool} {a:Act} {w:World} (h:xS P md ops Q S n f (l.setIfInBounds i true) (a.put oi.dst v) w) (hi:ops[i]? = some oi:=by exact rfl) (hin:decide (i<n)=true:=by kernel_rfl) (hs:Region.noSelect ops=true:=by kernel_rfl) (hf:Region.free md ops l i=true:=by kernel_rfl) (hr:(Region.ready md ops l).contains i=true:=by kernel_rfl)
 (hQ:∀c a w,Q (.panic c) (a.put oi.dst v) w→Q (.panic c) a w:=by exact fun _ _ _ h=>h) (hw:Region.wanted oi (yielded ops a.tmps)=true:=by exact rfl) (hy:∀w,S w→(execOp a.eval oi).run P w=.ok (.value v) w:=by (intro w' hS';(try dsimp only at hS');go_simp;(try with_reducible rfl))):xS P md ops Q S n (f+1) l a w:=xH hi hin hs hf hr hQ hw hy h
def aB (P:Program) (md:Region.Mode) (ops:Array Oper) (Q:Exit→Act→World→Prop) (S:World→Prop) (n f:Nat) (l:Array Bool) (a:Act) (w:World) (rs:List Nat):Prop:=
 ∀i∈rs,wpOp P ops Q i (fun a' w'=>S w'∧xS P md ops Q S n f (l.setIfInBounds i true) a' w') a w
theorem aB.nil {f:Nat} {l:Array Bool} {a:Act} {w:World}:aB P md ops Q S n f l a w []:=fun _ h=>by cases h
theorem aB.cons {f:Nat} {l:Array Bool} {a:Act} {w:World} {i:Nat} {o:Oper} {rs:List Nat} (ho:ops[i]? = some o)
 (h:∀K':Act→World→Prop,Shut (∀a w,S w→xS P md ops Q S n f (l.setIfInBounds i true) a w→K' a w)→if Region.wanted o (yielded ops a.tmps)=true then Oper.wp P o a w K' Q else K' (a.put o.dst undef) w)
 (hs:aB P md ops Q S n f l a w rs):aB P md ops Q S n f l a w (i::rs):=fun j hj=>by
 rcases List.mem_cons.1 hj with rfl | hj
 ·exact wpOp_step ho (fun K' hK=>h K' (fun a w hS hW=>hK a w ⟨hS,hW⟩))
 ·exact hs j hj
theorem aJ {rs:List Nat} {f:Nat} {l:Array Bool} {a:Act} {w:World} (hr:Region.ready md ops l=rs) (hne:rs.isEmpty=false) (hlt:(rs.all fun i=>decide (i<n))=true)
 (h:aB P md ops Q S n f l a w rs):xS P md ops Q S n (f+1) l a w:=fun inv hS=>by
 subst hr
 refine ⟨fun h0=>(by rw [h0] at hne;cases hne),fun i hi=>?_⟩
 have hin:i<n:=by simpa using List.all_eq_true.1 hlt i hi
 exact wpOp_mono (fun a' w' h'=>⟨fun _=>h'.1,h'.2 ⟨inv.head.set hi hin,inv.sink,inv.chain,inv.lt⟩ h'.1⟩) (h i hi)
theorem eu {f:Nat} {l:Array Bool} {a:Act} {w:World} {o:Oper} (hr:Region.ready md ops l=[n]) (hr2:Region.ready md ops (l.setIfInBounds n true)=[]) (ho:ops[n]? = some o)
 (h:∀K':Act→World→Prop,Shut (∀a w,Q .normal a w→K' a w)→if Region.wanted o (yielded ops a.tmps)=true then Oper.wp P o a w K' Q else K' (a.put o.dst undef) w):xS P md ops Q S n (f+1) l a w:=fun inv hS=>by
 refine ⟨fun h0=>(by rw [hr] at h0;cases h0),fun i hi=>?_⟩
 rw [hr] at hi
 obtain rfl:i=n:=by simpa using hi
 refine wpOp_step ho (fun K' hK=>h K' fun a w hq=>hK a w ⟨fun hlt=>absurd hlt (Nat.lt_irrefl _),?_⟩)
 cases f with
 | zero=>exact ⟨hr2,hq⟩
 | succ f=>exact ⟨fun _=>hq,by rw [hr2];simp⟩
theorem bv {id:Nat} {a:Act} {w:World} (n:Nat) (hm:P.follows .mixedOrders=true) (hs:Region.sinkB .any ops n=true) (hc:Region.chainB .any ops n=true) (hn:decide (n<ops.size)=true) (hS:S w.drew)
 (h:xS P .any ops Q S n ops.size (Array.replicate ops.size false) a w.drew):(Code.region id ops true).wp P Q a w:=by
 have hn':=of_decide_eq_true hn
 refine wp_region_any hm (fw _ _ _ _ (h ⟨⟨by simp,fun j oj hoj hl=>?_,fun t ht ht'=>?_⟩,hs,hc,hn'⟩ hS))
 ·rw [getD_replicate_false] at hl;cases hl
 ·simp [ht']
end
section
variable {P:Program} {md:Region.Mode} {ops:Array Oper} {Q:Exit→Act→World→Prop} {S:World→Prop}
theorem zf {j:Nat} {l:Array Bool} (hj:j∈Region.ready md ops l):j<ops.size:=by
 obtain ⟨_,oj,hoj,_⟩:=mem_ready.1 hj
 exact (Array.getElem?_eq_some_iff.1 hoj).1
theorem rP {i:Nat} {oi:Oper} {v:Value} (hi:ops[i]? = some oi) (hsel:∀(j:Nat) (o:Oper) cs b,ops[j]? = some o→o.op≠.select cs b)
 (hQ:∀c a w,Q (.panic c) (a.put oi.dst v) w→Q (.panic c) a w) :
 ∀(f:Nat) (l:Array Bool) (a:Act) (w:World),
  (∀j oj,ops[j]? = some oj→j≠i→l.getD j true=false→(∀e∈oj.after,Region.binds md e=true→e.on≠i)→oi.apart ops oj=true) →
  i∈Region.ready md ops l→YieldsIf P ops S oi v a→S w →
  kr P md ops Q S ops.size f (l.setIfInBounds i true) (a.put oi.dst v) w→kr P md ops Q S ops.size (f+1) l a w:=by
 intro f
 induction f with
 | zero=>
   intro l a w _ hr hy hS H
   refine ⟨fun h=>(by rw [h] at hr;cases hr),fun j hj=>?_⟩
   by_cases hji:j=i
   ·subst hji;exact hy.wpOp hi hS ⟨fun _=>hS,H⟩
   ·have h1:=ready_mono hj hji
    rw [H.1] at h1
    cases h1
 | succ f ih=>
   intro l a w hfree hr hy hS H
   refine ⟨fun h=>(by rw [h] at hr;cases hr),fun j hj=>?_⟩
   by_cases hji:j=i
   ·subst hji;exact hy.wpOp hi hS ⟨fun _=>hS,H⟩
   ·have hjn:=zf hj
    have h1:=H.2 j (ready_mono hj hji)
    obtain ⟨hjun,oj,hoj,hall⟩:=mem_ready.1 hj
    have hnot:∀e∈oj.after,Region.binds md e=true→e.on≠i:=fun e he hb heq=>by
     have k1:=hall e he hb
     have k0:=(mem_ready.1 hr).1
     rw [heq] at k1
     rw [getD_both k0] at k1
     cases k1
    have h2:=wpOp_putIf hoj (hfree j oj hoj hji hjun hnot) (fun cs b=>hsel i oi cs b hi) (fun cs b=>hsel j oj cs b hoj) hQ hy h1
    have hfree':∀k ok,ops[k]? = some ok→k≠i→(l.setIfInBounds j true).getD k true=false →
     (∀e∈ok.after,Region.binds md e=true→e.on≠i)→oi.apart ops ok=true:=fun k ok hk hki hun hno=>by
     refine hfree k ok hk hki ?_ hno
     by_cases hjk:j=k
     ·subst hjk;exact hjun
     ·rw [getD_set_ne true hjk] at hun;exact hun
    refine wpOp_mono (fun a' w' h3=>⟨h3.2.1,ih (l.setIfInBounds j true) a' w' hfree' (ready_mono hr (Ne.symm hji)) h3.1 (h3.2.1 hjn) ?_⟩) h2
    rw [Array.setIfInBounds_comm _ _ hji]
    exact h3.2.2
def nD (P:Program) (md:Region.Mode) (ops:Array Oper) (Q:Exit→Act→World→Prop) (S:World→Prop) (f:Nat) (l:Array Bool) (a:Act) (w:World):Prop:=
 S w→kr P md ops Q S ops.size f l a w
theorem uw {i:Nat} {oi:Oper} {v:Value} {f:Nat} {l:Array Bool} {a:Act} {w:World} (hi:ops[i]? = some oi)
 (hs:Region.noSelect ops=true) (hf:Region.free md ops l i=true) (hr:(Region.ready md ops l).contains i=true)
 (hQ:∀c a w,Q (.panic c) (a.put oi.dst v) w→Q (.panic c) a w) (hw:Region.wanted oi (yielded ops a.tmps)=true) (hy:∀w,S w→(execOp a.eval oi).run P w=.ok (.value v) w)
 (h:nD P md ops Q S f (l.setIfInBounds i true) (a.put oi.dst v) w):nD P md ops Q S (f+1) l a w:=fun hS=>by
 have hri:i∈Region.ready md ops l:=by simpa using hr
 exact rP hi (Region.noSelect_spec hs) hQ f l a w (Region.free_spec hi hf) hri (.inl ⟨hw,hy⟩) hS (h hS)
theorem ab (i:Nat) {oi:Oper} {v:Value} {f:Nat} {l:Array Bool} {a:Act} {w:World} (h:nD P md ops Q S f (l.setIfInBounds i true) (a.put oi.dst v) w) (hi:ops[i]? = some oi:=by exact rfl) (hs:Region.noSelect ops=true:=by kernel_rfl) (hf:Region.free md ops l i=true:=by kernel_rfl) (hr:(Region.ready md ops l).contains i=true:=by kernel_rfl)
 (hQ:∀c a w,Q (.panic c) (a.put oi.dst v) w→Q (.panic c) a w:=by exact fun _ _ _ h=>h) (hw:Region.wanted oi (yielded ops a.tmps)=true:=by exact rfl) (hy:∀w,S w→(execOp a.eval oi).run P w=.ok (.value v) w:=by (intro w' hS';(try dsimp only at hS');go_simp;(try with_reducible rfl))):nD P md ops Q S (f+1) l a w:=uw hi hs hf hr hQ hw hy h
def ak (P:Program) (md:Region.Mode) (ops:Array Oper) (Q:Exit→Act→World→Prop) (S:World→Prop) (f:Nat) (l:Array Bool) (a:Act) (w:World) (rs:List Nat):Prop:=
 ∀i∈rs,wpOp P ops Q i (fun a' w'=>S w'∧nD P md ops Q S f (l.setIfInBounds i true) a' w') a w
theorem ak.nil {f:Nat} {l:Array Bool} {a:Act} {w:World}:ak P md ops Q S f l a w []:=fun _ h=>by cases h
theorem ak.cons {f:Nat} {l:Array Bool} {a:Act} {w:World} {i:Nat} {o:Oper} {rs:List Nat} (ho:ops[i]? = some o)
 (h:∀K':Act→World→Prop,Shut (∀a w,S w→nD P md ops Q S f (l.setIfInBounds i true) a w→K' a w)→if Region.wanted o (yielded ops a.tmps)=true then Oper.wp P o a w K' Q else K' (a.put o.dst undef) w)
 (hs:ak P md ops Q S f l a w rs):ak P md ops Q S f l a w (i::rs):=fun j hj=>by
 rcases List.mem_cons.1 hj with rfl | hj
 ·exact wpOp_step ho (fun K' hK=>h K' (fun a w hS hW=>hK a w ⟨hS,hW⟩))
 ·exact hs j hj
theorem aw {rs:List Nat} {f:Nat} {l:Array Bool} {a:Act} {w:World} (hr:Region.ready md ops l=rs) (hne:rs.isEmpty=false)
 (h:ak P md ops Q S f l a w rs):nD P md ops Q S (f+1) l a w:=fun hS=>by
 subst hr
 refine ⟨fun h0=>(by rw [h0] at hne;cases hne),fun i hi=>wpOp_mono (fun a' w' h'=>⟨fun _=>h'.1,h'.2 h'.1⟩) (h i hi)⟩
theorem bN {f:Nat} {l:Array Bool} {a:Act} {w:World} (hr:Region.ready md ops l=[]) (h:Q .normal a w):nD P md ops Q S f l a w:=fun _=>by
 cases f with
 | zero=>exact ⟨hr,h⟩
 | succ f=>exact ⟨fun _=>h,by rw [hr];simp⟩
theorem aM {id:Nat} {a:Act} {w:World} (S:World→Prop) (hm:P.follows .mixedOrders=true) (hS:S w.drew)
 (h:nD P .any ops Q S ops.size (Array.replicate ops.size false) a w.drew):(Code.region id ops true).wp P Q a w:=
 wp_region_any hm (fw _ _ _ _ (h hS))
end
open Go.RowKit
def bL (o:Oper):Bool:=
 match o.op with
 | .move _ | .assign _ | .pick .. | .load .. | .binOp .. | .unOp .. | .convert .. | .fieldAddr .. | .field .. | .indexAddr .. | .index .. | .extract .. | .slice .. | .lookup .. | .makeInterface .. | .makeFunc .. | .typeAssert ..=>true
 | .call { callee:=.builtin .len,.. }=>true
 | _=>false
def mP (w:World) (v:Value) (r:Result Next):Prop:=r=.ok (.value v) w∨(r=.ok .skip w∧v=undef)
theorem mP.uniq {w:World} {v v':Value} {r:Result Next} (h:mP w v r) (h':mP w v' r):v=v':=by
 rcases h with h | ⟨h,e⟩<;>rcases h' with h' | ⟨h',e'⟩
 ·rw [h] at h';simp at h';exact h'
 ·rw [h] at h';simp at h'
 ·rw [h] at h';simp at h'
 ·rw [e,e']
theorem run_val {P:Program} (w:World) (s:Sem Value):((do pure (Next.value (←s)):Sem Next)).run P w=match s.run P w with | .ok x w'=>.ok (.value x) w' | .halt h w'=>.halt h w':=by
 rw [Sem.run_bind]
 cases s.run P w<;>simp [Result.andThen]
theorem bK {P:Program} {C:World→Prop} {w:World} {v:Value} (s:Sem Value) (h:Oper.quietUpon P C w v (((do pure (Next.value (←s)):Sem Next)).run P w)):mP w v (((do pure (Next.value (←s)):Sem Next)).run P w):=by
 rw [run_val] at h ⊢
 cases hs:s.run P w with
 | ok x w'=>
   rw [hs] at h
   simp only [Oper.quietUpon] at h
   obtain ⟨rfl,rfl⟩:=h
   exact .inl rfl
 | halt x w'=>rw [hs] at h;simp only [Oper.quietUpon] at h
theorem ma {P:Program} {C:World→Prop} {w:World} {v:Value} {ρ:Operand→Value} {o:Oper} (h:bL o=true) (hq:Oper.quietUpon P C w v ((execOp ρ o).run P w)):mP w v ((execOp ρ o).run P w):=by
 obtain ⟨dst,op,type,pos,after,guard⟩:=o
 cases op with
 | move x=>simp only [execOp,Sem.run_pure,Oper.quietUpon] at hq;simp only [execOp,Sem.run_pure];exact .inl (by rw [hq.2])
 | assign x=>simp only [execOp,Sem.run_pure,Oper.quietUpon] at hq;simp only [execOp,Sem.run_pure];exact .inl (by rw [hq.2])
 | pick c a b=>
   simp only [execOp,Sem.run_bind] at hq ⊢
   cases hs:(asBool (ρ c)).run P w with
   | ok x w'=>
     rw [hs] at hq
     simp only [Result.andThen,Sem.run_pure,Oper.quietUpon] at hq ⊢
     obtain ⟨rfl,rfl⟩:=hq
     exact .inl rfl
   | halt x w'=>rw [hs] at hq;simp [Result.andThen,Oper.quietUpon] at hq
 | load t a=>exact bK _ hq
 | binOp op xt x y yt=>exact bK _ hq
 | unOp op xt x=>exact bK _ hq
 | convert s d x=>exact bK _ hq
 | fieldAddr s x f=>exact bK _ hq
 | field s x f=>exact bK _ hq
 | indexAddr t x i=>exact bK _ hq
 | index t x i=>exact bK _ hq
 | extract x i=>exact bK _ hq
 | slice t x lo hi mx=>exact bK _ hq
 | lookup t x i ok=>exact bK _ hq
 | makeInterface t x=>exact bK _ hq
 | makeFunc f a b=>exact bK _ hq
 | typeAssert x t a ok=>exact bK _ hq
 | call c=>
   obtain ⟨callee,args,at_⟩:=c
   cases callee with
   | builtin b=>
     cases b with
     | len=>
       have e:(execOp ρ { dst:=dst,op:=Op.call { callee:=Callee.builtin Builtin.len,args:=args,argTypes:=at_ },type:=type,pos:=pos,after:=after,guard:=guard }).run P w
        = ((do pure (Next.value (←Builtin.len_ at_ type (args.map ρ))):Sem Next)).run P w:=by
        simp only [execOp,resolve,invoke,builtin,Sem.run_bind,Sem.run_pure,Result.andThen_ok]
       rw [e] at hq ⊢
       exact bK _ hq
     | _=>exact absurd h (by simp [bL])
   | value f=>exact absurd h (by simp [bL])
   | invoke r m=>exact absurd h (by simp [bL])
 | _=>exact absurd h (by simp [bL])
section
variable {P:Program} {ops:Array Oper} {C:World→Prop}
def Yld (P:Program) (ops:Array Oper) (C:World→Prop) (o:Oper) (v:Value) (a:Act):Prop:=
 (Region.wanted o (yielded ops a.tmps)=true∧∀w,C w→mP w v ((execOp a.eval o).run P w))∨(Region.wanted o (yielded ops a.tmps)=false∧v=undef)
theorem Yld.uniq {o:Oper} {v v':Value} {a:Act} {w:World} (hC:C w) (h:Yld P ops C o v a) (h':Yld P ops C o v' a):v=v':=by
 rcases h with ⟨h1,h2⟩ | ⟨h1,h2⟩<;>rcases h' with ⟨h3,h4⟩ | ⟨h3,h4⟩
 ·exact (h2 w hC).uniq (h4 w hC)
 ·rw [h1] at h3;cases h3
 ·rw [h1] at h3;cases h3
 ·rw [h2,h4]
theorem Yld.of_same {o:Oper} {v:Value} {a a':Act} (hy:Yld P ops C o v a) (he:execOp a'.eval o=execOp a.eval o)
 (hw:Region.wanted o (yielded ops a'.tmps)=Region.wanted o (yielded ops a.tmps)):Yld P ops C o v a':=by
 unfold Yld at *
 rw [he,hw]
 exact hy
def NoQ:Exit→Act→World→Prop:=fun _ _ _=>False
def oK (P:Program) (ops:Array Oper) (C:World→Prop) (o:Oper) (K:Act→World→Prop) (a:Act) (w:World):Prop:=
 if Region.wanted o (yielded ops a.tmps)=true then o.wp P a w (fun a' w'=>C w'∧K a' w') NoQ else K (a.put o.dst undef) w
def ez (P:Program) (ops:Array Oper) (C:World→Prop) (i:Nat) (K:Act→World→Prop) (a:Act) (w:World):Prop:=
 match ops[i]? with
 | none=>K a w
 | some o=>if bL o=true then ∃v,Yld P ops C o v a∧K (a.put o.dst v) w else oK P ops C o K a w
def js (P:Program) (ops:Array Oper) (C:World→Prop) (Qf:Act→World→Prop):List Nat→Act→World→Prop
 | [],a,w=>Qf a w
 | i::rest,a,w=>ez P ops C i (js P ops C Qf rest) a w
theorem oK.mono {o:Oper} {K K':Act→World→Prop} {a:Act} {w:World} (h:∀a w,(C w→K a w→K' a w)) (hC:C w) (hl:oK P ops C o K a w):oK P ops C o K' a w:=by
 unfold oK at *
 split
 ·rename_i hw
  rw [if_pos hw] at hl
  exact Oper.wp_mono (fun a w ⟨h1,h2⟩=>⟨h1,h a w h1 h2⟩) hl
 ·rename_i hw
  rw [if_neg hw] at hl
  exact h _ _ hC hl
theorem ez.mono {i:Nat} {K K':Act→World→Prop} {a:Act} {w:World} (h:∀a w,(C w→K a w→K' a w)) (hC:C w) (hm:ez P ops C i K a w):ez P ops C i K' a w:=by
 unfold ez at *
 split
 ·rename_i ho;rw [ho] at hm;exact h _ _ hC hm
 ·rename_i o ho
  rw [ho] at hm
  dsimp only at hm
  split
  ·rename_i hq
   rw [if_pos hq] at hm
   obtain ⟨v,h1,h2⟩:=hm
   exact ⟨v,h1,h _ _ hC h2⟩
  ·rename_i hq
   rw [if_neg hq] at hm
   exact oK.mono h hC hm
theorem uB {o:Oper} {a:Act} {w:World} {K:Act→World→Prop} (h:o.wp P a w K NoQ):∃(a0:Act) (u:Value) (w':World),a0.tmps=a.tmps∧K (a0.put o.dst u) w':=by
 unfold Oper.wp at h
 generalize (execOp a.eval o).run P w=r at h
 cases r with
 | ok n w'=>
   cases n<;>simp only [Oper.upon] at h
   case value u=>exact ⟨a,u,w',rfl,h⟩
   case skip=>exact ⟨a,undef,w',rfl,h⟩
   case defer d=>exact ⟨{ a with defers:=d::a.defers },undef,w',rfl,h⟩
   case enter f args=>
    obtain ⟨e,w'',fr,he,_⟩:=h []
    cases e with
    | returned u=>exact ⟨a,u,w'',rfl,he⟩
    | panicked c=>exact he.elim
    | outgrown=>obtain ⟨_,_,hf⟩:=he;exact hf.elim
   case row row args=>
    obtain ⟨u,w'',hr,_⟩:=h default []
    exact ⟨a,u,w'',rfl,hr⟩
 | halt x w'=>
   cases x<;>simp only [Oper.upon] at h
   case panic v=>exact h.elim
theorem wp_put {o:Oper} {a:Act} {w:World} {K:Act→World→Prop} {dst:Option Tmp} {v:Value} (hs:∀cs b,o.op≠.select cs b) (h1:∀d,dst=some d→d∉o.looksAt ops) (h2:∀d,dst=some d→o.dst≠some d)
 (h:o.wp P a w (fun a' w'=>K (a'.put dst v) w') NoQ):o.wp P (a.put dst v) w K NoQ:=by
 unfold Oper.wp at *
 rw [execOp_put o hs a dst v h1]
 generalize (execOp a.eval o).run P w=r at *
 cases r with
 | ok n w'=>
   cases n<;>simp only [Oper.upon] at h ⊢
   case value u=>rw [Act.put_comm a v u h2];exact h
   case skip=>rw [Act.put_comm a v undef h2];exact h
   case defer d=>
    have e:({ (a.put dst v) with defers:=d::(a.put dst v).defers }:Act)=({ a with defers:=d::a.defers }:Act).put dst v:=by cases dst<;>rfl
    rw [e,Act.put_comm _ v undef h2]
    exact h
   case enter f args=>
    refine Calls.mono h fun e w'' he=>?_
    cases e with
    | returned u=>show K _ _;rw [Act.put_comm a v u h2];exact he
    | panicked c=>exact he
    | outgrown=>exact he
   case row row args=>exact Rows.mono h fun u w'' he=>by rw [Act.put_comm a v u h2];exact he
 | halt x w'=>
   cases x<;>simp only [Oper.upon] at h ⊢
   case panic u=>exact h
theorem zC {o:Oper} {a:Act} {w:World} {K:Act→World→Prop} {dst:Option Tmp} {v:Value} (hs:∀cs b,o.op≠.select cs b) (h1:∀d,dst=some d→d∉o.looksAt ops) (h2:∀d,dst=some d→o.dst≠some d)
 (h:o.wp P (a.put dst v) w K NoQ):o.wp P a w (fun a' w'=>K (a'.put dst v) w') NoQ:=by
 unfold Oper.wp at *
 rw [execOp_put o hs a dst v h1] at h
 generalize (execOp a.eval o).run P w=r at *
 cases r with
 | ok n w'=>
   cases n<;>simp only [Oper.upon] at h ⊢
   case value u=>rw [Act.put_comm a v u h2] at h;exact h
   case skip=>rw [Act.put_comm a v undef h2] at h;exact h
   case defer d=>
    have e:({ (a.put dst v) with defers:=d::(a.put dst v).defers }:Act)=({ a with defers:=d::a.defers }:Act).put dst v:=by cases dst<;>rfl
    rw [e,Act.put_comm _ v undef h2] at h
    exact h
   case enter f args=>
    refine Calls.mono h fun e w'' he=>?_
    cases e with
    | returned u=>
      have he:K ((a.put dst v).put o.dst u) w'':=he
      rw [Act.put_comm a v u h2] at he;exact he
    | panicked c=>exact he
    | outgrown=>exact he
   case row row args=>exact Rows.mono h fun u w'' he=>by rw [Act.put_comm a v u h2] at he;exact he
 | halt x w'=>
   cases x<;>simp only [Oper.upon] at h ⊢
   case panic u=>exact h
theorem wp_noQ {o:Oper} {a:Act} {w:World} {K:Act→World→Prop} {Q:Exit→Act→World→Prop} (h:o.wp P a w K NoQ):o.wp P a w K Q:=by
 unfold Oper.wp at *
 generalize (execOp a.eval o).run P w=r at *
 cases r with
 | ok n w'=>
   cases n<;>simp only [Oper.upon] at h ⊢
   all_goals first
    | exact h
    | exact Calls.mono h (fun e w'' he=>by
     cases e with
     | returned u=>exact he
     | panicked c=>exact he.elim
     | outgrown=>obtain ⟨_,_,hf⟩:=he;exact hf.elim)
 | halt x w'=>
   cases x<;>simp only [Oper.upon] at h ⊢
   case panic u=>exact h.elim
theorem Yld.of_tmps {o:Oper} {v:Value} {a a':Act} (hy:Yld P ops C o v a) (h:a'.tmps=a.tmps):Yld P ops C o v a':=by
 have he:a'.eval=a.eval:=by funext x;cases x<;>simp [Act.eval,h]
 exact hy.of_same (by rw [he]) (by rw [h])
theorem xN {o:Oper} {a:Act} {w:World} {K:Act→World→Prop} {Y:Act→Prop} (hY:∀(a0:Act) (u:Value),a0.tmps=a.tmps→Y (a0.put o.dst u)) (h:o.wp P a w K NoQ):o.wp P a w (fun a' w'=>Y a'∧K a' w') NoQ:=by
 unfold Oper.wp at *
 generalize (execOp a.eval o).run P w=r at *
 cases r with
 | ok n w'=>
   cases n<;>simp only [Oper.upon] at h ⊢
   case value u=>exact ⟨hY a u rfl,h⟩
   case skip=>exact ⟨hY a undef rfl,h⟩
   case defer d=>exact ⟨hY { a with defers:=d::a.defers } undef rfl,h⟩
   case enter f args=>
    refine Calls.mono h fun e w'' he=>?_
    cases e with
    | returned u=>exact ⟨hY a u rfl,he⟩
    | panicked c=>exact he
    | outgrown=>exact he
   case row row args=>exact Rows.mono h fun u w'' he=>⟨hY a u rfl,he⟩
 | halt x w'=>
   cases x<;>simp only [Oper.upon] at h ⊢
   case panic u=>exact h
theorem uo {j:Nat} {oi oj:Oper} {v:Value} {K:Act→World→Prop} {a:Act} {w:World} (hj:ops[j]? = some oj) (hap:oi.apart ops oj=true)
 (hsi:∀cs b,oi.op≠.select cs b) (hsj:∀cs b,oj.op≠.select cs b) (hy:Yld P ops C oi v a) (h:ez P ops C j K (a.put oi.dst v) w) :
 ez P ops C j (fun a' w'=>Yld P ops C oi v a'∧K (a'.put oi.dst v) w') a w:=by
 obtain ⟨h1,h2,h3⟩:=Oper.apart_spec hap
 have keep:∀(a0:Act) (u:Value),a0.tmps=a.tmps→Yld P ops C oi v (a0.put oj.dst u):=fun a0 u e=>(hy.of_tmps e).of_same (execOp_put oi hsi a0 oj.dst u h3) (wanted_put oi a0 oj.dst u h3)
 unfold ez at *
 rw [hj] at h ⊢
 dsimp only at h ⊢
 split
 ·rename_i hq
  rw [if_pos hq] at h
  obtain ⟨u,hu,hk⟩:=h
  refine ⟨u,hu.of_same (execOp_put oj hsj a oi.dst v h1).symm (wanted_put oj a oi.dst v h1).symm,keep a u rfl,?_⟩
  rw [←Act.put_comm a v u h2];exact hk
 ·rename_i hq
  rw [if_neg hq] at h
  unfold oK at *
  rw [wanted_put oj a oi.dst v h1] at h
  split
  ·rename_i hw
   rw [if_pos hw] at h
   have h':=xN (Y:=fun a'=>Yld P ops C oi v a') (fun a0 u e=>keep a0 u e) (zC hsj h1 h2 h)
   exact Oper.wp_mono (fun a' w' ⟨x,y,z⟩=>⟨y,x,z⟩) h'
  ·rename_i hw
   rw [if_neg hw] at h
   refine ⟨keep a undef rfl,?_⟩
   rw [←Act.put_comm a v undef h2];exact h
theorem xA {oi oj:Oper} {R N:Act→World→Prop} {a:Act} {w:World} (hap:oi.apart ops oj=true)
 (hsi:∀cs b,oi.op≠.select cs b) (hsj:∀cs b,oj.op≠.select cs b) (hC:C w)
 (hR:∀a' w',C w'→R a' w'→∃v,Yld P ops C oj v a'∧N (a'.put oj.dst v) w') (h:oK P ops C oi R a w) :
 ∃v,Yld P ops C oj v a∧oK P ops C oi N (a.put oj.dst v) w:=by
 obtain ⟨h1,h2,h3⟩:=Oper.apart_spec hap
 have h2':∀d,oj.dst=some d→oi.dst≠some d:=fun d hd he=>h2 d he hd
 unfold oK at h
 by_cases hw:Region.wanted oi (yielded ops a.tmps)=true
 ·rw [if_pos hw] at h
  obtain ⟨a0,u,w0,e0,hC0,hr0⟩:=uB h
  obtain ⟨v,hv,_⟩:=hR _ _ hC0 hr0
  have hva0:Yld P ops C oj v a0:=hv.of_same (execOp_put oj hsj a0 oi.dst u h1).symm (wanted_put oj a0 oi.dst u h1).symm
  have hva:Yld P ops C oj v a:=hva0.of_tmps e0.symm
  refine ⟨v,hva,?_⟩
  unfold oK
  rw [wanted_put oi a oj.dst v h3,if_pos hw]
  refine wp_put hsi h3 h2' ?_
  have hY:∀(b0:Act) (u:Value),b0.tmps=a.tmps→Yld P ops C oj v (b0.put oi.dst u):=fun b0 u e=>(hva.of_tmps e).of_same (execOp_put oj hsj b0 oi.dst u h1) (wanted_put oj b0 oi.dst u h1)
  refine Oper.wp_mono (fun a' w' ⟨y,hc,hr⟩=>?_) (xN (Y:=fun a'=>Yld P ops C oj v a') hY h)
  obtain ⟨v',hv',hn⟩:=hR a' w' hc hr
  have:=y.uniq hc hv'
  subst this
  exact ⟨hc,hn⟩
 ·rw [if_neg hw] at h
  obtain ⟨v,hv,hn⟩:=hR _ _ hC h
  refine ⟨v,hv.of_same (execOp_put oj hsj a oi.dst undef h1).symm (wanted_put oj a oi.dst undef h1).symm,?_⟩
  unfold oK
  rw [wanted_put oi a oj.dst v h3,if_neg hw,Act.put_comm a v undef h2']
  exact hn
structure Graph (ops:Array Oper):Prop where
 sel:∀(j:Nat) (o:Oper) cs b,ops[j]? = some o→o.op≠.select cs b
 back:∀j o,ops[j]? = some o→∀e∈o.after,Region.binds .any e=true→e.on<j
 pair:∀i j oi oj,i<j→ops[i]? = some oi→ops[j]? = some oj→(∀e∈oj.after,Region.binds .any e=true→e.on≠i)→oi.apart ops oj=true
 chain:∀i j oi oj,i<j→ops[i]? = some oi→ops[j]? = some oj→bL oi=false→bL oj=false →
  ∀listed:Array Bool,(∀k ok,ops[k]? = some ok→listed.getD k false=true→∀e∈ok.after,Region.binds .any e=true→listed.getD e.on false=true) →
  (∀e∈oj.after,Region.binds .any e=true→listed.getD e.on false=true)→listed.getD i false=true
theorem sC (G:Graph ops) {Qf:Act→World→Prop} {j:Nat} {oj:Oper} (hj:ops[j]? = some oj):∀(R:List Nat) (a:Act) (w:World),R.Pairwise (· < ·)→(∀i∈R,∃o,ops[i]? = some o)→j∈R →
 (∀i∈R,∀e∈oj.after,Region.binds .any e=true→e.on≠i)→(bL oj=false→∀i∈R,i<j→∀oi,ops[i]? = some oi→bL oi=true)→C w →
 js P ops C Qf R a w→ez P ops C j (fun a' w'=>js P ops C Qf (R.erase j) a' w') a w
 | [],_,_,_,_,hjR,_,_,_,_=>by cases hjR
 | i::R,a,w,hs,hin,hjR,hno,hld,hC,h=>by
   by_cases hij:i=j
   ·subst hij
    rw [List.erase_cons_head]
    exact h
   ·have hjR':j∈R:=by
     rcases List.mem_cons.1 hjR with e | e
     ·exact absurd e.symm hij
     ·exact e
    rw [List.pairwise_cons] at hs
    have hlt:i<j:=hs.1 j hjR'
    obtain ⟨oi,hoi⟩:=hin i (by simp)
    have hap:=G.pair i j oi oj hlt hoi hj (hno i (by simp))
    have hsi:=fun cs b=>G.sel i oi cs b hoi
    have hsj:=fun cs b=>G.sel j oj cs b hj
    have herase:(i::R).erase j=i::R.erase j:=by rw [List.erase_cons_tail];simpa using hij
    rw [herase]
    have ih:=fun a' w' (hc:C w')=>sC G (Qf:=Qf) hj R a' w' hs.2 (fun k hk=>hin k (by simp [hk])) hjR' (fun k hk=>hno k (by simp [hk])) (fun hq k hk=>hld hq k (by simp [hk])) hc
    have h':ez P ops C i (js P ops C Qf R) a w:=h
    unfold ez at h'
    rw [hoi] at h'
    dsimp only at h'
    by_cases hq:bL oi=true
    ·rw [if_pos hq] at h'
     obtain ⟨v,hy,hr⟩:=h'
     have h1:=ih _ _ hC hr
     have h2:=uo hj hap hsi hsj hy h1
     refine ez.mono (fun a' w' hc ⟨y,k⟩=>?_) hC h2
     show ez P ops C i _ a' w'
     unfold ez
     rw [hoi]
     dsimp only
     rw [if_pos hq]
     exact ⟨v,y,k⟩
    ·rw [if_neg hq] at h'
     have hqj:bL oj=true:=by
      cases hqj:bL oj with
      | true=>rfl
      | false=>exact absurd (hld hqj i (by simp) hlt oi hoi) hq
     obtain ⟨v,hv,hn⟩:=xA (N:=js P ops C Qf (R.erase j)) hap hsi hsj hC (fun a' w' hc hr=>by
      have:=ih a' w' hc hr
      unfold ez at this
      rw [hj] at this
      dsimp only at this
      rw [if_pos hqj] at this
      exact this) h'
     unfold ez
     rw [hj]
     dsimp only
     rw [if_pos hqj]
     refine ⟨v,hv,?_⟩
     show ez P ops C i _ _ _
     unfold ez
     rw [hoi]
     dsimp only
     rw [if_neg hq]
     exact hn
theorem oD {Q:Exit→Act→World→Prop} {j:Nat} {oj:Oper} (hj:ops[j]? = some oj) {K K':Act→World→Prop} {a:Act} {w:World} (hC:C w) (h:∀a' w',C w'→K a' w'→K' a' w') (hm:ez P ops C j K a w):wpOp P ops Q j K' a w:=by
 unfold ez at hm
 unfold wpOp
 rw [hj] at hm ⊢
 dsimp only at hm ⊢
 split
 ·rename_i hw
  refine .inl ?_
  split at hm
  ·obtain ⟨v,hy,hk⟩:=hm
   rcases hy with ⟨_,hp⟩ | ⟨hw',_⟩
   ·unfold Oper.wp
    rcases hp w hC with e | ⟨e,e'⟩
    ·rw [e];exact h _ _ hC hk
    ·rw [e];subst e';exact h _ _ hC hk
   ·rw [hw] at hw';cases hw'
  ·unfold oK at hm
   rw [if_pos hw] at hm
   exact wp_noQ (Oper.wp_mono (fun a' w' ⟨hc,hk⟩=>h a' w' hc hk) hm)
 ·rename_i hw
  split at hm
  ·obtain ⟨v,hy,hk⟩:=hm
   rcases hy with ⟨hw',_⟩ | ⟨_,e⟩
   ·exact absurd hw' hw
   ·subst e;exact h _ _ hC hk
  ·unfold oK at hm
   rw [if_neg hw] at hm
   exact h _ _ hC hm
theorem mix_any (G:Graph ops) {Qf:Act→World→Prop} {Q:Exit→Act→World→Prop} (hQ:∀a w,C w→Qf a w→Q .normal a w):∀(R:List Nat) (listed:Array Bool) (a:Act) (w:World),R.Pairwise (· < ·) →
 (∀i,i∈R↔i<ops.size∧listed.getD i true=false)→listed.size=ops.size →
 (∀k ok,ops[k]? = some ok→listed.getD k false=true→∀e∈ok.after,Region.binds .any e=true→listed.getD e.on false=true)→C w →
 js P ops C Qf R a w→wpAny P .any ops Q R.length listed a w:=by
 intro R
 generalize hn:R.length=n
 induction n generalizing R with
 | zero=>
   intro listed a w hs hR hsz hcl hC h
   obtain rfl:=List.eq_nil_of_length_eq_zero hn
   refine ⟨?_,hQ a w hC h⟩
   rw [List.eq_nil_iff_forall_not_mem]
   intro i hi
   obtain ⟨h1,o,ho,_⟩:=mem_ready.1 hi
   have:=(hR i).2 ⟨(Array.getElem?_eq_some_iff.1 ho).1,h1⟩
   cases this
 | succ n ih=>
   intro listed a w hs hR hsz hcl hC h
   have inb:∀i∈R,∃o,ops[i]? = some o:=fun i hi=>⟨_,Array.getElem?_eq_getElem ((hR i).1 hi).1⟩
   have two:∀k,k<ops.size→listed.getD k true=listed.getD k false:=fun k hk=>by
    have:k<listed.size:=by omega
    simp [this]
   refine ⟨fun hr=>?_,fun j hjr=>?_⟩
   ·exfalso
    match R,hn with
    | i::R',_=>
      have hi:=(hR i).1 (by simp)
      obtain ⟨o,ho⟩:=inb i (by simp)
      have:i∈Region.ready .any ops listed:=mem_ready.2 ⟨hi.2,o,ho,fun e he hb=>by
       have hlt:=G.back i o ho e he hb
       have hnot:e.on∉i::R':=fun hm=>by
        rcases List.mem_cons.1 hm with e1 | e1
        ·omega
        ·have:=(List.pairwise_cons.1 hs).1 _ e1;omega
       have:=mt (hR e.on).2 hnot
       have hsz':e.on<ops.size:=by have:=hi.1;omega
       rw [←two _ hsz']
       cases hh:listed.getD e.on true with
       | true=>rfl
       | false=>exact absurd ⟨hsz',hh⟩ this⟩
      rw [hr] at this
      cases this
   ·obtain ⟨hun,oj,hoj,hall⟩:=mem_ready.1 hjr
    have hjs:j<ops.size:=(Array.getElem?_eq_some_iff.1 hoj).1
    have hjR:j∈R:=(hR j).2 ⟨hjs,hun⟩
    have hlst:∀i∈R,listed.getD i false=false:=fun i hi=>by rw [←two i ((hR i).1 hi).1];exact ((hR i).1 hi).2
    have h1:=sC G hoj R a w hs inb hjR (fun i hi e he hb heq=>by
     have:=hall e he hb
     rw [heq,hlst i hi] at this
     cases this) (fun hq i hi hlt oi hoi=>by
     cases hqi:bL oi with
     | true=>rfl
     | false=>
       have:=G.chain i j oi oj hlt hoi hoj hqi hq listed hcl hall
       rw [hlst i hi] at this
       cases this) hC h
    refine oD hoj hC (fun a' w' hc hk=>?_) h1
    refine ih (R.erase j) (by rw [List.length_erase_of_mem hjR,hn];rfl) (listed.setIfInBounds j true) a' w' (hs.sublist List.erase_sublist) (fun i=>?_) (by simp [hsz]) (fun k ok hok hl e he hb=>?_) hc hk
    ·have hnd:R.Nodup:=hs.imp (fun h=>Nat.ne_of_lt h)
     rw [hnd.mem_erase_iff,hR]
     by_cases hij:i=j
     ·subst hij
      simp [hsz]
     ·rw [getD_set_ne true (Ne.symm hij)]
      simp [hij]
    ·by_cases hkj:k=j
     ·subst hkj
      rw [hoj] at hok
      obtain rfl:=Option.some.inj hok
      exact getD_set_true (hall e he hb)
     ·rw [getD_set_ne false (Ne.symm hkj)] at hl
      exact getD_set_true (hcl k ok hok hl e he hb)
end
def pE (o:Oper) (acc:List Nat):Nat:=o.after.toList.foldl (fun s e=>if Region.binds .any e then s ||| 2 ^ e.on ||| acc.getD e.on 0 else s) 0
def Ag:List Oper→List Nat→List Nat
 | [],acc=>acc
 | o::r,acc=>Ag r (acc++[pE o acc])
def vT (ops:Array Oper):Bool:=
 Region.noSelect ops &&
 (List.range ops.size).all (fun j=>match ops[j]? with | some o=>o.after.all (fun e=>!Region.binds .any e||decide (e.on<j)) | none=>true) &&
 (List.range ops.size).all (fun j=>(List.range j).all fun i=>match ops[i]?,ops[j]? with
  | some oi,some oj=>(oj.after.any fun e=>Region.binds .any e&&e.on==i)||oi.apart ops oj
  | _,_=>true) &&
 (let m:=Ag ops.toList []
  (List.range ops.size).all fun j=>(List.range j).all fun i=>match ops[i]?,ops[j]? with
   | some oi,some oj=>bL oi||bL oj||(m.getD j 0).testBit i
   | _,_=>true)
def Closed (ops:Array Oper) (listed:Array Bool):Prop:=∀k ok,ops[k]? = some ok→listed.getD k false=true→∀e∈ok.after,Region.binds .any e=true→listed.getD e.on false=true
def rS (ops:Array Oper) (o:Oper) (i:Nat):Prop:=∀listed,Closed ops listed→(∀e∈o.after,Region.binds .any e=true→listed.getD e.on false=true)→listed.getD i false=true
theorem ro {ops:Array Oper} {o:Oper} {acc:List Nat} (hacc:∀k ok i,ops[k]? = some ok→k<acc.length→(acc.getD k 0).testBit i=true→rS ops ok i) (hb:∀e∈o.after,Region.binds .any e=true→e.on<acc.length∧∃ok,ops[e.on]? = some ok)
 {i:Nat} (h:(pE o acc).testBit i=true):rS ops o i:=by
 intro listed hcl hdep
 have key:∀(l:List Edge) (s:Nat),(∀e∈l,e∈o.after.toList)→(s.testBit i=true→listed.getD i false=true)→(l.foldl (fun s e=>if Region.binds .any e then s ||| 2 ^ e.on ||| acc.getD e.on 0 else s) s).testBit i=true→listed.getD i false=true:=by
  intro l
  induction l with
  | nil=>intro s _ hs h;exact hs h
  | cons e l ih=>
    intro s hl hs h
    refine ih _ (fun e' h'=>hl e' (by simp [h'])) ?_ h
    intro h2
    have he:e∈o.after:=by simpa using hl e (by simp)
    dsimp only at h2
    split at h2
    ·rename_i hbind
     rw [Nat.testBit_or,Nat.testBit_or,Bool.or_eq_true,Bool.or_eq_true] at h2
     have hdl:=hdep e he hbind
     rcases h2 with (h2 | h2) | h2
     ·exact hs h2
     ·rw [Nat.testBit_two_pow] at h2
      have:e.on=i:=by simpa using h2
      rw [←this];exact hdl
     ·obtain ⟨h3,ok,h4⟩:=hb e he hbind
      exact hacc e.on ok i h4 h3 h2 listed hcl (hcl e.on ok h4 hdl)
    ·exact hs h2
 exact key o.after.toList 0 (fun e h=>h) (by simp) h
theorem nh {ops:Array Oper} (hb:∀j o,ops[j]? = some o→∀e∈o.after,Region.binds .any e=true→e.on<j):∀(l:List Oper) (acc:List Nat),(∀j,l[j]? = ops[acc.length+j]?) →
 (∀k ok i,ops[k]? = some ok→k<acc.length→(acc.getD k 0).testBit i=true→rS ops ok i) →
 ∀k ok i,ops[k]? = some ok→k<acc.length+l.length→((Ag l acc).getD k 0).testBit i=true→rS ops ok i
 | [],acc,_,hacc,k,ok,i,hk,hlt,h=>hacc k ok i hk (by simpa using hlt) h
 | o::l,acc,hl,hacc,k,ok,i,hk,hlt,h=>by
   have h0:ops[acc.length]? = some o:=by simpa using (hl 0).symm
   refine nh hb l (acc++[pE o acc]) (fun j=>?_) ?_ k ok i hk (by simp at hlt ⊢;omega) h
   ·have:=hl (j+1)
    simpa [Nat.add_assoc,Nat.add_comm 1 j] using this
   ·intro k ok i hk hlt h
    simp only [AK,List.length_singleton] at hlt
    rcases Nat.lt_or_ge k acc.length with h1 | h1
    ·rw [List.getD_eq_getElem?_getD,List.getElem?_append_left h1,←List.getD_eq_getElem?_getD] at h
     exact hacc k ok i hk h1 h
    ·obtain rfl:k=acc.length:=by omega
     rw [h0] at hk
     obtain rfl:=Option.some.inj hk
     have:(acc++[pE o acc]).getD acc.length 0=pE o acc:=by simp
     rw [this] at h
     refine ro hacc (fun e he hbind=>?_) h
     have h2:=hb acc.length o h0 e he hbind
     refine ⟨h2,?_⟩
     have:acc.length<ops.size:=(Array.getElem?_eq_some_iff.1 h0).1
     exact ⟨_,Array.getElem?_eq_getElem (by omega)⟩
theorem yD {ops:Array Oper} (h:vT ops=true):Graph ops:=by
 unfold vT at h
 simp only [AN] at h
 obtain ⟨⟨⟨h1,h2⟩,h3⟩,h4⟩:=h
 have hback:∀j o,ops[j]? = some o→∀e∈o.after,Region.binds .any e=true→e.on<j:=by
  intro j o hj e he hb
  have:=List.all_eq_true.1 h2 j (List.mem_range.2 (Array.getElem?_eq_some_iff.1 hj).1)
  rw [hj] at this
  have:=Array.all_eq_true'.1 this e he
  simpa [hb] using this
 refine ⟨fun j o cs b hj=>Region.noSelect_spec h1 j o cs b hj,hback,?_,?_⟩
 ·intro i j oi oj hij hi hj hno
  have:=List.all_eq_true.1 h3 j (List.mem_range.2 (Array.getElem?_eq_some_iff.1 hj).1)
  have:=List.all_eq_true.1 this i (List.mem_range.2 hij)
  rw [hi,hj] at this
  simp only [Bool.or_eq_true] at this
  rcases this with h | h
  ·obtain ⟨e,he,hb⟩:=Array.any_eq_true'.1 h
   simp only [AN,beq_iff_eq] at hb
   exact absurd hb.2 (hno e he hb.1)
  ·exact h
 ·intro i j oi oj hij hi hj hqi hqj listed hcl hdep
  have:=List.all_eq_true.1 h4 j (List.mem_range.2 (Array.getElem?_eq_some_iff.1 hj).1)
  have:=List.all_eq_true.1 this i (List.mem_range.2 hij)
  rw [hi,hj] at this
  simp only [hqi,hqj,Bool.false_or] at this
  have hB:=nh hback ops.toList [] (fun j=>by simp) (fun k ok i _ hlt=>absurd hlt (by simp)) j oj i hj (by simpa using (Array.getElem?_eq_some_iff.1 hj).1) this
  exact hB listed hcl hdep
section
variable {P:Program} {ops:Array Oper} {C:World→Prop} {Qf:Act→World→Prop}
def hI (P:Program) (ops:Array Oper) (C:World→Prop) (Qf:Act→World→Prop):List Oper→Act→World→Prop
 | [],a,w=>Qf a w
 | o::rest,a,w=>if bL o=true then ∃v,Yld P ops C o v a∧hI P ops C Qf rest (a.put o.dst v) w else oK P ops C o (hI P ops C Qf rest) a w
theorem xM (l:List Oper):∀k,(∀j,l[j]? = ops[k+j]?)→js P ops C Qf (List.range' k l.length)=hI P ops C Qf l:=by
 induction l with
 | nil=>intro k _;rfl
 | cons o l ih=>
   intro k h
   have h0:ops[k]? = some o:=by simpa using (h 0).symm
   have ih':=ih (k+1) (fun j=>by have:=h (j+1);simpa [Nat.add_assoc,Nat.add_comm 1 j] using this)
   funext a w
   show ez P ops C k (js P ops C Qf (List.range' (k+1) l.length)) a w=_
   rw [ih']
   unfold ez
   rw [h0]
   rfl
theorem xh (m j:Nat):(Array.replicate m false).getD j false=false:=by
 rcases Nat.lt_or_ge j m with h | h
 ·simp [h]
 ·simp [h]
theorem cU {id:Nat} {Q:Exit→Act→World→Prop} {a:Act} {w:World} {l:List Oper} (C:World→Prop) (hm:P.follows .mixedOrders=true) (hB:vT l.toArray=true) (hC:C w.drew)
 (h:hI P l.toArray C (fun a' w'=>C w'→Q .normal a' w') l a w.drew):(Code.region id l.toArray true).wp P Q a w:=by
 have G:=yD hB
 refine wp_region_any hm ?_
 have h1:js P l.toArray C (fun a' w'=>C w'→Q .normal a' w') (List.range l.length) a w.drew:=by
  rw [List.range_eq_range',xM l 0 (by simp)]
  exact h
 have:=mix_any G (Q:=Q) (fun a w hc h=>h hc) (List.range l.length) (Array.replicate l.toArray.size false) a w.drew List.pairwise_lt_range (fun i=>by
  rw [List.mem_range]
  constructor
  ·intro hi
   exact ⟨by simpa using hi,by simp [hi]⟩
  ·intro hi
   simpa using hi.1) (by simp) (fun k ok hk hl=>by
    have:(Array.replicate l.toArray.size false).getD k false=false:=by
     exact xh _ _
    rw [this] at hl
    cases hl) hC h1
 simpa using this
theorem lQ {a:Act} {w:World} (h:Qf a w):hI P ops C Qf [] a w:=h
theorem yR {o:Oper} {rest:List Oper} {a:Act} {w:World} (hw:Region.wanted o (yielded ops a.tmps)=false) (h:hI P ops C Qf rest (a.put o.dst undef) w):hI P ops C Qf (o::rest) a w:=by
 unfold hI
 split
 ·exact ⟨undef,.inr ⟨hw,rfl⟩,h⟩
 ·unfold oK
  rw [hw,if_neg (by simp)]
  exact h
theorem aY {o:Oper} {rest:List Oper} {a:Act} {w:World} (hq:bL o=true) (hw:Region.wanted o (yielded ops a.tmps)=true) (h:∀K:Act→Prop,(∀a',hI P ops C Qf rest a' w→K a')→o.quiet P a C K):hI P ops C Qf (o::rest) a w:=by
 unfold hI
 rw [if_pos hq]
 obtain ⟨v,h1,h2⟩:=h _ (fun _ h=>h)
 exact ⟨v,.inl ⟨hw,fun w hc=>ma hq (h1 w hc)⟩,h2⟩
theorem cB {o:Oper} {rest:List Oper} {a:Act} {w:World} (hq:bL o=false) (hw:Region.wanted o (yielded ops a.tmps)=true) (h:∀K:Act→World→Prop,(∀a' w',(C w'∧hI P ops C Qf rest a' w')→K a' w')→o.wp P a w K NoQ):hI P ops C Qf (o::rest) a w:=by
 unfold hI
 rw [if_neg (by rw [hq];simp)]
 unfold oK
 rw [if_pos hw]
 exact h _ (fun _ _ h=>h)
def eC (w:World):World→Prop:=fun w'=>∃p:Regrown,w'=Sort.grow (redrawn w p.d) p.os
theorem eC.drew (w:World):eC w w.drew:=⟨⟨w.drawn+1,#[]⟩,by rw [Sort.grow_empty];rfl⟩
theorem eC.of {w w':World} (h:Below w.heap.size w w'):eC w w':=regrown_of_below h
theorem eC.below {w w':World} (h:eC w w'):Below w.heap.size w w':=by obtain ⟨p,rfl⟩:=h;exact below_regrown _ _ _
end
open Go.ChangeShapes Go.WideShapes Go.ChangeAt Go.RowKit
theorem ent {P:Program} {f:FuncId} {fn:Func} {c:Code} (hf:P.funcs[f]? = some fn) (hname:(fn.name == "runtime.NumGoroutine")=false) (hb:fn.body=some c) (args:Array Value) (w:World) :
 (callFunc f args).run P w=.ok (.enter f args) w:=by
 have h1:fn.name ≠ "runtime.NumGoroutine":=by simpa using hname
 simp [callFunc,hf,h1,hb,mark]
structure Tm where
 kind:Int
 n:Int
 s:ByteArray
 l:List Tm
def eL (w:World) (B k:Nat) (A:Option Addr) (n:Nat) (P:Nat→List Value→Prop):Prop:=
 0<n→∃b off,A=some ⟨b,off,none⟩∧b<B∧∀i,i<n→∃vs:List Value,vs.length=k∧P i vs∧∀j v,vs[j]? = some v→w.cell? ⟨b,off+i*k+j,none⟩=some v
theorem eL.mono {w:World} {B k n:Nat} {A:Option Addr} {P Q:Nat→List Value→Prop} (h:eL w B k A n P) (hpq:∀i vs,i<n→P i vs→Q i vs):eL w B k A n Q:=fun hn=>by
 obtain ⟨b,off,e,hb,hc⟩:=h hn
 refine ⟨b,off,e,hb,fun i hi=>?_⟩
 obtain ⟨vs,hl,hp,hv⟩:=hc i hi
 exact ⟨vs,hl,hpq i vs hi hp,hv⟩
theorem eL.more {w:World} {B B' k n:Nat} {A:Option Addr} {P:Nat→List Value→Prop} (h:eL w B k A n P) (hB:B≤B'):eL w B' k A n P:=fun hn=>by
 obtain ⟨b,off,e,hb,hc⟩:=h hn
 exact ⟨b,off,e,by omega,hc⟩
theorem eL.below {w w':World} {B C k n:Nat} {A:Option Addr} {P:Nat→List Value→Prop} (h:eL w B k A n P) (hw:Below C w w') (hB:B≤C):eL w' B k A n P:=fun hn=>by
 obtain ⟨b,off,e,hb,hc⟩:=h hn
 refine ⟨b,off,e,hb,fun i hi=>?_⟩
 obtain ⟨vs,hl,hp,hv⟩:=hc i hi
 exact ⟨vs,hl,hp,fun j v hj=>(hw.cell (p:=⟨b,off+i*k+j,none⟩) (by show b<C;omega)).trans (hv j v hj)⟩
theorem eL.tail {w:World} {B k n:Nat} {A:Option Addr} {P:Nat→List Value→Prop} (h:eL w B k A n P) {m:Nat} (hm:m≤n):eL w B k A m P:=fun hn=>by
 obtain ⟨b,off,e,hb,hc⟩:=h (by omega)
 exact ⟨b,off,e,hb,fun i hi=>hc i (by omega)⟩
def I64 (n:Int):Prop:=-9223372036854775808≤n∧n≤9223372036854775807
def RTm (w:World) (B:Nat):Nat→Tm→List Value→Prop
 | 0,_,_=>False
 | d+1,t,vs=>∃A c,vs=[.int .i64 t.kind,.int .i64 t.n,.string t.s,.slice A t.l.length c]∧t.l.length≤c∧(t.l.length*40≤140737488351232∧c≤9223372036854775807)∧t.s.size≤140737488351232∧I64 t.kind∧I64 t.n ∧
  eL w B 4 A t.l.length (fun i vs=>∃x,t.l[i]? = some x∧RTm w B d x vs)
def jt (w:World) (B d:Nat) (ts:List Tm) (A:Option Addr):Prop:=eL w B 4 A ts.length (fun i vs=>∃x,ts[i]? = some x∧RTm w B d x vs)
theorem RTm.below {w w':World} {B C:Nat} (hw:Below C w w') (hB:B≤C):∀{d:Nat} {t:Tm} {vs:List Value},RTm w B d t vs→RTm w' B d t vs
 | 0,_,_,h=>h.elim
 | d+1,t,vs,⟨A,c,e,h1,h2,h3,h4,h5,h6⟩=>⟨A,c,e,h1,h2,h3,h4,h5,(h6.below hw hB).mono fun i vs _ ⟨x,hx,hr⟩=>⟨x,hx,RTm.below hw hB hr⟩⟩
theorem RTm.more {w:World} {B B':Nat} (hB:B≤B'):∀{d:Nat} {t:Tm} {vs:List Value},RTm w B d t vs→RTm w B' d t vs
 | 0,_,_,h=>h.elim
 | d+1,t,vs,⟨A,c,e,h1,h2,h3,h4,h5,h6⟩=>⟨A,c,e,h1,h2,h3,h4,h5,(h6.more hB).mono fun i vs _ ⟨x,hx,hr⟩=>⟨x,hx,RTm.more hB hr⟩⟩
theorem jt.below {w w':World} {B C d:Nat} {ts:List Tm} {A:Option Addr} (h:jt w B d ts A) (hw:Below C w w') (hB:B≤C):jt w' B d ts A:=
 (eL.below h hw hB).mono fun i vs _ ⟨x,hx,hr⟩=>⟨x,hx,RTm.below hw hB hr⟩
theorem jt.more {w:World} {B B' d:Nat} {ts:List Tm} {A:Option Addr} (h:jt w B d ts A) (hB:B≤B'):jt w B' d ts A:=
 (eL.more h hB).mono fun i vs _ ⟨x,hx,hr⟩=>⟨x,hx,RTm.more hB hr⟩
end Go.Proofs.YtjpndglegpcdnaaGreat
