/- A region that draws its order: one condition on the world that every operation keeps, and no last operation that waits for all others. -/
import Derived.Test.YtkdonhhbpacgmaaGreatHeld
set_option linter.unusedVariables false
set_option linter.unusedSimpArgs false
namespace Go.Proofs.YtkdonhhbpacgmaaGreat
section
variable {P : Program} {md : Region.Mode} {ops : Array Oper} {Q : Exit → Act → World → Prop} {S : World → Prop}
theorem ready_lt {j : Nat} {l : Array Bool} (hj : j ∈ Region.ready md ops l) : j < ops.size := by
 obtain ⟨_, oj, hoj, _⟩ := mem_ready.1 hj
 exact (Array.getElem?_eq_some_iff.1 hoj).1
theorem uptoA_first {i : Nat} {oi : Oper} {v : Value} (hi : ops[i]? = some oi) (hsel : ∀ (j : Nat) (o : Oper) cs b, ops[j]? = some o → o.op ≠ .select cs b)
   (hQ : ∀ c a w, Q (.panic c) (a.put oi.dst v) w → Q (.panic c) a w) :
   ∀ (f : Nat) (l : Array Bool) (a : Act) (w : World),
     (∀ j oj, ops[j]? = some oj → j ≠ i → l.getD j true = false → (∀ e ∈ oj.after, Region.binds md e = true → e.on ≠ i) → oi.apart ops oj = true) →
     i ∈ Region.ready md ops l → YieldsIf P ops S oi v a → S w →
     wpUpto P md ops Q S ops.size f (l.setIfInBounds i true) (a.put oi.dst v) w → wpUpto P md ops Q S ops.size (f + 1) l a w := by
 intro f
 induction f with
 | zero =>
   intro l a w _ hr hy hS H
   refine ⟨fun h => (by rw [h] at hr; cases hr), fun j hj => ?_⟩
   by_cases hji : j = i
   · subst hji; exact hy.wpOp hi hS ⟨fun _ => hS, H⟩
   · have h1 := ready_mono hj hji
     rw [H.1] at h1
     cases h1
 | succ f ih =>
   intro l a w hfree hr hy hS H
   refine ⟨fun h => (by rw [h] at hr; cases hr), fun j hj => ?_⟩
   by_cases hji : j = i
   · subst hji; exact hy.wpOp hi hS ⟨fun _ => hS, H⟩
   · have hjn := ready_lt hj
     have h1 := H.2 j (ready_mono hj hji)
     obtain ⟨hjun, oj, hoj, hall⟩ := mem_ready.1 hj
     have hnot : ∀ e ∈ oj.after, Region.binds md e = true → e.on ≠ i := fun e he hb heq => by
       have k1 := hall e he hb
       have k0 := (mem_ready.1 hr).1
       rw [heq] at k1
       rw [getD_both k0] at k1
       cases k1
     have h2 := wpOp_putIf hoj (hfree j oj hoj hji hjun hnot) (fun cs b => hsel i oi cs b hi) (fun cs b => hsel j oj cs b hoj) hQ hy h1
     have hfree' : ∀ k ok, ops[k]? = some ok → k ≠ i → (l.setIfInBounds j true).getD k true = false →
         (∀ e ∈ ok.after, Region.binds md e = true → e.on ≠ i) → oi.apart ops ok = true := fun k ok hk hki hun hno => by
       refine hfree k ok hk hki ?_ hno
       by_cases hjk : j = k
       · subst hjk; exact hjun
       · rw [getD_set_ne true hjk] at hun; exact hun
     refine wpOp_mono (fun a' w' h3 => ⟨h3.2.1, ih (l.setIfInBounds j true) a' w' hfree' (ready_mono hr (Ne.symm hji)) h3.1 (h3.2.1 hjn) ?_⟩) h2
     rw [Array.setIfInBounds_comm _ _ hji]
     exact h3.2.2
def UptoA (P : Program) (md : Region.Mode) (ops : Array Oper) (Q : Exit → Act → World → Prop) (S : World → Prop) (f : Nat) (l : Array Bool) (a : Act) (w : World) : Prop :=
 S w → wpUpto P md ops Q S ops.size f l a w
theorem uptoA_take {i : Nat} {oi : Oper} {v : Value} {f : Nat} {l : Array Bool} {a : Act} {w : World} (hi : ops[i]? = some oi)
   (hs : Region.noSelect ops = true) (hf : Region.free md ops l i = true) (hr : (Region.ready md ops l).contains i = true)
   (hQ : ∀ c a w, Q (.panic c) (a.put oi.dst v) w → Q (.panic c) a w) (hw : Region.wanted oi (yielded ops a.tmps) = true) (hy : ∀ w, S w → (execOp a.eval oi).run P w = .ok (.value v) w)
   (h : UptoA P md ops Q S f (l.setIfInBounds i true) (a.put oi.dst v) w) : UptoA P md ops Q S (f + 1) l a w := fun hS => by
 have hri : i ∈ Region.ready md ops l := by simpa using hr
 exact uptoA_first hi (Region.noSelect_spec hs) hQ f l a w (Region.free_spec hi hf) hri (.inl ⟨hw, hy⟩) hS (h hS)
def AllUptoA (P : Program) (md : Region.Mode) (ops : Array Oper) (Q : Exit → Act → World → Prop) (S : World → Prop) (f : Nat) (l : Array Bool) (a : Act) (w : World) (rs : List Nat) : Prop :=
 ∀ i ∈ rs, wpOp P ops Q i (fun a' w' => S w' ∧ UptoA P md ops Q S f (l.setIfInBounds i true) a' w') a w
theorem AllUptoA.nil {f : Nat} {l : Array Bool} {a : Act} {w : World} : AllUptoA P md ops Q S f l a w [] := fun _ h => by cases h
theorem AllUptoA.cons {f : Nat} {l : Array Bool} {a : Act} {w : World} {i : Nat} {o : Oper} {rs : List Nat} (ho : ops[i]? = some o)
   (h : ∀ K' : Act → World → Prop, Shut (∀ a w, S w → UptoA P md ops Q S f (l.setIfInBounds i true) a w → K' a w) → if Region.wanted o (yielded ops a.tmps) = true then Oper.wp P o a w K' Q else K' (a.put o.dst undef) w)
   (hs : AllUptoA P md ops Q S f l a w rs) : AllUptoA P md ops Q S f l a w (i :: rs) := fun j hj => by
 rcases List.mem_cons.1 hj with rfl | hj
 · exact wpOp_step ho (fun K' hK => h K' (fun a w hS hW => hK a w ⟨hS, hW⟩))
 · exact hs j hj
theorem uptoA_ready {rs : List Nat} {f : Nat} {l : Array Bool} {a : Act} {w : World} (hr : Region.ready md ops l = rs) (hne : rs.isEmpty = false)
   (h : AllUptoA P md ops Q S f l a w rs) : UptoA P md ops Q S (f + 1) l a w := fun hS => by
 subst hr
 refine ⟨fun h0 => (by rw [h0] at hne; cases hne), fun i hi => wpOp_mono (fun a' w' h' => ⟨fun _ => h'.1, h'.2 h'.1⟩) (h i hi)⟩
theorem uptoA_done {f : Nat} {l : Array Bool} {a : Act} {w : World} (hr : Region.ready md ops l = []) (h : Q .normal a w) : UptoA P md ops Q S f l a w := fun _ => by
 cases f with
 | zero => exact ⟨hr, h⟩
 | succ f => exact ⟨fun _ => h, by rw [hr]; simp⟩
theorem wp_region_uptoA {id : Nat} {a : Act} {w : World} (S : World → Prop) (hm : P.follows .mixedOrders = true) (hS : S w.drew)
   (h : UptoA P .any ops Q S ops.size (Array.replicate ops.size false) a w.drew) : (Code.region id ops true).wp P Q a w :=
 wp_region_any hm (wpAny_of_upto _ _ _ _ (h hS))
end
end Go.Proofs.YtkdonhhbpacgmaaGreat
