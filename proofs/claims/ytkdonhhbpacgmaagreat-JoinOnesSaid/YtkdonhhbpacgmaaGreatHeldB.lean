/- A region that draws its order: one condition on the world that holds till one of the operations T is done; these wait for whatever needs it. -/
import Derived.Test.YtkdonhhbpacgmaaGreatHeld
set_option linter.unusedVariables false
set_option linter.unusedSimpArgs false
namespace Go.Proofs.YtkdonhhbpacgmaaGreat
section
variable {P : Program} {md : Region.Mode} {ops : Array Oper} {Q : Exit → Act → World → Prop} {S : World → Prop} {T : List Nat}
def SB (T : List Nat) (S : World → Prop) (l : Array Bool) (w : World) : Prop := (∀ b ∈ T, l.getD b false = false) → S w
theorem SB.done {l : Array Bool} {w : World} (b : Nat) (hb : T.contains b = true) (h : l.getD b false = true) : SB T S l w := fun hn => by
 have := hn b (by simpa using hb)
 rw [h] at this; cases this
def wpB (P : Program) (md : Region.Mode) (ops : Array Oper) (Q : Exit → Act → World → Prop) (S : World → Prop) (T : List Nat) : Nat → Array Bool → Act → World → Prop
 | 0, l, a, w => Region.ready md ops l = [] ∧ Q .normal a w
 | f + 1, l, a, w => (Region.ready md ops l = [] → Q .normal a w) ∧ ∀ i ∈ Region.ready md ops l, wpOp P ops Q i (fun a' w' => SB T S (l.setIfInBounds i true) w' ∧ wpB P md ops Q S T f (l.setIfInBounds i true) a' w') a w
theorem wpAny_of_B : ∀ (f : Nat) (l : Array Bool) (a : Act) (w : World), wpB P md ops Q S T f l a w → wpAny P md ops Q f l a w
 | 0, _, _, _, h => h
 | f + 1, _, _, _, h => ⟨h.1, fun i hi => wpOp_mono (fun a' w' h' => wpAny_of_B f _ a' w' h'.2) (h.2 i hi)⟩
def ClosedB (md : Region.Mode) (ops : Array Oper) (l : Array Bool) : Prop :=
 ∀ b, l.getD b false = true → ∀ o, ops[b]? = some o → ∀ e ∈ o.after, Region.binds md e = true → l.getD e.on false = true
theorem ClosedB.set {l : Array Bool} {j : Nat} (h : ClosedB md ops l) (hj : j ∈ Region.ready md ops l) : ClosedB md ops (l.setIfInBounds j true) := fun b hd o ho e he hbi => by
 by_cases hjb : j = b
 · subst hjb
   obtain ⟨_, o', ho', hall⟩ := mem_ready.1 hj
   rw [ho] at ho'
   simp only [Option.some.injEq] at ho'
   subst ho'
   exact getD_set_true (hall e he hbi)
 · rw [getD_set_ne false hjb] at hd
   exact getD_set_true (h b hd o ho e he hbi)
def reachB (md : Region.Mode) (ops : Array Oper) : Nat → Nat → Nat → Bool
 | 0, _, _ => false
 | f + 1, b, i => match ops[b]? with | some o => o.after.toList.any fun e => Region.binds md e && (e.on == i || reachB md ops f e.on i) | none => false
theorem reachB_done {l : Array Bool} {i : Nat} (hc : ClosedB md ops l) : ∀ (f b : Nat), reachB md ops f b i = true → l.getD b false = true → l.getD i false = true
 | 0, _, h, _ => by cases h
 | f + 1, b, h, hd => by
   unfold reachB at h
   split at h
   · rename_i o ho
     obtain ⟨e, he, h3⟩ := List.any_eq_true.1 h
     rw [Bool.and_eq_true, Bool.or_eq_true] at h3
     have h4 := hc b hd o ho e (by simpa using he) h3.1
     rcases h3.2 with h5 | h5
     · have h6 : e.on = i := by simpa using h5
       rwa [h6] at h4
     · exact reachB_done hc f e.on h5 h4
   · cases h
def waitsB (md : Region.Mode) (ops : Array Oper) (T : List Nat) (i : Nat) : Bool := T.all fun b => b != i && reachB md ops 12 b i
theorem waitsB_undone {l : Array Bool} {i b : Nat} (hw : waitsB md ops T i = true) (hc : ClosedB md ops l) (hi : l.getD i true = false) (hb : b ∈ T) : b ≠ i ∧ l.getD b false = false := by
 have h := List.all_eq_true.1 hw b hb
 rw [Bool.and_eq_true] at h
 obtain ⟨h1, h2⟩ := h
 refine ⟨by simpa using h1, ?_⟩
 cases hd : l.getD b false with
 | false => rfl
 | true =>
   have := reachB_done hc _ _ h2 hd
   rw [getD_both hi] at this
   cases this
theorem uptoB_first {i : Nat} {oi : Oper} {v : Value} (hi : ops[i]? = some oi) (hwt : waitsB md ops T i = true) (hsel : ∀ (j : Nat) (o : Oper) cs b, ops[j]? = some o → o.op ≠ .select cs b)
   (hQ : ∀ c a w, Q (.panic c) (a.put oi.dst v) w → Q (.panic c) a w) :
   ∀ (f : Nat) (l : Array Bool) (a : Act) (w : World), ClosedB md ops l →
     (∀ j oj, ops[j]? = some oj → j ≠ i → l.getD j true = false → (∀ e ∈ oj.after, Region.binds md e = true → e.on ≠ i) → oi.apart ops oj = true) →
     i ∈ Region.ready md ops l → YieldsIf P ops S oi v a → SB T S l w →
     wpB P md ops Q S T f (l.setIfInBounds i true) (a.put oi.dst v) w → wpB P md ops Q S T (f + 1) l a w := by
 intro f
 induction f with
 | zero =>
   intro l a w hc _ hr hy hSB H
   have hS : S w := hSB fun b hb => (waitsB_undone hwt hc (mem_ready.1 hr).1 hb).2
   refine ⟨fun h => (by rw [h] at hr; cases hr), fun j hj => ?_⟩
   by_cases hji : j = i
   · subst hji; exact hy.wpOp hi hS ⟨fun _ => hS, H⟩
   · have h1 := ready_mono hj hji
     rw [H.1] at h1
     cases h1
 | succ f ih =>
   intro l a w hc hfree hr hy hSB H
   have hS : S w := hSB fun b hb => (waitsB_undone hwt hc (mem_ready.1 hr).1 hb).2
   refine ⟨fun h => (by rw [h] at hr; cases hr), fun j hj => ?_⟩
   by_cases hji : j = i
   · subst hji; exact hy.wpOp hi hS ⟨fun _ => hS, H⟩
   · have h1 := H.2 j (ready_mono hj hji)
     obtain ⟨hjun, oj, hoj, hall⟩ := mem_ready.1 hj
     have hnot : ∀ e ∈ oj.after, Region.binds md e = true → e.on ≠ i := fun e he hb heq => by
       have k1 := hall e he hb
       have k0 := (mem_ready.1 hr).1
       rw [heq] at k1
       rw [getD_both k0] at k1
       cases k1
     have h2 := wpOp_putIf hoj (hfree j oj hoj hji hjun hnot) (fun cs b => hsel i oi cs b hi) (fun cs b => hsel j oj cs b hoj) hQ hy h1
     have hfree' : ∀ k ok, ops[k]? = some ok → k ≠ i → (l.setIfInBounds j true).getD k true = false →
         (∀ e ∈ ok.after, Region.binds md e = true → e.on ≠ i) → oi.apart ops ok = true := fun k ok hk hki hun hno => by
       refine hfree k ok hk hki ?_ hno
       by_cases hjk : j = k
       · subst hjk; exact hjun
       · rw [getD_set_ne true hjk] at hun; exact hun
     have hr' := ready_mono hr (Ne.symm hji)
     refine wpOp_mono (fun a' w' h3 => ?_) h2
     have hS' : SB T S (l.setIfInBounds j true) w' := fun hn => h3.2.1 fun b hb => by
       have hbi := (waitsB_undone hwt hc (mem_ready.1 hr).1 hb).1
       rw [Array.setIfInBounds_comm _ _ (Ne.symm hji), getD_set_ne false (Ne.symm hbi)]
       exact hn b hb
     refine ⟨hS', ih (l.setIfInBounds j true) a' w' (hc.set hj) hfree' hr' h3.1 hS' ?_⟩
     rw [Array.setIfInBounds_comm _ _ hji]
     exact h3.2.2
def UptoB (P : Program) (md : Region.Mode) (ops : Array Oper) (Q : Exit → Act → World → Prop) (S : World → Prop) (T : List Nat) (f : Nat) (l : Array Bool) (a : Act) (w : World) : Prop :=
 ClosedB md ops l → SB T S l w → wpB P md ops Q S T f l a w
theorem uptoB_take {i : Nat} {oi : Oper} {v : Value} {f : Nat} {l : Array Bool} {a : Act} {w : World} (hi : ops[i]? = some oi) (hwt : waitsB md ops T i = true)
   (hs : Region.noSelect ops = true) (hf : Region.free md ops l i = true) (hr : (Region.ready md ops l).contains i = true)
   (hQ : ∀ c a w, Q (.panic c) (a.put oi.dst v) w → Q (.panic c) a w) (hw : Region.wanted oi (yielded ops a.tmps) = true) (hy : ∀ w, S w → (execOp a.eval oi).run P w = .ok (.value v) w)
   (h : UptoB P md ops Q S T f (l.setIfInBounds i true) (a.put oi.dst v) w) : UptoB P md ops Q S T (f + 1) l a w := fun hc hS => by
 have hri : i ∈ Region.ready md ops l := by simpa using hr
 exact uptoB_first hi hwt (Region.noSelect_spec hs) hQ f l a w hc (Region.free_spec hi hf) hri (.inl ⟨hw, hy⟩) hS (h (hc.set hri) fun _ => hS fun b hb => (waitsB_undone hwt hc (mem_ready.1 hri).1 hb).2)
theorem uptoB_take0 {i : Nat} {oi : Oper} {v : Value} {f : Nat} {l : Array Bool} {a : Act} {w : World} (hi : ops[i]? = some oi) (hr : Region.ready md ops l = [i]) (hw : Region.wanted oi (yielded ops a.tmps) = true) (hT : T.all (· != i) = true)
   (hy : ∀ w, (execOp a.eval oi).run P w = .ok (.value v) w)
   (h : UptoB P md ops Q S T f (l.setIfInBounds i true) (a.put oi.dst v) w) : UptoB P md ops Q S T (f + 1) l a w := fun hc hS => by
 have hri : i ∈ Region.ready md ops l := by rw [hr]; simp
 refine ⟨fun h0 => (by rw [hr] at h0; cases h0), fun j hj => ?_⟩
 rw [hr] at hj
 obtain rfl : j = i := by simpa using hj
 have hS' : SB T S (l.setIfInBounds j true) w := fun hn => hS fun b hb => by
   have h0 := List.all_eq_true.1 hT b hb
   have hbj : b ≠ j := by simpa using h0
   have := hn b hb
   rwa [getD_set_ne false (Ne.symm hbj)] at this
 have hyi : YieldsIf P ops (fun _ => True) oi v a := .inl ⟨hw, fun w _ => hy w⟩
 exact hyi.wpOp hi trivial ⟨hS', h (hc.set hri) hS'⟩
def AllUptoB (P : Program) (md : Region.Mode) (ops : Array Oper) (Q : Exit → Act → World → Prop) (S : World → Prop) (T : List Nat) (f : Nat) (l : Array Bool) (a : Act) (w : World) (rs : List Nat) : Prop :=
 ∀ i ∈ rs, wpOp P ops Q i (fun a' w' => SB T S (l.setIfInBounds i true) w' ∧ UptoB P md ops Q S T f (l.setIfInBounds i true) a' w') a w
theorem AllUptoB.nil {f : Nat} {l : Array Bool} {a : Act} {w : World} : AllUptoB P md ops Q S T f l a w [] := fun _ h => by cases h
theorem AllUptoB.cons {f : Nat} {l : Array Bool} {a : Act} {w : World} {i : Nat} {o : Oper} {rs : List Nat} (ho : ops[i]? = some o)
   (h : ∀ K' : Act → World → Prop, Shut (∀ a w, SB T S (l.setIfInBounds i true) w → UptoB P md ops Q S T f (l.setIfInBounds i true) a w → K' a w) → if Region.wanted o (yielded ops a.tmps) = true then Oper.wp P o a w K' Q else K' (a.put o.dst undef) w)
   (hs : AllUptoB P md ops Q S T f l a w rs) : AllUptoB P md ops Q S T f l a w (i :: rs) := fun j hj => by
 rcases List.mem_cons.1 hj with rfl | hj
 · exact wpOp_step ho (fun K' hK => h K' (fun a w hS hW => hK a w ⟨hS, hW⟩))
 · exact hs j hj
theorem uptoB_ready {rs : List Nat} {f : Nat} {l : Array Bool} {a : Act} {w : World} (hr : Region.ready md ops l = rs) (hne : rs.isEmpty = false)
   (h : AllUptoB P md ops Q S T f l a w rs) : UptoB P md ops Q S T (f + 1) l a w := fun hc hS => by
 subst hr
 refine ⟨fun h0 => (by rw [h0] at hne; cases hne), fun i hi => wpOp_mono (fun a' w' h' => ⟨h'.1, h'.2 (hc.set hi) h'.1⟩) (h i hi)⟩
theorem uptoB_done {f : Nat} {l : Array Bool} {a : Act} {w : World} (hr : Region.ready md ops l = []) (h : Q .normal a w) : UptoB P md ops Q S T f l a w := fun _ _ => by
 cases f with
 | zero => exact ⟨hr, h⟩
 | succ f => exact ⟨fun _ => h, by rw [hr]; simp⟩
theorem wp_region_uptoB {id : Nat} {a : Act} {w : World} (S : World → Prop) (T : List Nat) (hm : P.follows .mixedOrders = true) (hS : S w.drew)
   (h : UptoB P .any ops Q S T ops.size (Array.replicate ops.size false) a w.drew) : (Code.region id ops true).wp P Q a w :=
 wp_region_any hm (wpAny_of_B _ _ _ _ (h (fun b hd => by rw [show (Array.replicate ops.size false).getD b false = false by simp [Array.getD]] at hd; cases hd) fun _ => hS))
end
end Go.Proofs.YtkdonhhbpacgmaaGreat
