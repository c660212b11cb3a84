/- The readers' cells are single ones; the numbers of their types. -/
import Derived.Test.YtiplipdigabidaaGreatOwn
set_option linter.unusedVariables false
set_option linter.unusedSimpArgs false
namespace Go.Proofs.YtiplipdigabidaaGreat
open Go.ChangeShapes Go.WideShapes Go.ChangeAt Go.RowKit

theorem single_tm (d : Nat) : Single (TmR d) := fun h u hu => by
  obtain ⟨_, _, rfl, _⟩ := RTm.cells h
  simp only [List.mem_cons, List.not_mem_nil, or_false] at hu
  rcases hu with rfl | rfl | rfl | rfl <;> rfl
theorem single_pr (d : Nat) : Single (PrR d) := fun h u hu => by
  obtain ⟨_, rfl, _, _, _, rfl, _⟩ := h
  simp only [List.mem_cons, List.not_mem_nil, or_false] at hu
  rcases hu with rfl | rfl <;> rfl
theorem single_ru (d : Nat) : Single (RuR d) := fun h u hu => by
  obtain ⟨_, _, _, _, rfl, _, ⟨_, _, rfl, _⟩, ⟨_, _, rfl, _⟩, ⟨_, _, rfl, _⟩, ⟨_, _, rfl, _⟩⟩ := h
  simp only [List.mem_cons, List.not_mem_nil, or_false] at hu
  rcases hu with rfl | rfl | rfl | rfl | rfl <;> rfl
theorem single_ck (d : Nat) : Single (CkR d) := fun h u hu => by
  obtain ⟨_, rfl, _, _, rfl, _⟩ := h
  simp only [List.mem_cons, List.not_mem_nil, or_false] at hu
  rcases hu with rfl | rfl <;> rfl
theorem single_op (d : Nat) : Single (OpR d) := fun h u hu => by
  obtain ⟨_, rfl, _, _, _, ht⟩ := h
  obtain ⟨_, _, rfl, _⟩ := RTm.cells ht
  simp only [List.mem_cons, List.cons_append, List.nil_append, List.not_mem_nil, or_false] at hu
  rcases hu with rfl | rfl | rfl | rfl | rfl | rfl | rfl <;> rfl

theorem infoTm : (Tryz.prog.info? 33).map (fun i => (i.zero, i.size, i.bytes)) = some (some (.agg #[.int .i64 0, .int .i64 0, .string ⟨#[]⟩, .slice none 0 0]), 4, 56) := by kernel_rfl
end Go.Proofs.YtiplipdigabidaaGreat
