/- expr: empty, lazy, needs, alone. -/
import Derived.Test.YtkdonhhbpacgmaaGreatRefFix
import Derived.Test.YtkdonhhbpacgmaaGreatBS
set_option linter.unusedVariables false
set_option linter.unusedSimpArgs false
namespace Go.Proofs.YtkdonhhbpacgmaaGreat
open Go.ChangeShapes Go.WideShapes Go.ChangeAt Go.RowKit
def knownB (names others : List Bytes) : Bool := names.all (fun s => decide (s ∈ others))
set_option maxRecDepth 100000 in
set_option maxHeartbeats 1000000 in
theorem knownLit_any (L : List Bytes) (A : Option Addr) (c B G : Nat) (w : World) (hl : RL StrR w B (L.map mkS) A) (hB : B ≤ w.heap.size) (hn : L.length ≤ 1000000) (hs : L.Pairwise (· < ·))
   (hG : w.cell? ⟨G, 0, none⟩ = some (.slice A L.length c)) :
   Tells Tryz.prog StrR oneOf B w 109 #[.pointer (some ⟨G, 0, none⟩)] (fun s => !decide (bs s ∈ L)) := by
 intro s vs w1 hb hr
 obtain ⟨rfl, hsz⟩ := hr
 have hGl : G < w.heap.size := block_lt_of_cell hG
 have hG1 : w1.cell? ⟨G, 0, none⟩ = some (.slice A L.length c) := (hb.cell (p := ⟨G, 0, none⟩) hGl).trans hG
 have hGl1 : G < w1.heap.size := by have := hb.size; omega
 have HL := Lib.hid (hl.keep hb hB)
 have hB1 : B ≤ w1.heap.size := by have := hb.size; omega
 clear hl hG
 show Calls Tryz.prog 109 #[.string s, .pointer (some ⟨G, 0, none⟩)] w1 _
 go_enter Tryz.func109, Tryz.ntmps109
 go_wp2_with (go_at_call 51; refine (bsearch_any L A c B s _ HL.out hB1 hn hs).mono ?_; rintro e w' ⟨rfl, rfl⟩)
 go_ret
 exact ⟨rfl, Below.refl _ _⟩
set_option maxRecDepth 100000 in
set_option maxHeartbeats 1000000 in
theorem known_any (M L : List Bytes) (A' A : Option Addr) (c' c B : Nat) (w : World) (hm : RL StrR w B (M.map mkS) A') (hl : RL StrR w B (L.map mkS) A) (hB : B ≤ w.heap.size) (hn' : M.length ≤ 1000000) (hn : L.length ≤ 1000000) (hs : L.Pairwise (· < ·)) :
   Calls Tryz.prog 70 #[.slice A' M.length c', .slice A L.length c] w fun e w' => e = .returned (.bool (knownB M L)) ∧ Below w.heap.size w w' := by
 have HB := Lib.hid (fun o : Obj => (Below.refl w.heap.size w).alloc (Nat.le_refl _) o)
 have HM := Lib.hid hm
 have HL := Lib.hid hl
 clear hm hl
 go_enter Tryz.func70, Tryz.ntmps70
 go_wp2_with fail
 have h := containsFuncString_any 109 #[.pointer (some ⟨w.heap.size, 0, none⟩)] (fun s => !decide (bs s ∈ L)) (M.map mkS) A' c' B (w.alloc (.cells #[.slice A L.length c] 25)) (ent Tryz.func109 (by kernel_rfl) rfl)
   (HM.out.keep (HB.out _) hB) (Nat.le_trans hB (HB.out _).size) (by simp; omega) (knownLit_any L A c B w.heap.size _ (HL.out.keep (HB.out _) hB) (Nat.le_trans hB (HB.out _).size) hn hs (by go_simp))
 rw [List.length_map] at h
 refine h.mono ?_
 clear h
 rintro e w1 ⟨rfl, hb1⟩
 have hfin := Lib.hid ((HB.out _).trans (hb1.mono (HB.out _).size))
 clear hb1
 go_wp2_with fail
 go_ret
 exact ⟨ret_bool (by simp [knownB, List.all_eq_not_any_not, List.any_map, Function.comp_def, bs_mkS]), hfin.out⟩
open Go.ChangeShapes Go.WideShapes Go.ChangeAt Go.RowKit
def emptyB (t : Tm) : Bool := decide (t.kind = 0) && decide (t.n = 0) && decide (t.s = ByteArray.empty) && decide (t.l = [])
def lazyB (o : OpD) : Bool := decide (o.kind = 4) || decide (o.kind = 5)
def needsB (o : OpD) : Int := if o.kind = 1 then 0 else if o.kind = 3 then 2 else 1
def aloneB (o : OpD) : Bool :=
 if o.kind = 1 then decide (o.code = 0) && decide (o.skip = 0) && mayB o.term
 else emptyB o.term &&
   (if o.kind = 2 then decide (o.skip = 0) && decide (1 ≤ o.code) && decide (o.code ≤ 3)
    else if o.kind = 3 then decide (o.skip = 0) && decide (1 ≤ o.code) && decide (o.code ≤ 19)
    else lazyB o && decide (o.code = 0) && decide (1 ≤ o.skip))
set_option maxRecDepth 100000 in
set_option maxHeartbeats 1000000 in
theorem empty_any {d B : Nat} {t : Tm} {vs : List Value} {w : World} (ht : RTm w B d t vs) :
   Calls Tryz.prog 176 #[.agg vs.toArray] w fun e w' => e = .returned (.bool (emptyB t)) ∧ Below w.heap.size w w' := by
 obtain ⟨A, c, rfl, hc1, hc2, hs, _, _, hl⟩ := ht.cells
 obtain ⟨kind, n, s, l⟩ := t
 dsimp only at hc1 hc2 hs hl
 have HB := Lib.hid (fun o : Obj => (Below.refl w.heap.size w).alloc (Nat.le_refl _) o)
 clear ht hl
 go_enter Tryz.func176, Tryz.ntmps176
 go_wp2_with fail
 all_goals go_ret
 all_goals refine ⟨ret_bool ?_, HB.out _⟩
 all_goals
   try simp only [toList_empty, isEmpty_empty, beq_eq_false_iff_ne] at *
   rw [Bool.eq_iff_iff]
   simp [emptyB, isEmpty_empty, *]
theorem OpR.cells {d B : Nat} {o : OpD} {vs : List Value} {w : World} (h : (OpR d).rd w B o vs) :
   ∃ A c, vs = [.int .i64 o.kind, .int .i64 o.term.kind, .int .i64 o.term.n, .string o.term.s, .slice A o.term.l.length c, .int .i64 o.code, .int .i64 o.skip] ∧ I64 o.kind ∧ I64 o.code ∧ I64 o.skip ∧
     RTm w B d o.term [.int .i64 o.term.kind, .int .i64 o.term.n, .string o.term.s, .slice A o.term.l.length c] := by
 obtain ⟨ts, rfl, h1, h2, h3, h⟩ := h
 have h' := h
 obtain ⟨A, c, rfl, _⟩ := RTm.cells h'
 exact ⟨A, c, rfl, h1, h2, h3, h⟩
set_option maxRecDepth 100000 in
set_option maxHeartbeats 1000000 in
theorem lazy_any {d B : Nat} {o : OpD} {vs : List Value} {w : World} (ho : (OpR d).rd w B o vs) :
   Calls Tryz.prog 159 #[.agg vs.toArray] w fun e w' => e = .returned (.bool (lazyB o)) ∧ Below w.heap.size w w' := by
 obtain ⟨A, c, rfl, _⟩ := OpR.cells ho
 have HB := Lib.hid (fun o : Obj => (Below.refl w.heap.size w).alloc (Nat.le_refl _) o)
 clear ho
 go_enter Tryz.func159, Tryz.ntmps159
 go_wp2_with fail
 all_goals go_ret
 all_goals refine ⟨ret_bool ?_, HB.out _⟩
 all_goals
   rw [Bool.eq_iff_iff]
   simp [lazyB, *]
set_option maxRecDepth 100000 in
set_option maxHeartbeats 1000000 in
theorem needs_any {d B : Nat} {o : OpD} {vs : List Value} {w : World} (ho : (OpR d).rd w B o vs) :
   Calls Tryz.prog 158 #[.agg vs.toArray] w fun e w' => e = .returned (.int .i64 (needsB o)) ∧ Below w.heap.size w w' := by
 obtain ⟨A, c, rfl, _⟩ := OpR.cells ho
 have HB := Lib.hid (fun o : Obj => (Below.refl w.heap.size w).alloc (Nat.le_refl _) o)
 clear ho
 go_enter Tryz.func158, Tryz.ntmps158
 go_wp2_with fail
 all_goals go_ret
 all_goals refine ⟨ret_int ?_, HB.out _⟩
 all_goals
   simp only [beq_iff_eq, beq_eq_false_iff_ne] at *
   simp [needsB, *]
set_option maxRecDepth 100000 in
set_option maxHeartbeats 1000000 in
theorem alone_any {d B : Nat} {o : OpD} {vs : List Value} {w : World} (ho : (OpR d).rd w B o vs) (hB : B ≤ w.heap.size) :
   Calls Tryz.prog 157 #[.agg vs.toArray] w fun e w' => e = .returned (.bool (aloneB o)) ∧ Below w.heap.size w w' := by
 have ho0 := ho
 obtain ⟨A, c, rfl, _, _, _, ht⟩ := OpR.cells ho
 have HB := Lib.hid (fun o : Obj => (Below.refl w.heap.size w).alloc (Nat.le_refl _) o)
 have HT := Lib.hid ht
 have HO := Lib.hid ho0
 clear ho ho0 ht
 have hcases : (o.kind == 1) = true ∨ ((o.kind == 1) = false ∧ emptyB o.term = false) ∨ ((o.kind == 1) = false ∧ emptyB o.term = true ∧ (o.kind == 2) = true) ∨ ((o.kind == 1) = false ∧ emptyB o.term = true ∧ (o.kind == 2) = false ∧ (o.kind == 3) = true) ∨ ((o.kind == 1) = false ∧ emptyB o.term = true ∧ (o.kind == 2) = false ∧ (o.kind == 3) = false) := by
   cases (o.kind == 1) <;> cases emptyB o.term <;> cases (o.kind == 2) <;> cases (o.kind == 3) <;> simp
 rcases hcases with h1 | ⟨h1, h2⟩ | ⟨h1, h2, h3⟩ | ⟨h1, h2, h3, h4⟩ | ⟨h1, h2, h3, h4⟩
 all_goals
   go_enter Tryz.func157, Tryz.ntmps157
   go_wp2_with (first
     | (go_at_call 48; refine (may_any (vs := [_, _, _, _]) (RTm.below (HB.out _) hB HT.out) (Nat.le_trans hB (HB.out _).size)).mono ?_; rintro e w1 ⟨rfl, hb1⟩; have HB1 := Lib.hid hb1; clear hb1)
     | (go_at_call 176; refine (empty_any (vs := [_, _, _, _]) (RTm.below (HB.out _) hB HT.out)).mono ?_; rintro e w1 ⟨rfl, hb1⟩; have hc1 := bcell hb1; have hz1 : w.heap.size < w1.heap.size := (by have := hb1.size; simp at this; omega); have HB1 := Lib.hid hb1; clear hb1)
     | (go_at_call 159; refine (lazy_any (d := d) (B := B) (vs := [_, _, _, _, _, _, _]) ((OpR d).keep ((HB.out _).trans (HB1.out.mono (HB.out _).size)) hB HO.out)).mono ?_; rintro e w2 ⟨rfl, hb2⟩; have hc2 := bcell hb2; have hz2 : w.heap.size < w2.heap.size := (by have := hb2.size; omega); have HB2 := Lib.hid hb2; clear hb2))
   all_goals go_ret
   all_goals first
     | refine ⟨ret_bool ?_, HB.out _⟩
     | refine ⟨ret_bool ?_, (HB.out _).trans (HB1.out.mono (HB.out _).size)⟩
     | refine ⟨ret_bool ?_, ((HB.out _).trans (HB1.out.mono (HB.out _).size)).trans (HB2.out.mono (by have := (HB.out (.cells #[.int .i64 o.kind, .int .i64 o.term.kind, .int .i64 o.term.n, .string o.term.s, .slice A o.term.l.length c, .int .i64 o.code, .int .i64 o.skip] 53)).size; have := HB1.out.size; omega))⟩
   all_goals
     clear HO HT HB
     try clear HB1
     try clear hc1
     try simp only [beq_iff_eq, beq_eq_false_iff_ne] at *
     rw [Bool.eq_iff_iff]
     simp [aloneB, *]
     try omega
end Go.Proofs.YtkdonhhbpacgmaaGreat
