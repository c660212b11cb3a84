/- A text's words, where each step is known. -/
import Derived.Test.YtijajfelmekmiaaDoorLexAwake
set_option linter.unusedVariables false
set_option linter.unusedSimpArgs false
namespace Go.Proofs.YtijajfelmekmiaaDoor
open Go.ChangeShapes Go.WideShapes Go.ChangeAt Go.RowKit

theorem run_split {p : Int → Bool} {s : ByteArray} {a : Nat} {m r : List UInt8} (h : (bs s).drop a = m ++ r) (hm : ∀ c ∈ m, p c.toNat = true) (hr : ∀ c, r.head? = some c → p c.toNat = false) : runN p s a = m.length := by
  unfold runN takeB
  rw [h]
  clear h
  induction m with
  | nil =>
    cases r with
    | nil => rfl
    | cons c t =>
      have := hr c rfl
      simp only [List.nil_append, List.takeWhile_cons, this]
      rfl
  | cons c t ih =>
    have h1 := hm c (.head _)
    have h2 := ih fun x hx => hm x (.tail _ hx)
    simp only [List.cons_append, List.takeWhile_cons, h1, if_true, List.length_cons]
    omega
theorem ext_split {s : ByteArray} {a : Nat} {m r : List UInt8} (h : (bs s).drop a = m ++ r) : s.extract a (a + m.length) = mkS m := by
  rw [← mkS_bs (s.extract a (a + m.length))]
  congr 1
  have : bs (s.extract a (a + m.length)) = ((bs s).drop a).take m.length := by
    simp [bs]
  rw [this, h, List.take_left]
theorem run_end {p : Int → Bool} {s : ByteArray} {a : Nat} (h : s.size ≤ a) : runN p s a = 0 := by
  unfold runN takeB
  rw [List.drop_eq_nil_of_le (by rw [bs_length]; exact h)]
  rfl

/-- The steps are the expected ones. -/
theorem steps_path {s : ByteArray} {L : List Wd} {Q : Nat → Nat} (h0 : Q 0 = 0)
    (hstep : ∀ j (hj : j < L.length), ∀ k S n to bad, NextR s (Q j + runN blankB s (Q j)) k S n to bad → bad = false ∧ L[j] = ⟨k, S, n, ((Q j + runN blankB s (Q j) : Nat) : Int)⟩ ∧ to = Q (j + 1))
    (hlast : Q L.length + runN blankB s (Q L.length) < s.size → ∀ k S n to bad, NextR s (Q L.length + runN blankB s (Q L.length)) k S n to bad → bad = true)
    {ws : List Wd} {q : Nat} (h : Steps s ws q) : ws.length ≤ L.length ∧ ws = L.take ws.length ∧ q = Q ws.length := by
  induction h with
  | nil => exact ⟨Nat.zero_le _, rfl, h0.symm⟩
  | @snoc ws q a k S n to h ha hlt hto hk hn ih =>
    obtain ⟨h1, h2, h3⟩ := ih
    subst h3
    subst ha
    rcases Nat.lt_or_ge ws.length L.length with hl | hl
    · obtain ⟨_, g2, g3⟩ := hstep _ hl _ _ _ _ _ hn
      refine ⟨by simp; omega, ?_, by rw [g3]; simp⟩
      rw [List.length_append, List.length_singleton, List.take_add_one, List.getElem?_eq_getElem hl, g2, ← h2]
      rfl
    · have e : ws.length = L.length := by omega
      rw [e] at hn hlt
      have := hlast hlt _ _ _ _ _ hn
      cases this

theorem path_ok {s : ByteArray} {L : List Wd} {Q : Nat → Nat} {w w' : World} {e : Ending} (h0 : Q 0 = 0)
    (hstep : ∀ j (hj : j < L.length), Q j + runN blankB s (Q j) < s.size ∧ ∀ k S n to bad, NextR s (Q j + runN blankB s (Q j)) k S n to bad → bad = false ∧ L[j] = ⟨k, S, n, ((Q j + runN blankB s (Q j) : Nat) : Int)⟩ ∧ to = Q (j + 1))
    (hend : Q L.length + runN blankB s (Q L.length) = s.size) (hN : L.length ≤ 5000) (h : WordsPost s w e w') :
    Below w.heap.size w w' ∧ ∃ v, e = .returned (.tuple #[v, .int .i64 0, .int .i64 0]) ∧ RSl WdR w' w'.heap.size L v := by
  have hp := fun (ws : List Wd) (q : Nat) (hs : Steps s ws q) => steps_path (L := L) h0 (fun j hj => (hstep j hj).2) (fun hl => absurd hl (by omega)) hs
  obtain ⟨hb, ⟨ws, q, v, hst, hq, he, hr, _⟩ | ⟨ws, q, a, hst, ha, hlt, hl, _⟩ | ⟨ws, q, a, k, S, n, to, hst, ha, hlt, hn, _⟩⟩ := h
  · obtain ⟨h1, h2, h3⟩ := hp _ _ hst
    rcases Nat.lt_or_ge ws.length L.length with hl | hl
    · have := (hstep _ hl).1
      rw [← h3] at this
      omega
    · have e2 : ws = L := by rw [h2]; exact List.take_of_length_le (by omega)
      subst e2
      exact ⟨hb, v, he, hr⟩
  · obtain ⟨h1, h2, h3⟩ := hp _ _ hst
    rcases Nat.lt_or_ge ws.length L.length with hl2 | hl2
    · omega
    · have e2 : ws.length = L.length := by omega
      rw [h3, e2, hend] at ha
      omega
  · obtain ⟨h1, h2, h3⟩ := hp _ _ hst
    subst h3
    subst ha
    rcases Nat.lt_or_ge ws.length L.length with hl | hl
    · cases ((hstep _ hl).2 _ _ _ _ _ hn).1
    · have e2 : ws.length = L.length := by omega
      rw [e2, hend] at hlt
      omega

theorem path_bad {s : ByteArray} {L : List Wd} {Q : Nat → Nat} {w w' : World} {e : Ending} (h0 : Q 0 = 0)
    (hstep : ∀ j (hj : j < L.length), Q j + runN blankB s (Q j) < s.size ∧ ∀ k S n to bad, NextR s (Q j + runN blankB s (Q j)) k S n to bad → bad = false ∧ L[j] = ⟨k, S, n, ((Q j + runN blankB s (Q j) : Nat) : Int)⟩ ∧ to = Q (j + 1))
    (hend : Q L.length + runN blankB s (Q L.length) < s.size) (hbad : ∀ k S n to bad, NextR s (Q L.length + runN blankB s (Q L.length)) k S n to bad → bad = true) (hN : L.length < 5000) (h : WordsPost s w e w') :
    Below w.heap.size w w' ∧ e = .returned (.tuple #[.slice none 0 0, .int .i64 ((Q L.length + runN blankB s (Q L.length) : Nat) : Int), .int .i64 3]) := by
  have hp := fun (ws : List Wd) (q : Nat) (hs : Steps s ws q) => steps_path (L := L) h0 (fun j hj => (hstep j hj).2) (fun _ => hbad) hs
  obtain ⟨hb, ⟨ws, q, v, hst, hq, he, hr, _⟩ | ⟨ws, q, a, hst, ha, hlt, hl, _⟩ | ⟨ws, q, a, k, S, n, to, hst, ha, hlt, hn, he⟩⟩ := h
  · obtain ⟨h1, h2, h3⟩ := hp _ _ hst
    rcases Nat.lt_or_ge ws.length L.length with hl | hl
    · have := (hstep _ hl).1
      rw [← h3] at this
      omega
    · have e2 : ws.length = L.length := by omega
      rw [h3, e2] at hq
      omega
  · obtain ⟨h1, h2, h3⟩ := hp _ _ hst
    omega
  · obtain ⟨h1, h2, h3⟩ := hp _ _ hst
    subst h3
    subst ha
    rcases Nat.lt_or_ge ws.length L.length with hl | hl
    · cases ((hstep _ hl).2 _ _ _ _ _ hn).1
    · have e2 : ws.length = L.length := by omega
      rw [e2] at he
      exact ⟨hb, he⟩

/-- One word, the whole text. -/
theorem one_ok {s : ByteArray} {w w' : World} {e : Ending} {k0 n0 : Int} {S0 : ByteArray} (hs : 0 < s.size) (hb : runN blankB s 0 = 0)
    (hn : ∀ k S n to bad, NextR s 0 k S n to bad → bad = false ∧ k = k0 ∧ S = S0 ∧ n = n0 ∧ to = s.size) (h : WordsPost s w e w') :
    Below w.heap.size w w' ∧ ∃ v, e = .returned (.tuple #[v, .int .i64 0, .int .i64 0]) ∧ RSl WdR w' w'.heap.size [⟨k0, S0, n0, 0⟩] v := by
  refine path_ok (L := [⟨k0, S0, n0, 0⟩]) (Q := fun j => if j = 0 then 0 else s.size) rfl (fun j hj => ?_) ?_ (by simp) h
  · simp only [List.length_singleton] at hj
    obtain rfl : j = 0 := by omega
    simp only [if_true, hb, Nat.add_zero, Nat.zero_add]
    refine ⟨hs, fun k S n to bad hx => ?_⟩
    obtain ⟨h1, h2, h3, h4, h5⟩ := hn _ _ _ _ _ hx
    subst h2 h3 h4
    exact ⟨h1, rfl, by simpa using h5⟩
  · simp only [List.length_singleton, Nat.succ_ne_zero, if_false]
    rw [run_end (Nat.le_refl _)]; simp
theorem one_bad {s : ByteArray} {w w' : World} {e : Ending} (hs : 0 < s.size) (hb : runN blankB s 0 = 0)
    (hn : ∀ k S n to bad, NextR s 0 k S n to bad → bad = true) (h : WordsPost s w e w') :
    Below w.heap.size w w' ∧ e = .returned (.tuple #[.slice none 0 0, .int .i64 0, .int .i64 3]) := by
  have := path_bad (L := []) (Q := fun _ => 0) rfl (fun j hj => absurd hj (by simp)) (by rw [hb]; omega) (by rw [hb]; exact hn) (by simp) h
  simp only [hb] at this
  exact this

/-- A word's cells. -/
def WdC (w : World) (b o : Nat) (x : Wd) : Prop := b < w.heap.size ∧ w.cell? ⟨b, o, none⟩ = some (.int .i64 x.kind) ∧ w.cell? ⟨b, o + 1, none⟩ = some (.string x.s) ∧ w.cell? ⟨b, o + 2, none⟩ = some (.int .i64 x.n) ∧ w.cell? ⟨b, o + 3, none⟩ = some (.int .i64 x.at_)
theorem WdC.keep {w w' : World} {b o : Nat} {x : Wd} (h : WdC w b o x) (hb : Below w.heap.size w w') : WdC w' b o x := by
  obtain ⟨h0, h1, h2, h3, h4⟩ := h
  exact ⟨Nat.lt_of_lt_of_le h0 hb.size, (hb.cell h0).trans h1, (hb.cell h0).trans h2, (hb.cell h0).trans h3, (hb.cell h0).trans h4⟩
theorem RL.wdc {w : World} {B b off : Nat} {L : List Wd} (h : RL WdR w B L (some ⟨b, off, none⟩)) (hB : B ≤ w.heap.size) (hb : b < w.heap.size) {i : Nat} (hi : i < L.length) : WdC w b (off + i * 4) L[i] := by
  obtain ⟨x, vs, hx, hl, hc, hr⟩ := h.at_ (Below.refl _ _) hB hi
  have ex : L[i] = x := (List.getElem?_eq_some_iff.1 hx).2
  simp only [WdR] at hr
  subst hr
  rw [ex]
  exact ⟨hb, hc 0 _ rfl, hc 1 _ rfl, hc 2 _ rfl, hc 3 _ rfl⟩
theorem one_at {w : World} {B : Nat} {x : Wd} {v : Value} (h : RSl WdR w B [x] v) (hB : B ≤ w.heap.size) : ∃ b off c, v = .slice (some ⟨b, off, none⟩) 1 c ∧ WdC w b off x := by
  obtain ⟨A, c, rfl, _, _, hl⟩ := h
  obtain ⟨b, off, rfl, hb⟩ := hl.base (Below.refl _ _) hB (by simp)
  exact ⟨b, off, c, rfl, hl.wdc hB hb (i := 0) (by simp)⟩
theorem two_at {w : World} {B : Nat} {x y : Wd} {v : Value} (h : RSl WdR w B [x, y] v) (hB : B ≤ w.heap.size) : ∃ b off c, v = .slice (some ⟨b, off, none⟩) 2 c ∧ WdC w b off x ∧ WdC w b (off + 4) y := by
  obtain ⟨A, c, rfl, _, _, hl⟩ := h
  obtain ⟨b, off, rfl, hb⟩ := hl.base (Below.refl _ _) hB (by simp)
  exact ⟨b, off, c, rfl, hl.wdc hB hb (i := 0) (by simp), hl.wdc hB hb (i := 1) (by simp)⟩

theorem get0 {s : ByteArray} {c : UInt8} {r : List UInt8} (h : bs s = c :: r) : ∃ h0 : 0 < s.size, s[0] = c := by
  obtain ⟨h0, h1, _⟩ := bs_cons h
  exact ⟨h0, h1⟩
theorem blank0 {s : ByteArray} {c : UInt8} {r : List UInt8} (h : bs s = c :: r) (hc : blankB c.toNat = false) : runN blankB s 0 = 0 :=
  run_split (m := []) (r := bs s) (a := 0) rfl (fun _ h => by cases h) (fun x hx => by rw [h] at hx; obtain rfl := Option.some.inj hx; exact hc)
theorem size_bs {s : ByteArray} {l : List UInt8} (h : bs s = l) : s.size = l.length := by rw [← bs_length, h]

theorem size_app (x y : ByteArray) : (x ++ y).size = x.size + y.size := by simp
theorem bs_app (x y : ByteArray) : bs (x ++ y) = bs x ++ bs y := by simp [bs]

def byteOf (x : Int) : UInt8 := UInt8.ofNat x.toNat
theorem byteOf_nat {x : Int} (h : 0 ≤ x ∧ x ≤ 255) : ((byteOf x).toNat : Int) = x := by
  unfold byteOf
  rw [UInt8.toNat_ofNat_of_lt' (by show x.toNat < 256; omega)]
  omega
/-- 'string' of one byte that was just laid. -/
theorem conv_one {x : Int} (h : 0 ≤ x ∧ x ≤ 255) (u : World) :
    (convert 32 9 (.slice (some ⟨u.heap.size, 0, none⟩) 1 1)).run Tryd.prog (u.alloc (.cells #[.int .u8 x] 5)) = .ok (.string (mkS [byteOf x])) (u.alloc (.cells #[.int .u8 x] 5)) := by
  refine run_convert_bytes_back _ _ _ 5 _ 1 [byteOf x] Tryd.underlying32 Tryd.underlying5 Tryd.underlying9 (fun j hj => ?_)
  obtain rfl : j = 0 := by simp at hj; omega
  have hb : Blk (u.alloc (.cells #[.int .u8 x] 5)) u.heap.size #[.int .u8 x] := n11 rfl
  have := hb.cell 0
  simp only [Addr.add, Nat.add_zero]
  rw [show [byteOf x][0].toNat = (byteOf x).toNat from rfl, byteOf_nat h]
  exact this
end Go.Proofs.YtijajfelmekmiaaDoor
