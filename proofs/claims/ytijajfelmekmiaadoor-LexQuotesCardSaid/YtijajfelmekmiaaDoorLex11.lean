/- lex.Words. -/
import Derived.Test.YtijajfelmekmiaaDoorLex10
set_option linter.unusedVariables false
set_option linter.unusedSimpArgs false
namespace Go.Proofs.YtijajfelmekmiaaDoor
open Go.ChangeShapes Go.WideShapes Go.ChangeAt Go.RowKit

/-- A word. -/
structure Wd where
  kind : Int
  s : ByteArray
  n : Int
  at_ : Int
def WdR : Reader Wd where
  k := 4
  rd := fun _ _ x vs => vs = [.int .i64 x.kind, .string x.s, .int .i64 x.n, .int .i64 x.at_]
  keep := fun _ _ h => h
  wide := fun _ h => h
  len := fun h => by rw [h]; rfl
theorem single_wd : Single WdR := fun h u hu => by
  simp only [WdR] at h
  subst h
  simp only [List.mem_cons, List.not_mem_nil, or_false] at hu
  rcases hu with rfl | rfl | rfl | rfl <;> rfl
theorem infoWd : (Tryd.prog.info? 29).map (fun i => (i.zero, i.size, i.bytes)) = some (some (.agg #[.int .i64 0, .string ⟨#[]⟩, .int .i64 0, .int .i64 0]), 4, 40) := by kernel_rfl
/-- The words from the beginning to a place. -/
inductive Steps (s : ByteArray) : List Wd → Nat → Prop
  | nil : Steps s [] 0
  | snoc {ws : List Wd} {q a : Nat} {k : Int} {S : ByteArray} {n : Int} {to : Nat} (h : Steps s ws q) (ha : a = q + runN blankB s q) (hlt : a < s.size) (hto : a < to ∧ to ≤ s.size) (hk : 1 ≤ k ∧ k ≤ 8) (hn : NextR s a k S n to false) : Steps s (ws ++ [⟨k, S, n, a⟩]) to
def WordsPost (s : ByteArray) (w : World) (e : Ending) (w' : World) : Prop :=
  Below w.heap.size w w' ∧
  ((∃ (ws : List Wd) (q : Nat) (v : Value), Steps s ws q ∧ q + runN blankB s q = s.size ∧ e = .returned (.tuple #[v, .int .i64 0, .int .i64 0]) ∧ RSl WdR w' w'.heap.size ws v ∧ ws.length ≤ 5000) ∨
   (∃ (ws : List Wd) (q a : Nat), Steps s ws q ∧ a = q + runN blankB s q ∧ a < s.size ∧ ws.length = 5000 ∧ e = .returned (.tuple #[.slice none 0 0, .int .i64 (a : Int), .int .i64 4])) ∨
   (∃ (ws : List Wd) (q a : Nat) (k : Int) (S : ByteArray) (n : Int) (to : Nat), Steps s ws q ∧ a = q + runN blankB s q ∧ a < s.size ∧ NextR s a k S n to true ∧ e = .returned (.tuple #[.slice none 0 0, .int .i64 (a : Int), .int .i64 3])))

set_option maxRecDepth 100000 in
set_option maxHeartbeats 8000000 in
theorem words_any {w : World} {s : ByteArray} (hs : s.size ≤ 20000) (hv : ErrOk w) (h2 : 2 < w.heap.size) :
    Calls Tryd.prog 9 #[.string s] w fun e w' => WordsPost s w e w' := by
  have HI := Lib.hid (info_parts infoWd)
  have HV := Lib.hid hv
  clear hv
  go_enter Tryd.func9, Tryd.ntmps9
  go_wp2_with fail
  generalize hW : World.alloc _ _ = w1
  obtain ⟨hb, hz⟩ := al1 hW
  have b_g_1 : SC w1 w.heap.size s 0 false := n11 hW
  have HB1 := Lib.hid hb
  have HW1 := Lib.hid hW
  clear hW hb
  obtain ⟨g, hgd⟩ : ∃ g, g = w.heap.size := ⟨_, rfl⟩
  have HGD := Lib.hid hgd
  rw [← hgd] at b_g_1 ⊢
  have hz1 : w1.heap.size = g + 1 := by omega
  have hg2 : 2 < g := by omega
  have H2 := Lib.hid h2
  clear hgd hz h2
  go_loopw [6] (fun v wr => ∃ (q : Nat) (ws : List Wd), q ≤ s.size ∧ ws.length ≤ 5000 ∧ SC wr g s q false ∧ Hid (Exc g w1 wr) ∧ g + 1 ≤ wr.heap.size ∧ Hid (OwnR WdR 29 wr (g + 1) 0 v ws) ∧ Hid (Steps s ws q)) (fun _ wr => s.size - posOf wr g)
  case atStart => exact ⟨0, [], Nat.zero_le _, by simp, b_g_1, Lib.hid (Exc.refl _ _), by omega, Lib.hid (OwnR.nil _ _ _ _ _), Lib.hid .nil⟩
  case round =>
    obtain ⟨q, ws, hq, hwl, b_g_10, HE10, hsz, HO, HST⟩ := hrel
    have hpos := posOf_eq b_g_10
    have HPOS := Lib.hid hpos
    have hg : g < w1.heap.size := by omega
    clear hpos b_g_1
    obtain ⟨AO, cO, rfl⟩ := HO.out.form
    have hrn := runN_le blankB s q hq
    go_wp2_with fail
    refine (run_any 13 blankB ent_blank blank_any b_g_10 hq (by omega)).mono ?_
    rintro x w11 ⟨rfl, b_g_11, he⟩
    have HE11 := Lib.hid (Exc.trans HE10.out he)
    have HO11 := Lib.hid (HO.out.exc he (by omega))
    have hsz11 : g + 1 ≤ w11.heap.size := Nat.le_trans hsz he.1.size
    have HBW := Lib.hid (HB1.out.trans (HGD.out ▸ HE11.out.1))
    clear he b_g_10
    obtain ⟨a, ha⟩ : ∃ a, a = q + runN blankB s q := ⟨_, rfl⟩
    rw [← ha] at b_g_11 hrn
    have HAQ := Lib.hid ha
    clear ha
    rcases Nat.lt_or_ge a s.size with hlt | hge
    rotate_left
    · have hae : a = s.size := by omega
      have HAE := Lib.hid hae
      have hae2 : ((a : Int) == (s.size : Int)) = true := by simp; omega
      clear hae
      have k_g := b_g_11.cell
      have f_g := b_g_11.free
      have l_g := b_g_11.lt
      go_wp2_with fail
      go_ret3
      unfold WordsPost
      refine ⟨HBW.out, .inl ⟨ws, q, _, HST.out, by rw [← HAQ.out]; exact HAE.out, rfl, HO11.out.reads (Nat.zero_le _) (by simp only [WdR]; omega), hwl⟩⟩
    have hae2 : ((a : Int) == (s.size : Int)) = false := by simp; omega
    rcases Nat.lt_or_ge ws.length 5000 with hw5 | hw5
    rotate_left
    · have hw6 : ws.length = 5000 := by omega
      have HW6 := Lib.hid hw6
      have hw7 : ((ws.length : Int) == 5000) = true := by simp; omega
      clear hw6
      have k_g := b_g_11.cell
      have f_g := b_g_11.free
      have l_g := b_g_11.lt
      go_wp2_with fail
      go_ret3
      unfold WordsPost
      exact ⟨HBW.out, .inr (.inl ⟨ws, q, a, HST.out, HAQ.out, hlt, HW6.out, rfl⟩)⟩
    have hw7 : ((ws.length : Int) == 5000) = false := by simp; omega
    have k_g := b_g_11.cell
    have f_g := b_g_11.free
    have l_g := b_g_11.lt
    go_wp2_with fail
    clear k_g f_g l_g
    refine (next_any b_g_11 hlt (by omega) (HV.out.keep HBW.out H2.out) (by omega)).mono ?_
    rintro x w12 ⟨k, S, n, to, bb, rfl, b_g_12, he, hto, hgood, hnr⟩
    have HE12 := Lib.hid (Exc.trans HE11.out he)
    have HO12 := Lib.hid (HO11.out.exc he (by omega))
    have HSZ : Hid (g + 1 ≤ w12.heap.size) := Lib.hid (Nat.le_trans hsz11 he.1.size)
    have HNR := Lib.hid hnr
    have HGOOD := Lib.hid hgood
    clear he b_g_11 hnr hgood
    have k_g := b_g_12.cell
    have f_g := b_g_12.free
    have l_g := b_g_12.lt
    rcases (show bb = true ∨ bb = false by cases bb <;> simp) with rfl | rfl
    all_goals
      go_wp2_with (at_builtin; (
        obtain ⟨i0, hi0, hz0, hz1_, hz2⟩ := HI.out
        refine wpList_append_R (R := WdR) (e := 29) rfl (.tmp 31) (.tmp 34) 23 rfl (bytes := 40) Tryd.underlying23 hi0 hz0 hz1_ hz2 rfl (show 0 < 4 by omega) single_wd rfl (xs := ws) (base := g + 1) (B := 0) (HO12.out.later ((Below.refl _ _).alloc (Nat.le_refl _) _) (Nat.zero_le _)) rfl (Blk.src (x := (⟨k, S, n, a⟩ : Wd)) (n11 rfl) rfl) rfl (Nat.zero_le _) (by simp only [List.length_cons, List.length_nil]; omega) (by omega) (Nat.le_trans HSZ.out (by simp)) ?_
        intro v2 w20 hown2 hb2
        have b_g_20 := (b_g_12.old (.cells #[.int .i64 k, .string S, .int .i64 n, .int .i64 (a : Int)] 29)).keep hb2 (Nat.lt_succ_self g)
        have HE20 := Lib.hid (Exc.own (Exc.then HE12.out (Nat.le_of_lt hg) ((Below.refl _ _).alloc (Nat.le_refl _) (.cells #[.int .i64 k, .string S, .int .i64 n, .int .i64 (a : Int)] 29))) hb2 (by omega) (Nat.lt_succ_self g))
        have hsz20 : g + 1 ≤ w20.heap.size := Nat.le_trans (Nat.le_trans HSZ.out (by simp)) hb2.size
        obtain ⟨A2, c2, rfl⟩ := hown2.form
        simp only [List.length_append, List.length_cons, List.length_nil, Nat.zero_add] at hown2
        have HO2 := Lib.hid hown2
        have k_g2 := b_g_20.cell
        have l_g2 := b_g_20.lt
        clear i0 hi0 hz0 hz1_ hz2 hown2 hb2))
    · go_ret3
      unfold WordsPost
      exact ⟨HB1.out.trans (HGD.out ▸ HE20.out.1), .inr (.inr ⟨ws, q, a, k, S, n, to, HST.out, HAQ.out, hlt, HNR.out, rfl⟩)⟩
    · have hgd := HGOOD.out (by simp)
      go_roundw
      case rel => exact ⟨to, ws ++ [⟨k, S, n, a⟩], hto, by simp; omega, b_g_20, HE20, hsz20, HO2, Lib.hid (.snoc HST.out HAQ.out hlt ⟨hgd.1, hto⟩ hgd.2 HNR.out)⟩
      case measure =>
        have e2 := posOf_eq b_g_20
        have h3 := HAQ.out
        rw [HPOS.out, e2]
        omega
end Go.Proofs.YtijajfelmekmiaaDoor
