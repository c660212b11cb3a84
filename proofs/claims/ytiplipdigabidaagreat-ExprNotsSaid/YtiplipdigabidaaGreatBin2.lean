/- op.Unary, op.Binary: what they tell, whatever comes in. -/
import Derived.Test.YtiplipdigabidaaGreatOp4
import Derived.Test.YtiplipdigabidaaGreatOp5
import Derived.Test.YtiplipdigabidaaGreatMat4

set_option linter.unusedVariables false
set_option linter.unusedSimpArgs false
namespace Go.Proofs.YtiplipdigabidaaGreat
open Go.ChangeShapes Go.WideShapes Go.ChangeAt Go.RowKit

def boolT (b : Bool) : Tm := ⟨6, bit b, emp, []⟩
def intT (n : Int) : Tm := ⟨2, n, emp, []⟩
def recT (r : Int × Int × Int) : Tm × Int := (⟨r.1, r.2.1, emp, []⟩, r.2.2)
def matchR (p t : ByteArray) : Tm × Int := if (fitsR p t false).2 ≠ 0 then (noT, (fitsR p t false).2) else (boolT (fitsR p t false).1, 0)
/-- What op.Binary tells. -/
def binR (code : Int) (a b : Tm) : Tm × Int :=
  if fixedB a = false ∨ fixedB b = false ∨ code < 1 ∨ 19 < code then (noT, 1)
  else if kindsB code a.kind b.kind = false then (noT, 7)
  else if code = 7 ∧ a.kind = 3 then (if a.s.size + b.s.size ≤ 256 then (⟨3, 0, a.s ++ b.s, []⟩, 0) else (noT, 4))
  else if code = 7 ∨ code = 8 ∨ code = 9 ∨ code = 10 then recT (recR code a.n b.n)
  else if code = 11 then (boolT (if a.kind = 3 then Lib.contains (bs a.s) (bs b.s) else containsS a b), 0)
  else if code = 12 then (boolT (Lib.hasPrefix (bs a.s) (bs b.s)), 0)
  else if code = 13 then (boolT (Lib.hasSuffix (bs a.s) (bs b.s)), 0)
  else if code = 14 then matchR b.s a.s
  else if code = 15 then (meetT a b, 0)
  else if code = 16 then joinR a b
  else if code = 17 then (intT (bits .and .i64 a.n b.n), 0)
  else if code = 18 then (intT (bits .or .i64 a.n b.n), 0)
  else if code = 19 then (intT (bits .xor .i64 a.n b.n), 0)
  else (boolT (compB code (cmpT 3 a b)), 0)
/-- What op.Unary tells. -/
def unR (code : Int) (a : Tm) : Tm × Int :=
  if fixedB a = false ∨ code < 1 ∨ 3 < code then (noT, 1)
  else if code = 1 ∧ a.kind = 6 then (boolT (decide (a.n = 0)), 0)
  else if code = 2 ∧ a.kind = 2 then recT (recR 8 0 a.n)
  else if code = 3 ∧ (a.kind = 3 ∨ a.kind = 5) then (intT a.s.size, 0)
  else if code = 3 ∧ a.kind = 7 then (intT a.l.length, 0)
  else (noT, 7)

set_option maxRecDepth 100000 in
set_option maxHeartbeats 4000000 in
theorem bin_badA {code x y ka kb : Int} {d d' B : Nat} {s s' : ByteArray} {l l' : List Tm} {vs ws : List Value} {w : World} (ha : RTm w B d ⟨ka, x, s, l⟩ vs) (hb : RTm w B d' ⟨kb, y, s', l'⟩ ws) (hB : B ≤ w.heap.size) (fa : fixedB ⟨ka, x, s, l⟩ = false) :
    Calls Tryz.prog 67 #[.int .i64 code, .agg vs.toArray, .agg ws.toArray] w fun z w' => z = flatR 0 0 emp 1 ∧ Below w.heap.size w w' := by
  obtain ⟨A, c, rfl, q1, q2, q3, q4, q5, _⟩ := ha.cells
  obtain ⟨A', c', rfl, r1, r2, r3, r4, r5, _⟩ := hb.cells
  have HA := Lib.hid ha
  have HB_ := Lib.hid hb
  simp only at q2 q3 q4 q5 r2 r3 r4 r5
  clear ha hb
  have FA := Lib.hid fa
  clear fa
  go_enter Tryz.func67, Tryz.ntmps67
  go_wp2_with fail
  generalize hW : World.alloc _ _ = w1
  obtain ⟨hb, hz⟩ := al3 hW
  have b_a_1 := n31 hW
  have b_b_1 := n32 hW
  have b_r_1 := n33 hW
  have HB1 := Lib.hid hb
  clear hW hz hb
  refine (fixed_any (t := ⟨ka, x, s, l⟩) (vs := [_, _, _, _]) (HA.out.below HB1.out hB) (Nat.le_trans hB HB1.out.size)).mono ?_
  rintro x w2 ⟨rfl, hb⟩
  have b_a_2 := b_a_1.later hb
  have b_b_2 := b_b_1.later hb
  have b_r_2 := b_r_1.later hb
  have HB2 := Lib.hid (bthen HB1.out hb)
  clear b_a_1 b_b_1 b_r_1
  clear hb
  rw [FA.out]
  have k_a := b_a_2.cell
  have l_a := b_a_2.lt
  have k_b := b_b_2.cell
  have l_b := b_b_2.lt
  have k_r := b_r_2.cell
  have l_r := b_r_2.lt
  have f_r := b_r_2.free
  go_wp2_with fail
  refine bodyPost_ret (ret_tm2 rfl rfl (put4 b_r_2 HB2.out (by omega)).1 rfl) rfl ?_
  exact ⟨rfl, (put4 b_r_2 HB2.out (by omega)).2⟩

set_option maxRecDepth 100000 in
set_option maxHeartbeats 4000000 in
theorem bin_badB {code x y ka kb : Int} {d d' B : Nat} {s s' : ByteArray} {l l' : List Tm} {vs ws : List Value} {w : World} (ha : RTm w B d ⟨ka, x, s, l⟩ vs) (hb : RTm w B d' ⟨kb, y, s', l'⟩ ws) (hB : B ≤ w.heap.size) (fa : fixedB ⟨ka, x, s, l⟩ = true) (fb : fixedB ⟨kb, y, s', l'⟩ = false) :
    Calls Tryz.prog 67 #[.int .i64 code, .agg vs.toArray, .agg ws.toArray] w fun z w' => z = flatR 0 0 emp 1 ∧ Below w.heap.size w w' := by
  obtain ⟨A, c, rfl, q1, q2, q3, q4, q5, _⟩ := ha.cells
  obtain ⟨A', c', rfl, r1, r2, r3, r4, r5, _⟩ := hb.cells
  have HA := Lib.hid ha
  have HB_ := Lib.hid hb
  simp only at q2 q3 q4 q5 r2 r3 r4 r5
  clear ha hb
  have FA := Lib.hid fa
  have FB := Lib.hid fb
  clear fa fb
  go_enter Tryz.func67, Tryz.ntmps67
  go_wp2_with fail
  generalize hW : World.alloc _ _ = w1
  obtain ⟨hb, hz⟩ := al3 hW
  have b_a_1 := n31 hW
  have b_b_1 := n32 hW
  have b_r_1 := n33 hW
  have HB1 := Lib.hid hb
  clear hW hz hb
  refine (fixed_any (t := ⟨ka, x, s, l⟩) (vs := [_, _, _, _]) (HA.out.below HB1.out hB) (Nat.le_trans hB HB1.out.size)).mono ?_
  rintro x w2 ⟨rfl, hb⟩
  have b_a_2 := b_a_1.later hb
  have b_b_2 := b_b_1.later hb
  have b_r_2 := b_r_1.later hb
  have HB2 := Lib.hid (bthen HB1.out hb)
  clear b_a_1 b_b_1 b_r_1
  clear hb
  rw [FA.out]
  have k_a := b_a_2.cell
  have l_a := b_a_2.lt
  have k_b := b_b_2.cell
  have l_b := b_b_2.lt
  have k_r := b_r_2.cell
  have l_r := b_r_2.lt
  go_wp2_with fail
  clear k_a l_a k_b l_b k_r l_r
  refine (fixed_any (t := ⟨kb, y, s', l'⟩) (vs := [_, _, _, _]) (HB_.out.below HB2.out hB) (Nat.le_trans hB HB2.out.size)).mono ?_
  rintro x w3 ⟨rfl, hb⟩
  have b_a_3 := b_a_2.later hb
  have b_b_3 := b_b_2.later hb
  have b_r_3 := b_r_2.later hb
  have HB3 := Lib.hid (bthen HB2.out hb)
  clear b_a_2 b_b_2 b_r_2
  clear hb
  rw [FB.out]
  have k_a := b_a_3.cell
  have l_a := b_a_3.lt
  have k_b := b_b_3.cell
  have l_b := b_b_3.lt
  have k_r := b_r_3.cell
  have l_r := b_r_3.lt
  have f_r := b_r_3.free
  go_wp2_with fail
  refine bodyPost_ret (ret_tm2 rfl rfl (put4 b_r_3 HB3.out (by omega)).1 rfl) rfl ?_
  exact ⟨rfl, (put4 b_r_3 HB3.out (by omega)).2⟩

set_option maxRecDepth 100000 in
set_option maxHeartbeats 4000000 in
theorem bin_lo {code x y ka kb : Int} {d d' B : Nat} {s s' : ByteArray} {l l' : List Tm} {vs ws : List Value} {w : World} (ha : RTm w B d ⟨ka, x, s, l⟩ vs) (hb : RTm w B d' ⟨kb, y, s', l'⟩ ws) (hB : B ≤ w.heap.size) (fa : fixedB ⟨ka, x, s, l⟩ = true) (fb : fixedB ⟨kb, y, s', l'⟩ = true) (hc : code < 1) :
    Calls Tryz.prog 67 #[.int .i64 code, .agg vs.toArray, .agg ws.toArray] w fun z w' => z = flatR 0 0 emp 1 ∧ Below w.heap.size w w' := by
  obtain ⟨A, c, rfl, q1, q2, q3, q4, q5, _⟩ := ha.cells
  obtain ⟨A', c', rfl, r1, r2, r3, r4, r5, _⟩ := hb.cells
  have HA := Lib.hid ha
  have HB_ := Lib.hid hb
  simp only at q2 q3 q4 q5 r2 r3 r4 r5
  clear ha hb
  have FA := Lib.hid fa
  have FB := Lib.hid fb
  clear fa fb
  have hq0 : decide (code < 1) = true := by simp; omega
  go_enter Tryz.func67, Tryz.ntmps67
  go_wp2_with fail
  generalize hW : World.alloc _ _ = w1
  obtain ⟨hb, hz⟩ := al3 hW
  have b_a_1 := n31 hW
  have b_b_1 := n32 hW
  have b_r_1 := n33 hW
  have HB1 := Lib.hid hb
  clear hW hz hb
  refine (fixed_any (t := ⟨ka, x, s, l⟩) (vs := [_, _, _, _]) (HA.out.below HB1.out hB) (Nat.le_trans hB HB1.out.size)).mono ?_
  rintro x w2 ⟨rfl, hb⟩
  have b_a_2 := b_a_1.later hb
  have b_b_2 := b_b_1.later hb
  have b_r_2 := b_r_1.later hb
  have HB2 := Lib.hid (bthen HB1.out hb)
  clear b_a_1 b_b_1 b_r_1
  clear hb
  rw [FA.out]
  have k_a := b_a_2.cell
  have l_a := b_a_2.lt
  have k_b := b_b_2.cell
  have l_b := b_b_2.lt
  have k_r := b_r_2.cell
  have l_r := b_r_2.lt
  go_wp2_with fail
  clear k_a l_a k_b l_b k_r l_r
  refine (fixed_any (t := ⟨kb, y, s', l'⟩) (vs := [_, _, _, _]) (HB_.out.below HB2.out hB) (Nat.le_trans hB HB2.out.size)).mono ?_
  rintro x w3 ⟨rfl, hb⟩
  have b_a_3 := b_a_2.later hb
  have b_b_3 := b_b_2.later hb
  have b_r_3 := b_r_2.later hb
  have HB3 := Lib.hid (bthen HB2.out hb)
  clear b_a_2 b_b_2 b_r_2
  clear hb
  rw [FB.out]
  have k_a := b_a_3.cell
  have l_a := b_a_3.lt
  have k_b := b_b_3.cell
  have l_b := b_b_3.lt
  have k_r := b_r_3.cell
  have l_r := b_r_3.lt
  have f_r := b_r_3.free
  go_wp2_with fail
  refine bodyPost_ret (ret_tm2 rfl rfl (put4 b_r_3 HB3.out (by omega)).1 rfl) rfl ?_
  exact ⟨rfl, (put4 b_r_3 HB3.out (by omega)).2⟩

set_option maxRecDepth 100000 in
set_option maxHeartbeats 4000000 in
theorem bin_hi {code x y ka kb : Int} {d d' B : Nat} {s s' : ByteArray} {l l' : List Tm} {vs ws : List Value} {w : World} (ha : RTm w B d ⟨ka, x, s, l⟩ vs) (hb : RTm w B d' ⟨kb, y, s', l'⟩ ws) (hB : B ≤ w.heap.size) (fa : fixedB ⟨ka, x, s, l⟩ = true) (fb : fixedB ⟨kb, y, s', l'⟩ = true) (hc : 19 < code) :
    Calls Tryz.prog 67 #[.int .i64 code, .agg vs.toArray, .agg ws.toArray] w fun z w' => z = flatR 0 0 emp 1 ∧ Below w.heap.size w w' := by
  obtain ⟨A, c, rfl, q1, q2, q3, q4, q5, _⟩ := ha.cells
  obtain ⟨A', c', rfl, r1, r2, r3, r4, r5, _⟩ := hb.cells
  have HA := Lib.hid ha
  have HB_ := Lib.hid hb
  simp only at q2 q3 q4 q5 r2 r3 r4 r5
  clear ha hb
  have FA := Lib.hid fa
  have FB := Lib.hid fb
  clear fa fb
  have hq0 : decide (code < 1) = false := by simp; omega
  have hq1 : decide (19 < code) = true := by simp; omega
  go_enter Tryz.func67, Tryz.ntmps67
  go_wp2_with fail
  generalize hW : World.alloc _ _ = w1
  obtain ⟨hb, hz⟩ := al3 hW
  have b_a_1 := n31 hW
  have b_b_1 := n32 hW
  have b_r_1 := n33 hW
  have HB1 := Lib.hid hb
  clear hW hz hb
  refine (fixed_any (t := ⟨ka, x, s, l⟩) (vs := [_, _, _, _]) (HA.out.below HB1.out hB) (Nat.le_trans hB HB1.out.size)).mono ?_
  rintro x w2 ⟨rfl, hb⟩
  have b_a_2 := b_a_1.later hb
  have b_b_2 := b_b_1.later hb
  have b_r_2 := b_r_1.later hb
  have HB2 := Lib.hid (bthen HB1.out hb)
  clear b_a_1 b_b_1 b_r_1
  clear hb
  rw [FA.out]
  have k_a := b_a_2.cell
  have l_a := b_a_2.lt
  have k_b := b_b_2.cell
  have l_b := b_b_2.lt
  have k_r := b_r_2.cell
  have l_r := b_r_2.lt
  go_wp2_with fail
  clear k_a l_a k_b l_b k_r l_r
  refine (fixed_any (t := ⟨kb, y, s', l'⟩) (vs := [_, _, _, _]) (HB_.out.below HB2.out hB) (Nat.le_trans hB HB2.out.size)).mono ?_
  rintro x w3 ⟨rfl, hb⟩
  have b_a_3 := b_a_2.later hb
  have b_b_3 := b_b_2.later hb
  have b_r_3 := b_r_2.later hb
  have HB3 := Lib.hid (bthen HB2.out hb)
  clear b_a_2 b_b_2 b_r_2
  clear hb
  rw [FB.out]
  have k_a := b_a_3.cell
  have l_a := b_a_3.lt
  have k_b := b_b_3.cell
  have l_b := b_b_3.lt
  have k_r := b_r_3.cell
  have l_r := b_r_3.lt
  have f_r := b_r_3.free
  go_wp2_with fail
  refine bodyPost_ret (ret_tm2 rfl rfl (put4 b_r_3 HB3.out (by omega)).1 rfl) rfl ?_
  exact ⟨rfl, (put4 b_r_3 HB3.out (by omega)).2⟩

set_option maxRecDepth 100000 in
set_option maxHeartbeats 4000000 in
theorem bin_type {code x y ka kb : Int} {d d' B : Nat} {s s' : ByteArray} {l l' : List Tm} {vs ws : List Value} {w : World} (ha : RTm w B d ⟨ka, x, s, l⟩ vs) (hb : RTm w B d' ⟨kb, y, s', l'⟩ ws) (hB : B ≤ w.heap.size) (fa : fixedB ⟨ka, x, s, l⟩ = true) (fb : fixedB ⟨kb, y, s', l'⟩ = true) (h1 : 1 ≤ code) (h2 : code ≤ 19) (hk : kindsB code ka kb = false) :
    Calls Tryz.prog 67 #[.int .i64 code, .agg vs.toArray, .agg ws.toArray] w fun z w' => z = flatR 0 0 emp 7 ∧ Below w.heap.size w w' := by
  obtain ⟨A, c, rfl, q1, q2, q3, q4, q5, _⟩ := ha.cells
  obtain ⟨A', c', rfl, r1, r2, r3, r4, r5, _⟩ := hb.cells
  have HA := Lib.hid ha
  have HB_ := Lib.hid hb
  simp only at q2 q3 q4 q5 r2 r3 r4 r5
  clear ha hb
  have FA := Lib.hid fa
  have FB := Lib.hid fb
  have HK := Lib.hid hk
  have hq0 : decide (code < 1) = false := by simp; omega
  have hq1 : decide (19 < code) = false := by simp; omega
  clear fa fb hk
  go_enter Tryz.func67, Tryz.ntmps67
  go_wp2_with fail
  generalize hW : World.alloc _ _ = w1
  obtain ⟨hb, hz⟩ := al3 hW
  have b_a_1 := n31 hW
  have b_b_1 := n32 hW
  have b_r_1 := n33 hW
  have HB1 := Lib.hid hb
  clear hW hz hb
  refine (fixed_any (t := ⟨ka, x, s, l⟩) (vs := [_, _, _, _]) (HA.out.below HB1.out hB) (Nat.le_trans hB HB1.out.size)).mono ?_
  rintro x w2 ⟨rfl, hb⟩
  have b_a_2 := b_a_1.later hb
  have b_b_2 := b_b_1.later hb
  have b_r_2 := b_r_1.later hb
  have HB2 := Lib.hid (bthen HB1.out hb)
  clear b_a_1 b_b_1 b_r_1
  clear hb
  rw [FA.out]
  have k_a := b_a_2.cell
  have l_a := b_a_2.lt
  have k_b := b_b_2.cell
  have l_b := b_b_2.lt
  have k_r := b_r_2.cell
  have l_r := b_r_2.lt
  go_wp2_with fail
  clear k_a l_a k_b l_b k_r l_r
  refine (fixed_any (t := ⟨kb, y, s', l'⟩) (vs := [_, _, _, _]) (HB_.out.below HB2.out hB) (Nat.le_trans hB HB2.out.size)).mono ?_
  rintro x w3 ⟨rfl, hb⟩
  have b_a_3 := b_a_2.later hb
  have b_b_3 := b_b_2.later hb
  have b_r_3 := b_r_2.later hb
  have HB3 := Lib.hid (bthen HB2.out hb)
  clear b_a_2 b_b_2 b_r_2
  clear hb
  rw [FB.out]
  have k_a := b_a_3.cell
  have l_a := b_a_3.lt
  have k_b := b_b_3.cell
  have l_b := b_b_3.lt
  have k_r := b_r_3.cell
  have l_r := b_r_3.lt
  go_wp2_with fail
  clear k_a l_a k_b l_b k_r l_r
  refine (kinds_any code ka kb _).mono ?_
  rintro x w4 ⟨rfl, hb⟩
  have b_a_4 := b_a_3.later hb
  have b_b_4 := b_b_3.later hb
  have b_r_4 := b_r_3.later hb
  have HB4 := Lib.hid (bthen HB3.out hb)
  clear b_a_3 b_b_3 b_r_3
  clear hb
  rw [HK.out]
  have k_a := b_a_4.cell
  have l_a := b_a_4.lt
  have k_b := b_b_4.cell
  have l_b := b_b_4.lt
  have k_r := b_r_4.cell
  have l_r := b_r_4.lt
  have f_r := b_r_4.free
  go_wp2_with fail
  refine bodyPost_ret (ret_tm2 rfl rfl (put4 b_r_4 HB4.out (by omega)).1 rfl) rfl ?_
  exact ⟨rfl, (put4 b_r_4 HB4.out (by omega)).2⟩

set_option maxRecDepth 100000 in
set_option maxHeartbeats 4000000 in
theorem bin_match {x y : Int} {d d' B : Nat} {s s' : ByteArray} {l l' : List Tm} {vs ws : List Value} {w : World} (ha : RTm w B d ⟨3, x, s, l⟩ vs) (hb : RTm w B d' ⟨3, y, s', l'⟩ ws) (hB : B ≤ w.heap.size) (fa : fixedB ⟨3, x, s, l⟩ = true) (fb : fixedB ⟨3, y, s', l'⟩ = true) (hz : (fitsR s' s false).2 = 0) :
    Calls Tryz.prog 67 #[.int .i64 14, .agg vs.toArray, .agg ws.toArray] w fun z w' => z = flatR 6 (bit (fitsR s' s false).1) emp 0 ∧ Below w.heap.size w w' := by
  obtain ⟨A, c, rfl, q1, q2, q3, q4, q5, _⟩ := ha.cells
  obtain ⟨A', c', rfl, r1, r2, r3, r4, r5, _⟩ := hb.cells
  have HA := Lib.hid ha
  have HB_ := Lib.hid hb
  simp only at q2 q3 q4 q5 r2 r3 r4 r5
  clear ha hb
  have FA := Lib.hid fa
  have FB := Lib.hid fb
  have HK : Hid (kindsB 14 3 3 = true) := Lib.hid (by decide)
  clear fa fb
  go_enter Tryz.func67, Tryz.ntmps67
  go_wp2_with fail
  generalize hW : World.alloc _ _ = w1
  obtain ⟨hb, hz⟩ := al3 hW
  have b_a_1 := n31 hW
  have b_b_1 := n32 hW
  have b_r_1 := n33 hW
  have HB1 := Lib.hid hb
  clear hW hz hb
  refine (fixed_any (t := ⟨3, x, s, l⟩) (vs := [_, _, _, _]) (HA.out.below HB1.out hB) (Nat.le_trans hB HB1.out.size)).mono ?_
  rintro x w2 ⟨rfl, hb⟩
  have b_a_2 := b_a_1.later hb
  have b_b_2 := b_b_1.later hb
  have b_r_2 := b_r_1.later hb
  have HB2 := Lib.hid (bthen HB1.out hb)
  clear b_a_1 b_b_1 b_r_1
  clear hb
  rw [FA.out]
  have k_a := b_a_2.cell
  have l_a := b_a_2.lt
  have k_b := b_b_2.cell
  have l_b := b_b_2.lt
  have k_r := b_r_2.cell
  have l_r := b_r_2.lt
  go_wp2_with fail
  clear k_a l_a k_b l_b k_r l_r
  refine (fixed_any (t := ⟨3, y, s', l'⟩) (vs := [_, _, _, _]) (HB_.out.below HB2.out hB) (Nat.le_trans hB HB2.out.size)).mono ?_
  rintro x w3 ⟨rfl, hb⟩
  have b_a_3 := b_a_2.later hb
  have b_b_3 := b_b_2.later hb
  have b_r_3 := b_r_2.later hb
  have HB3 := Lib.hid (bthen HB2.out hb)
  clear b_a_2 b_b_2 b_r_2
  clear hb
  rw [FB.out]
  have k_a := b_a_3.cell
  have l_a := b_a_3.lt
  have k_b := b_b_3.cell
  have l_b := b_b_3.lt
  have k_r := b_r_3.cell
  have l_r := b_r_3.lt
  go_wp2_with fail
  clear k_a l_a k_b l_b k_r l_r
  refine (kinds_any 14 3 3 _).mono ?_
  rintro x w4 ⟨rfl, hb⟩
  have b_a_4 := b_a_3.later hb
  have b_b_4 := b_b_3.later hb
  have b_r_4 := b_r_3.later hb
  have HB4 := Lib.hid (bthen HB3.out hb)
  clear b_a_3 b_b_3 b_r_3
  clear hb
  rw [HK.out]
  have k_a := b_a_4.cell
  have l_a := b_a_4.lt
  have k_b := b_b_4.cell
  have l_b := b_b_4.lt
  have k_r := b_r_4.cell
  have l_r := b_r_4.lt
  go_wp2_with fail
  clear k_a l_a k_b l_b k_r l_r
  refine (find_any (p := s') (t := s) (by omega) (by omega)).mono ?_
  rintro x w5 ⟨rfl, hb⟩
  have b_a_5 := b_a_4.later hb
  have b_b_5 := b_b_4.later hb
  have b_r_5 := b_r_4.later hb
  have HB5 := Lib.hid (bthen HB4.out hb)
  clear b_a_4 b_b_4 b_r_4
  clear hb
  rw [hz]
  clear hz
  have k_a := b_a_5.cell
  have l_a := b_a_5.lt
  have k_b := b_b_5.cell
  have l_b := b_b_5.lt
  have k_r := b_r_5.cell
  have l_r := b_r_5.lt
  go_wp2_with fail
  clear k_a l_a k_b l_b k_r l_r
  refine (truth_any _ _).mono ?_
  rintro x w6 ⟨rfl, hb⟩
  have b_a_6 := b_a_5.later hb
  have b_b_6 := b_b_5.later hb
  have b_r_6 := b_r_5.later hb
  have HB6 := Lib.hid (bthen HB5.out hb)
  clear b_a_5 b_b_5 b_r_5
  clear hb
  have k_a := b_a_6.cell
  have l_a := b_a_6.lt
  have k_b := b_b_6.cell
  have l_b := b_b_6.lt
  have k_r := b_r_6.cell
  have l_r := b_r_6.lt
  have f_r := b_r_6.free
  go_wp2_with fail
  refine bodyPost_ret (ret_tm2 rfl rfl (put4 b_r_6 HB6.out (by omega)).1 rfl) rfl ?_
  exact ⟨rfl, (put4 b_r_6 HB6.out (by omega)).2⟩

set_option maxRecDepth 100000 in
set_option maxHeartbeats 4000000 in
theorem bin_nomatch {x y : Int} {d d' B : Nat} {s s' : ByteArray} {l l' : List Tm} {vs ws : List Value} {w : World} (ha : RTm w B d ⟨3, x, s, l⟩ vs) (hb : RTm w B d' ⟨3, y, s', l'⟩ ws) (hB : B ≤ w.heap.size) (fa : fixedB ⟨3, x, s, l⟩ = true) (fb : fixedB ⟨3, y, s', l'⟩ = true) (hz : (fitsR s' s false).2 ≠ 0) :
    Calls Tryz.prog 67 #[.int .i64 14, .agg vs.toArray, .agg ws.toArray] w fun z w' => z = flatR 0 0 emp (fitsR s' s false).2 ∧ Below w.heap.size w w' := by
  obtain ⟨A, c, rfl, q1, q2, q3, q4, q5, _⟩ := ha.cells
  obtain ⟨A', c', rfl, r1, r2, r3, r4, r5, _⟩ := hb.cells
  have HA := Lib.hid ha
  have HB_ := Lib.hid hb
  simp only at q2 q3 q4 q5 r2 r3 r4 r5
  clear ha hb
  have FA := Lib.hid fa
  have FB := Lib.hid fb
  have HK : Hid (kindsB 14 3 3 = true) := Lib.hid (by decide)
  clear fa fb
  go_enter Tryz.func67, Tryz.ntmps67
  go_wp2_with fail
  generalize hW : World.alloc _ _ = w1
  obtain ⟨hb, hz⟩ := al3 hW
  have b_a_1 := n31 hW
  have b_b_1 := n32 hW
  have b_r_1 := n33 hW
  have HB1 := Lib.hid hb
  clear hW hz hb
  refine (fixed_any (t := ⟨3, x, s, l⟩) (vs := [_, _, _, _]) (HA.out.below HB1.out hB) (Nat.le_trans hB HB1.out.size)).mono ?_
  rintro x w2 ⟨rfl, hb⟩
  have b_a_2 := b_a_1.later hb
  have b_b_2 := b_b_1.later hb
  have b_r_2 := b_r_1.later hb
  have HB2 := Lib.hid (bthen HB1.out hb)
  clear b_a_1 b_b_1 b_r_1
  clear hb
  rw [FA.out]
  have k_a := b_a_2.cell
  have l_a := b_a_2.lt
  have k_b := b_b_2.cell
  have l_b := b_b_2.lt
  have k_r := b_r_2.cell
  have l_r := b_r_2.lt
  go_wp2_with fail
  clear k_a l_a k_b l_b k_r l_r
  refine (fixed_any (t := ⟨3, y, s', l'⟩) (vs := [_, _, _, _]) (HB_.out.below HB2.out hB) (Nat.le_trans hB HB2.out.size)).mono ?_
  rintro x w3 ⟨rfl, hb⟩
  have b_a_3 := b_a_2.later hb
  have b_b_3 := b_b_2.later hb
  have b_r_3 := b_r_2.later hb
  have HB3 := Lib.hid (bthen HB2.out hb)
  clear b_a_2 b_b_2 b_r_2
  clear hb
  rw [FB.out]
  have k_a := b_a_3.cell
  have l_a := b_a_3.lt
  have k_b := b_b_3.cell
  have l_b := b_b_3.lt
  have k_r := b_r_3.cell
  have l_r := b_r_3.lt
  go_wp2_with fail
  clear k_a l_a k_b l_b k_r l_r
  refine (kinds_any 14 3 3 _).mono ?_
  rintro x w4 ⟨rfl, hb⟩
  have b_a_4 := b_a_3.later hb
  have b_b_4 := b_b_3.later hb
  have b_r_4 := b_r_3.later hb
  have HB4 := Lib.hid (bthen HB3.out hb)
  clear b_a_3 b_b_3 b_r_3
  clear hb
  rw [HK.out]
  have k_a := b_a_4.cell
  have l_a := b_a_4.lt
  have k_b := b_b_4.cell
  have l_b := b_b_4.lt
  have k_r := b_r_4.cell
  have l_r := b_r_4.lt
  go_wp2_with fail
  clear k_a l_a k_b l_b k_r l_r
  refine (find_any (p := s') (t := s) (by omega) (by omega)).mono ?_
  rintro x w5 ⟨rfl, hb⟩
  have b_a_5 := b_a_4.later hb
  have b_b_5 := b_b_4.later hb
  have b_r_5 := b_r_4.later hb
  have HB5 := Lib.hid (bthen HB4.out hb)
  clear b_a_4 b_b_4 b_r_4
  clear hb
  have hq : (((fitsR s' s false).2 : Int) != 0) = true := by simpa using hz
  clear hz
  have k_a := b_a_5.cell
  have l_a := b_a_5.lt
  have k_b := b_b_5.cell
  have l_b := b_b_5.lt
  have k_r := b_r_5.cell
  have l_r := b_r_5.lt
  have f_r := b_r_5.free
  go_wp2_with fail
  refine bodyPost_ret (ret_tm2 rfl rfl (put4 b_r_5 HB5.out (by omega)).1 rfl) rfl ?_
  exact ⟨rfl, (put4 b_r_5 HB5.out (by omega)).2⟩

set_option maxRecDepth 100000 in
set_option maxHeartbeats 4000000 in
theorem un_bad {code x ka : Int} {d B : Nat} {s : ByteArray} {l : List Tm} {vs : List Value} {w : World} (ha : RTm w B d ⟨ka, x, s, l⟩ vs) (hB : B ≤ w.heap.size) (fa : fixedB ⟨ka, x, s, l⟩ = false) :
    Calls Tryz.prog 66 #[.int .i64 code, .agg vs.toArray] w fun z w' => z = flatR 0 0 emp 1 ∧ Below w.heap.size w w' := by
  obtain ⟨A, c, rfl, q1, q2, q3, q4, q5, _⟩ := ha.cells
  have HA := Lib.hid ha
  simp only at q2 q3 q4 q5
  clear ha
  have FA := Lib.hid fa
  clear fa
  go_enter Tryz.func66, Tryz.ntmps66
  go_wp2_with fail
  generalize hW : World.alloc _ _ = w1
  obtain ⟨hb, hz⟩ := al2 hW
  have b_a_1 := n21 hW
  have b_r_1 := n22 hW
  have HB1 := Lib.hid hb
  clear hW hz hb
  refine (fixed_any (t := ⟨ka, x, s, l⟩) (vs := [_, _, _, _]) (HA.out.below HB1.out hB) (Nat.le_trans hB HB1.out.size)).mono ?_
  rintro x w2 ⟨rfl, hb⟩
  have b_a_2 := b_a_1.later hb
  have b_r_2 := b_r_1.later hb
  have HB2 := Lib.hid (bthen HB1.out hb)
  clear b_a_1 b_r_1
  clear hb
  rw [FA.out]
  have k_a := b_a_2.cell
  have l_a := b_a_2.lt
  have k_r := b_r_2.cell
  have l_r := b_r_2.lt
  have f_r := b_r_2.free
  go_wp2_with fail
  refine bodyPost_ret (ret_tm2 rfl rfl (put4 b_r_2 HB2.out (by omega)).1 rfl) rfl ?_
  exact ⟨rfl, (put4 b_r_2 HB2.out (by omega)).2⟩

set_option maxRecDepth 100000 in
set_option maxHeartbeats 4000000 in
theorem un_lo {code x ka : Int} {d B : Nat} {s : ByteArray} {l : List Tm} {vs : List Value} {w : World} (ha : RTm w B d ⟨ka, x, s, l⟩ vs) (hB : B ≤ w.heap.size) (fa : fixedB ⟨ka, x, s, l⟩ = true) (hc : code < 1) :
    Calls Tryz.prog 66 #[.int .i64 code, .agg vs.toArray] w fun z w' => z = flatR 0 0 emp 1 ∧ Below w.heap.size w w' := by
  obtain ⟨A, c, rfl, q1, q2, q3, q4, q5, _⟩ := ha.cells
  have HA := Lib.hid ha
  simp only at q2 q3 q4 q5
  clear ha
  have FA := Lib.hid fa
  clear fa
  have hq0 : decide (code < 1) = true := by simp; omega
  go_enter Tryz.func66, Tryz.ntmps66
  go_wp2_with fail
  generalize hW : World.alloc _ _ = w1
  obtain ⟨hb, hz⟩ := al2 hW
  have b_a_1 := n21 hW
  have b_r_1 := n22 hW
  have HB1 := Lib.hid hb
  clear hW hz hb
  refine (fixed_any (t := ⟨ka, x, s, l⟩) (vs := [_, _, _, _]) (HA.out.below HB1.out hB) (Nat.le_trans hB HB1.out.size)).mono ?_
  rintro x w2 ⟨rfl, hb⟩
  have b_a_2 := b_a_1.later hb
  have b_r_2 := b_r_1.later hb
  have HB2 := Lib.hid (bthen HB1.out hb)
  clear b_a_1 b_r_1
  clear hb
  rw [FA.out]
  have k_a := b_a_2.cell
  have l_a := b_a_2.lt
  have k_r := b_r_2.cell
  have l_r := b_r_2.lt
  have f_r := b_r_2.free
  go_wp2_with fail
  refine bodyPost_ret (ret_tm2 rfl rfl (put4 b_r_2 HB2.out (by omega)).1 rfl) rfl ?_
  exact ⟨rfl, (put4 b_r_2 HB2.out (by omega)).2⟩

set_option maxRecDepth 100000 in
set_option maxHeartbeats 4000000 in
theorem un_hi {code x ka : Int} {d B : Nat} {s : ByteArray} {l : List Tm} {vs : List Value} {w : World} (ha : RTm w B d ⟨ka, x, s, l⟩ vs) (hB : B ≤ w.heap.size) (fa : fixedB ⟨ka, x, s, l⟩ = true) (hc : 3 < code) :
    Calls Tryz.prog 66 #[.int .i64 code, .agg vs.toArray] w fun z w' => z = flatR 0 0 emp 1 ∧ Below w.heap.size w w' := by
  obtain ⟨A, c, rfl, q1, q2, q3, q4, q5, _⟩ := ha.cells
  have HA := Lib.hid ha
  simp only at q2 q3 q4 q5
  clear ha
  have FA := Lib.hid fa
  clear fa
  have hq0 : decide (code < 1) = false := by simp; omega
  have hq1 : decide (3 < code) = true := by simp; omega
  go_enter Tryz.func66, Tryz.ntmps66
  go_wp2_with fail
  generalize hW : World.alloc _ _ = w1
  obtain ⟨hb, hz⟩ := al2 hW
  have b_a_1 := n21 hW
  have b_r_1 := n22 hW
  have HB1 := Lib.hid hb
  clear hW hz hb
  refine (fixed_any (t := ⟨ka, x, s, l⟩) (vs := [_, _, _, _]) (HA.out.below HB1.out hB) (Nat.le_trans hB HB1.out.size)).mono ?_
  rintro x w2 ⟨rfl, hb⟩
  have b_a_2 := b_a_1.later hb
  have b_r_2 := b_r_1.later hb
  have HB2 := Lib.hid (bthen HB1.out hb)
  clear b_a_1 b_r_1
  clear hb
  rw [FA.out]
  have k_a := b_a_2.cell
  have l_a := b_a_2.lt
  have k_r := b_r_2.cell
  have l_r := b_r_2.lt
  have f_r := b_r_2.free
  go_wp2_with fail
  refine bodyPost_ret (ret_tm2 rfl rfl (put4 b_r_2 HB2.out (by omega)).1 rfl) rfl ?_
  exact ⟨rfl, (put4 b_r_2 HB2.out (by omega)).2⟩

set_option maxRecDepth 100000 in
set_option maxHeartbeats 4000000 in
theorem un_not {x : Int} {d B : Nat} {s : ByteArray} {l : List Tm} {vs : List Value} {w : World} (ha : RTm w B d ⟨6, x, s, l⟩ vs) (hB : B ≤ w.heap.size) (fa : fixedB ⟨6, x, s, l⟩ = true) :
    Calls Tryz.prog 66 #[.int .i64 1, .agg vs.toArray] w fun z w' => z = flatR 6 (bit (decide (x = 0))) emp 0 ∧ Below w.heap.size w w' := by
  obtain ⟨A, c, rfl, q1, q2, q3, q4, q5, _⟩ := ha.cells
  have HA := Lib.hid ha
  simp only at q2 q3 q4 q5
  clear ha
  have FA := Lib.hid fa
  have HD : Hid ((x == 0) = decide (x = 0)) := Lib.hid (by rw [Bool.eq_iff_iff]; simp)
  clear fa
  go_enter Tryz.func66, Tryz.ntmps66
  go_wp2_with fail
  generalize hW : World.alloc _ _ = w1
  obtain ⟨hb, hz⟩ := al2 hW
  have b_a_1 := n21 hW
  have b_r_1 := n22 hW
  have HB1 := Lib.hid hb
  clear hW hz hb
  refine (fixed_any (t := ⟨6, x, s, l⟩) (vs := [_, _, _, _]) (HA.out.below HB1.out hB) (Nat.le_trans hB HB1.out.size)).mono ?_
  rintro x w2 ⟨rfl, hb⟩
  have b_a_2 := b_a_1.later hb
  have b_r_2 := b_r_1.later hb
  have HB2 := Lib.hid (bthen HB1.out hb)
  clear b_a_1 b_r_1
  clear hb
  rw [FA.out]
  have k_a := b_a_2.cell
  have l_a := b_a_2.lt
  have k_r := b_r_2.cell
  have l_r := b_r_2.lt
  go_wp2_with fail
  clear k_a l_a k_r l_r
  rw [HD.out]
  refine (truth_any _ _).mono ?_
  rintro x w3 ⟨rfl, hb⟩
  have b_a_3 := b_a_2.later hb
  have b_r_3 := b_r_2.later hb
  have HB3 := Lib.hid (bthen HB2.out hb)
  clear b_a_2 b_r_2
  clear hb
  have k_a := b_a_3.cell
  have l_a := b_a_3.lt
  have k_r := b_r_3.cell
  have l_r := b_r_3.lt
  have f_r := b_r_3.free
  go_wp2_with fail
  refine bodyPost_ret (ret_tm2 rfl rfl (put4 b_r_3 HB3.out (by omega)).1 rfl) rfl ?_
  exact ⟨rfl, (put4 b_r_3 HB3.out (by omega)).2⟩

set_option maxRecDepth 100000 in
set_option maxHeartbeats 4000000 in
theorem un_neg {x : Int} {d B : Nat} {s : ByteArray} {l : List Tm} {vs : List Value} {w : World} (ha : RTm w B d ⟨2, x, s, l⟩ vs) (hB : B ≤ w.heap.size) (fa : fixedB ⟨2, x, s, l⟩ = true) {k n e : Int} (hr : recR 8 0 x = (k, n, e)) :
    Calls Tryz.prog 66 #[.int .i64 2, .agg vs.toArray] w fun z w' => z = flatR k n emp e ∧ Below w.heap.size w w' := by
  obtain ⟨A, c, rfl, q1, q2, q3, q4, q5, _⟩ := ha.cells
  have HA := Lib.hid ha
  simp only at q2 q3 q4 q5
  clear ha
  have FA := Lib.hid fa
  have HR := Lib.hid hr
  clear fa hr
  go_enter Tryz.func66, Tryz.ntmps66
  go_wp2_with fail
  generalize hW : World.alloc _ _ = w1
  obtain ⟨hb, hz⟩ := al2 hW
  have b_a_1 := n21 hW
  have b_r_1 := n22 hW
  have HB1 := Lib.hid hb
  clear hW hz hb
  refine (fixed_any (t := ⟨2, x, s, l⟩) (vs := [_, _, _, _]) (HA.out.below HB1.out hB) (Nat.le_trans hB HB1.out.size)).mono ?_
  rintro x w2 ⟨rfl, hb⟩
  have b_a_2 := b_a_1.later hb
  have b_r_2 := b_r_1.later hb
  have HB2 := Lib.hid (bthen HB1.out hb)
  clear b_a_1 b_r_1
  clear hb
  rw [FA.out]
  have k_a := b_a_2.cell
  have l_a := b_a_2.lt
  have k_r := b_r_2.cell
  have l_r := b_r_2.lt
  go_wp2_with fail
  clear k_a l_a k_r l_r
  refine (reckon_any 8 0 x k n e (by omega) (by unfold I64; omega) q5 HR.out _).mono ?_
  rintro x w3 ⟨rfl, hb⟩
  have b_a_3 := b_a_2.later hb
  have b_r_3 := b_r_2.later hb
  have HB3 := Lib.hid (bthen HB2.out hb)
  clear b_a_2 b_r_2
  clear hb
  have k_a := b_a_3.cell
  have l_a := b_a_3.lt
  have k_r := b_r_3.cell
  have l_r := b_r_3.lt
  have f_r := b_r_3.free
  go_wp2_with fail
  refine bodyPost_ret (ret_tm2 rfl rfl (put4 b_r_3 HB3.out (by omega)).1 rfl) rfl ?_
  exact ⟨rfl, (put4 b_r_3 HB3.out (by omega)).2⟩

set_option maxRecDepth 100000 in
set_option maxHeartbeats 4000000 in
theorem un_len5 {x : Int} {d B : Nat} {s : ByteArray} {l : List Tm} {vs : List Value} {w : World} (ha : RTm w B d ⟨5, x, s, l⟩ vs) (hB : B ≤ w.heap.size) (fa : fixedB ⟨5, x, s, l⟩ = true) :
    Calls Tryz.prog 66 #[.int .i64 3, .agg vs.toArray] w fun z w' => z = flatR 2 s.size emp 0 ∧ Below w.heap.size w w' := by
  obtain ⟨A, c, rfl, q1, q2, q3, q4, q5, _⟩ := ha.cells
  have HA := Lib.hid ha
  simp only at q2 q3 q4 q5
  clear ha
  have FA := Lib.hid fa
  clear fa
  go_enter Tryz.func66, Tryz.ntmps66
  go_wp2_with fail
  generalize hW : World.alloc _ _ = w1
  obtain ⟨hb, hz⟩ := al2 hW
  have b_a_1 := n21 hW
  have b_r_1 := n22 hW
  have HB1 := Lib.hid hb
  clear hW hz hb
  refine (fixed_any (t := ⟨5, x, s, l⟩) (vs := [_, _, _, _]) (HA.out.below HB1.out hB) (Nat.le_trans hB HB1.out.size)).mono ?_
  rintro x w2 ⟨rfl, hb⟩
  have b_a_2 := b_a_1.later hb
  have b_r_2 := b_r_1.later hb
  have HB2 := Lib.hid (bthen HB1.out hb)
  clear b_a_1 b_r_1
  clear hb
  rw [FA.out]
  have k_a := b_a_2.cell
  have l_a := b_a_2.lt
  have k_r := b_r_2.cell
  have l_r := b_r_2.lt
  go_wp2_with fail
  clear k_a l_a k_r l_r
  refine (number_any _ _).mono ?_
  rintro x w3 ⟨rfl, hb⟩
  have b_a_3 := b_a_2.later hb
  have b_r_3 := b_r_2.later hb
  have HB3 := Lib.hid (bthen HB2.out hb)
  clear b_a_2 b_r_2
  clear hb
  have k_a := b_a_3.cell
  have l_a := b_a_3.lt
  have k_r := b_r_3.cell
  have l_r := b_r_3.lt
  have f_r := b_r_3.free
  go_wp2_with fail
  refine bodyPost_ret (ret_tm2 rfl rfl (put4 b_r_3 HB3.out (by omega)).1 rfl) rfl ?_
  exact ⟨rfl, (put4 b_r_3 HB3.out (by omega)).2⟩

set_option maxRecDepth 100000 in
set_option maxHeartbeats 4000000 in
theorem un_len7 {x : Int} {d B : Nat} {s : ByteArray} {l : List Tm} {vs : List Value} {w : World} (ha : RTm w B d ⟨7, x, s, l⟩ vs) (hB : B ≤ w.heap.size) (fa : fixedB ⟨7, x, s, l⟩ = true) :
    Calls Tryz.prog 66 #[.int .i64 3, .agg vs.toArray] w fun z w' => z = flatR 2 l.length emp 0 ∧ Below w.heap.size w w' := by
  obtain ⟨A, c, rfl, q1, q2, q3, q4, q5, _⟩ := ha.cells
  have HA := Lib.hid ha
  simp only at q2 q3 q4 q5
  clear ha
  have FA := Lib.hid fa
  clear fa
  go_enter Tryz.func66, Tryz.ntmps66
  go_wp2_with fail
  generalize hW : World.alloc _ _ = w1
  obtain ⟨hb, hz⟩ := al2 hW
  have b_a_1 := n21 hW
  have b_r_1 := n22 hW
  have HB1 := Lib.hid hb
  clear hW hz hb
  refine (fixed_any (t := ⟨7, x, s, l⟩) (vs := [_, _, _, _]) (HA.out.below HB1.out hB) (Nat.le_trans hB HB1.out.size)).mono ?_
  rintro x w2 ⟨rfl, hb⟩
  have b_a_2 := b_a_1.later hb
  have b_r_2 := b_r_1.later hb
  have HB2 := Lib.hid (bthen HB1.out hb)
  clear b_a_1 b_r_1
  clear hb
  rw [FA.out]
  have k_a := b_a_2.cell
  have l_a := b_a_2.lt
  have k_r := b_r_2.cell
  have l_r := b_r_2.lt
  go_wp2_with fail
  clear k_a l_a k_r l_r
  refine (number_any _ _).mono ?_
  rintro x w3 ⟨rfl, hb⟩
  have b_a_3 := b_a_2.later hb
  have b_r_3 := b_r_2.later hb
  have HB3 := Lib.hid (bthen HB2.out hb)
  clear b_a_2 b_r_2
  clear hb
  have k_a := b_a_3.cell
  have l_a := b_a_3.lt
  have k_r := b_r_3.cell
  have l_r := b_r_3.lt
  have f_r := b_r_3.free
  go_wp2_with fail
  refine bodyPost_ret (ret_tm2 rfl rfl (put4 b_r_3 HB3.out (by omega)).1 rfl) rfl ?_
  exact ⟨rfl, (put4 b_r_3 HB3.out (by omega)).2⟩

set_option maxRecDepth 100000 in
set_option maxHeartbeats 4000000 in
theorem un_type1 {x ka : Int} {d B : Nat} {s : ByteArray} {l : List Tm} {vs : List Value} {w : World} (ha : RTm w B d ⟨ka, x, s, l⟩ vs) (hB : B ≤ w.heap.size) (fa : fixedB ⟨ka, x, s, l⟩ = true) (h6 : ka ≠ 6) :
    Calls Tryz.prog 66 #[.int .i64 1, .agg vs.toArray] w fun z w' => z = flatR 0 0 emp 7 ∧ Below w.heap.size w w' := by
  obtain ⟨A, c, rfl, q1, q2, q3, q4, q5, _⟩ := ha.cells
  have HA := Lib.hid ha
  simp only at q2 q3 q4 q5
  clear ha
  have FA := Lib.hid fa
  clear fa
  have hq6 : (ka == 6) = false := by simpa using h6
  go_enter Tryz.func66, Tryz.ntmps66
  go_wp2_with fail
  generalize hW : World.alloc _ _ = w1
  obtain ⟨hb, hz⟩ := al2 hW
  have b_a_1 := n21 hW
  have b_r_1 := n22 hW
  have HB1 := Lib.hid hb
  clear hW hz hb
  refine (fixed_any (t := ⟨ka, x, s, l⟩) (vs := [_, _, _, _]) (HA.out.below HB1.out hB) (Nat.le_trans hB HB1.out.size)).mono ?_
  rintro x w2 ⟨rfl, hb⟩
  have b_a_2 := b_a_1.later hb
  have b_r_2 := b_r_1.later hb
  have HB2 := Lib.hid (bthen HB1.out hb)
  clear b_a_1 b_r_1
  clear hb
  rw [FA.out]
  have k_a := b_a_2.cell
  have l_a := b_a_2.lt
  have k_r := b_r_2.cell
  have l_r := b_r_2.lt
  have f_r := b_r_2.free
  go_wp2_with fail
  refine bodyPost_ret (ret_tm2 rfl rfl (put4 b_r_2 HB2.out (by omega)).1 rfl) rfl ?_
  exact ⟨rfl, (put4 b_r_2 HB2.out (by omega)).2⟩

set_option maxRecDepth 100000 in
set_option maxHeartbeats 4000000 in
theorem un_type2 {x ka : Int} {d B : Nat} {s : ByteArray} {l : List Tm} {vs : List Value} {w : World} (ha : RTm w B d ⟨ka, x, s, l⟩ vs) (hB : B ≤ w.heap.size) (fa : fixedB ⟨ka, x, s, l⟩ = true) (h2 : ka ≠ 2) :
    Calls Tryz.prog 66 #[.int .i64 2, .agg vs.toArray] w fun z w' => z = flatR 0 0 emp 7 ∧ Below w.heap.size w w' := by
  obtain ⟨A, c, rfl, q1, q2, q3, q4, q5, _⟩ := ha.cells
  have HA := Lib.hid ha
  simp only at q2 q3 q4 q5
  clear ha
  have FA := Lib.hid fa
  clear fa
  have hq2 : (ka == 2) = false := by simpa using h2
  go_enter Tryz.func66, Tryz.ntmps66
  go_wp2_with fail
  generalize hW : World.alloc _ _ = w1
  obtain ⟨hb, hz⟩ := al2 hW
  have b_a_1 := n21 hW
  have b_r_1 := n22 hW
  have HB1 := Lib.hid hb
  clear hW hz hb
  refine (fixed_any (t := ⟨ka, x, s, l⟩) (vs := [_, _, _, _]) (HA.out.below HB1.out hB) (Nat.le_trans hB HB1.out.size)).mono ?_
  rintro x w2 ⟨rfl, hb⟩
  have b_a_2 := b_a_1.later hb
  have b_r_2 := b_r_1.later hb
  have HB2 := Lib.hid (bthen HB1.out hb)
  clear b_a_1 b_r_1
  clear hb
  rw [FA.out]
  have k_a := b_a_2.cell
  have l_a := b_a_2.lt
  have k_r := b_r_2.cell
  have l_r := b_r_2.lt
  have f_r := b_r_2.free
  go_wp2_with fail
  refine bodyPost_ret (ret_tm2 rfl rfl (put4 b_r_2 HB2.out (by omega)).1 rfl) rfl ?_
  exact ⟨rfl, (put4 b_r_2 HB2.out (by omega)).2⟩

set_option maxRecDepth 100000 in
set_option maxHeartbeats 4000000 in
theorem un_type3 {x ka : Int} {d B : Nat} {s : ByteArray} {l : List Tm} {vs : List Value} {w : World} (ha : RTm w B d ⟨ka, x, s, l⟩ vs) (hB : B ≤ w.heap.size) (fa : fixedB ⟨ka, x, s, l⟩ = true) (h3 : ka ≠ 3) (h5 : ka ≠ 5) (h7 : ka ≠ 7) :
    Calls Tryz.prog 66 #[.int .i64 3, .agg vs.toArray] w fun z w' => z = flatR 0 0 emp 7 ∧ Below w.heap.size w w' := by
  obtain ⟨A, c, rfl, q1, q2, q3, q4, q5, _⟩ := ha.cells
  have HA := Lib.hid ha
  simp only at q2 q3 q4 q5
  clear ha
  have FA := Lib.hid fa
  clear fa
  have hq3 : (ka == 3) = false := by simpa using h3
  have hq5 : (ka == 5) = false := by simpa using h5
  have hq7 : (ka == 7) = false := by simpa using h7
  go_enter Tryz.func66, Tryz.ntmps66
  go_wp2_with fail
  generalize hW : World.alloc _ _ = w1
  obtain ⟨hb, hz⟩ := al2 hW
  have b_a_1 := n21 hW
  have b_r_1 := n22 hW
  have HB1 := Lib.hid hb
  clear hW hz hb
  refine (fixed_any (t := ⟨ka, x, s, l⟩) (vs := [_, _, _, _]) (HA.out.below HB1.out hB) (Nat.le_trans hB HB1.out.size)).mono ?_
  rintro x w2 ⟨rfl, hb⟩
  have b_a_2 := b_a_1.later hb
  have b_r_2 := b_r_1.later hb
  have HB2 := Lib.hid (bthen HB1.out hb)
  clear b_a_1 b_r_1
  clear hb
  rw [FA.out]
  have k_a := b_a_2.cell
  have l_a := b_a_2.lt
  have k_r := b_r_2.cell
  have l_r := b_r_2.lt
  have f_r := b_r_2.free
  go_wp2_with fail
  refine bodyPost_ret (ret_tm2 rfl rfl (put4 b_r_2 HB2.out (by omega)).1 rfl) rfl ?_
  exact ⟨rfl, (put4 b_r_2 HB2.out (by omega)).2⟩

end Go.Proofs.YtiplipdigabidaaGreat

/- op.Unary, op.Binary: one contract each; what is told may be. -/
set_option linter.unusedVariables false
set_option linter.unusedSimpArgs false
namespace Go.Proofs.YtiplipdigabidaaGreat
open Go.ChangeShapes Go.WideShapes Go.ChangeAt Go.RowKit

theorem bv_i64 (b : BitVec 64) : I64 b.toInt := by
  have h1 := BitVec.toInt_lt (x := b)
  have h2 := BitVec.le_toInt (x := b)
  unfold I64
  omega
theorem wrapBN (v : BitVec 64) : IntKind.i64.wrap (v.toNat : Int) = v.toInt := by
  rw [IntKind.wrap_i64, BitVec.toInt_eq_toNat_cond]
  have := v.isLt
  split <;> omega
theorem i64_and (a b : Int) : I64 (bits .and .i64 a b) := by
  have h : bits .and .i64 a b = (BitVec.ofInt 64 a &&& BitVec.ofInt 64 b).toInt := wrapBN _
  rw [h]; exact bv_i64 _
theorem i64_or (a b : Int) : I64 (bits .or .i64 a b) := by
  have h : bits .or .i64 a b = (BitVec.ofInt 64 a ||| BitVec.ofInt 64 b).toInt := wrapBN _
  rw [h]; exact bv_i64 _
theorem i64_xor (a b : Int) : I64 (bits .xor .i64 a b) := by
  have h : bits .xor .i64 a b = (BitVec.ofInt 64 a ^^^ BitVec.ofInt 64 b).toInt := wrapBN _
  rw [h]; exact bv_i64 _
theorem i64_bit (b : Bool) : I64 (bit b) := by unfold bit I64; split <;> omega
theorem i64_small {n : Int} (h : -1000000000000000 ≤ n) (h' : n ≤ 1000000000000000) : I64 n := by unfold I64; omega
theorem termE_flat {d : Nat} {w w' : World} {k n e : Int} {s : ByteArray} {z : Ending} (h : z = flatR k n s e ∧ Below w.heap.size w w') (hk : I64 k) (hn : I64 n) (hs : s.size ≤ 140737488351232) : TermE d w w' (⟨k, n, s, []⟩, e) z := ⟨⟨none, 0, h.1, TmOwn.flat hk hn hs⟩, h.2⟩
theorem termE_no {d : Nat} {w w' : World} {e : Int} {z : Ending} (h : z = flatR 0 0 emp e ∧ Below w.heap.size w w') : TermE d w w' (noT, e) z := termE_flat h (by simp [I64]) (by simp [I64]) (by decide)
theorem termE_bool {d : Nat} {w w' : World} {b : Bool} {z : Ending} (h : z = flatR 6 (bit b) emp 0 ∧ Below w.heap.size w w') : TermE d w w' (boolT b, 0) z := termE_flat h (by simp [I64]) (i64_bit b) (by decide)
theorem termE_int {d : Nat} {w w' : World} {n : Int} {z : Ending} (h : z = flatR 2 n emp 0 ∧ Below w.heap.size w w') (hn : I64 n) : TermE d w w' (intT n, 0) z := termE_flat h (by simp [I64]) hn (by decide)
/-- What a reckoning tells. -/
theorem rec_is (code a b : Int) : (recR code a b = (2, recV code a b, 0) ∧ I64 (recV code a b)) ∨ ∃ e, recR code a b = (0, 0, e) ∧ (e = 5 ∨ e = 6) := by
  unfold recR recE
  by_cases h : code = 10 ∧ b = 0
  · exact .inr ⟨6, by rw [if_pos h]; simp, .inr rfl⟩
  · rw [if_neg h]
    rcases Bool.eq_false_or_eq_true (fitsB (recV code a b)) with hf | hf
    · exact .inl ⟨by rw [hf]; simp, (fitsB_iff _).1 hf⟩
    · exact .inr ⟨5, by rw [hf]; simp, .inl rfl⟩
theorem termE_rec {d : Nat} {w w' : World} {code a b k n e : Int} {z : Ending} (hr : recR code a b = (k, n, e)) (h : z = flatR k n emp e ∧ Below w.heap.size w w') : TermE d w w' (recT (recR code a b)) z := by
  rw [hr]
  refine termE_flat h ?_ ?_ (by decide)
  · rcases rec_is code a b with ⟨h1, _⟩ | ⟨e2, h1, _⟩ <;> (rw [hr] at h1; simp only [Prod.mk.injEq] at h1; rw [h1.1]; simp [I64])
  · rcases rec_is code a b with ⟨h1, h2⟩ | ⟨e2, h1, _⟩ <;> (rw [hr] at h1; simp only [Prod.mk.injEq] at h1; rw [h1.2.1])
    · exact h2
    · simp [I64]

theorem kinds_num {code ka kb : Int} (h : kindsB code ka kb = true) (hc : code = 8 ∨ code = 9 ∨ code = 10 ∨ code = 17 ∨ code = 18 ∨ code = 19) : ka = 2 ∧ kb = 2 := by
  have h2 : kindsB code ka kb = bothB [2] ka kb := by rcases hc with rfl | rfl | rfl | rfl | rfl | rfl <;> simp [kindsB]
  rw [h2] at h
  simpa [bothB] using h
theorem kinds_add {ka kb : Int} (h : kindsB 7 ka kb = true) : ka = 2 ∧ kb = 2 ∨ ka = 3 ∧ kb = 3 := by
  have h2 : kindsB 7 ka kb = bothB [2, 3] ka kb := by simp [kindsB]
  rw [h2] at h
  simpa [bothB] using h
theorem kinds_con {ka kb : Int} (h : kindsB 11 ka kb = true) : ka = 7 ∨ ka = 3 ∧ kb = 3 := by
  have h2 : kindsB 11 ka kb = ((decide (ka = 7) && decide (2 ≤ kb) && decide (kb ≤ 7)) || bothB [3] ka kb) := by simp [kindsB]
  rw [h2] at h
  simp [bothB] at h
  omega
theorem kinds_mat {ka kb : Int} (h : kindsB 14 ka kb = true) : ka = 3 ∧ kb = 3 := by
  have h2 : kindsB 14 ka kb = bothB [3] ka kb := by simp [kindsB]
  rw [h2] at h
  simpa [bothB] using h
theorem kinds_set {code ka kb : Int} (h : kindsB code ka kb = true) (hc : code = 15 ∨ code = 16) : ka = 7 ∧ kb = 7 := by
  have h2 : kindsB code ka kb = bothB [7] ka kb := by rcases hc with rfl | rfl <;> simp [kindsB]
  rw [h2] at h
  simpa [bothB] using h
theorem fixed_text {x : Int} {s : ByteArray} {l : List Tm} (h : fixedB ⟨3, x, s, l⟩ = true) : s.size ≤ 256 := by
  unfold fixedB mayB flatMay at h
  simp at h
  omega
theorem fixed_null {k x : Int} {s : ByteArray} {l : List Tm} (h : fixedB ⟨k, x, s, l⟩ = true) (hk : k ≠ 7) : l = [] := by
  have := fixed_parts h
  rwa [if_neg hk] at this

set_option maxRecDepth 100000 in
theorem binary_any {code : Int} {a b : Tm} {d B : Nat} {vs ws : List Value} {w : World} {m : Int} (ha : RTm w B (d + 1) a vs) (hb : RTm w B (d + 1) b ws) (hB : B ≤ w.heap.size) (hm : w.cell? ⟨0, 0, none⟩ = some (.int .i64 m)) (h0 : 0 < w.heap.size) :
    Calls Tryz.prog 67 #[.int .i64 code, .agg vs.toArray, .agg ws.toArray] w fun z w' => TermE d w w' (binR code a b) z := by
  obtain ⟨ka, x, s, l⟩ := a
  obtain ⟨kb, y, s', l'⟩ := b
  have hsz' : s'.size ≤ 140737488351232 := by obtain ⟨_, _, _, _, _, h, _⟩ := hb.cells; exact h
  unfold binR
  rcases Bool.eq_false_or_eq_true (fixedB ⟨ka, x, s, l⟩) with fa | fa
  · rcases Bool.eq_false_or_eq_true (fixedB ⟨kb, y, s', l'⟩) with fb | fb
    · by_cases hlo : code < 1
      · rw [if_pos (.inr (.inr (.inl hlo)))]
        exact (bin_lo ha hb hB fa fb hlo).mono fun _ _ h => termE_no h
      · by_cases hhi : 19 < code
        · rw [if_pos (.inr (.inr (.inr hhi)))]
          exact (bin_hi ha hb hB fa fb hhi).mono fun _ _ h => termE_no h
        · rw [if_neg (by rw [fa, fb]; simp; omega)]
          rcases Bool.eq_false_or_eq_true (kindsB code ka kb) with hk | hk
          · rw [if_neg (by show ¬ kindsB code ka kb = false; rw [hk]; simp)]
            by_cases h7 : code = 7 ∧ ka = 3
            · rw [if_pos h7]
              obtain ⟨rfl, rfl⟩ := h7
              obtain ⟨_, rfl⟩ : (3 : Int) = 3 ∧ kb = 3 := by rcases kinds_add hk with h | h <;> omega
              have := fixed_text fa
              have := fixed_text fb
              by_cases hl : s.size + s'.size ≤ 256
              · rw [if_pos hl]
                exact (bin_add ha hb hB fa fb hl).mono fun _ _ h => termE_flat h (by simp [I64]) (by simp [I64]) (by show (s ++ s').size ≤ _; rw [ByteArray.size_append]; omega)
              · rw [if_neg hl]
                exact (bin_long ha hb hB fa fb hl).mono fun _ _ h => termE_no h
            · rw [if_neg h7]
              by_cases hr : code = 7 ∨ code = 8 ∨ code = 9 ∨ code = 10
              · rw [if_pos hr]
                obtain ⟨rfl, rfl⟩ : ka = 2 ∧ kb = 2 := by
                  rcases hr with rfl | hr
                  · rcases kinds_add hk with h | h
                    · exact h
                    · exact absurd ⟨rfl, h.1⟩ h7
                  · exact kinds_num hk (by omega)
                exact (bin_reckon (k := (recR code x y).1) (n := (recR code x y).2.1) (e := (recR code x y).2.2) ha hb hB fa fb hr rfl).mono fun _ _ h => termE_rec rfl h
              · rw [if_neg hr]
                by_cases h11 : code = 11
                · rw [if_pos h11]
                  subst h11
                  rcases kinds_con hk with rfl | ⟨rfl, rfl⟩
                  · exact (bin_contset ha hb hB fa fb hk).mono fun _ _ h => termE_bool h
                  · exact (bin_contains ha hb hB fa fb hm h0 (fixed_text fa)).mono fun _ _ h => termE_bool h
                · rw [if_neg h11]
                  by_cases h12 : code = 12
                  · rw [if_pos h12]
                    subst h12
                    exact (bin_starts ha hb hB fa fb hk).mono fun _ _ h => termE_bool h
                  · rw [if_neg h12]
                    by_cases h13 : code = 13
                    · rw [if_pos h13]
                      subst h13
                      exact (bin_ends ha hb hB fa fb hk).mono fun _ _ h => termE_bool h
                    · rw [if_neg h13]
                      by_cases h14 : code = 14
                      · rw [if_pos h14]
                        subst h14
                        obtain ⟨rfl, rfl⟩ := kinds_mat hk
                        show Calls _ _ _ _ fun z w' => TermE d w w' (matchR s' s) z
                        unfold matchR
                        by_cases hz : (fitsR s' s false).2 = 0
                        · rw [if_neg (by simp [hz])]
                          exact (bin_match ha hb hB fa fb hz).mono fun _ _ h => termE_bool h
                        · rw [if_pos hz]
                          exact (bin_nomatch ha hb hB fa fb hz).mono fun _ _ h => termE_no h
                      · rw [if_neg h14]
                        by_cases h15 : code = 15
                        · rw [if_pos h15]
                          subst h15
                          obtain ⟨rfl, rfl⟩ := kinds_set hk (.inl rfl)
                          exact bin_meet ha hb hB fa fb
                        · rw [if_neg h15]
                          by_cases h16 : code = 16
                          · rw [if_pos h16]
                            subst h16
                            obtain ⟨rfl, rfl⟩ := kinds_set hk (.inr rfl)
                            exact bin_join ha hb hB fa fb
                          · rw [if_neg h16]
                            by_cases h17 : code = 17
                            · rw [if_pos h17]
                              subst h17
                              obtain ⟨rfl, rfl⟩ := kinds_num hk (by omega)
                              exact (bin_and ha hb hB fa fb).mono fun _ _ h => termE_int h (i64_and _ _)
                            · rw [if_neg h17]
                              by_cases h18 : code = 18
                              · rw [if_pos h18]
                                subst h18
                                obtain ⟨rfl, rfl⟩ := kinds_num hk (by omega)
                                exact (bin_or ha hb hB fa fb).mono fun _ _ h => termE_int h (i64_or _ _)
                              · rw [if_neg h18]
                                by_cases h19 : code = 19
                                · rw [if_pos h19]
                                  subst h19
                                  obtain ⟨rfl, rfl⟩ := kinds_num hk (by omega)
                                  exact (bin_xor ha hb hB fa fb).mono fun _ _ h => termE_int h (i64_xor _ _)
                                · rw [if_neg h19]
                                  exact (bin_compare ha hb hB fa fb (by omega) hk).mono fun _ _ h => termE_bool h
          · rw [if_pos hk]
            exact (bin_type ha hb hB fa fb (by omega) (by omega) hk).mono fun _ _ h => termE_no h
    · rw [if_pos (.inr (.inl fb))]
      exact (bin_badB ha hb hB fa fb).mono fun _ _ h => termE_no h
  · rw [if_pos (.inl fa)]
    exact (bin_badA ha hb hB fa).mono fun _ _ h => termE_no h

set_option maxRecDepth 100000 in
theorem unary_any {code : Int} {a : Tm} {d B : Nat} {vs : List Value} {w : World} (ha : RTm w B (d + 1) a vs) (hB : B ≤ w.heap.size) :
    Calls Tryz.prog 66 #[.int .i64 code, .agg vs.toArray] w fun z w' => TermE d w w' (unR code a) z := by
  obtain ⟨ka, x, s, l⟩ := a
  have hsz : s.size ≤ 140737488351232 := by obtain ⟨_, _, _, _, _, h, _⟩ := ha.cells; exact h
  unfold unR
  rcases Bool.eq_false_or_eq_true (fixedB ⟨ka, x, s, l⟩) with fa | fa
  · by_cases hlo : code < 1
    · rw [if_pos (.inr (.inl hlo))]
      exact (un_lo ha hB fa hlo).mono fun _ _ h => termE_no h
    · by_cases hhi : 3 < code
      · rw [if_pos (.inr (.inr hhi))]
        exact (un_hi ha hB fa hhi).mono fun _ _ h => termE_no h
      · rw [if_neg (by rw [fa]; simp; omega)]
        have hc : code = 1 ∨ code = 2 ∨ code = 3 := by omega
        simp only
        rcases hc with rfl | rfl | rfl
        · by_cases h6 : ka = 6
          · subst h6
            rw [if_pos ⟨rfl, rfl⟩]
            exact (un_not ha hB fa).mono fun _ _ h => termE_bool h
          · rw [if_neg (fun h => h6 h.2), if_neg (by omega), if_neg (by omega), if_neg (by omega)]
            exact (un_type1 ha hB fa h6).mono fun _ _ h => termE_no h
        · rw [if_neg (by omega)]
          by_cases h2 : ka = 2
          · subst h2
            rw [if_pos ⟨rfl, rfl⟩]
            exact (un_neg (k := (recR 8 0 x).1) (n := (recR 8 0 x).2.1) (e := (recR 8 0 x).2.2) ha hB fa rfl).mono fun _ _ h => termE_rec rfl h
          · rw [if_neg (fun h => h2 h.2), if_neg (by omega), if_neg (by omega)]
            exact (un_type2 ha hB fa h2).mono fun _ _ h => termE_no h
        · rw [if_neg (by omega), if_neg (by omega)]
          by_cases h3 : ka = 3
          · subst h3
            rw [if_pos ⟨rfl, .inl rfl⟩]
            exact (un_length ha hB fa).mono fun _ _ h => termE_int h (i64_small (by omega) (by have := fixed_text fa; omega))
          · by_cases h5 : ka = 5
            · subst h5
              rw [if_pos ⟨rfl, .inr rfl⟩]
              exact (un_len5 ha hB fa).mono fun _ _ h => termE_int h (i64_small (by omega) (by omega))
            · rw [if_neg (by omega)]
              by_cases h7 : ka = 7
              · subst h7
                rw [if_pos ⟨rfl, rfl⟩]
                exact (un_len7 ha hB fa).mono fun _ _ h => termE_int h (i64_small (by omega) (by have := (fixed_set fa).1; omega))
              · rw [if_neg (by omega)]
                exact (un_type3 ha hB fa h3 h5 h7).mono fun _ _ h => termE_no h
  · rw [if_pos (.inl fa)]
    exact (un_bad ha hB fa).mono fun _ _ h => termE_no h
end Go.Proofs.YtiplipdigabidaaGreat

