/- heap.Init, pile.Pop, heap.Pop. -/
import Derived.Test.YtiplipdigabidaaHeap2
set_option linter.unusedVariables false
set_option linter.unusedSimpArgs false
namespace Go.Proofs.Ytiplipdigabidaa
open Go.ChangeShapes Go.WideShapes Go.ChangeAt Go.RowKit

theorem Heap.half (g : Nat → TV) (n : Nat) : Heap cTV g (n / 2) n := fun k h0 h1 h2 => by omega

set_option maxRecDepth 100000 in
set_option maxHeartbeats 8000000 in
theorem heapInit_any {w : World} {P G c B d : Nat} {xs : List TV} (hp : PAt w P G xs c) (hd : PRd w B d xs) (hB : B ≤ w.heap.size) (hBG : B ≤ G) (hPG : P ≠ G) (hxn : xs.length ≤ 1000000) :
    Calls Try.prog 58 #[.iface 77 (.pointer (some ⟨P, 0, none⟩))] w fun e w' => e = .returned (.tuple #[]) ∧ Exc G w w' ∧ ∃ ys, ys.Perm xs ∧ Heap cTV (atL tv0 ys) 0 ys.length ∧ PAt w' P G ys c := by
  have hGw := hp.lt
  have HP0 := Lib.hid hp
  have HD0 := Lib.hid hd
  have i0 := fun fuel => pile_val m_len fuel (hp.1.cell 0)
  clear hp hd
  go_enter Try.func58, Try.ntmps58
  go_wp2_with fail
  refine (pileLen_any _ _ _ _).mono ?_
  rintro e wz ⟨rfl, rfl⟩
  go_wp2_with fail
  go_loopw [3] (fun i wr => ∃ (m : Nat) (ys : List TV), m ≤ xs.length / 2 ∧ i = .int .i64 ((m : Int) - 1) ∧ ys.Perm xs ∧ Hid (Heap cTV (atL tv0 ys) m xs.length) ∧ Hid (Exc G w wr) ∧ Hid (PAt wr P G ys c)) (fun i _ => (intOf i + 1).toNat)
  case atStart =>
    refine ⟨xs.length / 2, xs, Nat.le_refl _, ?_, List.Perm.refl _, Lib.hid (Heap.half _ _), Lib.hid (Exc.refl _ _), HP0⟩
    congr 1 <;> omega
  case round =>
    obtain ⟨m, ys, hm, rfl, hpm, HH, HE, HP⟩ := hrel
    have hl := hpm.length_eq
    rcases Nat.eq_zero_or_pos m with h0 | h0
    · subst h0
      go_wp2_with fail
      go_end0
      exact ⟨rfl, HE.out, ys, hpm, by rw [hl]; exact HH.out, HP.out⟩
    · obtain ⟨k, rfl⟩ : ∃ k, m = k + 1 := ⟨m - 1, by omega⟩
      have e1 : ((k + 1 : Nat) : Int) - 1 = k := by omega
      rw [e1]
      have HD : Hid (PRd wr B d ys) := Lib.hid fun x hx => (HD0.out.below HE.out.1 hBG) x (hpm.subset hx)
      have hBr : B ≤ wr.heap.size := Nat.le_trans hB HE.out.1.size
      have HM := Lib.hid hpm
      clear hpm
      go_wp2_with fail
      refine (heapDown_any HP.out HD.out hBr hBG hPG (by omega) (by omega) (by omega) HH.out).mono ?_
      rintro e wa ⟨⟨_, rfl⟩, he, zs, hs, hz⟩
      have HE2 := Lib.hid (HE.out.trans he)
      have HM2 := hs.perm.trans HM.out
      have HH2 := Lib.hid hs.heap
      have HP2 := Lib.hid hz
      clear he hs hz
      go_wp2_with fail
      go_roundw
      case rel => exact ⟨k, zs, by omega, by go_num, HM2, HH2, HE2, HP2⟩
      case measure => simp [intOf]

set_option maxRecDepth 100000 in
set_option maxHeartbeats 8000000 in
theorem pilePop_any {w : World} {P G c n : Nat} {xs : List TV} (hp : PAt w P G xs c) (hPG : P ≠ G) (hx : xs.length = n + 1) (hc : n + 1 ≤ c) (hc2 : c ≤ 9223372036854775807) (hn : n + 1 ≤ 1000000) :
    Calls Try.prog 116 #[.pointer (some ⟨P, 0, none⟩)] w fun e w' => e = .returned (.iface 24 (.agg (atL tv0 xs n).cs.toArray)) ∧ Exc P w w' ∧ PAt w' P G (xs.take n) c := by
  obtain ⟨hP, cur, hG, hr⟩ := hp
  have i0 := hr n (by omega) 0 (by omega)
  have i1 := hr n (by omega) 1 (by omega)
  have i2 := hr n (by omega) 2 (by omega)
  have i3 := hr n (by omega) 3 (by omega)
  have HR := Lib.hid (hr.take n)
  have HT := Lib.hid (show (xs.take n).length = n by rw [List.length_take]; omega)
  generalize atL tv0 xs n = x at *
  simp only [TV.cs, List.getElem?_cons_zero, List.getElem?_cons_succ, Nat.add_zero] at i0 i1 i2 i3
  rw [hx] at hP
  clear hx hr
  have kP := hP.cell
  have fP := hP.free
  have kG := hG.cell
  have lP := hP.lt
  have lG := hG.lt
  go_enter Try.func116, Try.ntmps116
  go_wp2_with fail
  go_ret
  exact ⟨rfl, ((Exc.refl P w).set 0 _).then (Nat.le_of_lt lP) ((Below.refl _ _).alloc (Nat.le_refl _) _), by rw [HT.out]; exact (hP.set_ 0 _).old _, cur, (hG.far (Ne.symm hPG) 0 _).old _, HR.out⟩

set_option maxRecDepth 100000 in
set_option maxHeartbeats 8000000 in
theorem heapPop_any {w : World} {P G c n B d : Nat} {xs : List TV} (hp : PAt w P G xs c) (hd : PRd w B d xs) (hB : B ≤ w.heap.size) (hBG : B ≤ G) (hPG : P ≠ G) (hx : xs.length = n + 1) (hc : n + 1 ≤ c) (hc2 : c ≤ 9223372036854775807) (hn : n + 1 ≤ 1000000) (hh : Heap cTV (atL tv0 xs) 0 (n + 1)) :
    Calls Try.prog 60 #[.iface 77 (.pointer (some ⟨P, 0, none⟩))] w fun e w' => e = .returned (.iface 24 (.agg (atL tv0 xs 0).cs.toArray)) ∧ Exc2 P G w w' ∧
      ∃ rest : List TV, rest.length = n ∧ xs.Perm (atL tv0 xs 0 :: rest) ∧ Heap cTV (atL tv0 rest) 0 n ∧ (∀ b ∈ rest, cTV (atL tv0 xs 0) b ≤ 0) ∧ PAt w' P G rest c := by
  have HX := Lib.hid hx
  have HH := Lib.hid hh
  have HD := Lib.hid hd
  have hl := hp.lt
  have k0 := fun fuel => pile_val m_len fuel (hp.1.cell 0)
  have k1 := fun fuel => pile_val m_swap fuel (hp.1.cell 0)
  have HP := Lib.hid hp
  clear hx hh hd hp
  go_enter Try.func60, Try.ntmps60
  go_wp2_with fail
  refine (pileLen_any _ _ _ _).mono ?_
  rintro e wz ⟨rfl, rfl⟩
  rw [HX.out]
  go_wp2_with fail
  obtain ⟨_, cur, hG, hr⟩ := HP.out
  rw [HX.out]
  refine (Calls.mono (HX.out ▸ pileSwap_any (c := c) hG hr (i := 0) (j := n) (by rw [HX.out]; omega) (by rw [HX.out]; omega) (by rw [HX.out]; omega)) ?_)
  rintro e wa ⟨rfl, he, hcur⟩
  have HPa := Lib.hid (HP.out.exc he hPG sw_length hcur)
  have HEa := Lib.hid he
  have hsw := sw_perm (z := tv0) (xs := xs) (i := 0) (j := n) (by rw [HX.out]; omega) (by rw [HX.out]; omega)
  have HDa : Hid (PRd wa B d (sw tv0 xs 0 n)) := Lib.hid fun x hx => (HD.out.below he.1 hBG) x (hsw.subset hx)
  have hBa : B ≤ wa.heap.size := Nat.le_trans hB he.1.size
  have HS := Lib.hid (HH.out.swapped (by rw [HX.out]; omega))
  have HL : Hid ((sw tv0 xs 0 n).length = n + 1) := Lib.hid (by rw [sw_length, HX.out])
  clear he hcur hG hr hsw k0 k1
  go_wp2_with fail
  refine (heapDown_any (i0 := 0) (n := n) HPa.out HDa.out hBa hBG hPG (by rw [HL.out]; omega) (by omega) (by rw [HL.out]; omega) HS.out).mono ?_
  rintro e wb ⟨⟨_, rfl⟩, he, ys, hs, hpb⟩
  have HEb := Lib.hid (HEa.out.trans he)
  have HPb := Lib.hid hpb
  have HZ := Lib.hid (popped cTV_ord HX.out HH.out hs)
  have k2 := fun fuel => pile_ptr m_pop fuel (w := wb) (a := ⟨P, 0, none⟩)
  clear he hs hpb
  go_wp2_with fail
  refine (pilePop_any HPb.out hPG HZ.out.1 hc hc2 hn).mono ?_
  rintro e wc ⟨rfl, he, hpc⟩
  have HEc := Lib.hid ((HEb.out.right P).trans (he.left G))
  have HPc := Lib.hid hpc
  clear he hpc
  go_wp2_with fail
  go_ret
  obtain ⟨z1, z2, z3, z4, z5⟩ := HZ.out
  rw [z2] at z3 z5 ⊢
  exact ⟨rfl, HEc.out, ys.take n, by rw [List.length_take]; omega, z3, z4, z5, HPc.out⟩
end Go.Proofs.Ytiplipdigabidaa
