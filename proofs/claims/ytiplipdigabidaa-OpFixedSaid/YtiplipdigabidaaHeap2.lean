/- container/heap over term.pile. -/
import Derived.Test.YtiplipdigabidaaHeap1
set_option linter.unusedVariables false
set_option linter.unusedSimpArgs false
namespace Go.Proofs.Ytiplipdigabidaa
open Go.ChangeShapes Go.WideShapes Go.ChangeAt Go.RowKit

theorem chk_some {P : Program} (t : TypeId) (a : Addr) (x y : ByteArray) (w : World) : (Builtin.ssaWrapNilChk_ #[t] t #[.pointer (some a), .string x, .string y]).run P w = .ok (.pointer (some a)) w := rfl
/-- A method with a value receiver, through a pointer. -/
theorem via_val {P : Program} {t e : TypeId} {name : String} {f : FuncId} (hu : P.underlying t = some (.pointer e)) (hm : ((P.info? t).bind fun i => (i.methods.find? (·.name == name)).map fun m => (m.path.toList, m.func)) = some ([], some (f, false)))
    (fuel : Nat) {w : World} {a : Addr} {v : Value} (h : (loadVar e a).run P w = .ok v w) :
    (method (fuel + 1) t (.pointer (some a)) name).run P w = .ok (f, v) w := by
  obtain ⟨i, hi, h2⟩ := Option.bind_eq_some_iff.1 hm
  obtain ⟨m, h3, h4⟩ := Option.map_eq_some_iff.1 h2
  simp only [Prod.mk.injEq] at h4
  have hp : m.path.isEmpty = true := by have h := h4.1; simp only [Array.toList_eq_nil_iff] at h; rw [h]; rfl
  have ht : (typeInfo t).run P w = .ok i w := by simp [typeInfo, hi]
  unfold method
  simp only [Sem.run_bind, ht, Result.andThen_ok, h3, h4.1, h4.2, follow, Sem.run_pure, hp, receiverAt, run_underlying hu, Place.get, if_true, strVal, chk_some, asAddr, h]
theorem via_ptr {P : Program} {t e : TypeId} {name : String} {f : FuncId} (hu : P.underlying t = some (.pointer e)) (hm : ((P.info? t).bind fun i => (i.methods.find? (·.name == name)).map fun m => (m.path.toList, m.func)) = some ([], some (f, true)))
    (fuel : Nat) {w : World} {a : Addr} :
    (method (fuel + 1) t (.pointer (some a)) name).run P w = .ok (f, .pointer (some a)) w := by
  obtain ⟨i, hi, h2⟩ := Option.bind_eq_some_iff.1 hm
  obtain ⟨m, h3, h4⟩ := Option.map_eq_some_iff.1 h2
  simp only [Prod.mk.injEq] at h4
  have ht : (typeInfo t).run P w = .ok i w := by simp [typeInfo, hi]
  unfold method
  simp only [Sem.run_bind, ht, Result.andThen_ok, h3, h4.1, h4.2, follow, Sem.run_pure, receiverAt, run_underlying hu, Place.get]
theorem pile_val {name : String} {f : FuncId} (hm : ((Try.prog.info? 77).bind fun i => (i.methods.find? (·.name == name)).map fun m => (m.path.toList, m.func)) = some ([], some (f, false)))
    (fuel : Nat) {w : World} {P : Nat} {A : Option Addr} {n c : Nat} (h : w.cell? ⟨P, 0, none⟩ = some (.slice A n c)) :
    (method (fuel + 1) 77 (.pointer (some ⟨P, 0, none⟩)) name).run Try.prog w = .ok (f, .slice A n c) w :=
  via_val Try.underlying77 hm fuel (by
    have ha : (isAgg 74).run Try.prog w = .ok false w := by go_simp
    have hl : (load ⟨P, 0, none⟩).run Try.prog w = .ok (.slice A n c) w := by go_simp
    simp [loadVar, Sem.run_bind, ha, hl, h])
theorem pile_ptr {name : String} {f : FuncId} (hm : ((Try.prog.info? 77).bind fun i => (i.methods.find? (·.name == name)).map fun m => (m.path.toList, m.func)) = some ([], some (f, true)))
    (fuel : Nat) {w : World} {a : Addr} : (method (fuel + 1) 77 (.pointer (some a)) name).run Try.prog w = .ok (f, .pointer (some a)) w := via_ptr Try.underlying77 hm fuel
theorem m_len : ((Try.prog.info? 77).bind fun i => (i.methods.find? (·.name == "Len")).map fun m => (m.path.toList, m.func)) = some ([], some (59, false)) := by kernel_rfl
theorem m_less : ((Try.prog.info? 77).bind fun i => (i.methods.find? (·.name == "Less")).map fun m => (m.path.toList, m.func)) = some ([], some (114, false)) := by kernel_rfl
theorem m_swap : ((Try.prog.info? 77).bind fun i => (i.methods.find? (·.name == "Swap")).map fun m => (m.path.toList, m.func)) = some ([], some (115, false)) := by kernel_rfl
theorem m_pop : ((Try.prog.info? 77).bind fun i => (i.methods.find? (·.name == "Pop")).map fun m => (m.path.toList, m.func)) = some ([], some (116, true)) := by kernel_rfl


/-- Yes or no. -/
def AnyBool (e : Ending) : Prop := ∃ q : Bool, e = .returned (.bool q)
theorem PAt.later {w w' : World} {P G c : Nat} {xs : List TV} (h : PAt w P G xs c) (hb : Below w.heap.size w w') : PAt w' P G xs c := by
  obtain ⟨hP, cur, hG, hr⟩ := h
  exact ⟨hP.later hb, cur, hG.later hb, hr⟩
theorem PAt.exc {w w' : World} {P G c : Nat} {xs ys : List TV} (h : PAt w P G xs c) (he : Exc G w w') (hPG : P ≠ G) (hl : ys.length = xs.length) (hc : ∃ cur', Blk w' G cur' ∧ PRow cur' ys) : PAt w' P G ys c := by
  obtain ⟨hP, _⟩ := h
  exact ⟨by rw [hl]; exact he.blk hPG hP, hc⟩
theorem PAt.lt {w : World} {P G c : Nat} {xs : List TV} (h : PAt w P G xs c) : G ≤ w.heap.size := by
  obtain ⟨_, cur, hG, _⟩ := h
  exact Nat.le_of_lt hG.lt
theorem least2 {ys : List TV} {k n : Nat} (h1 : ¬ 2 * k + 2 < n) : ∀ m, m < n → (m = 2 * k + 1 ∨ m = 2 * k + 2) → cTV (atL tv0 ys (2 * k + 1)) (atL tv0 ys m) ≤ 0 := fun m hm h => by
  obtain rfl : m = 2 * k + 1 := by omega
  have := cTV_ord.self (atL tv0 ys (2 * k + 1)); omega
theorem least_r {ys : List TV} {k n : Nat} (h1 : cTV (atL tv0 ys (2 * k + 2)) (atL tv0 ys (2 * k + 1)) < 0) : ∀ m, m < n → (m = 2 * k + 1 ∨ m = 2 * k + 2) → cTV (atL tv0 ys (2 * k + 2)) (atL tv0 ys m) ≤ 0 := fun m hm h => by
  rcases h with rfl | rfl
  · omega
  · have := cTV_ord.self (atL tv0 ys (2 * k + 2)); omega
theorem least_l {ys : List TV} {k n : Nat} (h1 : ¬ cTV (atL tv0 ys (2 * k + 2)) (atL tv0 ys (2 * k + 1)) < 0) : ∀ m, m < n → (m = 2 * k + 1 ∨ m = 2 * k + 2) → cTV (atL tv0 ys (2 * k + 1)) (atL tv0 ys m) ≤ 0 := fun m hm h => by
  rcases h with rfl | rfl
  · have := cTV_ord.self (atL tv0 ys (2 * k + 1)); omega
  · have := cTV_ord.anti (atL tv0 ys (2 * k + 2)) (atL tv0 ys (2 * k + 1)); omega
theorem least_t {ys : List TV} {j k n : Nat} (h : ∀ m, m < n → (m = 2 * k + 1 ∨ m = 2 * k + 2) → cTV (atL tv0 ys j) (atL tv0 ys m) ≤ 0) (h1 : ¬ cTV (atL tv0 ys j) (atL tv0 ys k) < 0) : ∀ m, m < n → (m = 2 * k + 1 ∨ m = 2 * k + 2) → cTV (atL tv0 ys k) (atL tv0 ys m) ≤ 0 := fun m hm hc => by
  have := cTV_ord.anti (atL tv0 ys j) (atL tv0 ys k)
  exact cTV_ord.trans _ _ _ (by omega) (h m hm hc)

set_option maxRecDepth 100000 in
set_option maxHeartbeats 8000000 in
theorem heapDown_any {w : World} {P G c n B d i0 : Nat} {xs : List TV} (hp : PAt w P G xs c) (hd : PRd w B d xs) (hB : B ≤ w.heap.size) (hBG : B ≤ G) (hPG : P ≠ G) (hn : n ≤ xs.length) (hi0 : i0 ≤ n) (hxn : xs.length ≤ 1000000) (hh : Heap cTV (atL tv0 xs) (i0 + 1) n) :
    Calls Try.prog 76 #[.iface 77 (.pointer (some ⟨P, 0, none⟩)), .int .i64 i0, .int .i64 n] w fun e w' => AnyBool e ∧ Exc G w w' ∧ ∃ ys, Sank cTV tv0 xs ys i0 n ∧ PAt w' P G ys c := by
  have hGw := hp.lt
  have HXN := Lib.hid (And.intro hn hxn)
  have HS0 := Lib.hid (Sunk.start hh)
  have HP0 := Lib.hid hp
  have HD0 := Lib.hid hd
  have hnn : n ≤ 1000000 := by omega
  clear hn hxn hh hp hd
  go_enter Try.func76, Try.ntmps76
  go_wp2_with fail
  go_loopw [7] (fun i wr => ∃ (k : Nat) (ys : List TV), k ≤ n ∧ i = .int .i64 k ∧ Hid (Sunk cTV tv0 xs ys i0 k n) ∧ Hid (Exc G w wr) ∧ Hid (PAt wr P G ys c)) (fun i _ => n - (intOf i).toNat)
  case atStart => exact ⟨i0, xs, hi0, rfl, HS0, Lib.hid (Exc.refl _ _), HP0⟩
  case round =>
    obtain ⟨k, ys, hk, rfl, HS, HE, HP⟩ := hrel
    have hl : ys.length = xs.length := HS.out.perm.length_eq
    have hyn : n ≤ ys.length := by rw [hl]; exact HXN.out.1
    have hym : ys.length ≤ 1000000 := by rw [hl]; exact HXN.out.2
    have HL := Lib.hid (And.intro hl (And.intro hyn hym))
    have HD : Hid (PRd wr B d ys) := Lib.hid fun x hx => (HD0.out.below HE.out.1 hBG) x (HS.out.perm.subset hx)
    have hBr : B ≤ wr.heap.size := Nat.le_trans hB HE.out.1.size
    clear hl hyn hym
    by_cases h1 : 2 * k + 1 < n
    · have h1i : 2 * (k : Int) + 1 < n := by omega
      have HEr := HE
      have HPr := HP
      have HDr := HD
      by_cases h2 : 2 * k + 2 < n
      · have h2i : 2 * (k : Int) + 2 < n := by omega
        obtain ⟨crP, curr, crG_, crr_⟩ := HPr.out
        have crG := Lib.hid crG_
        have crr := Lib.hid crr_
        have ir_less := fun fuel => pile_val m_less fuel (crP.cell 0)
        clear crP crG_ crr_
        go_wp2_with fail
        refine (pileLess_any crG.out crr.out HDr.out hBr (i := 2 * k + 2) (j := 2 * k + 1) (by have := HL.out; omega) (by have := HL.out; omega) HL.out.2.2).mono ?_
        rintro e wa ⟨rfl, hb⟩
        have HEa := Lib.hid (HEr.out.then hGw hb)
        have HPa := Lib.hid (HPr.out.later hb)
        have HDa := Lib.hid (HDr.out.below hb hBr)
        have hBa : B ≤ wa.heap.size := Nat.le_trans hBr hb.size
        clear hb ir_less
        by_cases c1 : cTV (atL tv0 ys (2 * k + 2)) (atL tv0 ys (2 * k + 1)) < 0
        · rw [decide_eq_true c1]
          have HC1 := Lib.hid c1
          clear c1
          obtain ⟨caP, cura, caG_, car_⟩ := HPa.out
          have caG := Lib.hid caG_
          have car := Lib.hid car_
          have ia_less := fun fuel => pile_val m_less fuel (caP.cell 0)
          clear caP caG_ car_
          go_wp2_with fail
          have HLE := Lib.hid (least_r HC1.out (n := n))
          refine (pileLess_any caG.out car.out HDa.out hBa (i := 2 * k + 2) (j := k) (by have := HL.out; omega) (by have := HL.out; omega) HL.out.2.2).mono ?_
          rintro e wb ⟨rfl, hb⟩
          have HEb := Lib.hid (HEa.out.then hGw hb)
          have HPb := Lib.hid (HPa.out.later hb)
          have HDb := Lib.hid (HDa.out.below hb hBa)
          have hBb : B ≤ wb.heap.size := Nat.le_trans hBa hb.size
          clear hb ia_less
          by_cases c2 : cTV (atL tv0 ys (2 * k + 2)) (atL tv0 ys k) < 0
          · rw [decide_eq_true c2]
            have HC2 := Lib.hid c2
            clear c2
            obtain ⟨cbP, curb, cbG_, cbr_⟩ := HPb.out
            have cbG := Lib.hid cbG_
            have cbr := Lib.hid cbr_
            have ib_swap := fun fuel => pile_val m_swap fuel (cbP.cell 0)
            clear cbP cbG_ cbr_
            go_wp2_with fail
            refine (pileSwap_any cbG.out cbr.out (i := k) (j := 2 * k + 2) (by have := HL.out; omega) (by have := HL.out; omega) HL.out.2.2).mono ?_
            rintro e wc ⟨rfl, he, hcur⟩
            have HSc := Lib.hid (HS.out.step cTV_ord HL.out.2.1 (by omega) (by omega) HLE.out HC2.out)
            have HPc := Lib.hid (HPb.out.exc he hPG sw_length hcur)
            have HEc := Lib.hid (HEb.out.trans he)
            clear he hcur ib_swap
            go_wp2_with fail
            go_roundw
            case rel => exact ⟨2 * k + 2, _, by omega, by go_num, HSc, HEc, HPc⟩
            case measure => simp [intOf]; omega
          · rw [decide_eq_false c2]
            have HC2 := Lib.hid c2
            clear c2
            go_wp2_with fail
            go_ret
            exact ⟨⟨_, rfl⟩, HEb.out, ys, HS.out.sank (least_t (j := 2 * k + 2) HLE.out (by have := HC2.out; omega)), HPb.out⟩
        · rw [decide_eq_false c1]
          have HC1 := Lib.hid c1
          clear c1
          obtain ⟨caP, cura, caG_, car_⟩ := HPa.out
          have caG := Lib.hid caG_
          have car := Lib.hid car_
          have ia_less := fun fuel => pile_val m_less fuel (caP.cell 0)
          clear caP caG_ car_
          go_wp2_with fail
          have HLE := Lib.hid (least_l (ys := ys) (k := k) (by have := HC1.out; omega) (n := n))
          refine (pileLess_any caG.out car.out HDa.out hBa (i := 2 * k + 1) (j := k) (by have := HL.out; omega) (by have := HL.out; omega) HL.out.2.2).mono ?_
          rintro e wb ⟨rfl, hb⟩
          have HEb := Lib.hid (HEa.out.then hGw hb)
          have HPb := Lib.hid (HPa.out.later hb)
          have HDb := Lib.hid (HDa.out.below hb hBa)
          have hBb : B ≤ wb.heap.size := Nat.le_trans hBa hb.size
          clear hb ia_less
          by_cases c2 : cTV (atL tv0 ys (2 * k + 1)) (atL tv0 ys k) < 0
          · rw [decide_eq_true c2]
            have HC2 := Lib.hid c2
            clear c2
            obtain ⟨cbP, curb, cbG_, cbr_⟩ := HPb.out
            have cbG := Lib.hid cbG_
            have cbr := Lib.hid cbr_
            have ib_swap := fun fuel => pile_val m_swap fuel (cbP.cell 0)
            clear cbP cbG_ cbr_
            go_wp2_with fail
            refine (pileSwap_any cbG.out cbr.out (i := k) (j := 2 * k + 1) (by have := HL.out; omega) (by have := HL.out; omega) HL.out.2.2).mono ?_
            rintro e wc ⟨rfl, he, hcur⟩
            have HSc := Lib.hid (HS.out.step cTV_ord HL.out.2.1 (by omega) (by omega) HLE.out HC2.out)
            have HPc := Lib.hid (HPb.out.exc he hPG sw_length hcur)
            have HEc := Lib.hid (HEb.out.trans he)
            clear he hcur ib_swap
            go_wp2_with fail
            go_roundw
            case rel => exact ⟨2 * k + 1, _, by omega, by go_num, HSc, HEc, HPc⟩
            case measure => simp [intOf]; omega
          · rw [decide_eq_false c2]
            have HC2 := Lib.hid c2
            clear c2
            go_wp2_with fail
            go_ret
            exact ⟨⟨_, rfl⟩, HEb.out, ys, HS.out.sank (least_t (j := 2 * k + 1) HLE.out (by have := HC2.out; omega)), HPb.out⟩
      · have h2i : ¬ 2 * (k : Int) + 2 < n := by omega
        obtain ⟨crP, curr, crG_, crr_⟩ := HPr.out
        have crG := Lib.hid crG_
        have crr := Lib.hid crr_
        have ir_less := fun fuel => pile_val m_less fuel (crP.cell 0)
        clear crP crG_ crr_
        go_wp2_with fail
        have HLE := Lib.hid (least2 (ys := ys) h2)
        refine (pileLess_any crG.out crr.out HDr.out hBr (i := 2 * k + 1) (j := k) (by have := HL.out; omega) (by have := HL.out; omega) HL.out.2.2).mono ?_
        rintro e wb ⟨rfl, hb⟩
        have HEb := Lib.hid (HEr.out.then hGw hb)
        have HPb := Lib.hid (HPr.out.later hb)
        have HDb := Lib.hid (HDr.out.below hb hBr)
        have hBb : B ≤ wb.heap.size := Nat.le_trans hBr hb.size
        clear hb ir_less
        by_cases c2 : cTV (atL tv0 ys (2 * k + 1)) (atL tv0 ys k) < 0
        · rw [decide_eq_true c2]
          have HC2 := Lib.hid c2
          clear c2
          obtain ⟨cbP, curb, cbG_, cbr_⟩ := HPb.out
          have cbG := Lib.hid cbG_
          have cbr := Lib.hid cbr_
          have ib_swap := fun fuel => pile_val m_swap fuel (cbP.cell 0)
          clear cbP cbG_ cbr_
          go_wp2_with fail
          refine (pileSwap_any cbG.out cbr.out (i := k) (j := 2 * k + 1) (by have := HL.out; omega) (by have := HL.out; omega) HL.out.2.2).mono ?_
          rintro e wc ⟨rfl, he, hcur⟩
          have HSc := Lib.hid (HS.out.step cTV_ord HL.out.2.1 (by omega) (by omega) HLE.out HC2.out)
          have HPc := Lib.hid (HPb.out.exc he hPG sw_length hcur)
          have HEc := Lib.hid (HEb.out.trans he)
          clear he hcur ib_swap
          go_wp2_with fail
          go_roundw
          case rel => exact ⟨2 * k + 1, _, by omega, by go_num, HSc, HEc, HPc⟩
          case measure => simp [intOf]; omega
        · rw [decide_eq_false c2]
          have HC2 := Lib.hid c2
          clear c2
          go_wp2_with fail
          go_ret
          exact ⟨⟨_, rfl⟩, HEb.out, ys, HS.out.sank (least_t (j := 2 * k + 1) HLE.out (by have := HC2.out; omega)), HPb.out⟩
    · have h1i : ¬ 2 * (k : Int) + 1 < n := by omega
      go_wp2_with fail
      go_ret
      exact ⟨⟨_, rfl⟩, HE.out, ys, HS.out.sank (fun m hm hc => by omega), HP.out⟩
end Go.Proofs.Ytiplipdigabidaa
