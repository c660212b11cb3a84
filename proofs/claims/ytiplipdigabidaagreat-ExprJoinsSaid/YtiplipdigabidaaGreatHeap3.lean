/- heap.Init, pile.Pop, heap.Pop. -/
import Derived.Test.YtiplipdigabidaaGreatHeap1
set_option linter.unusedVariables false
set_option linter.unusedSimpArgs false
namespace Go.Proofs.YtiplipdigabidaaGreat
open Go.ChangeShapes Go.WideShapes Go.ChangeAt Go.RowKit
theorem chk_some {P : Program} (t : TypeId) (a : Addr) (x y : ByteArray) (w : World) : (Builtin.ssaWrapNilChk_ #[t] t #[.pointer (some a), .string x, .string y]).run P w = .ok (.pointer (some a)) w := rfl
theorem via_val {P : Program} {t e : TypeId} {name : String} {f : FuncId} (hu : P.underlying t = some (.pointer e)) (hm : ((P.info? t).bind fun i => (i.methods.find? (·.name == name)).map fun m => (m.path.toList, m.func)) = some ([], some (f, false)))
   (fuel : Nat) {w : World} {a : Addr} {v : Value} (h : (loadVar e a).run P w = .ok v w) :
   (method (fuel + 1) t (.pointer (some a)) name).run P w = .ok (f, v) w := by
 obtain ⟨i, hi, h2⟩ := Option.bind_eq_some_iff.1 hm
 obtain ⟨m, h3, h4⟩ := Option.map_eq_some_iff.1 h2
 simp only [Prod.mk.injEq] at h4
 have hp : m.path.isEmpty = true := by have h := h4.1; simp only [Array.toList_eq_nil_iff] at h; rw [h]; rfl
 have ht : (typeInfo t).run P w = .ok i w := by simp [typeInfo, hi]
 unfold method
 simp only [Sem.run_bind, ht, Result.andThen_ok, h3, h4.1, h4.2, follow, Sem.run_pure, hp, receiverAt, run_underlying hu, Place.get, if_true, strVal, chk_some, asAddr, h]
theorem via_ptr {P : Program} {t e : TypeId} {name : String} {f : FuncId} (hu : P.underlying t = some (.pointer e)) (hm : ((P.info? t).bind fun i => (i.methods.find? (·.name == name)).map fun m => (m.path.toList, m.func)) = some ([], some (f, true)))
   (fuel : Nat) {w : World} {a : Addr} :
   (method (fuel + 1) t (.pointer (some a)) name).run P w = .ok (f, .pointer (some a)) w := by
 obtain ⟨i, hi, h2⟩ := Option.bind_eq_some_iff.1 hm
 obtain ⟨m, h3, h4⟩ := Option.map_eq_some_iff.1 h2
 simp only [Prod.mk.injEq] at h4
 have ht : (typeInfo t).run P w = .ok i w := by simp [typeInfo, hi]
 unfold method
 simp only [Sem.run_bind, ht, Result.andThen_ok, h3, h4.1, h4.2, follow, Sem.run_pure, receiverAt, run_underlying hu, Place.get]
theorem pile_val {name : String} {f : FuncId} (hm : ((Tryz.prog.info? 149).bind fun i => (i.methods.find? (·.name == name)).map fun m => (m.path.toList, m.func)) = some ([], some (f, false)))
   (fuel : Nat) {w : World} {P : Nat} {A : Option Addr} {n c : Nat} (h : w.cell? ⟨P, 0, none⟩ = some (.slice A n c)) :
   (method (fuel + 1) 149 (.pointer (some ⟨P, 0, none⟩)) name).run Tryz.prog w = .ok (f, .slice A n c) w :=
 via_val Tryz.underlying149 hm fuel (by
   have ha : (isAgg 147).run Tryz.prog w = .ok false w := by go_simp
   have hl : (load ⟨P, 0, none⟩).run Tryz.prog w = .ok (.slice A n c) w := by go_simp
   simp [loadVar, Sem.run_bind, ha, hl, h])
theorem pile_ptr {name : String} {f : FuncId} (hm : ((Tryz.prog.info? 149).bind fun i => (i.methods.find? (·.name == name)).map fun m => (m.path.toList, m.func)) = some ([], some (f, true)))
   (fuel : Nat) {w : World} {a : Addr} : (method (fuel + 1) 149 (.pointer (some a)) name).run Tryz.prog w = .ok (f, .pointer (some a)) w := via_ptr Tryz.underlying149 hm fuel
theorem m_len : ((Tryz.prog.info? 149).bind fun i => (i.methods.find? (·.name == "Len")).map fun m => (m.path.toList, m.func)) = some ([], some (139, false)) := by kernel_rfl
theorem m_less : ((Tryz.prog.info? 149).bind fun i => (i.methods.find? (·.name == "Less")).map fun m => (m.path.toList, m.func)) = some ([], some (196, false)) := by kernel_rfl
theorem m_swap : ((Tryz.prog.info? 149).bind fun i => (i.methods.find? (·.name == "Swap")).map fun m => (m.path.toList, m.func)) = some ([], some (197, false)) := by kernel_rfl
theorem m_pop : ((Tryz.prog.info? 149).bind fun i => (i.methods.find? (·.name == "Pop")).map fun m => (m.path.toList, m.func)) = some ([], some (198, true)) := by kernel_rfl
def AnyBool (e : Ending) : Prop := ∃ q : Bool, e = .returned (.bool q)
theorem PAt.later {w w' : World} {P G c : Nat} {xs : List TV} (h : PAt w P G xs c) (hb : Below w.heap.size w w') : PAt w' P G xs c := by
 obtain ⟨hP, cur, hG, hr⟩ := h
 exact ⟨hP.later hb, cur, hG.later hb, hr⟩
theorem PAt.exc {w w' : World} {P G c : Nat} {xs ys : List TV} (h : PAt w P G xs c) (he : Exc G w w') (hPG : P ≠ G) (hl : ys.length = xs.length) (hc : ∃ cur', Blk w' G cur' ∧ PRow cur' ys) : PAt w' P G ys c := by
 obtain ⟨hP, _⟩ := h
 exact ⟨by rw [hl]; exact he.blk hPG hP, hc⟩
theorem PAt.lt {w : World} {P G c : Nat} {xs : List TV} (h : PAt w P G xs c) : G ≤ w.heap.size := by
 obtain ⟨_, cur, hG, _⟩ := h
 exact Nat.le_of_lt hG.lt
theorem least2 {ys : List TV} {k n : Nat} (h1 : ¬ 2 * k + 2 < n) : ∀ m, m < n → (m = 2 * k + 1 ∨ m = 2 * k + 2) → cTV (atL tv0 ys (2 * k + 1)) (atL tv0 ys m) ≤ 0 := fun m hm h => by
 obtain rfl : m = 2 * k + 1 := by omega
 have := cTV_ord.self (atL tv0 ys (2 * k + 1)); omega
theorem least_r {ys : List TV} {k n : Nat} (h1 : cTV (atL tv0 ys (2 * k + 2)) (atL tv0 ys (2 * k + 1)) < 0) : ∀ m, m < n → (m = 2 * k + 1 ∨ m = 2 * k + 2) → cTV (atL tv0 ys (2 * k + 2)) (atL tv0 ys m) ≤ 0 := fun m hm h => by
 rcases h with rfl | rfl
 · omega
 · have := cTV_ord.self (atL tv0 ys (2 * k + 2)); omega
theorem least_l {ys : List TV} {k n : Nat} (h1 : ¬ cTV (atL tv0 ys (2 * k + 2)) (atL tv0 ys (2 * k + 1)) < 0) : ∀ m, m < n → (m = 2 * k + 1 ∨ m = 2 * k + 2) → cTV (atL tv0 ys (2 * k + 1)) (atL tv0 ys m) ≤ 0 := fun m hm h => by
 rcases h with rfl | rfl
 · have := cTV_ord.self (atL tv0 ys (2 * k + 1)); omega
 · have := cTV_ord.anti (atL tv0 ys (2 * k + 2)) (atL tv0 ys (2 * k + 1)); omega
theorem least_t {ys : List TV} {j k n : Nat} (h : ∀ m, m < n → (m = 2 * k + 1 ∨ m = 2 * k + 2) → cTV (atL tv0 ys j) (atL tv0 ys m) ≤ 0) (h1 : ¬ cTV (atL tv0 ys j) (atL tv0 ys k) < 0) : ∀ m, m < n → (m = 2 * k + 1 ∨ m = 2 * k + 2) → cTV (atL tv0 ys k) (atL tv0 ys m) ≤ 0 := fun m hm hc => by
 have := cTV_ord.anti (atL tv0 ys j) (atL tv0 ys k)
 exact cTV_ord.trans _ _ _ (by omega) (h m hm hc)
set_option maxRecDepth 100000 in
set_option maxHeartbeats 8000000 in
theorem heapDown_any {w : World} {P G c n B d i0 : Nat} {xs : List TV} (hp : PAt w P G xs c) (hd : PRd w B d xs) (hB : B ≤ w.heap.size) (hBG : B ≤ G) (hPG : P ≠ G) (hn : n ≤ xs.length) (hi0 : i0 ≤ n) (hxn : xs.length ≤ 1000000) (hh : Heap cTV (atL tv0 xs) (i0 + 1) n) :
   Calls Tryz.prog 158 #[.iface 149 (.pointer (some ⟨P, 0, none⟩)), .int .i64 i0, .int .i64 n] w fun e w' => AnyBool e ∧ Exc G w w' ∧ ∃ ys, Sank cTV tv0 xs ys i0 n ∧ PAt w' P G ys c := by
 have hGw := hp.lt
 have HXN := Lib.hid (And.intro hn hxn)
 have HS0 := Lib.hid (Sunk.start hh)
 have HP0 := Lib.hid hp
 have HD0 := Lib.hid hd
 have hnn : n ≤ 1000000 := by omega
 clear hn hxn hh hp hd
 go_enter Tryz.func158, Tryz.ntmps158
 go_wp2_with fail
 go_loopw [7] (fun i wr => ∃ (k : Nat) (ys : List TV), k ≤ n ∧ i = .int .i64 k ∧ Hid (Sunk cTV tv0 xs ys i0 k n) ∧ Hid (Exc G w wr) ∧ Hid (PAt wr P G ys c)) (fun i _ => n - (intOf i).toNat)
 case atStart => exact ⟨i0, xs, hi0, rfl, HS0, Lib.hid (Exc.refl _ _), HP0⟩
 case round =>
   obtain ⟨k, ys, hk, rfl, HS, HE, HP⟩ := hrel
   have hl : ys.length = xs.length := HS.out.perm.length_eq
   have hyn : n ≤ ys.length := by rw [hl]; exact HXN.out.1
   have hym : ys.length ≤ 1000000 := by rw [hl]; exact HXN.out.2
   have HL := Lib.hid (And.intro hl (And.intro hyn hym))
   have HD : Hid (PRd wr B d ys) := Lib.hid fun x hx => (HD0.out.below HE.out.1 hBG) x (HS.out.perm.subset hx)
   have hBr : B ≤ wr.heap.size := Nat.le_trans hB HE.out.1.size
   clear hl hyn hym
   by_cases h1 : 2 * k + 1 < n
   · have h1i : 2 * (k : Int) + 1 < n := by omega
     have HEr := HE
     have HPr := HP
     have HDr := HD
     by_cases h2 : 2 * k + 2 < n
     · have h2i : 2 * (k : Int) + 2 < n := by omega
       obtain ⟨crP, curr, crG_, crr_⟩ := HPr.out
       have crG := Lib.hid crG_
       have crr := Lib.hid crr_
       have ir_less := fun fuel => pile_val m_less fuel (crP.cell 0)
       clear crP crG_ crr_
       go_wp2_with fail
       refine (pileLess_any crG.out crr.out HDr.out hBr (i := 2 * k + 2) (j := 2 * k + 1) (by have := HL.out; omega) (by have := HL.out; omega) HL.out.2.2).mono ?_
       rintro e wa ⟨rfl, hb⟩
       have HEa := Lib.hid (HEr.out.then hGw hb)
       have HPa := Lib.hid (HPr.out.later hb)
       have HDa := Lib.hid (HDr.out.below hb hBr)
       have hBa : B ≤ wa.heap.size := Nat.le_trans hBr hb.size
       clear hb ir_less
       by_cases c1 : cTV (atL tv0 ys (2 * k + 2)) (atL tv0 ys (2 * k + 1)) < 0
       · rw [decide_eq_true c1]
         have HC1 := Lib.hid c1
         clear c1
         obtain ⟨caP, cura, caG_, car_⟩ := HPa.out
         have caG := Lib.hid caG_
         have car := Lib.hid car_
         have ia_less := fun fuel => pile_val m_less fuel (caP.cell 0)
         clear caP caG_ car_
         go_wp2_with fail
         have HLE := Lib.hid (least_r HC1.out (n := n))
         refine (pileLess_any caG.out car.out HDa.out hBa (i := 2 * k + 2) (j := k) (by have := HL.out; omega) (by have := HL.out; omega) HL.out.2.2).mono ?_
         rintro e wb ⟨rfl, hb⟩
         have HEb := Lib.hid (HEa.out.then hGw hb)
         have HPb := Lib.hid (HPa.out.later hb)
         have HDb := Lib.hid (HDa.out.below hb hBa)
         have hBb : B ≤ wb.heap.size := Nat.le_trans hBa hb.size
         clear hb ia_less
         by_cases c2 : cTV (atL tv0 ys (2 * k + 2)) (atL tv0 ys k) < 0
         · rw [decide_eq_true c2]
           have HC2 := Lib.hid c2
           clear c2
           obtain ⟨cbP, curb, cbG_, cbr_⟩ := HPb.out
           have cbG := Lib.hid cbG_
           have cbr := Lib.hid cbr_
           have ib_swap := fun fuel => pile_val m_swap fuel (cbP.cell 0)
           clear cbP cbG_ cbr_
           go_wp2_with fail
           refine (pileSwap_any cbG.out cbr.out (i := k) (j := 2 * k + 2) (by have := HL.out; omega) (by have := HL.out; omega) HL.out.2.2).mono ?_
           rintro e wc ⟨rfl, he, hcur⟩
           have HSc := Lib.hid (HS.out.step cTV_ord HL.out.2.1 (by omega) (by omega) HLE.out HC2.out)
           have HPc := Lib.hid (HPb.out.exc he hPG sw_length hcur)
           have HEc := Lib.hid (HEb.out.trans he)
           clear he hcur ib_swap
           go_wp2_with fail
           go_roundw
           case rel => exact ⟨2 * k + 2, _, by omega, by go_num, HSc, HEc, HPc⟩
           case measure => simp [intOf]; omega
         · rw [decide_eq_false c2]
           have HC2 := Lib.hid c2
           clear c2
           go_wp2_with fail
           go_ret
           exact ⟨⟨_, rfl⟩, HEb.out, ys, HS.out.sank (least_t (j := 2 * k + 2) HLE.out (by have := HC2.out; omega)), HPb.out⟩
       · rw [decide_eq_false c1]
         have HC1 := Lib.hid c1
         clear c1
         obtain ⟨caP, cura, caG_, car_⟩ := HPa.out
         have caG := Lib.hid caG_
         have car := Lib.hid car_
         have ia_less := fun fuel => pile_val m_less fuel (caP.cell 0)
         clear caP caG_ car_
         go_wp2_with fail
         have HLE := Lib.hid (least_l (ys := ys) (k := k) (by have := HC1.out; omega) (n := n))
         refine (pileLess_any caG.out car.out HDa.out hBa (i := 2 * k + 1) (j := k) (by have := HL.out; omega) (by have := HL.out; omega) HL.out.2.2).mono ?_
         rintro e wb ⟨rfl, hb⟩
         have HEb := Lib.hid (HEa.out.then hGw hb)
         have HPb := Lib.hid (HPa.out.later hb)
         have HDb := Lib.hid (HDa.out.below hb hBa)
         have hBb : B ≤ wb.heap.size := Nat.le_trans hBa hb.size
         clear hb ia_less
         by_cases c2 : cTV (atL tv0 ys (2 * k + 1)) (atL tv0 ys k) < 0
         · rw [decide_eq_true c2]
           have HC2 := Lib.hid c2
           clear c2
           obtain ⟨cbP, curb, cbG_, cbr_⟩ := HPb.out
           have cbG := Lib.hid cbG_
           have cbr := Lib.hid cbr_
           have ib_swap := fun fuel => pile_val m_swap fuel (cbP.cell 0)
           clear cbP cbG_ cbr_
           go_wp2_with fail
           refine (pileSwap_any cbG.out cbr.out (i := k) (j := 2 * k + 1) (by have := HL.out; omega) (by have := HL.out; omega) HL.out.2.2).mono ?_
           rintro e wc ⟨rfl, he, hcur⟩
           have HSc := Lib.hid (HS.out.step cTV_ord HL.out.2.1 (by omega) (by omega) HLE.out HC2.out)
           have HPc := Lib.hid (HPb.out.exc he hPG sw_length hcur)
           have HEc := Lib.hid (HEb.out.trans he)
           clear he hcur ib_swap
           go_wp2_with fail
           go_roundw
           case rel => exact ⟨2 * k + 1, _, by omega, by go_num, HSc, HEc, HPc⟩
           case measure => simp [intOf]; omega
         · rw [decide_eq_false c2]
           have HC2 := Lib.hid c2
           clear c2
           go_wp2_with fail
           go_ret
           exact ⟨⟨_, rfl⟩, HEb.out, ys, HS.out.sank (least_t (j := 2 * k + 1) HLE.out (by have := HC2.out; omega)), HPb.out⟩
     · have h2i : ¬ 2 * (k : Int) + 2 < n := by omega
       obtain ⟨crP, curr, crG_, crr_⟩ := HPr.out
       have crG := Lib.hid crG_
       have crr := Lib.hid crr_
       have ir_less := fun fuel => pile_val m_less fuel (crP.cell 0)
       clear crP crG_ crr_
       go_wp2_with fail
       have HLE := Lib.hid (least2 (ys := ys) h2)
       refine (pileLess_any crG.out crr.out HDr.out hBr (i := 2 * k + 1) (j := k) (by have := HL.out; omega) (by have := HL.out; omega) HL.out.2.2).mono ?_
       rintro e wb ⟨rfl, hb⟩
       have HEb := Lib.hid (HEr.out.then hGw hb)
       have HPb := Lib.hid (HPr.out.later hb)
       have HDb := Lib.hid (HDr.out.below hb hBr)
       have hBb : B ≤ wb.heap.size := Nat.le_trans hBr hb.size
       clear hb ir_less
       by_cases c2 : cTV (atL tv0 ys (2 * k + 1)) (atL tv0 ys k) < 0
       · rw [decide_eq_true c2]
         have HC2 := Lib.hid c2
         clear c2
         obtain ⟨cbP, curb, cbG_, cbr_⟩ := HPb.out
         have cbG := Lib.hid cbG_
         have cbr := Lib.hid cbr_
         have ib_swap := fun fuel => pile_val m_swap fuel (cbP.cell 0)
         clear cbP cbG_ cbr_
         go_wp2_with fail
         refine (pileSwap_any cbG.out cbr.out (i := k) (j := 2 * k + 1) (by have := HL.out; omega) (by have := HL.out; omega) HL.out.2.2).mono ?_
         rintro e wc ⟨rfl, he, hcur⟩
         have HSc := Lib.hid (HS.out.step cTV_ord HL.out.2.1 (by omega) (by omega) HLE.out HC2.out)
         have HPc := Lib.hid (HPb.out.exc he hPG sw_length hcur)
         have HEc := Lib.hid (HEb.out.trans he)
         clear he hcur ib_swap
         go_wp2_with fail
         go_roundw
         case rel => exact ⟨2 * k + 1, _, by omega, by go_num, HSc, HEc, HPc⟩
         case measure => simp [intOf]; omega
       · rw [decide_eq_false c2]
         have HC2 := Lib.hid c2
         clear c2
         go_wp2_with fail
         go_ret
         exact ⟨⟨_, rfl⟩, HEb.out, ys, HS.out.sank (least_t (j := 2 * k + 1) HLE.out (by have := HC2.out; omega)), HPb.out⟩
   · have h1i : ¬ 2 * (k : Int) + 1 < n := by omega
     go_wp2_with fail
     go_ret
     exact ⟨⟨_, rfl⟩, HE.out, ys, HS.out.sank (fun m hm hc => by omega), HP.out⟩
open Go.ChangeShapes Go.WideShapes Go.ChangeAt Go.RowKit
theorem Heap.half (g : Nat → TV) (n : Nat) : Heap cTV g (n / 2) n := fun k h0 h1 h2 => by omega
set_option maxRecDepth 100000 in
set_option maxHeartbeats 8000000 in
theorem heapInit_any {w : World} {P G c B d : Nat} {xs : List TV} (hp : PAt w P G xs c) (hd : PRd w B d xs) (hB : B ≤ w.heap.size) (hBG : B ≤ G) (hPG : P ≠ G) (hxn : xs.length ≤ 1000000) :
   Calls Tryz.prog 138 #[.iface 149 (.pointer (some ⟨P, 0, none⟩))] w fun e w' => e = .returned (.tuple #[]) ∧ Exc G w w' ∧ ∃ ys, ys.Perm xs ∧ Heap cTV (atL tv0 ys) 0 ys.length ∧ PAt w' P G ys c := by
 have hGw := hp.lt
 have HP0 := Lib.hid hp
 have HD0 := Lib.hid hd
 have i0 := fun fuel => pile_val m_len fuel (hp.1.cell 0)
 clear hp hd
 go_enter Tryz.func138, Tryz.ntmps138
 go_wp2_with fail
 refine (pileLen_any _ _ _ _).mono ?_
 rintro e wz ⟨rfl, rfl⟩
 go_wp2_with fail
 go_loopw [3] (fun i wr => ∃ (m : Nat) (ys : List TV), m ≤ xs.length / 2 ∧ i = .int .i64 ((m : Int) - 1) ∧ ys.Perm xs ∧ Hid (Heap cTV (atL tv0 ys) m xs.length) ∧ Hid (Exc G w wr) ∧ Hid (PAt wr P G ys c)) (fun i _ => (intOf i + 1).toNat)
 case atStart =>
   refine ⟨xs.length / 2, xs, Nat.le_refl _, ?_, List.Perm.refl _, Lib.hid (Heap.half _ _), Lib.hid (Exc.refl _ _), HP0⟩
   congr 1 <;> omega
 case round =>
   obtain ⟨m, ys, hm, rfl, hpm, HH, HE, HP⟩ := hrel
   have hl := hpm.length_eq
   rcases Nat.eq_zero_or_pos m with h0 | h0
   · subst h0
     go_wp2_with fail
     go_end0
     exact ⟨rfl, HE.out, ys, hpm, by rw [hl]; exact HH.out, HP.out⟩
   · obtain ⟨k, rfl⟩ : ∃ k, m = k + 1 := ⟨m - 1, by omega⟩
     have e1 : ((k + 1 : Nat) : Int) - 1 = k := by omega
     rw [e1]
     have HD : Hid (PRd wr B d ys) := Lib.hid fun x hx => (HD0.out.below HE.out.1 hBG) x (hpm.subset hx)
     have hBr : B ≤ wr.heap.size := Nat.le_trans hB HE.out.1.size
     have HM := Lib.hid hpm
     clear hpm
     go_wp2_with fail
     refine (heapDown_any HP.out HD.out hBr hBG hPG (by omega) (by omega) (by omega) HH.out).mono ?_
     rintro e wa ⟨⟨_, rfl⟩, he, zs, hs, hz⟩
     have HE2 := Lib.hid (HE.out.trans he)
     have HM2 := hs.perm.trans HM.out
     have HH2 := Lib.hid hs.heap
     have HP2 := Lib.hid hz
     clear he hs hz
     go_wp2_with fail
     go_roundw
     case rel => exact ⟨k, zs, by omega, by go_num, HM2, HH2, HE2, HP2⟩
     case measure => simp [intOf]
set_option maxRecDepth 100000 in
set_option maxHeartbeats 8000000 in
theorem pilePop_any {w : World} {P G c n : Nat} {xs : List TV} (hp : PAt w P G xs c) (hPG : P ≠ G) (hx : xs.length = n + 1) (hc : n + 1 ≤ c) (hc2 : c ≤ 9223372036854775807) (hn : n + 1 ≤ 1000000) :
   Calls Tryz.prog 198 #[.pointer (some ⟨P, 0, none⟩)] w fun e w' => e = .returned (.iface 33 (.agg (atL tv0 xs n).cs.toArray)) ∧ Exc P w w' ∧ PAt w' P G (xs.take n) c := by
 obtain ⟨hP, cur, hG, hr⟩ := hp
 have i0 := hr n (by omega) 0 (by omega)
 have i1 := hr n (by omega) 1 (by omega)
 have i2 := hr n (by omega) 2 (by omega)
 have i3 := hr n (by omega) 3 (by omega)
 have HR := Lib.hid (hr.take n)
 have HT := Lib.hid (show (xs.take n).length = n by rw [List.length_take]; omega)
 generalize atL tv0 xs n = x at *
 simp only [TV.cs, List.getElem?_cons_zero, List.getElem?_cons_succ, Nat.add_zero] at i0 i1 i2 i3
 rw [hx] at hP
 clear hx hr
 have kP := hP.cell
 have fP := hP.free
 have kG := hG.cell
 have lP := hP.lt
 have lG := hG.lt
 go_enter Tryz.func198, Tryz.ntmps198
 go_wp2_with fail
 go_ret
 exact ⟨rfl, ((Exc.refl P w).set 0 _).then (Nat.le_of_lt lP) ((Below.refl _ _).alloc (Nat.le_refl _) _), by rw [HT.out]; exact (hP.set_ 0 _).old _, cur, (hG.far (Ne.symm hPG) 0 _).old _, HR.out⟩
set_option maxRecDepth 100000 in
set_option maxHeartbeats 8000000 in
theorem heapPop_any {w : World} {P G c n B d : Nat} {xs : List TV} (hp : PAt w P G xs c) (hd : PRd w B d xs) (hB : B ≤ w.heap.size) (hBG : B ≤ G) (hPG : P ≠ G) (hx : xs.length = n + 1) (hc : n + 1 ≤ c) (hc2 : c ≤ 9223372036854775807) (hn : n + 1 ≤ 1000000) (hh : Heap cTV (atL tv0 xs) 0 (n + 1)) :
   Calls Tryz.prog 140 #[.iface 149 (.pointer (some ⟨P, 0, none⟩))] w fun e w' => e = .returned (.iface 33 (.agg (atL tv0 xs 0).cs.toArray)) ∧ Exc2 P G w w' ∧
     ∃ rest : List TV, rest.length = n ∧ xs.Perm (atL tv0 xs 0 :: rest) ∧ Heap cTV (atL tv0 rest) 0 n ∧ (∀ b ∈ rest, cTV (atL tv0 xs 0) b ≤ 0) ∧ PAt w' P G rest c := by
 have HX := Lib.hid hx
 have HH := Lib.hid hh
 have HD := Lib.hid hd
 have hl := hp.lt
 have k0 := fun fuel => pile_val m_len fuel (hp.1.cell 0)
 have k1 := fun fuel => pile_val m_swap fuel (hp.1.cell 0)
 have HP := Lib.hid hp
 clear hx hh hd hp
 go_enter Tryz.func140, Tryz.ntmps140
 go_wp2_with fail
 refine (pileLen_any _ _ _ _).mono ?_
 rintro e wz ⟨rfl, rfl⟩
 rw [HX.out]
 go_wp2_with fail
 obtain ⟨_, cur, hG, hr⟩ := HP.out
 rw [HX.out]
 refine (Calls.mono (HX.out ▸ pileSwap_any (c := c) hG hr (i := 0) (j := n) (by rw [HX.out]; omega) (by rw [HX.out]; omega) (by rw [HX.out]; omega)) ?_)
 rintro e wa ⟨rfl, he, hcur⟩
 have HPa := Lib.hid (HP.out.exc he hPG sw_length hcur)
 have HEa := Lib.hid he
 have hsw := sw_perm (z := tv0) (xs := xs) (i := 0) (j := n) (by rw [HX.out]; omega) (by rw [HX.out]; omega)
 have HDa : Hid (PRd wa B d (sw tv0 xs 0 n)) := Lib.hid fun x hx => (HD.out.below he.1 hBG) x (hsw.subset hx)
 have hBa : B ≤ wa.heap.size := Nat.le_trans hB he.1.size
 have HS := Lib.hid (HH.out.swapped (by rw [HX.out]; omega))
 have HL : Hid ((sw tv0 xs 0 n).length = n + 1) := Lib.hid (by rw [sw_length, HX.out])
 clear he hcur hG hr hsw k0 k1
 go_wp2_with fail
 refine (heapDown_any (i0 := 0) (n := n) HPa.out HDa.out hBa hBG hPG (by rw [HL.out]; omega) (by omega) (by rw [HL.out]; omega) HS.out).mono ?_
 rintro e wb ⟨⟨_, rfl⟩, he, ys, hs, hpb⟩
 have HEb := Lib.hid (HEa.out.trans he)
 have HPb := Lib.hid hpb
 have HZ := Lib.hid (popped cTV_ord HX.out HH.out hs)
 have k2 := fun fuel => pile_ptr m_pop fuel (w := wb) (a := ⟨P, 0, none⟩)
 clear he hs hpb
 go_wp2_with fail
 refine (pilePop_any HPb.out hPG HZ.out.1 hc hc2 hn).mono ?_
 rintro e wc ⟨rfl, he, hpc⟩
 have HEc := Lib.hid ((HEb.out.right P).trans (he.left G))
 have HPc := Lib.hid hpc
 clear he hpc
 go_wp2_with fail
 go_ret
 obtain ⟨z1, z2, z3, z4, z5⟩ := HZ.out
 rw [z2] at z3 z5 ⊢
 exact ⟨rfl, HEc.out, ys.take n, by rw [List.length_take]; omega, z3, z4, z5, HPc.out⟩
end Go.Proofs.YtiplipdigabidaaGreat
