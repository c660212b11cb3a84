/- viaticumlaw15.LexBlanks. -/
import Derived.Test.YtijajfelmekmiaaDoorLNext
set_option linter.unusedVariables false
set_option linter.unusedSimpArgs false
namespace Go.Proofs.YtijajfelmekmiaaDoor
open Go.ChangeShapes Go.WideShapes Go.ChangeAt Go.RowKit

theorem words_sum {s : ByteArray} {w w' : World} {e : Ending} (h : WordsPost s w e w') : Below w.heap.size w w' ∧
    ((∃ v ws, e = .returned (.tuple #[v, .int .i64 0, .int .i64 0]) ∧ Lx (bs s) 0 ws none ∧ RSl WdR w' w'.heap.size ws v) ∨
     (∃ (a c : Int), e = .returned (.tuple #[.slice none 0 0, .int .i64 a, .int .i64 c]) ∧ (c = 3 ∨ c = 4))) := by
  obtain ⟨hb, ⟨ws, q, v, hst, hq, he, hr, _⟩ | ⟨ws, q, a, hst, ha, hlt, hl, he⟩ | ⟨ws, q, a, k, S, n, to, hst, ha, hlt, hn, he⟩⟩ := h
  · exact ⟨hb, .inl ⟨v, ws, he, words_lx hst hq, hr⟩⟩
  · exact ⟨hb, .inr ⟨a, 4, he, .inr rfl⟩⟩
  · exact ⟨hb, .inr ⟨a, 3, he, .inl rfl⟩⟩
theorem negB_last {X R : Bytes} (h : ∀ c, X.getLast? = some c → c ≠ 45) : negB (X ++ R) X.length = false := by
  unfold negB
  rw [decide_eq_false_iff_not]
  rintro ⟨h0, h1⟩
  rw [List.getElem?_append_left (by omega)] at h1
  exact h 45 (by rw [List.getLast?_eq_getElem?]; exact h1) rfl
theorem sep_blank {B : Bytes} (hB : ∀ c ∈ B, blankB c.toNat = true) : Sep B := fun c hc => hB c (List.mem_of_mem_head? hc)
theorem ne45 {c : UInt8} (h : blankB c.toNat = true) : c ≠ 45 := by
  intro e; rw [e] at h; cases h
/-- A text and another one behind a line feed, blanks ahead and behind. -/
theorem blanks_lx {s t B : Bytes} (hB : ∀ c ∈ B, blankB c.toNat = true) {ws vs : List Wd} (hs : Lx s 0 ws none) (ht : Lx t 0 vs none) :
    Lx (B ++ s ++ [10] ++ t ++ B) 0 (ws.map (sh B.length) ++ vs.map (sh (B.length + s.length + 1))) none := by
  have e1 : B ++ s ++ [10] ++ t ++ B = (B ++ s ++ [10]) ++ (t ++ B) := by simp
  have e2 : B ++ s ++ [10] ++ t ++ B = (B ++ s) ++ ([10] ++ (t ++ B)) := by simp
  have e3 : B ++ s ++ [10] ++ t ++ B = B ++ (s ++ ([10] ++ t ++ B)) := by simp
  have e4 : B ++ s ++ [10] ++ t ++ B = [] ++ (B ++ (s ++ [10] ++ t ++ B)) := by simp
  have l1 : (B ++ s ++ [10]).length = B.length + s.length + 1 := by simp; omega
  have h0 : Lx ((B ++ s ++ [10]) ++ (t ++ B)) ((B ++ s ++ [10]).length + t.length) [] none := by
    refine .done ?_
    have hd : ((B ++ s ++ [10]) ++ (t ++ B)).drop ((B ++ s ++ [10]).length + t.length) = B := by
      rw [← drop_plus, List.drop_left, List.drop_left]
    have ht : takeB blankB B = B := by
      have := takeB_all B [] hB
      rw [List.append_nil] at this
      rw [this]; simp [takeB]
    unfold runL
    rw [hd, ht]
    simp; omega
  have h1 := lx_in (X := B ++ s ++ [10]) (sep_blank hB) (negB_last (fun c hc => by
    rw [List.getLast?_append] at hc
    simp at hc
    subst hc; decide)) ht rfl (Nat.zero_le _) h0
  rw [List.append_nil, Nat.add_zero, l1, ← e1, e2] at h1
  have h2 := lx_skip (X := B ++ s) (b := [10]) (Y := t ++ B) (fun c hc => by rw [List.mem_singleton.1 hc]; rfl) (by rw [List.length_append, List.length_singleton]; exact h1)
  rw [← e2, e3, List.length_append] at h2
  have h3 := lx_in (X := B) (s := s) (Z := [10] ++ t ++ B) (fun c hc => by simp at hc; subst hc; rfl) (negB_last (fun c hc => ne45 (hB c (List.mem_of_getLast? hc)))) hs rfl (Nat.zero_le _) h2
  rw [Nat.add_zero, ← e3, e4] at h3
  have h4 := lx_skip (X := []) (b := B) (Y := s ++ [10] ++ t ++ B) hB (by rw [List.length_nil, Nat.zero_add]; exact h3)
  rw [← e4] at h4
  exact h4

def blk4 : ByteArray := ⟨#[32, 9, 10, 13]⟩
theorem blk4_ext (j : Nat) (h : j < 4) : (blk4.extract j (j + 1)).size = 1 ∧ ∀ c ∈ bs (blk4.extract j (j + 1)), blankB c.toNat = true := by
  rcases (show j = 0 ∨ j = 1 ∨ j = 2 ∨ j = 3 by omega) with rfl | rfl | rfl | rfl
  all_goals exact ⟨rfl, fun c hc => by
    rw [List.mem_singleton.1 hc]; rfl⟩
theorem slice4 (k : Nat) (wx : World) : (Instr.slice 9 (.string { data := #[32, 9, 10, 13] }) (some (.int .i64 ((k : Int) % 4))) (some (.int .i64 ((k : Int) % 4 + 1))) none).run Tryd.prog wx = .ok (.string (blk4.extract (k % 4) (k % 4 + 1))) wx := by
  have := run_slice_string (P := Tryd.prog) wx 9 blk4 .i64 .i64 ((k : Int) % 4) ((k : Int) % 4 + 1) Tryd.underlying9 (by omega) (by omega) (by show (k : Int) % 4 + 1 ≤ (4 : Int); omega)
  rw [show ((k : Int) % 4).toNat = k % 4 by omega, show ((k : Int) % 4 + 1).toNat = k % 4 + 1 by omega] at this
  exact this
theorem u64_nonneg (n : Int) : 0 ≤ IntKind.u64.wrap n := by
  have e1 : IntKind.u64.signed = false := rfl
  have e2 : IntKind.u64.bits = 64 := rfl
  unfold IntKind.wrap
  simp only [e1, e2]
  simp
  omega

set_option maxRecDepth 100000 in
set_option maxHeartbeats 8000000 in
theorem lexBlanks_any {w : World} {S T : ByteArray} {n : Int} (hs : S.size ≤ 140737488351232) (ht : T.size ≤ 140737488351232) (hn : I64 n) (hv : ErrOk w) (h2 : 2 < w.heap.size) :
    Calls Tryd.prog 3 #[.string S, .string T, .int .i64 n] w fun e w' => e = .returned (.bool true) ∧ Below w.heap.size w w' := by
  have HV := Lib.hid hv
  clear hv
  by_cases hz : S.size + T.size ≤ 1500
  rotate_left
  · have h1 : ((S.size : Int) + (T.size : Int) > 1500) := by omega
    go_enter Tryd.func3, Tryd.ntmps3
    go_wp2_with fail
    refine (awake_any HV.out h2).mono ?_
    rintro e w1 ⟨rfl, hb⟩
    have HB1 := Lib.hid hb
    clear hb
    go_wp2_with fail
    go_ret
    exact ⟨rfl, HB1.out⟩
  have h1 : ¬ ((S.size : Int) + (T.size : Int) > 1500) := by omega
  obtain ⟨m, hm, hm20⟩ : ∃ m : Nat, (IntKind.u64.wrap n).tmod 20 = (m : Int) ∧ m < 20 := by
    have h0 : 0 ≤ IntKind.u64.wrap n := u64_nonneg n
    refine ⟨((IntKind.u64.wrap n).tmod 20).toNat, ?_, ?_⟩
    · rw [Int.tmod_eq_emod_of_nonneg h0]; omega
    · rw [Int.tmod_eq_emod_of_nonneg h0]; omega
  go_enter Tryd.func3, Tryd.ntmps3
  go_wp2_with fail
  refine (words_any (s := S) (by omega) HV.out h2).mono ?_
  rintro e w1 hp
  obtain ⟨hb, hp1⟩ := words_sum hp
  clear hp
  have HB1 := Lib.hid hb
  have HV1 := Lib.hid (HV.out.keep hb h2)
  have h21 : 2 < w1.heap.size := Nat.lt_of_lt_of_le h2 hb.size
  clear hb
  rcases hp1 with ⟨v1, ws, rfl, hx1, hr1⟩ | ⟨a1, c1, rfl, hc1⟩
  rotate_left
  · rcases hc1 with rfl | rfl
    all_goals
      go_wp2_with fail
      refine (words_any (s := T) (by omega) HV1.out h21).mono ?_
      rintro e w2 hp
      obtain ⟨hb, hp⟩ := words_sum hp
      have HB2 := Lib.hid (bthen HB1.out hb)
      have HV2 := Lib.hid (HV1.out.keep hb h21)
      have h22 : 2 < w2.heap.size := Nat.lt_of_lt_of_le h21 hb.size
      clear hb
      rcases hp with ⟨v2, vs, rfl, _, _⟩ | ⟨a2, c2, rfl, _⟩
      all_goals
        go_wp2_with fail
        refine (awake_any HV2.out h22).mono ?_
        rintro e w3 ⟨rfl, hb⟩
        have HB3 := Lib.hid (bthen HB2.out hb)
        clear hb
        go_wp2_with fail
        go_ret
        exact ⟨rfl, HB3.out⟩
  have HX1 := Lib.hid hx1
  have HR1 := Lib.hid hr1
  clear hx1 hr1
  go_wp2_with fail
  refine (words_any (s := T) (by omega) HV1.out h21).mono ?_
  rintro e w2 hp
  obtain ⟨hb, hp⟩ := words_sum hp
  have HB2 := Lib.hid (bthen HB1.out hb)
  have HV2 := Lib.hid (HV1.out.keep hb h21)
  have h22 : 2 < w2.heap.size := Nat.lt_of_lt_of_le h21 hb.size
  have HRW := Lib.hid ((HR1.out.keep hb (Nat.le_refl _)).wide hb.size)
  clear hb HR1
  rcases hp with ⟨v2, vs, rfl, hx2, hr2⟩ | ⟨a2, c2, rfl, hc2⟩
  rotate_left
  · rcases hc2 with rfl | rfl
    all_goals
      go_wp2_with fail
      refine (awake_any HV2.out h22).mono ?_
      rintro e w3 ⟨rfl, hb⟩
      have HB3 := Lib.hid (bthen HB2.out hb)
      clear hb
      go_wp2_with fail
      go_ret
      exact ⟨rfl, HB3.out⟩
  have HX2 := Lib.hid hx2
  obtain ⟨A1, c1, rfl, hca1, hcb1, hl1⟩ := HRW.out
  obtain ⟨A2, c2, rfl, hca2, hcb2, hl2⟩ := hr2
  have HL1 := Lib.hid hl1
  have HL2 := Lib.hid hl2
  have hlw : ws.length ≤ S.size := by have := lx_len HX1.out (Nat.zero_le _); rw [bs_length] at this; omega
  have hlv : vs.length ≤ T.size := by have := lx_len HX2.out (Nat.zero_le _); rw [bs_length] at this; omega
  clear hx2 hp hl1 hl2 HRW hca1 hcb1 hca2 hcb2
  have e1 : wrap64 (m : Int) = m := by unfold wrap64; omega
  go_wp2_with fail
  clear e1 hm hn
  go_loopw [13, 52] (fun v i wr => ∃ (k : Nat) (A : ByteArray), k ≤ m ∧ i = .int .i64 k ∧ v = .string A ∧ A.size = k ∧ Hid (∀ c ∈ bs A, blankB c.toNat = true) ∧ wr = w2) (fun _ i _ => m - (intOf i).toNat)
  case atStart => exact ⟨0, _, Nat.zero_le _, rfl, rfl, rfl, Lib.hid (fun c hc => by cases hc), rfl⟩
  case round =>
    obtain ⟨k, A, hk, rfl, rfl, hzA, HA, rfl⟩ := hrel
    by_cases hlt : k < m
    · have ks := slice4 k
      obtain ⟨hx1, hx2⟩ := blk4_ext (k % 4) (by omega)
      have HX := Lib.hid hx2
      clear hx2
      go_wp2_with fail
      clear ks
      go_roundw
      case rel => exact ⟨k + 1, _, by omega, by go_num, rfl, by rw [size_app]; omega, Lib.hid (fun c hc => by rw [bs_app] at hc; exact (List.mem_append.1 hc).elim (HA.out c) (HX.out c)), trivial⟩
      case measure => simp [intOf]; omega
    · obtain rfl : k = m := by omega
      go_wp2_with fail
      have hzU : (A ++ S ++ ({ data := #[10] } : ByteArray) ++ T ++ A).size ≤ 1600 := by
        have h10 : ({ data := #[10] } : ByteArray).size = 1 := rfl
        simp only [size_app]; omega
      have hU : bs (A ++ S ++ ({ data := #[10] } : ByteArray) ++ T ++ A) = bs A ++ bs S ++ [10] ++ bs T ++ bs A := by
        simp only [bs_app]
      have hLx := blanks_lx HA.out HX1.out HX2.out
      rw [← hU, bs_length, bs_length, hzA] at hLx
      have HLX := Lib.hid hLx
      clear hU hLx
      generalize A ++ S ++ ({ data := #[10] } : ByteArray) ++ T ++ A = U at *
      refine (words_any (s := U) (by omega) HV2.out h22).mono ?_
      rintro e w3 hp
      obtain ⟨hb, hok, _⟩ := lx_words HLX.out (by simp only [List.length_append, List.length_map]; omega) hp
      obtain ⟨v3, rfl, hr3⟩ := hok rfl
      obtain ⟨A3, c3, rfl, hca3, hcb3, hl3⟩ := hr3
      have HL3 := Lib.hid hl3
      have HL1 := Lib.hid ((HL1.out.keep hb (Nat.le_refl _)).wide hb.size)
      have HL2 := Lib.hid ((HL2.out.keep hb (Nat.le_refl _)).wide hb.size)
      have HB3 := Lib.hid (bthen HB2.out hb)
      have HV3 := Lib.hid (HV2.out.keep hb h22)
      have h23 : 2 < w3.heap.size := Nat.lt_of_lt_of_le h22 hb.size
      have hlen3 : (ws.map (sh k) ++ vs.map (sh (k + S.size + 1))).length = ws.length + vs.length := by simp
      clear hb hp hok hca3 hcb3 hl3
      rw [hlen3]
      go_wp2_with fail
      have HAT1 := Lib.hid (lx_at HX1.out)
      have HAT2 := Lib.hid (lx_at HX2.out)
      have hzS : (bs S).length = S.size := bs_length S
      have hzT : (bs T).length = T.size := bs_length T
      have HL0 := Lib.hid hlen3
      clear HX1 HX2 HLX HA hlt hk hlen3 h1 hs ht HV HB1 HV1 h21 h22 HV2 HB2
      go_loopw [104] (fun i wr => ∃ q : Nat, q ≤ ws.length + vs.length ∧ i = .int .i64 q ∧ Hid (Below w3.heap.size w3 wr) ∧ w3.heap.size ≤ wr.heap.size) (fun i _ => ws.length + vs.length - (intOf i).toNat)
      case atStart => exact ⟨0, Nat.zero_le _, rfl, Lib.hid (Below.refl _ _), Nat.le_refl _⟩
      case round =>
        obtain ⟨q, hq, rfl, HBW, hszr⟩ := hrel
        rcases Nat.lt_or_ge q (ws.length + vs.length) with hlt | hge
        rotate_left
        · obtain rfl : q = ws.length + vs.length := by omega
          go_wp2_with fail
          refine (awake_any (HV3.out.keep HBW.out h23) (Nat.lt_of_lt_of_le h23 hszr)).mono ?_
          rintro e w4 ⟨rfl, hb⟩
          have HB4 := Lib.hid (HB3.out.trans ((HBW.out.trans (hb.mono hszr)).mono HB3.out.size))
          clear hb
          go_wp2_with fail
          go_ret
          exact ⟨rfl, HB4.out⟩
        have hq3 : q < (ws.map (sh k) ++ vs.map (sh (k + S.size + 1))).length := by rw [HL0.out]; exact hlt
        obtain ⟨b3, o3, rfl, hb3⟩ := HL3.out.base (Below.refl _ _) (Nat.le_refl _) (by omega)
        have hw3 := (HL3.out.wdc (Nat.le_refl _) hb3 hq3).keep HBW.out
        rcases Nat.lt_or_ge q ws.length with hql | hql
        · obtain ⟨b1, o1, rfl, hb1⟩ := HL1.out.base (Below.refl _ _) (Nat.le_refl _) (by omega)
          have hw1 := (HL1.out.wdc (Nat.le_refl _) hb1 hql).keep HBW.out
          have hat := HAT1.out ws[q] (List.getElem_mem _)
          rw [List.getElem_append_left (by rw [List.length_map]; exact hql), List.getElem_map] at hw3
          generalize ws[q] = x at hw1 hw3 hat
          obtain ⟨l1, ka0, ka1, ka2, ka3⟩ := hw1
          obtain ⟨l3, kc0, kc1, kc2, kc3⟩ := hw3
          simp only [sh] at kc0 kc1 kc2 kc3
          clear hb1 hb3 hq3
          go_wp2_with fail
          go_roundw
          case rel => exact ⟨q + 1, by omega, by go_num, Lib.hid ((HBW.out.alloc hszr _).alloc (by simp; omega) _), by simp; omega⟩
          case measure => simp [intOf]; omega
        · obtain ⟨j, rfl⟩ : ∃ j, q = ws.length + j := ⟨q - ws.length, by omega⟩
          obtain ⟨b1, o1, rfl, hb1⟩ := HL2.out.base (Below.refl _ _) (Nat.le_refl _) (by omega)
          have hjl : j < vs.length := by omega
          have hw1 := (HL2.out.wdc (Nat.le_refl _) hb1 hjl).keep HBW.out
          have hat := HAT2.out vs[j] (List.getElem_mem _)
          rw [List.getElem_append_right (by rw [List.length_map]; exact hql), List.getElem_map] at hw3
          simp only [List.length_map, Nat.add_sub_cancel_left] at hw3
          generalize vs[j] = x at hw1 hw3 hat
          obtain ⟨l1, ka0, ka1, ka2, ka3⟩ := hw1
          obtain ⟨l3, kc0, kc1, kc2, kc3⟩ := hw3
          simp only [sh] at kc0 kc1 kc2 kc3
          clear hb1 hb3 hq3
          go_wp2_with fail
          go_roundw
          case rel => exact ⟨ws.length + j + 1, by omega, by go_num, Lib.hid ((HBW.out.alloc hszr _).alloc (by simp; omega) _), by simp; omega⟩
          case measure => simp [intOf]; omega
end Go.Proofs.YtijajfelmekmiaaDoor
