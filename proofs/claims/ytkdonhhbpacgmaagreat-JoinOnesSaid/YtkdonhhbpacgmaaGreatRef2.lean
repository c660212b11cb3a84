/- The document's own answers on terms (viaticumref6): compare, as the program's. -/
import Derived.Test.YtkdonhhbpacgmaaGreatRead
import Derived.Test.YtkdonhhbpacgmaaGreatOwn
set_option linter.unusedVariables false
set_option linter.unusedSimpArgs false
namespace Go.Proofs.YtkdonhhbpacgmaaGreat
open Go.ChangeShapes Go.WideShapes Go.ChangeAt Go.RowKit
set_option maxHeartbeats 400000 in
theorem refSign_any (b : Bool) (w : World) :
   Calls Tryz.prog 93 #[.bool b] w fun e w' => e = .returned (.int .i64 (if b then -1 else 1)) ∧ w = w' := by
 cases b
 all_goals
   go_enter Tryz.func93, Tryz.ntmps93
   go_wp2_with fail
   go_ret
   exact ⟨rfl, rfl⟩
set_option maxHeartbeats 400000 in
theorem refLetter_any (c : Int) (w : World) (h0 : 0 ≤ c) (h1 : c ≤ 255) :
   Calls Tryz.prog 59 #[.int .u8 c] w fun e w' => e = .returned (.bool (letterB c)) ∧ w = w' := by
 have hc : (97 ≤ c ∧ c ≤ 122) ∨ (65 ≤ c ∧ c ≤ 90) ∨ (c < 65) ∨ (90 < c ∧ c < 97) ∨ 122 < c := by omega
 rcases hc with h | h | h | h | h
 all_goals
   go_enter Tryz.func59, Tryz.ntmps59
   go_wp2_with fail
   go_ret
   refine ⟨ret_bool ?_, rfl⟩
   rw [Bool.eq_iff_iff, letterB_iff]
   simp
   try omega
set_option maxHeartbeats 1000000 in
theorem refInner_any (c : Int) (w : World) (h0 : 0 ≤ c) (h1 : c ≤ 255) :
   Calls Tryz.prog 60 #[.int .u8 c] w fun e w' => e = .returned (.bool (nameAt 1 c)) ∧ w = w' := by
 by_cases hl : letterB c = true
 · go_enter Tryz.func60, Tryz.ntmps60
   go_wp2_with fail
   refine (refLetter_any c w h0 h1).mono ?_
   rintro e w1 ⟨rfl, rfl⟩
   rw [hl]
   go_wp2_with fail
   go_ret
   exact ⟨ret_bool (by simp [nameAt, hl]), rfl⟩
 · simp only [Bool.not_eq_true] at hl
   have hc : (48 ≤ c ∧ c ≤ 57) ∨ c = 95 ∨ c = 58 ∨ c < 48 ∨ (58 < c ∧ c < 95) ∨ 95 < c := by omega
   rcases hc with h | rfl | rfl | h | h | h
   all_goals
     go_enter Tryz.func60, Tryz.ntmps60
     go_wp2_with fail
     refine (refLetter_any _ w h0 h1).mono ?_
     rintro e w1 ⟨rfl, rfl⟩
     rw [hl]
     go_wp2_with fail
     go_ret
     refine ⟨ret_bool ?_, rfl⟩
     rw [Bool.eq_iff_iff, nameAt_iff]
     have hl2 := hl
     rw [Bool.eq_false_iff, ne_eq, letterB_iff] at hl2
     simp
     try omega
theorem nameB_not {s : ByteArray} (h : ¬ (((∀ i, (h : i < s.size) → nameAt i s[i].toNat = true) ∧ 1 ≤ s.size ∧ s.size ≤ 32) ∧ Lib.hasPrefix (bs s) (bs hexB) = false)) : false = nameB (bs s) := by
 rw [eq_comm, Bool.eq_false_iff, ne_eq, nameB_iff]
 exact h
theorem refName_short (s : ByteArray) (w : World) (hs : s.size ≤ maxLen) (t1 : ¬ (1 ≤ s.size ∧ s.size ≤ 32)) :
   Calls Tryz.prog 33 #[.string s] w fun e w' => e = .returned (.bool (nameB (bs s))) ∧ w = w' := by
 unfold maxLen at hs
 go_enter Tryz.func33, Tryz.ntmps33
 go_wp2_with fail
 all_goals
   go_ret
   exact ⟨ret_bool (nameB_not (by omega)), rfl⟩
theorem hexQ {s : ByteArray} (h : 4 ≤ s.size) : ((s.extract 0 4).toList == [104, 101, 120, 58]) = Lib.hasPrefix (bs s) (bs hexB) := by
 rw [← Lib.hasPrefix_of_take, ← Lib.size_eq, ← Lib.size_eq]
 have e : hexB.toList = [104, 101, 120, 58] := by rw [ByteArray.toList_eq]; rfl
 have h4 : hexB.size = 4 := rfl
 rw [← e, same_iff, Bool.eq_iff_iff]
 simp [h4, h, Lib.extract_data]
theorem hexN {s : ByteArray} (h : s.size < 4) : Lib.hasPrefix (bs s) (bs hexB) = false := by
 rw [← Lib.hasPrefix_of_take, ← Lib.size_eq, ← Lib.size_eq]
 have h4 : hexB.size = 4 := rfl
 simp [h4]
 omega
set_option maxRecDepth 100000 in
set_option maxHeartbeats 2000000 in
theorem refName_any (s : ByteArray) (w : World) (hs : s.size ≤ maxLen) :
   Calls Tryz.prog 33 #[.string s] w fun e w' => e = .returned (.bool (nameB (bs s))) ∧ w = w' := by
 by_cases t1 : 1 ≤ s.size ∧ s.size ≤ 32
 rotate_left
 · exact refName_short s w hs t1
 unfold maxLen at hs
 have hb : (s[0].toNat : Int) ≤ 255 := by have := s[0].toNat_lt; omega
 by_cases hl : letterB s[0].toNat = true
 rotate_left
 · simp only [Bool.not_eq_true] at hl
   go_enter Tryz.func33, Tryz.ntmps33
   go_wp2_with fail
   refine (refLetter_any _ w (by omega) (by omega)).mono ?_
   rintro e w1 ⟨rfl, rfl⟩
   rw [hl]
   go_wp2_with fail
   go_ret
   refine ⟨ret_bool (nameB_not fun h => ?_), rfl⟩
   have := h.1.1 0 (by omega)
   rw [nameAt, hl] at this
   simp at this
 have HL0 := Lib.hid hl
 have key : (4 ≤ s.size ∧ ((s.extract 0 4).toList == [104, 101, 120, 58]) = true) ∨ (Lib.hasPrefix (bs s) (bs hexB) = false ∧ 4 ≤ s.size ∧ ((s.extract 0 4).toList == [104, 101, 120, 58]) = false) ∨ (Lib.hasPrefix (bs s) (bs hexB) = false ∧ s.size < 4) := by
   by_cases t4 : 4 ≤ s.size
   · cases hx : ((s.extract 0 4).toList == [104, 101, 120, 58])
     · exact .inr (.inl ⟨by rw [← hexQ t4, hx], t4, rfl⟩)
     · exact .inl ⟨t4, rfl⟩
   · exact .inr (.inr ⟨hexN (by omega), by omega⟩)
 rcases key with ⟨t4, hx⟩ | hk
 · have HX := Lib.hid hx
   go_enter Tryz.func33, Tryz.ntmps33
   go_wp2_with fail
   refine (refLetter_any _ w (by omega) (by omega)).mono ?_
   rintro e w1 ⟨rfl, rfl⟩
   rw [hl]
   go_wp2_with fail
   go_ret
   refine ⟨ret_bool (nameB_not fun h => ?_), rfl⟩
   have h2 := h.2
   rw [← hexQ t4, HX.out] at h2
   cases h2
 have HP := Lib.hid (show Lib.hasPrefix (bs s) (bs hexB) = false by rcases hk with h | h <;> exact h.1)
 have hk' : (4 ≤ s.size ∧ ((s.extract 0 4).toList == [104, 101, 120, 58]) = false) ∨ s.size < 4 := by rcases hk with h | h <;> simp [h.2]
 clear hk
 rcases hk' with ⟨t4, hx⟩ | t4
 all_goals
   go_enter Tryz.func33, Tryz.ntmps33
   go_wp2_with fail
   refine (refLetter_any _ w (by omega) (by omega)).mono ?_
   rintro e w1 ⟨rfl, rfl⟩
   rw [hl]
   go_wp2_with fail
   go_loop [30] (fun i => ∃ k : Nat, k ≤ s.size ∧ i = .int .i64 k ∧ (∀ i, (h : i < k) → (h' : i < s.size) → nameAt i s[i].toNat = true)) (fun i => s.size - (intOf i).toNat)
   case atStart => exact ⟨0, Nat.zero_le _, rfl, fun i h => by omega⟩
   case round =>
     obtain ⟨k, hk, rfl, hall⟩ := hrel
     have HA := Lib.hid hall
     clear hall
     by_cases hlt : k < s.size
     · have hbk : (s[k].toNat : Int) ≤ 255 := by have := s[k].toNat_lt; omega
       have HN : Hid (nameAt 1 s[k].toNat = true → nameAt k s[k].toNat = true) := by
         intro h1
         rcases Nat.eq_zero_or_pos k with rfl | hk0
         · simp [nameAt, HL0.out]
         · rw [nameAt_iff] at h1 ⊢
           rcases h1 with h1 | h1
           · exact .inl h1
           · exact .inr ⟨by omega, h1.2⟩
       have HM : Hid (nameAt 1 s[k].toNat = false → ¬ nameAt k s[k].toNat = true) := by
         intro h1
         rw [Bool.eq_false_iff, ne_eq, nameAt_iff] at h1
         rw [nameAt_iff]
         intro h2
         apply h1
         rcases h2 with h2 | h2
         · exact .inl h2
         · exact .inr ⟨by omega, h2.2⟩
       go_wp2_with fail
       refine (refInner_any _ w (by omega) (by omega)).mono ?_
       rintro e w1 ⟨rfl, rfl⟩
       by_cases hn : nameAt 1 s[k].toNat = true
       · have HN2 := Lib.hid (HN.out hn)
         rw [hn]
         go_wp2_with fail
         go_round
         case rel => exact ⟨k + 1, by omega, by go_num, fun i h h' => by
            rcases Nat.lt_or_ge i k with h1 | h1
            · exact HA.out i h1 h'
            · obtain rfl : i = k := by omega
              exact HN2.out⟩
         case measure => simp [intOf]; omega
       · simp only [Bool.not_eq_true] at hn
         have HN2 := Lib.hid (HM.out hn)
         rw [hn]
         go_wp2_with fail
         go_ret
         exact ⟨ret_bool (nameB_not fun h => HN2.out (h.1.1 k hlt)), rfl⟩
     · go_wp2_with fail
       go_ret
       refine ⟨ret_bool ?_, rfl⟩
       show true = _
       rw [eq_comm, nameB_iff]
       exact ⟨⟨fun i hi => HA.out i (by omega) hi, by omega, by omega⟩, HP.out⟩
open Go.ChangeShapes Go.WideShapes Go.ChangeAt Go.RowKit
theorem cmpI_ne {x y : Int} (h : x ≠ y) : cmpI x y = if x < y then -1 else 1 := by
 unfold cmpI
 split
 · rfl
 · rw [if_pos (by omega)]
theorem cmpI_self (x : Int) : cmpI x x = 0 := by
 unfold cmpI
 rw [if_neg (by omega), if_neg (by omega)]
theorem cmpS_ne {x y : List UInt8} (h : x ≠ y) : cmpS x y = if x < y then -1 else 1 := by
 unfold cmpS
 split
 · rfl
 · rename_i h1
   rw [if_pos]
   rcases List.le_iff_lt_or_eq.1 (List.not_lt.1 h1) with h2 | h2
   · exact h2
   · exact absurd h2.symm h
theorem cmpS_self (x : List UInt8) : cmpS x x = 0 := by
 unfold cmpS
 rw [if_neg (List.lt_irrefl _), if_neg (List.lt_irrefl _)]
theorem cmpT_of {dp : Nat} {a b : Tm} (h : cmp3 a b ≠ 0) : cmpT dp a b = cmp3 a b := by
 cases dp with
 | zero => rfl
 | succ d => unfold cmpT; rw [if_neg h]
theorem cmpT_kind {dp : Nat} {a b : Tm} (h : a.kind ≠ b.kind) : cmpT dp a b = if a.kind < b.kind then -1 else 1 := by
 have h1 : cmpI a.kind b.kind ≠ 0 := by rw [cmpI_ne h]; split <;> omega
 have h2 : cmp3 a b = cmpI a.kind b.kind := by unfold cmp3 or3; rw [if_neg h1]
 rw [cmpT_of (by rw [h2]; exact h1), h2, cmpI_ne h]
theorem cmpT_n {dp : Nat} {a b : Tm} (hk : a.kind = b.kind) (h : a.n ≠ b.n) : cmpT dp a b = if a.n < b.n then -1 else 1 := by
 have h1 : cmpI a.n b.n ≠ 0 := by rw [cmpI_ne h]; split <;> omega
 have h2 : cmp3 a b = cmpI a.n b.n := by unfold cmp3 or3; rw [hk, cmpI_self, if_pos rfl, if_neg h1]
 rw [cmpT_of (by rw [h2]; exact h1), h2, cmpI_ne h]
theorem cmpT_s {dp : Nat} {a b : Tm} (hk : a.kind = b.kind) (hn : a.n = b.n) (h : bs a.s ≠ bs b.s) : cmpT dp a b = if bs a.s < bs b.s then -1 else 1 := by
 have h1 : cmpS (bs a.s) (bs b.s) ≠ 0 := by rw [cmpS_ne h]; split <;> omega
 have h2 : cmp3 a b = cmpS (bs a.s) (bs b.s) := by unfold cmp3 or3; rw [hk, cmpI_self, if_pos rfl, hn, cmpI_self, if_pos rfl]
 rw [cmpT_of (by rw [h2]; exact h1), h2, cmpS_ne h]
theorem cmp3_same {a b : Tm} (hk : a.kind = b.kind) (hn : a.n = b.n) (h : bs a.s = bs b.s) : cmp3 a b = 0 := by
 unfold cmp3 or3
 rw [hk, cmpI_self, if_pos rfl, hn, cmpI_self, if_pos rfl, h, cmpS_self]
theorem ret_of_eq {m n : Int} (h : m = n) : Ending.returned (.int .i64 m) = .returned (.int .i64 n) := by rw [h]
set_option maxRecDepth 100000 in
set_option maxHeartbeats 4000000 in
theorem refCompare_of (dp : Nat) (hdp : dp ≤ 3)
   (ih : ∀ dp', dp = dp' + 1 → ∀ (d B : Nat) (a b : Tm) (va vb : List Value) (w : World), RTm w B d a va → RTm w B d b vb → B ≤ w.heap.size →
     Calls Tryz.prog 58 #[.agg va.toArray, .agg vb.toArray, .int .i64 (dp' : Int)] w fun e w' => e = .returned (.int .i64 (cmpT dp' a b)) ∧ Below w.heap.size w w')
   (d B : Nat) (a b : Tm) (va vb : List Value) (w : World) (ha : RTm w B d a va) (hb : RTm w B d b vb) (hB : B ≤ w.heap.size) :
   Calls Tryz.prog 58 #[.agg va.toArray, .agg vb.toArray, .int .i64 (dp : Int)] w fun e w' => e = .returned (.int .i64 (cmpT dp a b)) ∧ Below w.heap.size w w' := by
 obtain ⟨Aa, ca, rfl, a1, a2, a3, a4, a5, hla⟩ := RTm.cells ha
 obtain ⟨Ab, cb, rfl, b1, b2, b3, b4, b5, hlb⟩ := RTm.cells hb
 have IH := Lib.hid ih
 have HLA := Lib.hid hla
 have HLB := Lib.hid hlb
 have HW := Lib.hid (((Below.refl w.heap.size w).alloc (Nat.le_refl _) (.cells #[.int .i64 a.kind, .int .i64 a.n, .string a.s, .slice Aa a.l.length ca] 44)).alloc (by simp) (.cells #[.int .i64 b.kind, .int .i64 b.n, .string b.s, .slice Ab b.l.length cb] 44))
 clear ih ha hb hla hlb
 by_cases k1 : a.kind = b.kind
 rotate_left
 · have K1 := Lib.hid k1
   have k1' : (a.kind == b.kind) = false := by simpa using k1
   clear k1
   go_enter Tryz.func58, Tryz.ntmps58
   go_wp2_with fail
   refine (refSign_any _ _).mono ?_
   rintro e w1 ⟨rfl, rfl⟩
   go_wp2_with fail
   all_goals
     go_ret
     exact ⟨ret_of_eq (by rw [cmpT_kind K1.out]; first | rw [if_pos (by assumption)] | rw [if_neg (by omega)]), HW.out⟩
 by_cases k2 : a.n = b.n
 rotate_left
 · have K1 := Lib.hid k1
   have K2 := Lib.hid k2
   have k1' : (a.kind == b.kind) = true := by simpa using k1
   have k2' : (a.n == b.n) = false := by simpa using k2
   clear k1 k2
   go_enter Tryz.func58, Tryz.ntmps58
   go_wp2_with fail
   refine (refSign_any _ _).mono ?_
   rintro e w1 ⟨rfl, rfl⟩
   go_wp2_with fail
   all_goals
     go_ret
     exact ⟨ret_of_eq (by rw [cmpT_n K1.out K2.out]; first | rw [if_pos (by assumption)] | rw [if_neg (by omega)]), HW.out⟩
 by_cases k3 : bs a.s = bs b.s
 rotate_left
 · have K1 := Lib.hid k1
   have K2 := Lib.hid k2
   have K3 := Lib.hid k3
   have k1' : (a.kind == b.kind) = true := by simpa using k1
   have k2' : (a.n == b.n) = true := by simpa using k2
   have k3' : (a.s.toList == b.s.toList) = false := by rw [same_iff]; simpa using k3
   clear k1 k2 k3
   go_enter Tryz.func58, Tryz.ntmps58
   go_wp2_with fail
   refine (refSign_any _ _).mono ?_
   rintro e w1 ⟨rfl, rfl⟩
   go_wp2_with fail
   all_goals
     go_ret
     exact ⟨ret_of_eq (by rw [cmpT_s K1.out K2.out K3.out]; first | rw [if_pos ((less_iff _ _).1 (by assumption))] | rw [if_neg (fun h => absurd ((less_iff _ _).2 h) (by assumption))]), HW.out⟩
 have K0 := Lib.hid (cmp3_same k1 k2 k3)
 have k1' : (a.kind == b.kind) = true := by simpa using k1
 have k2' : (a.n == b.n) = true := by simpa using k2
 have k3' : (a.s.toList == b.s.toList) = true := by rw [same_iff]; simpa using k3
 clear k1 k2 k3
 rcases dp with _ | dp
 · go_enter Tryz.func58, Tryz.ntmps58
   go_wp2_with fail
   go_ret
   exact ⟨ret_of_eq K0.out.symm, HW.out⟩
 · have hd1 : (((dp + 1 : Nat) : Int) == 0) = false := by simp; omega
   have HC := Lib.hid (show cmpT (dp + 1) a b = cmpL (cmpT dp) a.l b.l by unfold cmpT; rw [if_pos K0.out])
   clear HW
   go_enter Tryz.func58, Tryz.ntmps58
   go_wp2_with fail
   generalize hW : World.alloc _ _ = W
   obtain ⟨hb, hz⟩ := al2 hW
   have ba := n21 hW
   have bb := n22 hW
   have HB := Lib.hid hb
   have HZ : w.heap.size < W.heap.size := by omega
   have HB1 : B ≤ W.heap.size := by omega
   clear hW hb hz
   go_loopw [52] (fun i wr => ∃ k : Nat, k ≤ a.l.length ∧ i = .int .i64 k ∧ Below W.heap.size W wr ∧ Hid (cmpL (cmpT dp) a.l b.l = cmpL (cmpT dp) (a.l.drop k) (b.l.drop k))) (fun i _ => a.l.length - (intOf i).toNat)
   case atStart => exact ⟨0, Nat.zero_le _, rfl, Below.refl _ _, rfl⟩
   case round =>
     obtain ⟨k, hk, rfl, hbw, HE⟩ := hrel
     have ca := (ba.later hbw).cell
     have cb := (bb.later hbw).cell
     have la := (ba.later hbw).lt
     have lb := (bb.later hbw).lt
     have hfin := Lib.hid (bthen HB.out hbw)
     by_cases hlt : k < a.l.length
     · have hla := HLA.out.below HB.out hB
       have hlb := HLB.out.below HB.out hB
       obtain ⟨oa, ofa, rfl, hoa⟩ := hla.base hbw HB1 (by omega)
       obtain ⟨x, Ax, cx, hx, c0, c1, c2, c3, hr⟩ := hla.at_ hbw HB1 hlt
       by_cases hlt2 : k < b.l.length
       · obtain ⟨ob, ofb, rfl, hob⟩ := hlb.base hbw HB1 (by omega)
         obtain ⟨y, Ay, cy, hy, e0, e1, e2, e3, hr'⟩ := hlb.at_ hbw HB1 hlt2
         have HL := Lib.hid (And.intro hla hlb)
         have HR := Lib.hid (And.intro hr hr')
         have HXY := Lib.hid (And.intro hx hy)
         clear hla hlb hr hr' hx hy
         have hz : cmpT dp x y = 0 ∨ cmpT dp x y ≠ 0 := by omega
         have HE2 : Hid (cmpL (cmpT dp) a.l b.l = if cmpT dp x y = 0 then cmpL (cmpT dp) (a.l.drop (k + 1)) (b.l.drop (k + 1)) else cmpT dp x y) := by
           obtain ⟨h1, h2⟩ := List.getElem?_eq_some_iff.1 HXY.out.1
           obtain ⟨h3, h4⟩ := List.getElem?_eq_some_iff.1 HXY.out.2
           have := HE.out
           rw [List.drop_eq_getElem_cons h1, List.drop_eq_getElem_cons h3, h2, h4] at this
           exact this
         have hszr := hbw.size
         have HZ2 := Lib.hid hz
         clear hz HE
         go_wp2_with fail
         generalize hW2 : World.alloc _ _ = W2
         obtain ⟨hb2, hz2⟩ := al1 hW2
         have q0 := (n11 hW2).regrown
         have q1 := ((bb.later hbw).later hb2).regrown
         have q5 := cell_regrown ((hb2.cell (p := ⟨ob, ofb + k * 4, none⟩) hob).trans e0)
         have q6 := cell_regrown ((hb2.cell (p := ⟨ob, ofb + k * 4 + 1, none⟩) hob).trans e1)
         have q7 := cell_regrown ((hb2.cell (p := ⟨ob, ofb + k * 4 + 2, none⟩) hob).trans e2)
         have q8 := cell_regrown ((hb2.cell (p := ⟨ob, ofb + k * 4 + 3, none⟩) hob).trans e3)
         have HB2 := Lib.hid hb2
         have hB2 : B ≤ W2.heap.size := by omega
         have hwrap : IntKind.i64.wrap (((dp + 1 : Nat) : Int) - 1) = (dp : Int) := by
           rw [show (((dp + 1 : Nat) : Int) - 1) = (dp : Int) by omega]
           exact IntWalk.i64_in _ (by omega)
         clear hW2 hz2 hb2 ca cb la lb c0 c1 c2 c3 e0 e1 e2 e3
         refine wp_region_quiet_below (by kernel_rfl) (by kernel_rfl) ?_
         repeat (go_big_quiet_step ((go_at_call 58; exact Calls.regrown_of (IH.out dp rfl (d - 1) B x y [_, _, _, _] [_, _, _, _] _ ((HR.out.1.below HB2.out (by omega)).below (below_regrown _ _ _) hB2) ((HR.out.2.below HB2.out (by omega)).below (below_regrown _ _ _) hB2) (Nat.le_trans hB2 (below_regrown _ _ _).size)))))
         refine wpQuiet_nil ?_
         intro w3 hw3
         have hb3 : Below W2.heap.size W2 w3 := by obtain ⟨p, rfl⟩ := hw3; exact below_regrown _ _ _
         clear hw3 q0 q1 q5 q6 q7 q8
         have HB3 := Lib.hid (bthen hbw (bthen HB2.out hb3))
         have hfin3 := Lib.hid (bthen HB.out HB3.out)
         clear hb3
         rcases HZ2.out with hz | hz
         · have hz1 : (cmpT dp x y != 0) = false := by simpa using hz
           have HZ3 := Lib.hid hz
           clear hz
           go_wp2_with fail
           go_roundw
           case rel => exact ⟨k + 1, by omega, by go_num, HB3.out, by rw [HE2.out, if_pos HZ3.out]; exact Lib.hid rfl⟩
           case measure => simp [intOf]; omega
         · have hz1 : (cmpT dp x y != 0) = true := by simpa using hz
           have HZ3 := Lib.hid hz
           clear hz
           go_wp2_with fail
           go_ret
           exact ⟨ret_of_eq (by rw [HC.out, HE2.out, if_neg HZ3.out]), hfin3.out⟩
       · have HE2 : Hid (cmpL (cmpT dp) a.l b.l = 1) := by
           obtain ⟨h1, h2⟩ := List.getElem?_eq_some_iff.1 hx
           have := HE.out
           rw [List.drop_eq_getElem_cons h1, List.drop_eq_nil_iff.2 (show b.l.length ≤ k by omega)] at this
           exact this
         have hfin2 := Lib.hid (fun o : Obj => HB.out.trans ((hbw.alloc hbw.size o).mono HB.out.size))
         clear hx HE
         go_wp2_with fail
         go_ret
         exact ⟨ret_of_eq (by rw [HC.out, HE2.out]), hfin2.out _⟩
     · have hz : a.l.drop k = [] := List.drop_eq_nil_iff.2 (by omega)
       have HE2 := HE.out
       rw [hz] at HE2
       have HE3 := Lib.hid HE2
       clear HE HE2 hz
       by_cases hlt2 : a.l.length < b.l.length
       · go_wp2_with fail
         go_ret
         obtain rfl : k = a.l.length := by omega
         exact ⟨ret_of_eq (by rw [HC.out, HE3.out, List.drop_eq_getElem_cons hlt2]; rfl), hfin.out⟩
       · go_wp2_with fail
         go_ret
         obtain rfl : k = a.l.length := by omega
         exact ⟨ret_of_eq (by rw [HC.out, HE3.out, List.drop_eq_nil_iff.2 (by omega)]; rfl), hfin.out⟩
theorem refCompare_all (dp : Nat) : dp ≤ 3 → ∀ (d B : Nat) (a b : Tm) (va vb : List Value) (w : World), RTm w B d a va → RTm w B d b vb → B ≤ w.heap.size →
     Calls Tryz.prog 58 #[.agg va.toArray, .agg vb.toArray, .int .i64 (dp : Int)] w fun e w' => e = .returned (.int .i64 (cmpT dp a b)) ∧ Below w.heap.size w w' := by
 induction dp with
 | zero => intro _ d B a b va vb w ha hb hB; exact refCompare_of 0 (by omega) (fun dp' h => by omega) d B a b va vb w ha hb hB
 | succ dp ih => intro h d B a b va vb w ha hb hB; exact refCompare_of (dp + 1) h (fun dp' h' => by obtain rfl : dp = dp' := (by omega); exact ih (by omega)) d B a b va vb w ha hb hB
set_option maxRecDepth 100000 in
theorem refCompare_any {d B : Nat} {a b : Tm} {va vb : List Value} {w : World} (ha : RTm w B d a va) (hb : RTm w B d b vb) (hB : B ≤ w.heap.size) :
   Calls Tryz.prog 32 #[.agg va.toArray, .agg vb.toArray] w fun e w' => e = .returned (.int .i64 (cmpT 3 a b)) ∧ Below w.heap.size w w' := by
 have HA := Lib.hid (And.intro ha hb)
 obtain ⟨Aa, ca, rfl, a1, a2, a3, a4, a5, hla⟩ := RTm.cells ha
 obtain ⟨Ab, cb, rfl, b1, b2, b3, b4, b5, hlb⟩ := RTm.cells hb
 clear ha hb hla hlb
 go_enter Tryz.func32, Tryz.ntmps32
 go_wp2_with fail
 generalize hW : World.alloc _ _ = W
 obtain ⟨hb, hz⟩ := al2 hW
 clear hW
 refine (refCompare_all 3 (Nat.le_refl _) d B a b [_, _, _, _] [_, _, _, _] W (HA.out.1.below hb hB) (HA.out.2.below hb hB) (by omega)).mono ?_
 rintro e w1 ⟨rfl, hb1⟩
 have hfin := Lib.hid (bthen hb hb1)
 clear hb hb1 hz
 go_wp2_with fail
 go_ret
 exact ⟨rfl, hfin.out⟩
end Go.Proofs.YtkdonhhbpacgmaaGreat
