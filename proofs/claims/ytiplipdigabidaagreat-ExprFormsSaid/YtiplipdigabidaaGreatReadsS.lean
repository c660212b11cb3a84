/- Slices of texts that read so; With on them. -/
import Derived.Test.YtiplipdigabidaaGreatEv4
import Derived.Test.YtiplipdigabidaaGreatEvSpec
import Derived.Test.YtiplipdigabidaaGreatExc
import Derived.RegionTactic
import Derived.Deep.RegionHeld3
import Derived.Deep.DeepCutAuto
set_option linter.unusedVariables false
set_option linter.unusedSimpArgs false
namespace Go.Proofs.YtiplipdigabidaaGreat
open Go.ChangeShapes Go.WideShapes Go.ChangeAt Go.RowKit
def withK : List Bytes → Bytes → Nat
 | [], _ => 0
 | y :: L, x => if y < x then withK L x + 1 else 0
def withL (L : List Bytes) (x : Bytes) : List Bytes := if L[withK L x]? = some x then L else L.take (withK L x) ++ [x] ++ L.drop (withK L x)
theorem withK_eq : ∀ {L : List Bytes} {x : Bytes} {k : Nat}, k ≤ L.length → (∀ j (h : j < k) (h' : j < L.length), L[j] < x) → (k = L.length ∨ ∃ h : k < L.length, ¬ L[k] < x) → withK L x = k
 | [], x, k, hk, h1, h2 => by simp at hk; simp [withK, hk]
 | y :: L, x, 0, hk, h1, h2 => by
   rcases h2 with h2 | ⟨h, h2⟩
   · simp at h2
   · simp only [List.getElem_cons_zero] at h2
     rw [withK, if_neg h2]
 | y :: L, x, k + 1, hk, h1, h2 => by
   have h0 := h1 0 (by omega) (by simp)
   simp only [List.getElem_cons_zero] at h0
   rw [withK, if_pos h0, withK_eq (L := L) (x := x) (k := k)]
   · simpa using hk
   · intro j h h'
     have := h1 (j + 1) (by omega) (by simpa using h')
     simpa using this
   · rcases h2 with h2 | ⟨h, h2⟩
     · exact .inl (by simpa using h2)
     · exact .inr ⟨by simpa using h, by simpa using h2⟩
theorem withK_le : ∀ (L : List Bytes) (x : Bytes), withK L x ≤ L.length
 | [], x => Nat.le_refl _
 | y :: L, x => by
   unfold withK
   split
   · have := withK_le L x
     simp; omega
   · simp
theorem withK_lt : ∀ (L : List Bytes) (x y : Bytes), y ∈ L.take (withK L x) → y < x
 | [], x, y, h => by simp [withK] at h
 | z :: L, x, y, h => by
   unfold withK at h
   split at h
   · rename_i hz
     rw [List.take_succ_cons, List.mem_cons] at h
     rcases h with rfl | h
     · exact hz
     · exact withK_lt L x y h
   · simp at h
theorem withK_ge : ∀ (L : List Bytes) (x : Bytes), L.Pairwise (· < ·) → ∀ y ∈ L.drop (withK L x), ¬ y < x
 | [], x, _, y, h => by simp at h
 | z :: L, x, hp, y, h => by
   rw [List.pairwise_cons] at hp
   unfold withK at h
   split at h
   · rw [List.drop_succ_cons] at h
     exact withK_ge L x hp.2 y h
   · rename_i hz
     rw [List.drop_zero, List.mem_cons] at h
     rcases h with rfl | h
     · exact hz
     · intro hy
       exact hz (List.lt_trans (hp.1 y h) hy)
theorem mem_withL (L : List Bytes) (x y : Bytes) : y ∈ withL L x ↔ y ∈ L ∨ y = x := by
 unfold withL
 split
 · rename_i h
   have hx : x ∈ L := List.mem_of_getElem? h
   constructor
   · exact .inl
   · rintro (h | rfl)
     · exact h
     · exact hx
 · rw [List.append_assoc, List.mem_append, List.mem_append, List.mem_singleton]
   constructor
   · rintro (h | h | h)
     · exact .inl (List.mem_of_mem_take h)
     · exact .inr h
     · exact .inl (List.mem_of_mem_drop h)
   · rintro (h | h)
     · rw [← List.take_append_drop (withK L x) L, List.mem_append] at h
       rcases h with h | h
       · exact .inl h
       · exact .inr (.inr h)
     · exact .inr (.inl h)
theorem withL_rising {L : List Bytes} (x : Bytes) (h : L.Pairwise (· < ·)) : (withL L x).Pairwise (· < ·) := by
 unfold withL
 split
 · exact h
 · rename_i hn
   have hpd := h
   rw [← List.take_append_drop (withK L x) L, List.pairwise_append] at hpd
   obtain ⟨p1, p2, p3⟩ := hpd
   have hgt : ∀ y ∈ L.drop (withK L x), x < y := by
     intro y hy
     have h1 := withK_ge L x h y hy
     rcases List.le_iff_lt_or_eq.1 (List.not_lt.1 h1) with h2 | h2
     · exact h2
     · exfalso
       subst h2
       obtain ⟨i, hi, hiy⟩ := List.getElem_of_mem hy
       rw [List.getElem_drop] at hiy
       rw [List.length_drop] at hi
       rcases Nat.eq_zero_or_pos i with h0 | h0
       · subst h0
         apply hn
         rw [List.getElem?_eq_getElem (by omega)]
         simpa using hiy
       · have h3 := withK_ge L x h (L[withK L x]) (List.mem_iff_getElem.2 ⟨0, by rw [List.length_drop]; omega, by simp⟩)
         have h4 := List.pairwise_iff_getElem.1 h (withK L x) (withK L x + i) (by omega) (by omega) (by omega)
         rw [hiy] at h4
         exact h3 h4
   rw [List.append_assoc, List.pairwise_append]
   refine ⟨p1, ?_, ?_⟩
   · rw [List.singleton_append, List.pairwise_cons]
     exact ⟨hgt, p2⟩
   · intro a ha b hb
     rw [List.singleton_append, List.mem_cons] at hb
     rcases hb with rfl | hb
     · exact withK_lt L b a ha
     · exact p3 a ha b hb
theorem withL_uniq (V : List Bytes) (x : Bytes) : withL (uniqL V) x = uniqL (V ++ [x]) :=
 rising_ext (withL_rising x (uniqL_rising V)) (uniqL_rising _) (fun y => by rw [mem_withL, mem_uniqL, mem_uniqL, List.mem_append, List.mem_singleton])
theorem withL_len (L : List Bytes) (x : Bytes) : (withL L x).length = if L[withK L x]? = some x then L.length else L.length + 1 := by
 unfold withL
 split
 · rfl
 · have := withK_le L x
   simp
   omega
def depthF : Nat → Int → List OpD → Int
 | 0, _, _ => -1
 | _ + 1, t, [] => t
 | n + 1, t, o :: r =>
   if (aloneB o && decide (needsB o ≤ t)) = true then
     (if lazyB o then (if (decide (o.skip ≤ r.length) && decide (depthF n 0 (r.take o.skip.toNat) = 1)) = true then depthF n (t + (1 - needsB o)) (r.drop o.skip.toNat) else -1)
      else depthF n (t + (1 - needsB o)) r)
   else -1
theorem depthF_eq : ∀ (n m : Nat) (t : Int) (l : List OpD), l.length < n → l.length < m → depthF n t l = depthF m t l
 | 0, _, _, _, h, _ => absurd h (by omega)
 | _, 0, _, _, _, h => absurd h (by omega)
 | n + 1, m + 1, t, [], _, _ => rfl
 | n + 1, m + 1, t, o :: r, h, k => by
   simp only [List.length_cons] at h k
   have e1 := depthF_eq n m 0 (r.take o.skip.toNat) (by rw [List.length_take]; omega) (by rw [List.length_take]; omega)
   have e2 := depthF_eq n m (t + (1 - needsB o)) (r.drop o.skip.toNat) (by rw [List.length_drop]; omega) (by rw [List.length_drop]; omega)
   have e3 := depthF_eq n m (t + (1 - needsB o)) r (by omega) (by omega)
   simp only [depthF, e1, e2, e3]
def depthG (t : Int) (l : List OpD) : Int := depthF (l.length + 1) t l
theorem depthG_cons (t : Int) (o : OpD) (r : List OpD) : depthG t (o :: r) = if (aloneB o && decide (needsB o ≤ t)) = true then
     (if lazyB o then (if (decide (o.skip ≤ r.length) && decide (depthG 0 (r.take o.skip.toNat) = 1)) = true then depthG (t + (1 - needsB o)) (r.drop o.skip.toNat) else -1)
      else depthG (t + (1 - needsB o)) r)
   else -1 := by
 unfold depthG
 rw [List.length_cons, depthF]
 rw [depthF_eq (r.length + 1) ((r.take o.skip.toNat).length + 1) 0 (r.take o.skip.toNat) (by rw [List.length_take]; omega) (by omega)]
 rw [depthF_eq (r.length + 1) ((r.drop o.skip.toNat).length + 1) _ (r.drop o.skip.toNat) (by rw [List.length_drop]; omega) (by omega)]
theorem depth_whole : ∀ (n : Nat) (t : Int) (l : List OpD), decide (depthF n t l = 1) = wholeF n t l
 | 0, t, l => rfl
 | n + 1, t, [] => rfl
 | n + 1, t, o :: r => by
   have e1 := depth_whole n 0 (r.take o.skip.toNat)
   have e2 := depth_whole n (t + (1 - needsB o)) (r.drop o.skip.toNat)
   have e3 := depth_whole n (t + (1 - needsB o)) r
   rw [depthF, wholeF, ← e1, ← e2, ← e3]
   cases aloneB o && decide (needsB o ≤ t)
   · simp
   · cases lazyB o
     · simp
     · cases decide (o.skip ≤ r.length) && decide (depthF n 0 (r.take o.skip.toNat) = 1) <;> simp
theorem depthG_whole (l : List OpD) : decide (depthG 0 l = 1) = wholeG 0 l := depth_whole _ _ _
open Go.ChangeShapes Go.WideShapes Go.ChangeAt Go.RowKit
theorem single_str : Single StrR := fun h u hu => by
 obtain ⟨rfl, _⟩ := h
 simp only [List.mem_cons, List.not_mem_nil, or_false] at hu
 subst hu; rfl
def ReadsS (w : World) (L : List Bytes) (v : Value) : Prop := ∃ A c, v = .slice A L.length c ∧ L.length ≤ c ∧ c ≤ 9223372036854775807 ∧ RL StrR w w.heap.size (L.map mkS) A
theorem RL.take {α : Type} {R : Reader α} {w : World} {B : Nat} {xs : List α} {A : Option Addr} (h : RL R w B xs A) (m : Nat) : RL R w B (xs.take m) A := by
 intro h0
 rw [List.length_take] at h0
 obtain ⟨b, off, e, hb, hc⟩ := h (by omega)
 refine ⟨b, off, e, hb, fun i hi => ?_⟩
 rw [List.length_take] at hi
 obtain ⟨vs, hl, ⟨x, hx, hr⟩, hv⟩ := hc i (by omega)
 exact ⟨vs, hl, ⟨x, by rw [List.getElem?_take, if_pos (by omega)]; exact hx, hr⟩, hv⟩
theorem SrcR.nothing {α : Type} {R : Reader α} {w : World} {B : Nat} {A : Option Addr} {ys : List α} (h : ys = []) : SrcR R w B A ys := by
 subst h; exact ⟨[], Flat.nil, fun _ => rfl, fun a _ j u hu => by simp at hu⟩
theorem ne_own0 {k n c : Nat} : some k ≠ (Value.slice none n c).ownBlock := fun e => by cases e
set_option maxRecDepth 100000 in
set_option maxHeartbeats 4000000 in
theorem with_any (L : List Bytes) (x : ByteArray) (A : Option Addr) (c B : Nat) (w : World) (hl : RL StrR w B (L.map mkS) A) (hB : B ≤ w.heap.size) (hn : L.length ≤ 1000000) (hc : L.length ≤ c) (hc2 : c ≤ 9223372036854775807) (hx : x.size ≤ 140737488351232) :
   Calls Tryz.prog 57 #[.slice A L.length c, .string x] w fun e w' => (∃ v, e = .returned v ∧ ReadsS w' (withL L (bs x)) v) ∧ Below w.heap.size w w' := by
 have HL := Lib.hid hl
 have HP := Lib.hid (fun j (h : j < L.length) => show L[j] = L[j] from rfl)
 clear HP
 go_enter Tryz.func57, Tryz.ntmps57
 go_wp2_with fail
 go_loop [5] (fun i => ∃ k : Nat, k ≤ L.length ∧ i = .int .i64 k ∧ (∀ j (h : j < k) (h' : j < L.length), L[j] < bs x)) (fun i => L.length - (intOf i).toNat)
 case atStart => exact ⟨0, Nat.zero_le _, rfl, fun j h => absurd h (by omega)⟩
 case round =>
   obtain ⟨k, hk, rfl, hall⟩ := hrel
   have HA := Lib.hid hall
   clear hall
   by_cases hlt : k < L.length
   · obtain ⟨b, off, rfl, hb, hcell⟩ := strs_at HL.out (Below.refl _ _) hB (by omega)
     have c0 := hcell k hlt
     clear hcell
     by_cases hless : L[k] < bs x
     · have e1 : Op.bytesLess (mkS L[k]).toList x.toList = true := (less_iff _ _).2 (by rw [bs_mkS]; exact hless)
       have HLS := Lib.hid hless
       clear hless
       go_wp2_with fail
       go_round
       case rel => exact ⟨k + 1, by omega, by go_num, fun j h h' => by
         rcases Nat.lt_or_ge j k with h1 | h1
         · exact HA.out j h1 h'
         · obtain rfl : j = k := by omega
           exact HLS.out⟩
       case measure => simp [intOf]; omega
     · have e1 : Op.bytesLess (mkS L[k]).toList x.toList = false := (less_not _ _).2 (by rw [bs_mkS]; exact hless)
       have HK := Lib.hid (withK_eq hk HA.out (.inr ⟨hlt, hless⟩))
       clear hless
       by_cases heq : L[k] = bs x
       · have e2 : ((mkS L[k]).toList == x.toList) = true := by rw [same_iff, bs_mkS]; simpa using heq
         have HW := Lib.hid (show withL L (bs x) = L by unfold withL; rw [HK.out, List.getElem?_eq_getElem hlt, heq, if_pos rfl])
         clear heq
         go_wp2_with fail
         go_ret
         exact ⟨⟨_, rfl, by rw [HW.out]; exact ⟨_, c, rfl, hc, hc2, HL.out.wide hB⟩⟩, Below.refl _ _⟩
       · have e2 : ((mkS L[k]).toList == x.toList) = false := by rw [same_iff, bs_mkS]; simpa using heq
         have HW := Lib.hid (show withL L (bs x) = L.take k ++ [bs x] ++ L.drop k by unfold withL; rw [HK.out, List.getElem?_eq_getElem hlt, if_neg (by simpa using heq)])
         clear heq
         obtain ⟨i0, hi0, hz0, hz1, hz2⟩ := info_parts infoStr
         have HLT := Lib.hid (show RL StrR w B ((L.take k).map mkS) (some ⟨b, off, none⟩) by rw [List.map_take]; exact HL.out.take k)
         have HLD := Lib.hid (show RL StrR w B ((L.drop k).map mkS) (some ⟨b, off + k, none⟩) by
           have := HL.out.cut k (L.length - k) (by rw [List.length_map]; omega)
           rw [show k * StrR.k = k from Nat.mul_one k, List.take_of_length_le (by rw [List.length_drop, List.length_map]; omega)] at this
           rw [List.map_drop]; exact this)
         have HLIST := Lib.hid (show (L.take k).map mkS ++ [x] ++ (L.drop k).map mkS = (withL L (bs x)).map mkS by rw [HW.out]; simp [mkS_bs])
         have hkI : (0 : Int) ≤ (k : Int) := Int.natCast_nonneg _
         have hkc : (k : Int) ≤ (c : Int) := by omega
         go_wp2_with fail
         go_region_held3 (fun _ => True) (trivial)
           (first
             | (refine step_append_R (R := StrR) (e := 9) rfl (.const (.slice none 0 0)) (.tmp 35) 25 rfl (bytes := 16) Tryz.underlying25 hi0 hz0 hz1 hz2 rfl (show 0 < 1 by omega) single_str rfl (xs := []) (base := w.heap.size) (B := B) (OwnR.nil _ _ _ _ _) rfl (ys := (L.take k).map mkS) (by first | exact (HLT.out.keep (Below.refl w.heap.size w).drew hB).src | exact (HLT.out.keep (al1 rfl).1.drew hB).src) (by rw [List.length_map, List.length_take]; omega) hB (by simp only [List.length_nil, List.length_map, List.length_take]; omega) (by omega) (by simp) ?_
                intro v1 w7 hown1 hb7 hg7
                have HO1 := Lib.hid hown1
                have HG7 := Lib.hid hg7
                have hsz7 : w.heap.size ≤ w7.heap.size := Nat.le_trans (by simp) hb7.size
                have HB17 : Hid (Below w.heap.size w w7) := by first | exact Lib.hid ((Below.refl w.heap.size w).drew.trans hb7) | exact Lib.hid ((al1 rfl).1.drew.trans hb7)
                clear hown1 hb7 hg7)
             | (refine step_append_R (R := StrR) (e := 9) rfl (.tmp 36) (.tmp 38) 25 rfl (bytes := 16) Tryz.underlying25 hi0 hz0 hz1 hz2 rfl (show 0 < 1 by omega) single_str rfl (xs := (L.take k).map mkS) (base := w.heap.size) (B := B) (by first | exact HO1.out | exact HO1.out.later ((Below.refl _ _).alloc (Nat.le_refl _) _) (Nat.le_trans hB hsz7)) rfl (ys := [x]) (by first
                   | exact Blk.src (n11 rfl) ⟨rfl, hx⟩
                   | exact Blk.src ((n11 rfl).drew.grown HG7.out ne_own0) ⟨rfl, hx⟩) rfl hB (by simp only [List.length_cons, List.length_nil, List.length_map, List.length_take]; omega) (by omega) (by first | exact hsz7 | (simp; omega)) ?_
                intro v2 w8 hown2 hb8 hg8
                have HO2 := Lib.hid hown2
                have hsz8 : w.heap.size ≤ w8.heap.size := Nat.le_trans (by first | exact hsz7 | (simp; omega)) hb8.size
                have HB18 : Hid (Below w.heap.size w w8) := by first | exact Lib.hid (HB17.out.trans hb8) | exact Lib.hid ((HB17.out.alloc hsz7 _).trans hb8)
                clear hown2 hb8 hg8)
             | (refine step_append_R (R := StrR) (e := 9) rfl (.tmp 39) (.tmp 42) 25 rfl (bytes := 16) Tryz.underlying25 hi0 hz0 hz1 hz2 rfl (show 0 < 1 by omega) single_str rfl (xs := (L.take k).map mkS ++ [x]) (base := w.heap.size) (B := B) HO2.out rfl (ys := (L.drop k).map mkS) (by first | exact (HLD.out.keep HB18.out hB).src | (rw [if_neg (show ¬ c = k by omega)]; exact (HLD.out.keep HB18.out hB).src)) (by rw [List.length_map, List.length_drop]) hB (by simp only [List.length_append, List.length_cons, List.length_nil, List.length_map, List.length_take, List.length_drop]; omega) (by omega) hsz8 ?_
                intro v3 w9 hown3 hb9 hg9
                rw [HLIST.out] at hown3
                obtain ⟨A3, c3, rfl⟩ := hown3.form
                have HO3 := Lib.hid hown3
                have HB19 := Lib.hid (HB18.out.trans hb9)
                clear hown3 hb9 hg9))
         all_goals
           go_wp2_with fail
           go_ret
           refine ⟨⟨_, rfl, ?_⟩, HB19.out⟩
           obtain ⟨A4, c4, e4, h1, h2, h3⟩ := HO3.out.reads (Nat.le_trans hB HB19.out.size) (by simp only [List.length_map, StrR]; have := withL_len L (bs x); split at this <;> omega)
           rw [List.length_map] at e4 h1
           simp only [Value.slice.injEq, List.length_map] at e4
           obtain ⟨rfl, _, rfl⟩ := e4
           exact ⟨_, _, by first | rfl | simp, h1, h2.2, h3⟩
   · have HK := Lib.hid (withK_eq hk HA.out (.inl (by omega)))
     have HW := Lib.hid (show withL L (bs x) = L.take k ++ [bs x] ++ L.drop k by unfold withL; rw [HK.out, List.getElem?_eq_none (by omega), if_neg (by simp)])
     obtain ⟨i0, hi0, hz0, hz1, hz2⟩ := info_parts infoStr
     obtain rfl : k = L.length := by omega
     have HLT := Lib.hid (show RL StrR w B ((L.take L.length).map mkS) A by rw [List.take_length]; exact HL.out)
     have HLIST := Lib.hid (show (L.take L.length).map mkS ++ [x] ++ (L.drop L.length).map mkS = (withL L (bs x)).map mkS by rw [HW.out]; simp [mkS_bs])
     by_cases hck : c = L.length
     all_goals
       rcases A with _ | ⟨b, off, sp⟩
       all_goals
         go_wp2_with fail
         go_region_held3 (fun _ => True) (trivial)
           (first
             | (refine step_append_R (R := StrR) (e := 9) rfl (.const (.slice none 0 0)) (.tmp 35) 25 rfl (bytes := 16) Tryz.underlying25 hi0 hz0 hz1 hz2 rfl (show 0 < 1 by omega) single_str rfl (xs := []) (base := w.heap.size) (B := B) (OwnR.nil _ _ _ _ _) rfl (ys := (L.take L.length).map mkS) (by first | exact (HLT.out.keep (Below.refl w.heap.size w).drew hB).src | exact (HLT.out.keep (al1 rfl).1.drew hB).src) (by rw [List.length_map, List.length_take]; omega) hB (by simp only [List.length_nil, List.length_map, List.length_take]; omega) (by omega) (by simp) ?_
                intro v1 w7 hown1 hb7 hg7
                have HO1 := Lib.hid hown1
                have HG7 := Lib.hid hg7
                have hsz7 : w.heap.size ≤ w7.heap.size := Nat.le_trans (by simp) hb7.size
                have HB17 : Hid (Below w.heap.size w w7) := by first | exact Lib.hid ((Below.refl w.heap.size w).drew.trans hb7) | exact Lib.hid ((al1 rfl).1.drew.trans hb7)
                clear hown1 hb7 hg7)
             | (refine step_append_R (R := StrR) (e := 9) rfl (.tmp 36) (.tmp 38) 25 rfl (bytes := 16) Tryz.underlying25 hi0 hz0 hz1 hz2 rfl (show 0 < 1 by omega) single_str rfl (xs := (L.take L.length).map mkS) (base := w.heap.size) (B := B) (by first | exact HO1.out | exact HO1.out.later ((Below.refl _ _).alloc (Nat.le_refl _) _) (Nat.le_trans hB hsz7)) rfl (ys := [x]) (by first
                   | exact Blk.src (n11 rfl) ⟨rfl, hx⟩
                   | exact Blk.src ((n11 rfl).drew.grown HG7.out ne_own0) ⟨rfl, hx⟩) rfl hB (by simp only [List.length_cons, List.length_nil, List.length_map, List.length_take]; omega) (by omega) (by first | exact hsz7 | (simp; omega)) ?_
                intro v2 w8 hown2 hb8 hg8
                have HO2 := Lib.hid hown2
                have hsz8 : w.heap.size ≤ w8.heap.size := Nat.le_trans (by first | exact hsz7 | (simp; omega)) hb8.size
                have HB18 : Hid (Below w.heap.size w w8) := by first | exact Lib.hid (HB17.out.trans hb8) | exact Lib.hid ((HB17.out.alloc hsz7 _).trans hb8)
                clear hown2 hb8 hg8)
             | (refine step_append_R (R := StrR) (e := 9) rfl (.tmp 39) (.tmp 42) 25 rfl (bytes := 16) Tryz.underlying25 hi0 hz0 hz1 hz2 rfl (show 0 < 1 by omega) single_str rfl (xs := (L.take L.length).map mkS ++ [x]) (base := w.heap.size) (B := B) HO2.out rfl (ys := (L.drop L.length).map mkS) (SrcR.nothing (by simp)) (by simp) hB (by simp only [List.length_append, List.length_cons, List.length_nil, List.length_map, List.length_take, List.length_drop]; omega) (by omega) hsz8 ?_
                intro v3 w9 hown3 hb9 hg9
                rw [HLIST.out] at hown3
                obtain ⟨A3, c3, rfl⟩ := hown3.form
                have HO3 := Lib.hid hown3
                have HB19 := Lib.hid (HB18.out.trans hb9)
                clear hown3 hb9 hg9))
         all_goals
           go_wp2_with fail
           go_ret
           refine ⟨⟨_, rfl, ?_⟩, HB19.out⟩
           obtain ⟨A4, c4, e4, h1, h2, h3⟩ := HO3.out.reads (Nat.le_trans hB HB19.out.size) (by simp only [List.length_map, StrR]; have := withL_len L (bs x); split at this <;> omega)
           rw [List.length_map] at e4 h1
           simp only [Value.slice.injEq, List.length_map] at e4
           obtain ⟨rfl, _, rfl⟩ := e4
           exact ⟨_, _, by first | rfl | simp, h1, h2.2, h3⟩
open Go.ChangeShapes Go.WideShapes Go.ChangeAt Go.RowKit
theorem ReadsS.later {w w' : World} {L : List Bytes} {v : Value} (h : ReadsS w L v) (hb : Below w.heap.size w w') : ReadsS w' L v := by
 obtain ⟨A, c, e, h1, h2, h3⟩ := h
 exact ⟨A, c, e, h1, h2, (h3.keep hb (Nat.le_refl _)).wide hb.size⟩
theorem ReadsS.nil (w : World) : ReadsS w [] (.slice none 0 0) := ⟨none, 0, rfl, by simp, by omega, fun h => by simp at h⟩
theorem withV_any {L : List Bytes} {x : ByteArray} {v : Value} {w : World} (hl : ReadsS w L v) (hn : L.length ≤ 1000000) (hx : x.size ≤ 140737488351232) :
   Calls Tryz.prog 57 #[v, .string x] w fun e w' => (∃ v, e = .returned v ∧ ReadsS w' (withL L (bs x)) v) ∧ Below w.heap.size w w' := by
 obtain ⟨A, c, rfl, h1, h2, h3⟩ := hl
 exact with_any L x A c w.heap.size w h3 (Nat.le_refl _) hn h1 h2 hx
end Go.Proofs.YtiplipdigabidaaGreat
