/- expr: whole, May. -/
import Derived.Test.YtkdonhhbpacgmaaGreatExpr1
set_option linter.unusedVariables false
set_option linter.unusedSimpArgs false
namespace Go.Proofs.YtkdonhhbpacgmaaGreat
open Go.ChangeShapes Go.WideShapes Go.ChangeAt Go.RowKit
def wholeF : Nat → Int → List OpD → Bool
 | 0, _, _ => false
 | _ + 1, t, [] => decide (t = 1)
 | n + 1, t, o :: r =>
   aloneB o && decide (needsB o ≤ t) &&
     (if lazyB o then decide (o.skip ≤ r.length) && wholeF n 0 (r.take o.skip.toNat) && wholeF n (t + (1 - needsB o)) (r.drop o.skip.toNat)
      else wholeF n (t + (1 - needsB o)) r)
theorem wholeF_eq : ∀ (n m : Nat) (t : Int) (l : List OpD), l.length < n → l.length < m → wholeF n t l = wholeF m t l
 | 0, _, _, _, h, _ => absurd h (by omega)
 | _, 0, _, _, _, h => absurd h (by omega)
 | n + 1, m + 1, t, [], _, _ => rfl
 | n + 1, m + 1, t, o :: r, h, k => by
   simp only [List.length_cons] at h k
   have e1 := wholeF_eq n m 0 (r.take o.skip.toNat) (by rw [List.length_take]; omega) (by rw [List.length_take]; omega)
   have e2 := wholeF_eq n m (t + (1 - needsB o)) (r.drop o.skip.toNat) (by rw [List.length_drop]; omega) (by rw [List.length_drop]; omega)
   have e3 := wholeF_eq n m (t + (1 - needsB o)) r (by omega) (by omega)
   simp only [wholeF, e1, e2, e3]
def wholeG (t : Int) (l : List OpD) : Bool := wholeF (l.length + 1) t l
theorem wholeG_nil (t : Int) : wholeG t [] = decide (t = 1) := rfl
theorem wholeG_cons (t : Int) (o : OpD) (r : List OpD) : wholeG t (o :: r) = (aloneB o && decide (needsB o ≤ t) &&
     (if lazyB o then decide (o.skip ≤ r.length) && wholeG 0 (r.take o.skip.toNat) && wholeG (t + (1 - needsB o)) (r.drop o.skip.toNat)
      else wholeG (t + (1 - needsB o)) r)) := by
 unfold wholeG
 rw [List.length_cons, wholeF]
 rw [wholeF_eq (r.length + 1) ((r.take o.skip.toNat).length + 1) 0 (r.take o.skip.toNat) (by rw [List.length_take]; omega) (by omega)]
 rw [wholeF_eq (r.length + 1) ((r.drop o.skip.toNat).length + 1) _ (r.drop o.skip.toNat) (by rw [List.length_drop]; omega) (by omega)]
theorem needs_cases (o : OpD) : needsB o = 0 ∨ needsB o = 1 ∨ needsB o = 2 := by
 unfold needsB; split
 · simp
 · split <;> simp
theorem RL.cut {α : Type} {R : Reader α} {w : World} {B : Nat} {xs : List α} {b off : Nat} (h : RL R w B xs (some ⟨b, off, none⟩)) (i n : Nat) (hin : i + n ≤ xs.length) : RL R w B ((xs.drop i).take n) (some ⟨b, off + i * R.k, none⟩) := by
 intro h0
 have hlen : ((xs.drop i).take n).length = n := by simp; omega
 rw [hlen] at h0 ⊢
 obtain ⟨b', off', e, hb, hc⟩ := h (by omega)
 simp only [Option.some.injEq, Addr.mk.injEq, and_true] at e
 obtain ⟨rfl, rfl⟩ := e
 refine ⟨b, off + i * R.k, rfl, hb, fun j hj => ?_⟩
 obtain ⟨vs, hl, ⟨x, hx, hr⟩, hv⟩ := hc (i + j) (by omega)
 refine ⟨vs, hl, ⟨x, ?_, hr⟩, fun m v hm => ?_⟩
 · rw [List.getElem?_take, if_pos hj, List.getElem?_drop]; exact hx
 · have := hv m v hm
   rw [Nat.add_mul] at this
   rw [show off + i * R.k + j * R.k + m = off + (i * R.k + j * R.k) + m by omega]
   exact this
set_option maxRecDepth 100000 in
set_option maxHeartbeats 2000000 in
theorem whole_all (d N : Nat) : ∀ (l : List OpD) (A : Option Addr) (c B : Nat) (w : World), l.length ≤ N → RL (OpR d) w B l A → B ≤ w.heap.size → l.length ≤ c → (l.length * 56 ≤ 140737488351232 ∧ c ≤ 9223372036854775807) →
   Calls Tryz.prog 139 #[.slice A l.length c] w fun e w' => e = .returned (.bool (wholeG 0 l)) ∧ Below w.heap.size w w' := by
 induction N with
 | zero =>
   intro l A c B w hN hl hB hc hn
   obtain rfl : l = [] := List.eq_nil_of_length_eq_zero (by omega)
   show Calls _ _ #[.slice A 0 c] _ _
   go_enter Tryz.func139, Tryz.ntmps139
   go_wp2_with fail
   go_loopw [3, 4] (fun t i wr => i = .int .i64 0 ∧ t = .int .i64 0 ∧ wr = w) (fun _ _ _ => 0)
   case atStart => exact ⟨rfl, rfl, rfl⟩
   case round =>
     obtain ⟨rfl, rfl, rfl⟩ := hrel
     go_wp2_with fail
     go_ret
     exact ⟨rfl, Below.refl _ _⟩
 | succ N ih =>
   intro l A c B w hN hl hB hc hn
   have HI := Lib.hid ih
   clear ih
   go_enter Tryz.func139, Tryz.ntmps139
   go_wp2_with fail
   go_loopw [3, 4] (fun t i wr => ∃ (k : Nat) (n : Int), k ≤ l.length ∧ i = .int .i64 k ∧ t = .int .i64 n ∧ 0 ≤ n ∧ n ≤ k ∧ Below w.heap.size w wr ∧ wholeG 0 l = wholeG n (l.drop k)) (fun _ i _ => l.length - (intOf i).toNat)
   case atStart => exact ⟨0, 0, Nat.zero_le _, rfl, rfl, by omega, by omega, Below.refl _ _, rfl⟩
   case round =>
     obtain ⟨k, n, hk, rfl, rfl, hn0, hnk, hbw, heq⟩ := hrel
     have HE := Lib.hid heq
     clear heq
     by_cases hlt : k < l.length
     · obtain ⟨b, off, rfl, hb⟩ := hl.base hbw hB (by omega)
       obtain ⟨o, vs, hx, hlen, hcell, hr⟩ := hl.at_ hbw hB hlt
       have hr0 := hr
       obtain ⟨Ao, co, rfl, hk1, hk2, hk3, _⟩ := OpR.cells hr
       have c0 : wr.cell? ⟨b, off + k * 7, none⟩ = some (.int .i64 o.kind) := hcell 0 _ rfl
       have c1 : wr.cell? ⟨b, off + k * 7 + 1, none⟩ = some (.int .i64 o.term.kind) := hcell 1 _ rfl
       have c2 : wr.cell? ⟨b, off + k * 7 + 2, none⟩ = some (.int .i64 o.term.n) := hcell 2 _ rfl
       have c3 : wr.cell? ⟨b, off + k * 7 + 3, none⟩ = some (.string o.term.s) := hcell 3 _ rfl
       have c4 : wr.cell? ⟨b, off + k * 7 + 4, none⟩ = some (.slice Ao o.term.l.length co) := hcell 4 _ rfl
       have c5 : wr.cell? ⟨b, off + k * 7 + 5, none⟩ = some (.int .i64 o.code) := hcell 5 _ rfl
       have c6 : wr.cell? ⟨b, off + k * 7 + 6, none⟩ = some (.int .i64 o.skip) := hcell 6 _ rfl
       have hdrop : l.drop k = o :: l.drop (k + 1) := by
         obtain ⟨h1, h2⟩ := List.getElem?_eq_some_iff.1 hx
         rw [← h2]; exact List.drop_eq_getElem_cons h1
       have HE2 : Hid (wholeG 0 l = (aloneB o && decide (needsB o ≤ n) &&
           (if lazyB o then decide (o.skip ≤ (l.drop (k + 1)).length) && wholeG 0 ((l.drop (k + 1)).take o.skip.toNat) && wholeG (n + (1 - needsB o)) ((l.drop (k + 1)).drop o.skip.toNat)
            else wholeG (n + (1 - needsB o)) (l.drop (k + 1))))) := by
         rw [← wholeG_cons, ← hdrop]; exact HE.out
       have HR := Lib.hid hr0
       have HBo := Lib.hid (fun o : Obj => hbw.alloc hbw.size o)
       have HBr := Lib.hid (fun o : Obj => (Below.refl wr.heap.size wr).alloc (Nat.le_refl _) o)
       have hszr := hbw.size
       have hneeds := needs_cases o
       clear hcell hlen hx hr hr0 hdrop HE
       go_wp2_with fail
       refine (alone_any (d := d) (B := B) (o := o) (vs := [_, _, _, _, _, _, _]) ((OpR d).keep (HBr.out _) (by omega) HR.out) (by simp; omega)).mono ?_
       rintro e w1 ⟨rfl, hb1⟩
       have hc1 := bcell hb1
       have hz1 : wr.heap.size < w1.heap.size := (by have := hb1.size; simp at this; omega)
       have HB1 := Lib.hid ((HBr.out _).trans (hb1.mono (HBr.out _).size))
       clear hb1
       by_cases ha : aloneB o = true
       · go_wp2_with fail
         refine (needs_any (d := d) (B := B) (o := o) (vs := [_, _, _, _, _, _, _]) ((OpR d).keep HB1.out (by omega) HR.out)).mono ?_
         rintro e w2 ⟨rfl, hb2⟩
         have hc2 := bcell hb2
         have hz2 : wr.heap.size < w2.heap.size := (by have := hb2.size; omega)
         have HB2 := Lib.hid (HB1.out.trans (hb2.mono HB1.out.size))
         clear hb2
         by_cases hnd : n < needsB o
         · go_wp2_with fail
           go_ret
           exact ⟨ret_bool (by rw [HE2.out, show decide (needsB o ≤ n) = false by simpa using hnd]; simp), hbw.trans (HB2.out.mono hszr)⟩
         · have hnd' : decide (n < needsB o) = false := by simpa using hnd
           have hle : needsB o ≤ n := by omega
           go_wp2_with fail
           refine (needs_any (d := d) (B := B) (o := o) (vs := [_, _, _, _, _, _, _]) ((OpR d).keep HB2.out (by omega) HR.out)).mono ?_
           rintro e w3 ⟨rfl, hb3⟩
           have hc3 := bcell hb3
           have hz3 : wr.heap.size < w3.heap.size := (by have := hb3.size; omega)
           have HB3 := Lib.hid (HB2.out.trans (hb3.mono HB2.out.size))
           clear hb3
           go_wp2_with fail
           refine (lazy_any (d := d) (B := B) (o := o) (vs := [_, _, _, _, _, _, _]) ((OpR d).keep HB3.out (by omega) HR.out)).mono ?_
           rintro e w4 ⟨rfl, hb4⟩
           have hc4 := bcell hb4
           have hz4 : wr.heap.size < w4.heap.size := (by have := hb4.size; omega)
           have HB4 := Lib.hid (HB3.out.trans (hb4.mono HB3.out.size))
           clear hb4
           by_cases hlz : lazyB o = true
           · have HE3 : Hid (wholeG 0 l = (decide (o.skip ≤ (l.drop (k + 1)).length) && wholeG 0 ((l.drop (k + 1)).take o.skip.toNat) && wholeG (n + (1 - needsB o)) ((l.drop (k + 1)).drop o.skip.toNat))) := by
               have := HE2.out
               rw [ha, hlz, if_pos rfl, show decide (needsB o ≤ n) = true by simpa using hle, Bool.true_and, Bool.true_and] at this
               exact this
             have hsk1 : 1 ≤ o.skip := by
               have h1 := ha
               unfold aloneB lazyB at h1
               have h2 := hlz
               unfold lazyB at h2
               simp only [Bool.or_eq_true, decide_eq_true_eq] at h2
               rw [if_neg (by omega), if_neg (by omega), if_neg (by omega)] at h1
               simp only [Bool.and_eq_true, decide_eq_true_eq] at h1
               omega
             clear HE2
             by_cases hsk : o.skip ≤ (l.length : Int) - k - 1
             · have hsk' : decide ((l.length : Int) - k - 1 < o.skip) = false := by simpa using hsk
               have hL : ((l.drop (k + 1)).take o.skip.toNat).length = o.skip.toNat := by rw [List.length_take, List.length_drop]; omega
               have HL := Lib.hid hL
               have hcut := hl.cut (k + 1) o.skip.toNat (by omega)
               have HC := Lib.hid hcut
               clear hL hcut
               go_wp2_with fail
               rw [show ((k : Int) + 1 + o.skip).toNat - (k + 1) = ((l.drop (k + 1)).take o.skip.toNat).length from by rw [HL.out]; omega]
               refine (HI.out ((l.drop (k + 1)).take o.skip.toNat) _ (c - (k + 1)) B w4 (by rw [HL.out]; omega) (HC.out.keep (hbw.trans (HB4.out.mono hszr)) hB) (by omega) (by rw [HL.out]; omega) (by rw [HL.out]; omega)).mono ?_
               rintro e w5 ⟨rfl, hb5⟩
               have hc5 := bcell hb5
               have hz5 : wr.heap.size < w5.heap.size := (by have := hb5.size; omega)
               have HB5 := Lib.hid (HB4.out.trans (hb5.mono HB4.out.size))
               clear hb5
               by_cases hw : wholeG 0 ((l.drop (k + 1)).take o.skip.toNat) = true
               · go_wp2_with fail
                 go_roundw
                 case rel => exact ⟨k + 1 + o.skip.toNat, n + (1 - needsB o), by omega, by go_num, rfl, by omega, by omega, hbw.trans (HB5.out.mono hszr), by
                   rw [HE3.out, hw, List.drop_drop, show decide (o.skip ≤ ((l.drop (k + 1)).length : Int)) = true by rw [List.length_drop]; simp; omega]
                   rfl⟩
                 case measure => simp [intOf]; omega
               · have hw' : wholeG 0 ((l.drop (k + 1)).take o.skip.toNat) = false := by simpa using hw
                 go_wp2_with fail
                 go_ret
                 exact ⟨ret_bool (by rw [HE3.out, hw']; simp), hbw.trans (HB5.out.mono hszr)⟩
             · have hsk' : decide ((l.length : Int) - k - 1 < o.skip) = true := by simp; omega
               go_wp2_with fail
               go_ret
               exact ⟨ret_bool (by rw [HE3.out, show decide (o.skip ≤ ((l.drop (k + 1)).length : Int)) = false by rw [List.length_drop]; simp; omega]; rfl), hbw.trans (HB4.out.mono hszr)⟩
           · have hlz' : lazyB o = false := by simpa using hlz
             go_wp2_with fail
             go_roundw
             case rel => exact ⟨k + 1, n + (1 - needsB o), by omega, by go_num, rfl, by omega, by omega, hbw.trans (HB4.out.mono hszr), by
               rw [HE2.out, ha, hlz', show decide (needsB o ≤ n) = true by simpa using hle]
               simp⟩
             case measure => simp [intOf]; omega
       · have ha' : aloneB o = false := by simpa using ha
         go_wp2_with fail
         go_ret
         exact ⟨ret_bool (by rw [HE2.out, ha']; rfl), hbw.trans (HB1.out.mono hszr)⟩
     · go_wp2_with fail
       go_ret
       have hz : l.drop k = [] := List.drop_eq_nil_iff.2 (by omega)
       exact ⟨ret_bool (by rw [HE.out, hz, wholeG_nil, Bool.eq_iff_iff]; simp), hbw⟩
end Go.Proofs.YtkdonhhbpacgmaaGreat
