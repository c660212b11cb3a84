/- What expr.Eval reckons, as a plain function; an expression that may be keeps its stack right. -/
import Derived.Test.YtiplipdigabidaaGreatExpr1
import Derived.Test.YtiplipdigabidaaGreatUniq
import Derived.Test.YtiplipdigabidaaGreatEv4
import Derived.Test.YtiplipdigabidaaGreatOp5
set_option linter.unusedVariables false
set_option linter.unusedSimpArgs false
namespace Go.Proofs.YtiplipdigabidaaGreat
open Go.ChangeShapes Go.WideShapes Go.ChangeAt Go.RowKit
def wholeF : Nat → Int → List OpD → Bool
 | 0, _, _ => false
 | _ + 1, t, [] => decide (t = 1)
 | n + 1, t, o :: r =>
   aloneB o && decide (needsB o ≤ t) &&
     (if lazyB o then decide (o.skip ≤ r.length) && wholeF n 0 (r.take o.skip.toNat) && wholeF n (t + (1 - needsB o)) (r.drop o.skip.toNat)
      else wholeF n (t + (1 - needsB o)) r)
theorem wholeF_eq : ∀ (n m : Nat) (t : Int) (l : List OpD), l.length < n → l.length < m → wholeF n t l = wholeF m t l
 | 0, _, _, _, h, _ => absurd h (by omega)
 | _, 0, _, _, _, h => absurd h (by omega)
 | n + 1, m + 1, t, [], _, _ => rfl
 | n + 1, m + 1, t, o :: r, h, k => by
   simp only [List.length_cons] at h k
   have e1 := wholeF_eq n m 0 (r.take o.skip.toNat) (by rw [List.length_take]; omega) (by rw [List.length_take]; omega)
   have e2 := wholeF_eq n m (t + (1 - needsB o)) (r.drop o.skip.toNat) (by rw [List.length_drop]; omega) (by rw [List.length_drop]; omega)
   have e3 := wholeF_eq n m (t + (1 - needsB o)) r (by omega) (by omega)
   simp only [wholeF, e1, e2, e3]
def wholeG (t : Int) (l : List OpD) : Bool := wholeF (l.length + 1) t l
theorem wholeG_nil (t : Int) : wholeG t [] = decide (t = 1) := rfl
theorem wholeG_cons (t : Int) (o : OpD) (r : List OpD) : wholeG t (o :: r) = (aloneB o && decide (needsB o ≤ t) &&
     (if lazyB o then decide (o.skip ≤ r.length) && wholeG 0 (r.take o.skip.toNat) && wholeG (t + (1 - needsB o)) (r.drop o.skip.toNat)
      else wholeG (t + (1 - needsB o)) r)) := by
 unfold wholeG
 rw [List.length_cons, wholeF]
 rw [wholeF_eq (r.length + 1) ((r.take o.skip.toNat).length + 1) 0 (r.take o.skip.toNat) (by rw [List.length_take]; omega) (by omega)]
 rw [wholeF_eq (r.length + 1) ((r.drop o.skip.toNat).length + 1) _ (r.drop o.skip.toNat) (by rw [List.length_drop]; omega) (by omega)]
theorem needs_cases (o : OpD) : needsB o = 0 ∨ needsB o = 1 ∨ needsB o = 2 := by
 unfold needsB; split
 · simp
 · split <;> simp
theorem RL.cut {α : Type} {R : Reader α} {w : World} {B : Nat} {xs : List α} {b off : Nat} (h : RL R w B xs (some ⟨b, off, none⟩)) (i n : Nat) (hin : i + n ≤ xs.length) : RL R w B ((xs.drop i).take n) (some ⟨b, off + i * R.k, none⟩) := by
 intro h0
 have hlen : ((xs.drop i).take n).length = n := by simp; omega
 rw [hlen] at h0 ⊢
 obtain ⟨b', off', e, hb, hc⟩ := h (by omega)
 simp only [Option.some.injEq, Addr.mk.injEq, and_true] at e
 obtain ⟨rfl, rfl⟩ := e
 refine ⟨b, off + i * R.k, rfl, hb, fun j hj => ?_⟩
 obtain ⟨vs, hl, ⟨x, hx, hr⟩, hv⟩ := hc (i + j) (by omega)
 refine ⟨vs, hl, ⟨x, ?_, hr⟩, fun m v hm => ?_⟩
 · rw [List.getElem?_take, if_pos hj, List.getElem?_drop]; exact hx
 · have := hv m v hm
   rw [Nat.add_mul] at this
   rw [show off + i * R.k + j * R.k + m = off + (i * R.k + j * R.k) + m by omega]
   exact this
set_option maxRecDepth 100000 in
set_option maxHeartbeats 2000000 in
theorem whole_all (d N : Nat) : ∀ (l : List OpD) (A : Option Addr) (c B : Nat) (w : World), l.length ≤ N → RL (OpR d) w B l A → B ≤ w.heap.size → l.length ≤ c → (l.length * 56 ≤ 140737488351232 ∧ c ≤ 9223372036854775807) →
   Calls Tryz.prog 30 #[.slice A l.length c] w fun e w' => e = .returned (.bool (wholeG 0 l)) ∧ Below w.heap.size w w' := by
 induction N with
 | zero =>
   intro l A c B w hN hl hB hc hn
   obtain rfl : l = [] := List.eq_nil_of_length_eq_zero (by omega)
   show Calls _ _ #[.slice A 0 c] _ _
   go_enter Tryz.func30, Tryz.ntmps30
   go_wp2_with fail
   go_loopw [3, 4] (fun t i wr => i = .int .i64 0 ∧ t = .int .i64 0 ∧ wr = w) (fun _ _ _ => 0)
   case atStart => exact ⟨rfl, rfl, rfl⟩
   case round =>
     obtain ⟨rfl, rfl, rfl⟩ := hrel
     go_wp2_with fail
     go_ret
     exact ⟨rfl, Below.refl _ _⟩
 | succ N ih =>
   intro l A c B w hN hl hB hc hn
   have HI := Lib.hid ih
   clear ih
   go_enter Tryz.func30, Tryz.ntmps30
   go_wp2_with fail
   go_loopw [3, 4] (fun t i wr => ∃ (k : Nat) (n : Int), k ≤ l.length ∧ i = .int .i64 k ∧ t = .int .i64 n ∧ 0 ≤ n ∧ n ≤ k ∧ Below w.heap.size w wr ∧ wholeG 0 l = wholeG n (l.drop k)) (fun _ i _ => l.length - (intOf i).toNat)
   case atStart => exact ⟨0, 0, Nat.zero_le _, rfl, rfl, by omega, by omega, Below.refl _ _, rfl⟩
   case round =>
     obtain ⟨k, n, hk, rfl, rfl, hn0, hnk, hbw, heq⟩ := hrel
     have HE := Lib.hid heq
     clear heq
     by_cases hlt : k < l.length
     · obtain ⟨b, off, rfl, hb⟩ := hl.base hbw hB (by omega)
       obtain ⟨o, vs, hx, hlen, hcell, hr⟩ := hl.at_ hbw hB hlt
       have hr0 := hr
       obtain ⟨Ao, co, rfl, hk1, hk2, hk3, _⟩ := OpR.cells hr
       have c0 : wr.cell? ⟨b, off + k * 7, none⟩ = some (.int .i64 o.kind) := hcell 0 _ rfl
       have c1 : wr.cell? ⟨b, off + k * 7 + 1, none⟩ = some (.int .i64 o.term.kind) := hcell 1 _ rfl
       have c2 : wr.cell? ⟨b, off + k * 7 + 2, none⟩ = some (.int .i64 o.term.n) := hcell 2 _ rfl
       have c3 : wr.cell? ⟨b, off + k * 7 + 3, none⟩ = some (.string o.term.s) := hcell 3 _ rfl
       have c4 : wr.cell? ⟨b, off + k * 7 + 4, none⟩ = some (.slice Ao o.term.l.length co) := hcell 4 _ rfl
       have c5 : wr.cell? ⟨b, off + k * 7 + 5, none⟩ = some (.int .i64 o.code) := hcell 5 _ rfl
       have c6 : wr.cell? ⟨b, off + k * 7 + 6, none⟩ = some (.int .i64 o.skip) := hcell 6 _ rfl
       have hdrop : l.drop k = o :: l.drop (k + 1) := by
         obtain ⟨h1, h2⟩ := List.getElem?_eq_some_iff.1 hx
         rw [← h2]; exact List.drop_eq_getElem_cons h1
       have HE2 : Hid (wholeG 0 l = (aloneB o && decide (needsB o ≤ n) &&
           (if lazyB o then decide (o.skip ≤ (l.drop (k + 1)).length) && wholeG 0 ((l.drop (k + 1)).take o.skip.toNat) && wholeG (n + (1 - needsB o)) ((l.drop (k + 1)).drop o.skip.toNat)
            else wholeG (n + (1 - needsB o)) (l.drop (k + 1))))) := by
         rw [← wholeG_cons, ← hdrop]; exact HE.out
       have HR := Lib.hid hr0
       have HBo := Lib.hid (fun o : Obj => hbw.alloc hbw.size o)
       have HBr := Lib.hid (fun o : Obj => (Below.refl wr.heap.size wr).alloc (Nat.le_refl _) o)
       have hszr := hbw.size
       have hneeds := needs_cases o
       clear hcell hlen hx hr hr0 hdrop HE
       go_wp2_with fail
       refine (alone_any (d := d) (B := B) (o := o) (vs := [_, _, _, _, _, _, _]) ((OpR d).keep (HBr.out _) (by omega) HR.out) (by simp; omega)).mono ?_
       rintro e w1 ⟨rfl, hb1⟩
       have hc1 := bcell hb1
       have hz1 : wr.heap.size < w1.heap.size := (by have := hb1.size; simp at this; omega)
       have HB1 := Lib.hid ((HBr.out _).trans (hb1.mono (HBr.out _).size))
       clear hb1
       by_cases ha : aloneB o = true
       · go_wp2_with fail
         refine (needs_any (d := d) (B := B) (o := o) (vs := [_, _, _, _, _, _, _]) ((OpR d).keep HB1.out (by omega) HR.out)).mono ?_
         rintro e w2 ⟨rfl, hb2⟩
         have hc2 := bcell hb2
         have hz2 : wr.heap.size < w2.heap.size := (by have := hb2.size; omega)
         have HB2 := Lib.hid (HB1.out.trans (hb2.mono HB1.out.size))
         clear hb2
         by_cases hnd : n < needsB o
         · go_wp2_with fail
           go_ret
           exact ⟨ret_bool (by rw [HE2.out, show decide (needsB o ≤ n) = false by simpa using hnd]; simp), hbw.trans (HB2.out.mono hszr)⟩
         · have hnd' : decide (n < needsB o) = false := by simpa using hnd
           have hle : needsB o ≤ n := by omega
           go_wp2_with fail
           refine (needs_any (d := d) (B := B) (o := o) (vs := [_, _, _, _, _, _, _]) ((OpR d).keep HB2.out (by omega) HR.out)).mono ?_
           rintro e w3 ⟨rfl, hb3⟩
           have hc3 := bcell hb3
           have hz3 : wr.heap.size < w3.heap.size := (by have := hb3.size; omega)
           have HB3 := Lib.hid (HB2.out.trans (hb3.mono HB2.out.size))
           clear hb3
           go_wp2_with fail
           refine (lazy_any (d := d) (B := B) (o := o) (vs := [_, _, _, _, _, _, _]) ((OpR d).keep HB3.out (by omega) HR.out)).mono ?_
           rintro e w4 ⟨rfl, hb4⟩
           have hc4 := bcell hb4
           have hz4 : wr.heap.size < w4.heap.size := (by have := hb4.size; omega)
           have HB4 := Lib.hid (HB3.out.trans (hb4.mono HB3.out.size))
           clear hb4
           by_cases hlz : lazyB o = true
           · have HE3 : Hid (wholeG 0 l = (decide (o.skip ≤ (l.drop (k + 1)).length) && wholeG 0 ((l.drop (k + 1)).take o.skip.toNat) && wholeG (n + (1 - needsB o)) ((l.drop (k + 1)).drop o.skip.toNat))) := by
               have := HE2.out
               rw [ha, hlz, if_pos rfl, show decide (needsB o ≤ n) = true by simpa using hle, Bool.true_and, Bool.true_and] at this
               exact this
             have hsk1 : 1 ≤ o.skip := by
               have h1 := ha
               unfold aloneB lazyB at h1
               have h2 := hlz
               unfold lazyB at h2
               simp only [Bool.or_eq_true, decide_eq_true_eq] at h2
               rw [if_neg (by omega), if_neg (by omega), if_neg (by omega)] at h1
               simp only [Bool.and_eq_true, decide_eq_true_eq] at h1
               omega
             clear HE2
             by_cases hsk : o.skip ≤ (l.length : Int) - k - 1
             · have hsk' : decide ((l.length : Int) - k - 1 < o.skip) = false := by simpa using hsk
               have hL : ((l.drop (k + 1)).take o.skip.toNat).length = o.skip.toNat := by rw [List.length_take, List.length_drop]; omega
               have HL := Lib.hid hL
               have hcut := hl.cut (k + 1) o.skip.toNat (by omega)
               have HC := Lib.hid hcut
               clear hL hcut
               go_wp2_with fail
               rw [show ((k : Int) + 1 + o.skip).toNat - (k + 1) = ((l.drop (k + 1)).take o.skip.toNat).length from by rw [HL.out]; omega]
               refine (HI.out ((l.drop (k + 1)).take o.skip.toNat) _ (c - (k + 1)) B w4 (by rw [HL.out]; omega) (HC.out.keep (hbw.trans (HB4.out.mono hszr)) hB) (by omega) (by rw [HL.out]; omega) (by rw [HL.out]; omega)).mono ?_
               rintro e w5 ⟨rfl, hb5⟩
               have hc5 := bcell hb5
               have hz5 : wr.heap.size < w5.heap.size := (by have := hb5.size; omega)
               have HB5 := Lib.hid (HB4.out.trans (hb5.mono HB4.out.size))
               clear hb5
               by_cases hw : wholeG 0 ((l.drop (k + 1)).take o.skip.toNat) = true
               · go_wp2_with fail
                 go_roundw
                 case rel => exact ⟨k + 1 + o.skip.toNat, n + (1 - needsB o), by omega, by go_num, rfl, by omega, by omega, hbw.trans (HB5.out.mono hszr), by
                   rw [HE3.out, hw, List.drop_drop, show decide (o.skip ≤ ((l.drop (k + 1)).length : Int)) = true by rw [List.length_drop]; simp; omega]
                   rfl⟩
                 case measure => simp [intOf]; omega
               · have hw' : wholeG 0 ((l.drop (k + 1)).take o.skip.toNat) = false := by simpa using hw
                 go_wp2_with fail
                 go_ret
                 exact ⟨ret_bool (by rw [HE3.out, hw']; simp), hbw.trans (HB5.out.mono hszr)⟩
             · have hsk' : decide ((l.length : Int) - k - 1 < o.skip) = true := by simp; omega
               go_wp2_with fail
               go_ret
               exact ⟨ret_bool (by rw [HE3.out, show decide (o.skip ≤ ((l.drop (k + 1)).length : Int)) = false by rw [List.length_drop]; simp; omega]; rfl), hbw.trans (HB4.out.mono hszr)⟩
           · have hlz' : lazyB o = false := by simpa using hlz
             go_wp2_with fail
             go_roundw
             case rel => exact ⟨k + 1, n + (1 - needsB o), by omega, by go_num, rfl, by omega, by omega, hbw.trans (HB4.out.mono hszr), by
               rw [HE2.out, ha, hlz', show decide (needsB o ≤ n) = true by simpa using hle]
               simp⟩
             case measure => simp [intOf]; omega
       · have ha' : aloneB o = false := by simpa using ha
         go_wp2_with fail
         go_ret
         exact ⟨ret_bool (by rw [HE2.out, ha']; rfl), hbw.trans (HB1.out.mono hszr)⟩
     · go_wp2_with fail
       go_ret
       have hz : l.drop k = [] := List.drop_eq_nil_iff.2 (by omega)
       exact ⟨ret_bool (by rw [HE.out, hz, wholeG_nil, Bool.eq_iff_iff]; simp), hbw⟩
open Go.ChangeShapes Go.WideShapes Go.ChangeAt Go.RowKit
def mayExprB (e : List OpD) : Bool := decide (e.length ≤ 32) && wholeG 0 e
set_option maxRecDepth 100000 in
set_option maxHeartbeats 1000000 in
theorem mayExpr_any {d B : Nat} {e : List OpD} {vs : List Value} {w : World} (he : (ExR d).rd w B e vs) (hB : B ≤ w.heap.size) :
   Calls Tryz.prog 11 #[.agg vs.toArray] w fun x w' => x = .returned (.bool (mayExprB e)) ∧ Below w.heap.size w w' := by
 obtain ⟨_, rfl, A, c, rfl, hc1, hc2, hl⟩ := he
 have HB := Lib.hid (fun o : Obj => (Below.refl w.heap.size w).alloc (Nat.le_refl _) o)
 have HL := Lib.hid hl
 simp only [OpR] at hc2
 clear hl
 by_cases hn : (e.length : Int) ≤ 32
 · go_enter Tryz.func11, Tryz.ntmps11
   go_wp2_with fail
   refine (whole_all d e.length e A c B _ (Nat.le_refl _) (HL.out.keep (HB.out _) hB) (Nat.le_trans hB (HB.out _).size) hc1 (by omega)).mono ?_
   rintro x w1 ⟨rfl, hb1⟩
   have hfin := Lib.hid ((HB.out _).trans (hb1.mono (HB.out _).size))
   clear hb1
   go_wp2_with fail
   go_ret
   exact ⟨ret_bool (by rw [mayExprB, show decide (e.length ≤ 32) = true by simp; omega]; simp), hfin.out⟩
 · have hn' : decide ((e.length : Int) ≤ 32) = false := by simpa using hn
   go_enter Tryz.func11, Tryz.ntmps11
   go_wp2_with fail
   go_ret
   exact ⟨ret_bool (by rw [mayExprB, show decide (e.length ≤ 32) = false by simp; omega]; simp), HB.out _⟩
def stepE (b : Bd) (o : OpD) (ts : List Tm) : Int × List Tm × Bool :=
 if o.kind = 1 then ((valR b o.term ts).1, (valR b o.term ts).2, false)
 else if o.kind = 2 then
   match ts.getLast? with
   | none => (0, ts, false)
   | some t => ((unR o.code t).2, ts.dropLast ++ [(unR o.code t).1], false)
 else if o.kind = 3 then
   match ts.dropLast.getLast?, ts.getLast? with
   | some s, some t => ((binR o.code s t).2, ts.dropLast.dropLast ++ [(binR o.code s t).1], false)
   | _, _ => (0, ts, false)
 else
   match ts.getLast? with
   | none => (0, ts, false)
   | some t => if t.kind ≠ 6 then (7, ts, false) else if (decide (t.n = 1) == decide (o.kind = 5)) = true then (0, ts, true) else (0, ts.dropLast, false)
def evG (b : Bd) : Nat → List OpD → List Tm → Int × List Tm
 | 0, _, ts => (0, ts)
 | _ + 1, [], ts => (0, ts)
 | n + 1, o :: r, ts => if (stepE b o ts).1 ≠ 0 then ((stepE b o ts).1, ts) else evG b n (if (stepE b o ts).2.2 = true then r.drop o.skip.toNat else r) (stepE b o ts).2.1
theorem evG_eq (b : Bd) : ∀ (n m : Nat) (l : List OpD) (ts : List Tm), l.length < n → l.length < m → evG b n l ts = evG b m l ts
 | 0, _, _, _, h, _ => absurd h (by omega)
 | _, 0, _, _, _, h => absurd h (by omega)
 | n + 1, m + 1, [], ts, _, _ => rfl
 | n + 1, m + 1, o :: r, ts, h, k => by
   simp only [List.length_cons] at h k
   unfold evG
   split
   · rfl
   · apply evG_eq
     · split <;> (try simp only [List.length_drop]) <;> omega
     · split <;> (try simp only [List.length_drop]) <;> omega
def evR (b : Bd) (l : List OpD) (ts : List Tm) : Int × List Tm := evG b (l.length + 1) l ts
theorem evR_nil (b : Bd) (ts : List Tm) : evR b [] ts = (0, ts) := rfl
theorem evR_cons (b : Bd) (o : OpD) (r : List OpD) (ts : List Tm) :
   evR b (o :: r) ts = if (stepE b o ts).1 ≠ 0 then ((stepE b o ts).1, ts) else evR b (if (stepE b o ts).2.2 = true then r.drop o.skip.toNat else r) (stepE b o ts).2.1 := by
 unfold evR
 rw [List.length_cons, evG]
 split
 · rfl
 · apply evG_eq
   · split <;> (try simp only [List.length_drop]) <;> omega
   · omega
def evalT (b : Bd) (l : List OpD) : Tm × Int := if (evR b l []).1 ≠ 0 then (noT, (evR b l []).1) else ((evR b l []).2.getLast?.getD noT, 0)
theorem needs_lazy {o : OpD} (h : lazyB o = true) : needsB o = 1 := by
 unfold lazyB at h
 rw [Bool.or_eq_true, decide_eq_true_eq, decide_eq_true_eq] at h
 unfold needsB
 rw [if_neg (by omega), if_neg (by omega)]
theorem whole_append : ∀ (n : Nat) (l r : List OpD) (a s : Int), l.length ≤ n → 0 ≤ s → wholeG a l = true → wholeG (s + 1) r = true → wholeG (s + a) (l ++ r) = true
 | n, [], r, a, s, _, _, h, k => by
   rw [wholeG_nil, decide_eq_true_eq] at h
   subst h
   exact k
 | 0, _ :: _, _, _, _, h, _, _, _ => absurd h (by simp)
 | n + 1, o :: l, r, a, s, hn, hs, h, k => by
   simp only [List.length_cons] at hn
   rw [wholeG_cons, Bool.and_eq_true, Bool.and_eq_true] at h
   rw [List.cons_append, wholeG_cons, Bool.and_eq_true, Bool.and_eq_true]
   obtain ⟨⟨h1, h2⟩, h3⟩ := h
   have h2' := of_decide_eq_true h2
   refine ⟨⟨h1, decide_eq_true (by omega)⟩, ?_⟩
   by_cases hz : lazyB o = true
   · rw [if_pos hz] at h3 ⊢
     rw [Bool.and_eq_true, Bool.and_eq_true] at h3 ⊢
     obtain ⟨⟨h4, h5⟩, h6⟩ := h3
     have h4' := of_decide_eq_true h4
     have hle : o.skip.toNat ≤ l.length := by omega
     refine ⟨⟨decide_eq_true (by simp; omega), ?_⟩, ?_⟩
     · rw [List.take_append_of_le_length hle]; exact h5
     · rw [List.drop_append_of_le_length hle]
       have := whole_append n (l.drop o.skip.toNat) r _ s (by simp; omega) hs h6 k
       rw [show s + a + (1 - needsB o) = s + (a + (1 - needsB o)) by omega]
       exact this
   · rw [if_neg hz] at h3 ⊢
     have := whole_append n l r _ s (by omega) hs h3 k
     rw [show s + a + (1 - needsB o) = s + (a + (1 - needsB o)) by omega]
     exact this
theorem whole_step {b : Bd} {o : OpD} {r : List OpD} {ts : List Tm} (h : wholeG ts.length (o :: r) = true) (he : (stepE b o ts).1 = 0) :
   wholeG (stepE b o ts).2.1.length (if (stepE b o ts).2.2 = true then r.drop o.skip.toNat else r) = true := by
 rw [wholeG_cons, Bool.and_eq_true, Bool.and_eq_true] at h
 obtain ⟨⟨h1, h2⟩, h3⟩ := h
 have h2' := of_decide_eq_true h2
 by_cases k1 : o.kind = 1
 · have hz : ¬ lazyB o = true := by simp [lazyB, k1]
   rw [if_neg hz] at h3
   have hn : needsB o = 0 := by simp [needsB, k1]
   rw [hn] at h3
   unfold stepE at he ⊢
   rw [if_pos k1] at he ⊢
   simp only [Bool.false_eq_true, if_false] at he ⊢
   have : ((valR b o.term ts).2.length : Int) = ts.length + (1 - 0) := by
     unfold valR at he ⊢
     split at he
     · split at he
       · exact absurd (show (8 : Int) = 0 from he) (by decide)
       · rename_i hk _ _ _
         rw [if_pos hk]; simp
     · rename_i hk
       rw [if_neg hk]; simp
   rw [this]; exact h3
 by_cases k2 : o.kind = 2
 · have hz : ¬ lazyB o = true := by simp [lazyB, k2]
   have hn : needsB o = 1 := by simp [needsB, k2]
   rw [if_neg hz, hn] at h3
   rw [hn] at h2'
   unfold stepE at he ⊢
   rw [if_neg k1, if_pos k2] at he ⊢
   rcases List.eq_nil_or_concat ts with rfl | ⟨l, t, rfl⟩
   · simp at h2'
   · simp only [List.concat_eq_append, List.getLast?_concat, List.dropLast_concat] at *
     simpa using h3
 by_cases k3 : o.kind = 3
 · have hz : ¬ lazyB o = true := by simp [lazyB, k3]
   have hn : needsB o = 2 := by simp [needsB, k3]
   rw [if_neg hz, hn] at h3
   rw [hn] at h2'
   unfold stepE at he ⊢
   rw [if_neg k1, if_neg k2, if_pos k3] at he ⊢
   rcases List.eq_nil_or_concat ts with rfl | ⟨l, t, rfl⟩
   · simp at h2'
   · rcases List.eq_nil_or_concat l with rfl | ⟨l, s, rfl⟩
     · simp at h2'
     · simp only [List.concat_eq_append, List.getLast?_concat, List.dropLast_concat] at *
       have e : ((l ++ [s] ++ [t]).length : Int) + (1 - 2) = (l ++ [(binR o.code s t).1]).length := by simp; omega
       rw [e] at h3
       simpa using h3
 · have hz : lazyB o = true := by
     unfold aloneB at h1
     rw [if_neg k1, if_neg k2, if_neg k3, Bool.and_eq_true, Bool.and_eq_true, Bool.and_eq_true] at h1
     exact h1.2.1.1
   have hn := needs_lazy hz
   rw [if_pos hz, hn, Bool.and_eq_true, Bool.and_eq_true] at h3
   rw [hn] at h2'
   unfold stepE at he ⊢
   rw [if_neg k1, if_neg k2, if_neg k3] at he ⊢
   rcases List.eq_nil_or_concat ts with rfl | ⟨l, t, rfl⟩
   · simp at h2'
   · simp only [List.concat_eq_append, List.getLast?_concat, List.dropLast_concat] at *
     split at he
     · exact absurd (show (7 : Int) = 0 from he) (by decide)
     · rename_i h6
       rw [if_neg h6]
       by_cases hq : (decide (t.n = 1) == decide (o.kind = 5)) = true
       · rw [if_pos hq]
         simpa using h3.2
       · rw [if_neg hq]
         have h4 := h3.2
         have e : ((l ++ [t]).length : Int) + (1 - 1) = l.length + 1 := by simp
         rw [e] at h4
         have := whole_append r.length (r.take o.skip.toNat) (r.drop o.skip.toNat) 0 l.length (by simp; omega) (by omega) h3.1.2 h4
         rw [List.take_append_drop] at this
         simpa using this
end Go.Proofs.YtiplipdigabidaaGreat
