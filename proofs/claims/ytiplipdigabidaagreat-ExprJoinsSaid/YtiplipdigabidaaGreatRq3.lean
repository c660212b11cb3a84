/- viaticumref6.moved; rows of steps of one's own, changed in place. -/
import Derived.Test.YtiplipdigabidaaGreatRqSpec
import Derived.Test.YtiplipdigabidaaGreatReg8
set_option linter.unusedVariables false
set_option linter.unusedSimpArgs false
namespace Go.Proofs.YtiplipdigabidaaGreat
theorem memberQ_less (s : ByteArray) (p : PS) : Less s 1 p (memberQ s p).2 := by
 unfold memberQ
 split
 · rename_i h; exact (Less.byte h).one (next_less s _).zero
 · split
   · exact (Less.failed (by decide)).one (next_less s _).zero
   · exact next_less s p
theorem memberQ_lt (s : ByteArray) (p : PS) : (memberQ s p).1 < 256 := next_lt _ _
theorem spanQ_less (s : ByteArray) (p : PS) : Less s 1 p (spanQ s p).2 := by
 unfold spanQ
 simp only
 have h1 := memberQ_less s p
 split
 · rename_i hd
   unfold dashP at hd
   rw [Bool.and_eq_true] at hd
   have h2 := Less.byte hd.1
   have h3 := memberQ_less s (memberQ s p).2.step
   have h4 : Less s 0 (memberQ s p).2 (if (memberQ s (memberQ s p).2.step).1 < (memberQ s p).1 then failP (memberQ s (memberQ s p).2.step).2 3 else (memberQ s (memberQ s p).2.step).2) := by
     split
     · exact (h2.zero.trans h3.zero).fail (by decide)
     · exact h2.zero.trans h3.zero
   exact h1.one h4
 · exact h1
theorem classLQ_less (s : ByteArray) : ∀ n first p i, Less s 0 p (classLQ s n first p i).2
 | 0, _, p, _ => Less.refl s p
 | n + 1, first, p, i => by
   unfold classLQ
   split
   · simp only
     split
     · exact (spanQ_less s p).zero
     · exact (spanQ_less s p).zero.trans (classLQ_less s n false _ _)
   · exact Less.refl s p
theorem classQ_less (s : ByteArray) (p : PS) : Less s 0 p (classQ s p).2 ∧ (classQ s p).1.length ≤ 1 := by
 unfold classQ
 simp only
 have h1 : Less s 0 p (if isP s p 94 = true then p.step else p) := by
   split
   · rename_i h; exact (Less.byte h).zero
   · exact Less.refl s p
 generalize (if isP s p 94 = true then p.step else p) = p1 at *
 have h2 := h1.trans (classLQ_less s (s.size + 2 - p1.at_) true p1 charI)
 split
 · exact ⟨h2.fail (by decide), by simp⟩
 · rename_i he
   exact ⟨h2.trans (Less.stepped (by simpa using he)).zero, by simp⟩
theorem madeQ_all (s : ByteArray) : ∀ n, (∀ p, Made s 0 p (patQ s n p)) ∧ (∀ p out, Less s 0 p (rowQ s n p out).2 ∧ (rowQ s n p out).1.length + 2 * remP s (rowQ s n p out).2 ≤ out.length + 2 * remP s p) ∧ (∀ p, remP s p ≠ 0 → Made s (if n ≤ 1 then 0 else 1) p (pieceQ s n p)) ∧ (∀ p, remP s p ≠ 0 → Made s (if n = 0 then 0 else 1) p (atomQ s n p)) := by
 intro n
 induction n with
 | zero =>
   refine ⟨fun p => ⟨Less.refl s p, fun _ => by simp [patQ], by simp [patQ]⟩, fun p out => ⟨Less.refl s p, by simp [rowQ]⟩, fun p _ => ⟨Less.refl s p, fun _ => by simp [pieceQ], by simp [pieceQ]⟩, fun p _ => ⟨Less.refl s p, fun _ => by simp [atomQ], by simp [atomQ]⟩⟩
 | succ n ih =>
   obtain ⟨ihp, ihr, ihc, iha⟩ := ih
   refine ⟨fun p => ?_, fun p out => ?_, fun p hp => ?_, fun p hp => ?_⟩
   · unfold patQ
     simp only
     obtain ⟨h1, h2⟩ := ihr p []
     split
     · rename_i hb
       have hs := Less.byte hb
       have hne : remP s (rowQ s n p []).2 ≠ 0 := by
         have := is_ends hb
         rw [ends_rem] at this
         simpa using this
       have h3 := ihp (rowQ s n p []).2.step
       have h4 := hs.lt hne
       have h5 := h3.len
       have h6 := h3.less.le
       have h7 := h1.le
       refine ⟨(h1.trans hs.zero).trans h3.less, fun _ => by simp only; omega, ?_⟩
       simp only [eitherL, List.length_append, moved_length, List.length_cons, List.length_nil] at h2 ⊢
       omega
     · refine ⟨h1, fun _ => h1.le, ?_⟩
       simpa using h2
   · unfold rowQ
     split
     · rename_i hc
       have hne : remP s p ≠ 0 := by
         rw [Bool.and_eq_true] at hc
         have := hc.1
         rw [ends_rem] at this
         simpa using this
       have h1 := ihc p hne
       have h2 := ihr (pieceQ s n p).2 (out ++ movedL (pieceQ s n p).1 out.length)
       refine ⟨h1.less.trans h2.1, ?_⟩
       have h3 := h2.2
       rw [List.length_append, moved_length] at h3
       have h4 := h1.len
       simp only
       omega
     · exact ⟨Less.refl s p, by simp⟩
   · unfold pieceQ
     simp only
     have h1 := iha p hp
     have hd : (if n + 1 ≤ 1 then 0 else 1) = (if n = 0 then 0 else 1) := by by_cases h : n = 0 <;> simp [h]
     rw [hd]
     generalize (if n = 0 then 0 else 1) = dd at *
     have hb : ∀ c, isP s (atomQ s n p).2 c = true → Less s 1 (atomQ s n p).2 (atomQ s n p).2.step ∧ remP s (atomQ s n p).2.step + 1 ≤ remP s (atomQ s n p).2 := by
       intro c hc
       refine ⟨Less.byte hc, (Less.byte hc).lt ?_⟩
       have := is_ends hc
       rw [ends_rem] at this
       simpa using this
     have hl := h1.len
     have ho := h1.one hp
     split
     · rename_i hc
       obtain ⟨h2, h3⟩ := hb _ hc
       exact ⟨h1.less.trans h2.zero, fun _ => by simp only; omega, by simp [moved_length]; omega⟩
     · split
       · rename_i hc
         obtain ⟨h2, h3⟩ := hb _ hc
         exact ⟨h1.less.trans h2.zero, fun _ => by simp only; omega, by simp [moved_length]; omega⟩
       · split
         · rename_i hc
           obtain ⟨h2, h3⟩ := hb _ hc
           exact ⟨h1.less.trans h2.zero, fun _ => by simp only; omega, by simp [moved_length]; omega⟩
         · exact h1
   · rw [if_neg (by omega)]
     unfold atomQ
     simp only
     have hne : endsP s p = false := by rw [ends_rem]; simpa using hp
     have h1 := Less.stepped hne
     have h2 := h1.lt hp
     have leaf : ∀ (l : List Ins) (q : PS), l.length ≤ 1 → Less s 0 p.step q → Made s 1 p (l, q) := by
       intro l q hl hq
       have := hq.le
       exact ⟨h1.zero.trans hq, fun _ => by simp only; omega, by simp only; omega⟩
     split
     · split
       · exact leaf _ _ (by simp) ((Less.refl s _).fail (by decide))
       · rename_i he
         exact leaf _ _ (by simp) (Less.stepped (by simpa using he)).zero
     · split
       · exact leaf _ _ (by simp) (Less.refl s _)
       · split
         · exact leaf _ _ (by simp) (Less.refl s _)
         · split
           · exact leaf _ _ (by simp) (Less.refl s _)
           · split
             · have := classQ_less s p.step
               generalize classQ s p.step = z at *
               exact leaf z.1 z.2 this.2 this.1
             · split
               · split
                 · exact leaf _ _ (by simp) ((Less.refl s _).fail (by decide))
                 · have h3 := ihp ⟨p.step.at_, p.step.deep + 1, p.step.e⟩
                   generalize patQ s n ⟨p.step.at_, p.step.deep + 1, p.step.e⟩ = q at *
                   have hr : remP s ⟨p.step.at_, p.step.deep + 1, p.step.e⟩ = remP s p.step := rfl
                   have h5 := h3.less.le
                   have h6 := h3.len
                   have hdp : q.2.deep = p.step.deep + 1 := h3.less.deep
                   have hz : Less s 0 p.step ⟨q.2.at_, q.2.deep - 1, q.2.e⟩ := by
                     have hrf : remP s ⟨q.2.at_, q.2.deep - 1, q.2.e⟩ = remP s q.2 := rfl
                     exact ⟨.inl (by rw [hrf]; omega), by simp only; omega, fun hx => h3.less.at_ hx, h3.less.up⟩
                   have hrf : remP s ⟨q.2.at_, q.2.deep - 1, q.2.e⟩ = remP s q.2 := rfl
                   split
                   · rename_i hc
                     have hs := Less.byte hc
                     have h8 := hs.le
                     exact ⟨h1.zero.trans (hz.trans hs.zero), fun _ => by simp only; omega, by simp only; omega⟩
                   · exact leaf _ _ (by simp) (hz.fail (by decide))
               · split
                 · exact leaf _ _ (by simp) ((Less.refl s _).fail (by decide))
                 · exact leaf _ _ (by simp) (Less.refl s _)
theorem patQ_made (s : ByteArray) (n : Nat) (p : PS) : Made s 0 p (patQ s n p) := (madeQ_all s n).1 p
theorem pieceQ_made (s : ByteArray) (n : Nat) (p : PS) (hp : remP s p ≠ 0) (hn : 2 ≤ n) : Made s 1 p (pieceQ s n p) := by
 have := (madeQ_all s n).2.2.1 p hp
 rwa [if_neg (by omega)] at this
theorem atomQ_made (s : ByteArray) (n : Nat) (p : PS) (hp : remP s p ≠ 0) (hn : 1 ≤ n) : Made s 1 p (atomQ s n p) := by
 have := (madeQ_all s n).2.2.2 p hp
 rwa [if_neg (by omega)] at this
open Go.ChangeShapes Go.WideShapes Go.ChangeAt Go.RowKit
theorem infoInq : (Tryz.prog.info? 109).map (fun i => (i.zero, i.size, i.bytes)) = some (some (.agg #[.int .i64 0, .int .u64 0, .int .u64 0, .int .u64 0, .int .u64 0, .int .i64 0, .int .i64 0]), 7, 56) := by kernel_rfl
theorem flat_eq {w : World} {B : Nat} {xs : List Ins} {cells : List Value} (h : Flat InsR w B xs cells) : cells = flatI xs := by
 have hl : cells.length = xs.length * 7 := h.1
 apply List.ext_getElem?
 intro i
 rcases Nat.lt_or_ge i (xs.length * 7) with hi | hi
 · have hk : i / 7 < xs.length := by omega
   have h0 : (cells.drop (i / 7 * 7)).take 7 = insC xs[i / 7] := h.2 (i / 7) hk
   have e : i = i / 7 * 7 + i % 7 := by omega
   have h1 := flatI_get xs (i / 7) xs[i / 7] (i % 7) (List.getElem?_eq_getElem hk) (by omega)
   rw [← e] at h1
   rw [h1, ← h0, List.getElem?_take, if_pos (by omega), List.getElem?_drop, ← e]
 · rw [List.getElem?_eq_none (by omega), List.getElem?_eq_none (by rw [flatI_length]; omega)]
theorem flatI_set : ∀ (xs : List Ins) (k j : Nat) (x y : Ins) (v : Value), xs[k]? = some x → j < 7 → insC y = (insC x).set j v → (flatI xs).set (k * 7 + j) v = flatI (xs.set k y)
 | [], k, j, x, y, v, h, _, _ => by simp at h
 | a :: l, 0, j, x, y, v, h, hj, he => by
   simp only [List.getElem?_cons_zero, Option.some.injEq] at h
   subst h
   rw [List.set_cons_zero, flatI, flatI, he, List.set_append_left _ _ (by simp [insC]; omega)]
   simp
 | a :: l, k + 1, j, x, y, v, h, hj, he => by
   rw [List.set_cons_succ, flatI, flatI, List.set_append_right _ _ (by simp [insC]; omega)]
   have e : (k + 1) * 7 + j - (insC a).length = k * 7 + j := by simp [insC]; omega
   rw [e, flatI_set l k j x y v (by simpa using h) hj he]
theorem OwnR.ins_at {T : TypeId} {w : World} {base n c k : Nat} {A : Option Addr} {xs : List Ins} {x : Ins} (h : OwnR InsR T w base 0 (.slice A n c) xs) (hx : xs[k]? = some x) :
   ∃ g, A = some ⟨g, 0, none⟩ ∧ base ≤ g ∧ g < w.heap.size ∧ (∀ j u, (insC x)[j]? = some u → w.cell? ⟨g, k * 7 + j, none⟩ = some u) ∧ (∀ o, w.frozen? ⟨g, o, none⟩ = false) ∧
     ∀ j v y, j < 7 → insC y = (insC x).set j v → OwnR InsR T (w.setCell ⟨g, k * 7 + j, none⟩ v) base 0 (.slice A n c) (xs.set k y) := by
 obtain ⟨cells, ho, hf⟩ := h
 obtain rfl := flat_eq hf
 have hk : k < xs.length := (List.getElem?_eq_some_iff.1 hx).1
 rcases ho.2 with ⟨h1, h2⟩ | ⟨g, cap, cur, hv, hg, hh, k1, k2, k3, k4⟩
 · rw [List.eq_nil_of_length_eq_zero h2] at hk; simp at hk
 · simp only [Value.slice.injEq] at hv
   obtain ⟨rfl, rfl, rfl⟩ := hv
   have hk3 : cur.size = c * 7 := k3
   have e7 : xs.length * InsR.k = xs.length * 7 := rfl
   rw [e7] at k4
   have hglt : g < w.heap.size := by
     rcases Nat.lt_or_ge g w.heap.size with h' | h'
     · exact h'
     · rw [Array.getElem?_eq_none h'] at hh; cases hh
   have hbt : BlkT w g cur T := hh
   refine ⟨g, rfl, hg, hglt, fun j u hj => ?_, hbt.blk.free, fun j v y hj he => ?_⟩
   · have hj7 : j < 7 := by
       have := (List.getElem?_eq_some_iff.1 hj).1
       simpa [insC] using this
     have h1 := flatI_get xs k x j hx hj7
     rw [hj, ← k4, List.getElem?_take] at h1
     split at h1
     · rw [cell_of_row w g _ cur T (0, 0) hh]
       simpa using h1
     · cases h1
   · have hs := hbt.set_ (k * 7 + j) v
     refine ⟨flatI (xs.set k y), ⟨by rw [flatI_length, List.length_set]; rfl, (.inr ⟨g, c, _, by rw [List.length_set], hg, hs, by rw [List.length_set]; exact k1, k2, by simp; exact hk3, ?_⟩)⟩, flatI_flat _ _ _⟩
     rw [← flatI_set xs k j x y v hx hj he, ← k4, List.length_set]
     show (cur.setIfInBounds (k * 7 + j) v).toList.take (xs.length * 7) = _
     rw [Array.toList_setIfInBounds, ← List.take_set]
def ListQ (w w' : World) (l : List Ins) (e : Ending) : Prop := (∃ A c, e = .returned (.slice A l.length c) ∧ OwnR InsR 109 w' w.heap.size 0 (.slice A l.length c) l) ∧ Below w.heap.size w w'
theorem movedQ_step {l : List Ins} {k : Nat} {i : Ins} {by_ : Int} (h : l[k]? = some i) : (movedL (l.take k) by_ ++ l.drop k)[k]? = some i ∧ (movedL (l.take k) by_ ++ l.drop k).set k (movedI by_ i) = movedL (l.take (k + 1)) by_ ++ l.drop (k + 1) := by
 obtain ⟨hk, e⟩ := List.getElem?_eq_some_iff.1 h
 have hl : (movedL (l.take k) by_).length = k := by rw [moved_length, List.length_take]; omega
 constructor
 · rw [List.getElem?_append_right (by omega), hl, Nat.sub_self, List.getElem?_drop]
   simpa using h
 · rw [List.set_append_right _ _ (by omega), hl, Nat.sub_self, List.drop_eq_getElem_cons hk, List.set_cons_zero, List.take_succ_eq_append_getElem hk, e]
   simp [movedL]
set_option maxRecDepth 100000 in
set_option maxHeartbeats 2000000 in
theorem movedq_any {B c : Nat} {l : List Ins} {A : Option Addr} {k0 : Int} {w : World} (hl : RL InsR w B l A) (hB : B ≤ w.heap.size) (hn : l.length ≤ 1000000) :
   Calls Tryz.prog 122 #[.slice A l.length c, .int .i64 k0] w fun e w' => ListQ w w' (movedL l k0) e := by
 obtain ⟨i0, hi0, hz0, hz1, hz2⟩ := info_parts infoInq
 have HSRC := Lib.hid hl.src
 clear hl
 go_enter Tryz.func122, Tryz.ntmps122
 go_wp2_with ((
   at_builtin
   refine wpList_append_R (R := InsR) (e := 109) (base := w.heap.size) (B := B) (xs := []) (ys := l) rfl (.const (.slice none 0 0)) (.tmp 7) 84 rfl (bytes := 56) Tryz.underlying84 hi0 hz0 hz1 hz2 rfl (show 0 < 7 by omega) single_in rfl (OwnR.nil _ _ _ _ _) rfl HSRC.out rfl hB (by simp only [List.length_nil]; omega) (by omega) (Nat.le_refl _) ?_
   intro v w1 hown hb
   simp only [List.nil_append] at hown
   obtain ⟨A1, c1, rfl⟩ := hown.form
   have HO := Lib.hid (show OwnR InsR 109 w1 w.heap.size 0 (.slice A1 l.length c1) l from by
     obtain ⟨cells, h, hf⟩ := hown
     exact ⟨cells, h, ⟨hf.1, fun i hi => hf.2 i hi⟩⟩)
   have HB1 := Lib.hid hb
   clear hown hb))
 go_loopw [11] (fun i wr => ∃ k : Nat, k ≤ l.length ∧ i = .int .i64 k ∧ Hid (Below w.heap.size w wr) ∧ Hid (OwnR InsR 109 wr w.heap.size 0 (.slice A1 l.length c1) (movedL (l.take k) k0 ++ l.drop k))) (fun i _ => l.length - (intOf i).toNat)
 case atStart => exact ⟨0, Nat.zero_le _, rfl, HB1, by simpa [movedL] using HO⟩
 case round =>
   obtain ⟨k, hk, rfl, HBW, HI⟩ := hrel
   by_cases hlt : k < l.length
   · obtain ⟨x, hx⟩ : ∃ x, l[k]? = some x := ⟨l[k], List.getElem?_eq_getElem hlt⟩
     obtain ⟨hx2, hset⟩ := movedQ_step (by_ := k0) hx
     have HSET := Lib.hid hset
     clear hset hx
     generalize movedL (l.take k) k0 ++ l.drop k = cur at *
     obtain ⟨g, rfl, hg, hglt, hcell, hfr, hput⟩ := HI.out.ins_at hx2
     have g0 : wr.cell? ⟨g, k * 7, none⟩ = some (.int .i64 x.kind) := hcell 0 _ rfl
     have g5 : wr.cell? ⟨g, k * 7 + 5, none⟩ = some (.int .i64 x.x) := hcell 5 _ rfl
     have g6 : wr.cell? ⟨g, k * 7 + 6, none⟩ = some (.int .i64 x.y) := hcell 6 _ rfl
     have HP := Lib.hid hput
     have HX2 := Lib.hid hx2
     clear hcell hput hx2
     have hkind : x.kind = 2 ∨ x.kind ≠ 2 ∧ x.kind = 3 ∨ x.kind ≠ 2 ∧ x.kind ≠ 3 := by omega
     rcases hkind with h2 | ⟨h2, h3⟩ | ⟨h2, h3⟩
     · have HM : Hid (movedI k0 x = ⟨x.kind, x.a, x.b, x.c, x.d, wrap64 (x.x + k0), wrap64 (x.y + k0)⟩) := Lib.hid (by unfold movedI; rw [if_pos h2])
       have hq2 : (x.kind == 2) = true := by simpa using h2
       clear h2
       go_wp2_with fail
       go_roundw
       case rel =>
         have h5 := HP.out 5 (.int .i64 (wrap64 (x.x + k0))) ⟨x.kind, x.a, x.b, x.c, x.d, wrap64 (x.x + k0), x.y⟩ (by omega) rfl
         have hx3 : (cur.set k ⟨x.kind, x.a, x.b, x.c, x.d, wrap64 (x.x + k0), x.y⟩)[k]? = some ⟨x.kind, x.a, x.b, x.c, x.d, wrap64 (x.x + k0), x.y⟩ := by
           rw [List.getElem?_set, if_pos rfl, if_pos (List.getElem?_eq_some_iff.1 HX2.out).1]
         obtain ⟨g', e', _, _, _, _, hput⟩ := h5.ins_at hx3
         simp only [Option.some.injEq, Addr.mk.injEq, and_true] at e'
         subst e'
         have h6 := hput 6 (.int .i64 (wrap64 (x.y + k0))) ⟨x.kind, x.a, x.b, x.c, x.d, wrap64 (x.x + k0), wrap64 (x.y + k0)⟩ (by omega) rfl
         rw [List.set_set, ← HM.out, HSET.out] at h6
         exact ⟨k + 1, by omega, by go_num, Lib.hid ((HBW.out.setCell hg _).setCell hg _), Lib.hid h6⟩
       case measure => simp [intOf]; omega
     · have HM : Hid (movedI k0 x = ⟨x.kind, x.a, x.b, x.c, x.d, wrap64 (x.x + k0), x.y⟩) := Lib.hid (by unfold movedI; rw [if_neg h2, if_pos h3])
       have hq2 : (x.kind == 2) = false := by simpa using h2
       have hq3 : (x.kind == 3) = true := by simpa using h3
       clear h2 h3
       go_wp2_with fail
       go_roundw
       case rel =>
         have h5 := HP.out 5 (.int .i64 (wrap64 (x.x + k0))) ⟨x.kind, x.a, x.b, x.c, x.d, wrap64 (x.x + k0), x.y⟩ (by omega) rfl
         rw [← HM.out, HSET.out] at h5
         exact ⟨k + 1, by omega, by go_num, Lib.hid (HBW.out.setCell hg _), Lib.hid h5⟩
       case measure => simp [intOf]; omega
     · have HM : Hid (movedI k0 x = x) := Lib.hid (by unfold movedI; rw [if_neg h2, if_neg h3])
       have hq2 : (x.kind == 2) = false := by simpa using h2
       have hq3 : (x.kind == 3) = false := by simpa using h3
       clear h2 h3
       go_wp2_with fail
       go_roundw
       case rel =>
         have e : cur.set k x = cur := by
           obtain ⟨h1, h2⟩ := List.getElem?_eq_some_iff.1 HX2.out
           rw [← h2]; exact List.set_getElem_self h1
         have := HSET.out
         rw [HM.out, e] at this
         exact ⟨k + 1, by omega, by go_num, HBW, by rw [← this]; exact HI⟩
       case measure => simp [intOf]; omega
   · have HE : Hid (movedL (l.take k) k0 ++ l.drop k = movedL l k0) := Lib.hid (by rw [List.take_of_length_le (by omega), List.drop_eq_nil_iff.2 (by omega)]; simp)
     rw [HE.out] at HI
     go_wp2_with fail
     go_ret
     refine ⟨⟨A1, c1, ?_, ?_⟩, HBW.out⟩
     · rw [moved_length]; rfl
     · rw [moved_length]; exact HI.out
end Go.Proofs.YtiplipdigabidaaGreat
