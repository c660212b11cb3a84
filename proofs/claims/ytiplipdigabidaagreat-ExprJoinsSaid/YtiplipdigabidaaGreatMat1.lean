/- match.ways: the stack. -/
import Derived.Test.YtiplipdigabidaaGreatFixP
import Derived.Deep.Cut
import Derived.Deep.CutRange
import Derived.Deep.LoopGhost
import Derived.Test.YtiplipdigabidaaGreatRegLaw
import Derived.RegionTactic
set_option linter.unusedVariables false
set_option linter.unusedSimpArgs false
namespace Go.Proofs.YtiplipdigabidaaGreat
open Go.ChangeShapes Go.WideShapes Go.ChangeAt Go.RowKit
theorem OwnR.form' {w : World} {base n : Nat} {v : Value} {xs : List Ins} (h : OwnR InsR 166 w base 0 v xs) (hn : xs.length = n) : ∃ A c, v = .slice A n c := by
 subst hn
 exact h.form
theorem OwnR.rows {w : World} {base n c : Nat} {A : Option Addr} {xs : List Ins} (h : OwnR InsR 166 w base 0 (.slice A n c) xs) (hn : xs.length ≤ 1000000) : RL InsR w w.heap.size xs A := by
 obtain ⟨A3, c3, e3, r1, r2, r3⟩ := h.reads (Nat.zero_le _) (by show xs.length * (8 * 7) ≤ _; omega)
 simp only [Value.slice.injEq] at e3
 obtain ⟨rfl, _, rfl⟩ := e3
 exact r3
theorem OwnR.low {w : World} {base b0 : Nat} {v : Value} {xs : List Ins} (h : OwnR InsR 166 w base 0 v xs) (hb : b0 ≤ base) : OwnR InsR 166 w b0 0 v xs := by
 obtain ⟨cells, h, hf⟩ := h
 refine ⟨cells, ⟨h.1, ?_⟩, hf⟩
 rcases h.2 with h2 | ⟨g, cap, cur, hv, hg, r⟩
 · exact .inl h2
 · exact .inr ⟨g, cap, cur, hv, Nat.le_trans hb hg, r⟩
theorem OwnR.srcn {w : World} {base n c : Nat} {A : Option Addr} {xs : List Ins} (h : OwnR InsR 166 w base 0 (.slice A n c) xs) : SrcR InsR w 0 A xs := by
 obtain ⟨_, _, e⟩ := h.form
 simp only [Value.slice.injEq] at e
 obtain ⟨rfl, rfl, rfl⟩ := e
 exact h.src
theorem ins_new {w W : World} {i : Ins} {base : Nat} {o : Obj} (h : w.alloc o = W) (ho : o = .cells (insC i).toArray 166) (hb : base ≤ w.heap.size) : OwnR InsR 166 W base 0 (.slice (some ⟨w.heap.size, 0, none⟩) 1 1) [i] := by
 subst ho
 have hB : BlkT W w.heap.size (insC i).toArray 166 := h ▸ heap_alloc_new w _
 exact hB.own (R := InsR) (xs := [i]) (Flat.one rfl) hb rfl (by unfold maxLen; omega)
set_option maxRecDepth 100000 in
set_option maxHeartbeats 1000000 in
theorem either_any {B c1 c2 : Nat} {l1 l2 : List Ins} {A1 A2 : Option Addr} {w : World} (h1 : RL InsR w B l1 A1) (h2 : RL InsR w B l2 A2) (hB : B ≤ w.heap.size) (hn1 : l1.length ≤ 100000) (hn2 : l2.length ≤ 100000) :
   Calls Tryz.prog 169 #[.slice A1 l1.length c1, .slice A2 l2.length c2] w fun e w' => ListE w w' (eitherL l1 l2) e := by
 obtain ⟨i0, hi0, hz0, hz1, hz2⟩ := info_parts infoIn
 have H1 := Lib.hid h1
 have H2 := Lib.hid h2
 clear h1 h2
 go_enter Tryz.func169, Tryz.ntmps169
 go_wp2_with fail
 generalize hW : World.alloc _ _ = w1
 obtain ⟨hb, hz⟩ := al1 hW
 have HO := Lib.hid (ins_new (i := splitI 1 (l1.length + 2)) hW rfl (Nat.le_refl _))
 have HB1 := Lib.hid hb
 clear hW hz hb
 refine (moved_any (B := B) (H1.out.keep HB1.out hB) (Nat.le_trans hB HB1.out.size) (by omega)).mono ?_
 rintro e w2 ⟨⟨A3, c3, rfl, ho⟩, hb⟩
 rw [moved_length]
 have HB2 := Lib.hid (bthen HB1.out hb)
 have HO2 := Lib.hid (HO.out.later hb (Nat.zero_le _))
 have HS2 := Lib.hid ho.src
 clear ho hb
 go_upto_region 3 with ((
   at_builtin
   refine wpList_append_R (R := InsR) (e := 166) (base := w.heap.size) (B := 0) (xs := [splitI 1 (l1.length + 2)]) (ys := movedL l1 1) rfl (.tmp 12) (.tmp 14) 139 rfl (bytes := 56) Tryz.underlying139 hi0 hz0 hz1 hz2 rfl (show 0 < 7 by omega) single_in rfl HO2.out rfl HS2.out (moved_length l1 1).symm (Nat.zero_le _) (by rw [moved_length]; simp only [List.length_cons, List.length_nil]; omega) (by omega) (HB2.out.size) ?_
   intro v w3 hown hb
   obtain ⟨A4, c4, rfl⟩ := hown.form' (show _ = l1.length + 1 by simp [moved_length])
   have HOW := Lib.hid hown
   have HBW := Lib.hid hb
   clear hown hb))
 have HB3 := Lib.hid (HB2.out.trans HBW.out)
 have HJ4 := Lib.hid (And.intro (HOW.out.later (below_new (w := w3) (o := .cells #[.int .i64 3, .int .u64 0, .int .u64 0, .int .u64 0, .int .u64 0, .int .i64 ((l1.length : Int) + 2 + l2.length), .int .i64 0] 166) rfl) (Nat.zero_le _)) (OwnR.src (xs := [jumpI (l1.length + 2 + l2.length)]) (ins_new (w := w3) (i := jumpI (l1.length + 2 + l2.length)) (base := w.heap.size) (o := .cells #[.int .i64 3, .int .u64 0, .int .u64 0, .int .u64 0, .int .u64 0, .int .i64 ((l1.length : Int) + 2 + l2.length), .int .i64 0] 166) rfl rfl HB3.out.size)))
 clear HOW HBW
 go_upto_region 4 with ((
   at_builtin
   refine wpList_append_R (R := InsR) (e := 166) (base := w.heap.size) (B := 0) (xs := [splitI 1 (l1.length + 2)] ++ movedL l1 1) (ys := [jumpI (l1.length + 2 + l2.length)]) rfl (.tmp 16) (.tmp 23) 139 rfl (bytes := 56) Tryz.underlying139 hi0 hz0 hz1 hz2 rfl (show 0 < 7 by omega) single_in rfl HJ4.out.1 rfl HJ4.out.2 rfl (Nat.zero_le _) (by rw [List.length_append, moved_length]; simp only [List.length_cons, List.length_nil]; omega) (by omega) ((by rw [World.size_alloc]; have := HB3.out.size; omega)) ?_
   intro v w4 hown hb
   obtain ⟨A5, c5, rfl⟩ := hown.form' (show _ = l1.length + 2 by simp [moved_length])
   have HOW := Lib.hid hown
   have HBW := Lib.hid hb
   clear hown hb))
 have HB4 := Lib.hid ((HB3.out.alloc HB3.out.size (.cells #[.int .i64 3, .int .u64 0, .int .u64 0, .int .u64 0, .int .u64 0, .int .i64 ((l1.length : Int) + 2 + l2.length), .int .i64 0] 166)).trans HBW.out)
 have HO4 := Lib.hid HOW.out
 clear HOW HBW HJ4
 go_wp2_with fail
 refine (moved_any (B := B) (H2.out.keep HB4.out hB) (Nat.le_trans hB HB4.out.size) (by omega)).mono ?_
 rintro e w5 ⟨⟨A6, c6, rfl, ho⟩, hb⟩
 rw [moved_length]
 have HB5 := Lib.hid (bthen HB4.out hb)
 have HO5 := Lib.hid (HO4.out.later hb (Nat.zero_le _))
 have HS5 := Lib.hid ho.srcn
 clear ho hb
 go_wp2_with ((
   at_builtin
   refine wpList_append_R (R := InsR) (e := 166) (base := w.heap.size) (B := 0) (xs := [splitI 1 (l1.length + 2)] ++ movedL l1 1 ++ [jumpI (l1.length + 2 + l2.length)]) (ys := movedL l2 (l1.length + 2)) rfl (.tmp 25) (.tmp 29) 139 rfl (bytes := 56) Tryz.underlying139 hi0 hz0 hz1 hz2 rfl (show 0 < 7 by omega) single_in rfl HO5.out rfl HS5.out (moved_length l2 _).symm (Nat.zero_le _) (by simp only [List.length_append, moved_length, List.length_cons, List.length_nil]; omega) (by omega) (HB5.out.size) ?_
   intro v w6 hown hb
   obtain ⟨A7, c7, rfl⟩ := hown.form' (show _ = (eitherL l1 l2).length from rfl)
   have HOW := Lib.hid hown
   have HBW := Lib.hid hb
   clear hown hb))
 go_ret
 exact ⟨⟨A7, c7, rfl, HOW.out⟩, HB5.out.trans HBW.out⟩
open Go.ChangeShapes Go.WideShapes Go.ChangeAt Go.RowKit
def wfI (n : Nat) (i : Ins) : Prop := (i.kind = 2 → 0 ≤ i.x ∧ i.x ≤ n ∧ 0 ≤ i.y ∧ i.y ≤ n) ∧ (i.kind = 3 → 0 ≤ i.x ∧ i.x ≤ n)
def wfN (n : Nat) (l : List Ins) : Prop := ∀ i ∈ l, wfI n i
theorem wfI.mono {n m : Nat} {i : Ins} (h : wfI n i) (hn : n ≤ m) : wfI m i := ⟨fun k => by have := h.1 k; omega, fun k => by have := h.2 k; omega⟩
theorem wfN.mono {n m : Nat} {l : List Ins} (h : wfN n l) (hn : n ≤ m) : wfN m l := fun i hi => (h i hi).mono hn
theorem wfN.append {n : Nat} {a b : List Ins} (h : wfN n a) (k : wfN n b) : wfN n (a ++ b) := fun i hi => by
 rcases List.mem_append.1 hi with h1 | h1
 · exact h i h1
 · exact k i h1
theorem wfN.nil {n : Nat} : wfN n [] := fun _ h => by cases h
theorem wfN.one {n : Nat} {i : Ins} (h : wfI n i) : wfN n [i] := fun j hj => by
 rw [List.mem_singleton] at hj; subst hj; exact h
theorem wrap_small {n : Int} (h0 : 0 ≤ n) (h1 : n ≤ 1000000000) : wrap64 n = n := by unfold wrap64; omega
theorem wfN.moved {m n k : Nat} {l : List Ins} (h : wfN m l) (hk : m + k ≤ n) (hn : n ≤ 1000000000) : wfN n (movedL l k) := by
 intro i hi
 obtain ⟨j, hj, rfl⟩ := List.mem_map.1 hi
 have hw := h j hj
 unfold movedI
 by_cases h2 : j.kind = 2
 · have := hw.1 h2
   rw [if_pos h2]
   refine ⟨fun _ => ?_, fun h3 => ?_⟩
   · simp only
     rw [wrap_small (by omega) (by omega), wrap_small (by omega) (by omega)]
     omega
   · simp only at h3; omega
 · rw [if_neg h2]
   by_cases h3 : j.kind = 3
   · have := hw.2 h3
     rw [if_pos h3]
     refine ⟨fun h => absurd h h2, fun _ => ?_⟩
     simp only
     rw [wrap_small (by omega) (by omega)]
     omega
   · rw [if_neg h3]
     exact ⟨fun h => absurd h h2, fun h => absurd h h3⟩
theorem wf_split {n : Nat} {x y : Int} (h0 : 0 ≤ x) (h1 : x ≤ n) (h2 : 0 ≤ y) (h3 : y ≤ n) : wfI n (splitI x y) := ⟨fun _ => ⟨h0, h1, h2, h3⟩, fun h => by simp [splitI] at h⟩
theorem wf_jump {n : Nat} {x : Int} (h0 : 0 ≤ x) (h1 : x ≤ n) : wfI n (jumpI x) := ⟨fun h => by simp [jumpI] at h, fun _ => ⟨h0, h1⟩⟩
theorem wf_plain {n : Nat} {i : Ins} (h2 : i.kind ≠ 2) (h3 : i.kind ≠ 3) : wfI n i := ⟨fun h => absurd h h2, fun h => absurd h h3⟩
theorem hasI_kind (i : Ins) (c : Nat) : (hasI i c).kind = i.kind := by
 unfold hasI Ins.put
 split
 · rfl
 · split
   · rfl
   · split <;> rfl
theorem rangeI_kind (i : Ins) (f t : Nat) : (rangeI i f t).kind = i.kind := by
 unfold rangeI
 generalize List.range (t + 1 - f) = l
 induction l generalizing i with
 | nil => rfl
 | cons a l ih => rw [List.foldl_cons, ih, hasI_kind]
theorem classL_kind (s : ByteArray) : ∀ n p i, (classL s n p i).1.kind = i.kind
 | 0, p, i => rfl
 | n + 1, p, i => by
   unfold classL
   split
   · simp only
     rw [classL_kind s n, rangeI_kind]
   · rfl
theorem classP_kind (s : ByteArray) (p : PS) : (classP s p).1.kind = 1 := by
 unfold classP
 simp only
 split
 · show (classL s _ _ charI).1.kind = 1
   rw [classL_kind]; rfl
 · rw [classL_kind]; rfl
theorem wf_all (s : ByteArray) (hs : s.size ≤ 1000000) : ∀ n, (∀ p, wfN (patR s n p).1.length (patR s n p).1) ∧ (∀ p out, wfN out.length out → out.length + 2 * remP s p ≤ 4000000 → wfN (rowR s n p out).1.length (rowR s n p out).1) ∧ (∀ p, remP s p ≠ 0 → wfN (pieceR s n p).1.length (pieceR s n p).1) ∧ (∀ p, remP s p ≠ 0 → wfN (atomR s n p).1.length (atomR s n p).1) := by
 intro n
 induction n with
 | zero => exact ⟨fun p => wfN.nil, fun p out h _ => h, fun p _ => wfN.nil, fun p _ => wfN.nil⟩
 | succ n ih =>
   obtain ⟨ihp, ihr, ihc, iha⟩ := ih
   refine ⟨fun p => ?_, fun p out ho hb => ?_, fun p hp => ?_, fun p hp => ?_⟩
   · have hr := rem_le s p
     unfold patR
     simp only
     obtain ⟨h1, h2⟩ := (made_all s n).2.1 p []
     have h3 := ihr p [] wfN.nil (by simp; omega)
     split
     · have h4 := ihp (rowR s n p []).2.step
       have h5 := (pat_made s n (rowR s n p []).2.step).len
       have h6 := rem_le s (rowR s n p []).2.step
       simp only [List.length_nil] at h2
       generalize (rowR s n p []).1 = a at *
       generalize (patR s n (rowR s n p []).2.step).1 = b at *
       have e : (eitherL a b).length = a.length + b.length + 2 := by simp [eitherL, moved_length]; omega
       simp only [e]
       refine wfN.append (wfN.append (wfN.append (wfN.one (wf_split (by omega) (by omega) (by omega) (by omega))) (h3.moved (k := 1) (by omega) (by omega))) (wfN.one (wf_jump (by omega) (by omega)))) ?_
       exact h4.moved (k := a.length + 2) (by omega) (by omega)
     · exact h3
   · unfold rowR
     split
     · rename_i hc
       have hne : remP s p ≠ 0 := by
         rw [Bool.and_eq_true] at hc
         have := hc.1
         rw [ends_rem] at this
         simpa using this
       have h1 := (made_all s n).2.2.1 p hne
       have h4 := h1.len
       refine ihr _ _ ?_ ?_
       · rw [List.length_append, moved_length]
         refine wfN.append (ho.mono (by omega)) ((ihc p hne).moved (k := out.length) (by omega) (by omega))
       · rw [List.length_append, moved_length]
         omega
     · exact ho
   · unfold pieceR
     simp only
     have h1 := iha p hp
     have h2 := ((made_all s n).2.2.2 p hp).len
     have h3 := rem_le s p
     generalize atomR s n p = r at *
     obtain ⟨a, q⟩ := r
     simp only at h1 h2 ⊢
     split
     · have e : ([splitI 1 (↑a.length + 2)] ++ movedL a 1 ++ [jumpI 0]).length = a.length + 2 := by simp [moved_length]
       simp only [e]
       exact wfN.append (wfN.append (wfN.one (wf_split (by omega) (by omega) (by omega) (by omega))) (h1.moved (k := 1) (by omega) (by omega))) (wfN.one (wf_jump (by omega) (by omega)))
     · split
       · have e : (a ++ [splitI 0 (↑a.length + 1)]).length = a.length + 1 := by simp
         simp only [e]
         exact wfN.append (h1.mono (by omega)) (wfN.one (wf_split (by omega) (by omega) (by omega) (by omega)))
       · split
         · have e : ([splitI 1 (↑a.length + 1)] ++ movedL a 1).length = a.length + 1 := by simp [moved_length]
           simp only [e]
           exact wfN.append (wfN.one (wf_split (by omega) (by omega) (by omega) (by omega))) (h1.moved (k := 1) (by omega) (by omega))
         · exact h1
   · unfold atomR
     simp only
     have leaf : ∀ (i : Ins), i.kind ≠ 2 → i.kind ≠ 3 → wfN [i].length [i] := fun i h2 h3 => wfN.one (wf_plain h2 h3)
     split
     · split
       · exact wfN.nil
       · exact ihp _
     · split
       · exact leaf _ (by rw [classP_kind]; decide) (by rw [classP_kind]; decide)
       · split
         · exact leaf _ (by decide) (by decide)
         · split
           · exact leaf _ (by decide) (by decide)
           · split
             · exact leaf _ (by decide) (by decide)
             · split
               · exact leaf _ (by rw [hasI_kind]; decide) (by rw [hasI_kind]; decide)
               · split
                 · exact leaf _ (by decide) (by decide)
                 · exact leaf _ (by rw [hasI_kind]; decide) (by rw [hasI_kind]; decide)
structure Prg (l : List Ins) : Prop where
 pos : 0 < l.length
 len : l.length ≤ 1000
 wf : wfN (l.length - 1) l
 last : ∀ i, i + 1 = l.length → (l.getD i charI).kind = 6
theorem comp_prg {s : ByteArray} (h : (compR s).2 = 0) : Prg (compR s).1 := by
 unfold compR at h ⊢
 split
 · rename_i hs; rw [if_pos hs] at h; simp at h
 · rename_i hs
   rw [if_neg hs] at h
   simp only at h ⊢
   split
   · have h1 := (wf_all s (by omega) (fuelOf s.size)).1 ⟨0, 0, 0⟩
     have h2 := (pat_made s (fuelOf s.size) ⟨0, 0, 0⟩).len
     have h3 := rem_le s ⟨0, 0, 0⟩
     generalize patR s (fuelOf s.size) ⟨0, 0, 0⟩ = r at *
     obtain ⟨l, q⟩ := r
     simp only at h1 h2 ⊢
     refine ⟨by simp, by simp; omega, ?_, ?_⟩
     · rw [List.length_append, List.length_singleton, Nat.add_sub_cancel]
       exact wfN.append h1 (wfN.one (wf_plain (by decide) (by decide)))
     · intro i hi
       rw [List.length_append, List.length_singleton] at hi
       obtain rfl : i = l.length := by omega
       simp [List.getD_eq_getElem?_getD, List.getElem?_append_right, doneI]
   · rename_i hc
     rw [if_neg hc] at h
     exact absurd h hc
open Go.ChangeShapes Go.WideShapes Go.ChangeAt Go.RowKit
def insAt (l : List Ins) (i : Int) : Ins := l.getD i.toNat charI
def outsI (x : Ins) (i : Int) (first last : Bool) : List Int :=
 if x.kind = 2 then [x.x, x.y] else if x.kind = 3 then [x.x] else if (x.kind = 4 ∧ first = true) ∨ (x.kind = 5 ∧ last = true) then [i + 1] else []
def enterR (l : List Ins) (first last : Bool) : Nat → List Int → List Bool × Bool → List Bool × Bool
 | 0, _, st => st
 | _ + 1, [], st => st
 | n + 1, i :: todo, st =>
   if st.1.getD i.toNat false = true then enterR l first last n todo st
   else enterR l first last n (outsI (insAt l i) i first last ++ todo) (st.1.set i.toNat true, st.2 || decide ((insAt l i).kind = 6))
def offs (on : List Bool) : Nat := on.countP (fun b => !b)
def entered (l : List Ins) (first last : Bool) (i : Int) (st : List Bool × Bool) : List Bool × Bool := enterR l first last (3 * l.length + 2) [i] st
def takesI (x : Ins) (c : Nat) : Bool := decide (x.kind = 1) && (bits .and .u64 (x.word (c / 64) / 2 ^ (c % 64)) 1 == 1)
def takesL (l : List Ins) (c : Nat) (last : Bool) : Nat → List Bool → List Bool × Bool → List Bool × Bool
 | _, [], st => st
 | k, on :: r, st => takesL l c last (k + 1) r (if on && takesI (insAt l k) c then entered l false last (k + 1) st else st)
def noneOn (l : List Ins) : List Bool × Bool := (List.replicate l.length false, false)
def takes (l : List Ins) (c : Nat) (last : Bool) (st : List Bool × Bool) : List Bool × Bool := takesL l c last 0 st.1 (noneOn l)
def fitsL (l : List Ins) (t : ByteArray) (whole : Bool) : Nat → Nat → List Bool × Bool → Bool
 | 0, _, st => st.2
 | n + 1, i, st =>
   if st.2 && !whole then true
   else
     let last := decide (i + 1 = t.size)
     let st1 := takes l (byteAt t i) last st
     fitsL l t whole n (i + 1) (if whole then st1 else entered l false last 0 st1)
def fitsR (pat t : ByteArray) (whole : Bool) : Bool × Int :=
 if 256 < t.size then (false, 1)
 else if (compR pat).2 ≠ 0 then (false, (compR pat).2)
 else (fitsL (compR pat).1 t whole t.size 0 (entered (compR pat).1 true (decide (t.size = 0)) 0 (noneOn (compR pat).1)), 0)
theorem outs_le (x : Ins) (i : Int) (f l : Bool) : (outsI x i f l).length ≤ 2 := by
 unfold outsI
 split
 · simp
 · split
   · simp
   · split <;> simp
theorem outs_in {l : List Ins} (h : Prg l) {i : Int} (h0 : 0 ≤ i) (h1 : i < l.length) (f t : Bool) : ∀ k ∈ outsI (insAt l i) i f t, 0 ≤ k ∧ k < l.length := by
 have hi : i.toNat < l.length := by omega
 have hx : insAt l i = l[i.toNat] := by unfold insAt; rw [List.getD_eq_getElem?_getD, List.getElem?_eq_getElem hi]; rfl
 have hw := h.wf l[i.toNat] (List.getElem_mem hi)
 have hp := h.pos
 intro k hk
 unfold outsI at hk
 split at hk
 · rename_i h2
   rw [hx] at h2 hk
   have := hw.1 h2
   simp only [List.mem_cons, List.not_mem_nil, or_false] at hk
   omega
 · split at hk
   · rename_i h3
     rw [hx] at h3 hk
     have := hw.2 h3
     simp only [List.mem_cons, List.not_mem_nil, or_false] at hk
     omega
   · split at hk
     · rename_i h4
       simp only [List.mem_cons, List.not_mem_nil, or_false] at hk
       by_cases he : i.toNat + 1 = l.length
       · have := h.last i.toNat he
         unfold insAt at h4
         rw [this] at h4
         simp at h4
       · omega
     · cases hk
theorem set_offs {on : List Bool} {i : Nat} (h : on.getD i false = false) (hi : i < on.length) : offs (on.set i true) + 1 = offs on := by
 unfold offs
 rw [List.getD_eq_getElem?_getD, List.getElem?_eq_getElem hi] at h
 have h : on[i] = false := h
 have key : ∀ (l : List Bool) (i : Nat) (hi : i < l.length), l[i] = false → (l.set i true).countP (fun b => !b) + 1 = l.countP (fun b => !b) := by
   intro l
   induction l with
   | nil => intro i hi; simp at hi
   | cons a l ih =>
     intro i hi h
     cases i with
     | zero => simp only [List.getElem_cons_zero] at h; subst h; simp
     | succ i =>
       simp only [List.getElem_cons_succ] at h
       have := ih i (by simpa using hi) h
       simp only [List.set_cons_succ, List.countP_cons]
       omega
 exact key on i hi h
theorem offs_le (on : List Bool) : offs on ≤ on.length := List.countP_le_length
theorem enter_nil (l : List Ins) (f t : Bool) (n : Nat) (st : List Bool × Bool) : enterR l f t n [] st = st := by cases n <;> rfl
theorem takes_in {l : List Ins} (h : Prg l) {k c : Nat} (hk : k < l.length) (ht : takesI (insAt l k) c = true) : k + 1 < l.length := by
 by_cases he : k + 1 = l.length
 · have := h.last k he
   unfold takesI insAt at ht
   rw [Int.toNat_natCast, this] at ht
   simp at ht
 · omega
open Go.ChangeShapes Go.WideShapes Go.ChangeAt Go.RowKit
def IntR : Reader Int where
 k := 1
 rd := fun _ _ i vs => vs = [.int .i64 i]
 keep := fun _ _ h => h
 wide := fun _ h => h
 len := fun h => by subst h; rfl
theorem single_int : Single IntR := fun {w B x vs} h u hu => by
 obtain rfl : vs = [.int .i64 x] := h
 simp only [List.mem_cons, List.not_mem_nil, or_false] at hu
 subst hu; rfl
theorem infoInt : (Tryz.prog.info? 3).map (fun i => (i.zero, i.size, i.bytes)) = some (some (.int .i64 0), 1, 8) := by kernel_rfl
theorem infoBool : (Tryz.prog.info? 4).map (fun i => (i.zero, i.size, i.bytes)) = some (some (.bool false), 1, 1) := by kernel_rfl
section
variable {α : Type} {R : Reader α} {e T : TypeId} {w w' : World} {base B D : Nat} {v : Value} {xs : List α} {vs : Array Value}
theorem OwnR.ne (h : OwnR R e w base B v xs) (hD : BlkT w D vs T) (hT : T ≠ e) : v.ownBlock ≠ some D := by
 obtain ⟨cells, h, _⟩ := h
 rcases h.2 with ⟨h1, _⟩ | ⟨g, cap, cur, hv, hg, hh, r⟩
 · rw [h1]; simp [Value.ownBlock]
 · rw [hv]
   simp only [Value.ownBlock, ne_eq, Option.some.injEq]
   intro hgd
   subst hgd
   unfold BlkT at hD
   rw [hD] at hh
   simp only [Option.some.injEq, Obj.cells.injEq] at hh
   exact hT hh.2.1
theorem OwnR.farT (h : OwnR R e w base 0 v xs) (hD : BlkT w D vs T) (hT : T ≠ e) (i : Nat) (u : Value) : OwnR R e (w.setCell ⟨D, i, none⟩ u) base 0 v xs := by
 have hne := h.ne hD hT
 obtain ⟨cells, h, hf⟩ := h
 refine ⟨cells, ⟨h.1, ?_⟩, hf.keep ((Below.refl 0 w).setCell (p := ⟨D, i, none⟩) (Nat.zero_le _) u) (Nat.le_refl _)⟩
 rcases h.2 with h2 | ⟨g, cap, cur, hv, hg, hh, r⟩
 · exact .inl h2
 · refine .inr ⟨g, cap, cur, hv, hg, ?_, r⟩
   rw [hv] at hne
   simp only [Value.ownBlock, ne_eq, Option.some.injEq] at hne
   exact (Below.heap_setCell w ⟨D, i, none⟩ u g hne).trans hh
theorem BlkT.grown {row : Option Nat} (h : BlkT w D vs T) (hg : w.grownBy w' row) (hne : row ≠ some D) : BlkT w' D vs T := by
 exact (hg.block D h.blk.lt (Ne.symm hne)).trans h
end
def KeepsT (D : Nat) (w w' : World) : Prop := ∀ b vs T, T ≠ 3 → b ≠ D → BlkT w b vs T → BlkT w' b vs T
theorem KeepsT.trans {D : Nat} {a b c : World} (h : KeepsT D a b) (k : KeepsT D b c) : KeepsT D a c := fun x vs T h1 h2 h3 => k x vs T h1 h2 (h x vs T h1 h2 h3)
structure Stk (D base : Nat) (w : World) (A : Option Addr) (c : Nat) (xs : List Int) : Prop where
 hd : BlkT w D #[.slice A xs.length c] 128
 own : OwnR IntR 3 w base 0 (.slice A xs.length c) xs
theorem t_ne : (128 : TypeId) ≠ 3 := by decide
def PushE (D base : Nat) (w w' : World) (xs : List Int) (e : Ending) : Prop :=
 e = .returned (.tuple #[]) ∧ Below base w w' ∧ KeepsT D w w' ∧ ∃ A c, Stk D base w' A c xs
set_option maxRecDepth 100000 in
set_option maxHeartbeats 1000000 in
theorem push_any {w : World} {D base c : Nat} {A : Option Addr} {xs : List Int} {k : Int} (hs : Stk D base w A c xs) (hb : base ≤ w.heap.size) (hbD : base ≤ D) (hn : xs.length ≤ 100000) :
   Calls Tryz.prog 157 #[.int .i64 k, .pointer (some ⟨D, 0, none⟩)] w fun e w' => PushE D base w w' (xs ++ [k]) e := by
 obtain ⟨i0, hi0, hz0, hz1, hz2⟩ := info_parts infoInt
 have HS := Lib.hid hs
 have k_d := hs.hd.blk.cell
 have f_d := hs.hd.blk.free
 have l_d := hs.hd.blk.lt
 have hb1 := below_new (w := w) (o := .cells #[.int .i64 k] 3) rfl
 have HN := Lib.hid (And.intro (And.intro (hs.own.later hb1 (Nat.zero_le _)) (hs.hd.later hb1)) (Blk.src (R := IntR) (B := 0) (x := k) (Blk.new w #[.int .i64 k] 3) rfl))
 clear hs hb1
 go_enter Tryz.func157, Tryz.ntmps157
 go_wp2_with ((
   at_builtin
   refine wpList_plain rfl fun _ hK => wp_append_R (R := IntR) (e := 3) (base := base) (B := 0) (xs := xs) (ys := [k]) (.tmp 3) (.tmp 5) 128 rfl (bytes := 8) Tryz.underlying128 hi0 hz0 hz1 hz2 rfl (show 0 < 1 by omega) single_int rfl HN.out.1.1 rfl HN.out.2 rfl (Nat.zero_le _) (by simp only [List.length_cons, List.length_nil]; omega) (by omega) (by rw [World.size_alloc]; omega) ?_
   intro v w2 hown hb2 hg2
   refine hK _ _ ?_
   obtain ⟨A2, c2, rfl⟩ := hown.form
   have hne := HN.out.1.1.ne HN.out.1.2 t_ne
   have bd := HN.out.1.2.grown hg2 hne
   have kd2 := bd.blk.cell
   have fd2 := bd.blk.free
   have HW := Lib.hid hown
   have HB2 := Lib.hid (And.intro hb2 hg2)
   have HBD := Lib.hid bd
   clear hown hb2 hg2 hne bd k_d f_d l_d))
 go_end0
 have e1 : xs.length + 1 = (xs ++ [k]).length := by simp
 rw [e1]
 refine ⟨rfl, ?_, ?_, A2, c2, HBD.out.set_ 0 _, HW.out.farT HBD.out t_ne 0 _⟩
 · exact (((Below.refl base w).alloc hb _).trans HB2.out.1).setCell (p := ⟨D, 0, none⟩) hbD _
 · intro b vs T hT hbd hbt
   have h1 := hbt.later (below_new (w := w) (o := .cells #[.int .i64 k] 3) rfl)
   exact (h1.grown HB2.out.2 (HN.out.1.1.ne h1 hT)).far hbd 0 _
theorem Stk.pop {D base c : Nat} {w : World} {A : Option Addr} {xs : List Int} {k : Int} (h : Stk D base w A c (xs ++ [k])) :
   ∃ g, A = some ⟨g, 0, none⟩ ∧ g ≠ D ∧ xs.length + 1 ≤ c ∧ c ≤ maxLen ∧ w.cell? ⟨g, xs.length, none⟩ = some (.int .i64 k) ∧ Stk D base (w.setCell ⟨D, 0, none⟩ (.slice A xs.length c)) A c xs := by
 have hne := h.own.ne h.hd t_ne
 have hfar := h.own.farT h.hd t_ne 0 (.slice A xs.length c)
 obtain ⟨cells, ho, hf⟩ := h.own
 have hl : cells.length = xs.length + 1 := by have := hf.1; simpa [IntR] using this
 rcases ho.2 with ⟨h1, h2⟩ | ⟨g, cap, cur, hv, hg, hh, k1, k2, k3, k4⟩
 · simp at h2
 · simp only [Value.slice.injEq] at hv
   obtain ⟨rfl, _, rfl⟩ := hv
   simp only [Value.ownBlock, ne_eq, Option.some.injEq] at hne
   rw [List.length_append, List.length_singleton] at k1
   have hcell : cells[xs.length]? = some (.int .i64 k) := by
     have := hf.2 xs.length (by simp)
     simp only [IntR, Nat.mul_one, List.getElem_append_right (Nat.le_refl _), Nat.sub_self, List.getElem_singleton] at this
     have h3 : ((cells.drop xs.length).take 1)[0]? = some (.int .i64 k) := by rw [this]; rfl
     rw [List.getElem?_take, if_pos (by omega), List.getElem?_drop] at h3
     simpa using h3
   refine ⟨g, rfl, hne, k1, k2, ?_, ?_, ?_⟩
   · rw [cell_of_row w g _ cur 3 (0, 0) hh]
     rw [← k4, List.getElem?_take] at hcell
     split at hcell
     · simpa using hcell
     · cases hcell
   · exact h.hd.set_ 0 _
   · obtain ⟨cells', ho', hf'⟩ := hfar
     rcases ho'.2 with ⟨h1', h2'⟩ | ⟨g', cap', cur', hv', hg', hh', k1', k2', k3', k4'⟩
     · simp at h2'
     · simp only [Value.slice.injEq, Option.some.injEq, Addr.mk.injEq, and_true] at hv'
       obtain ⟨rfl, _, rfl⟩ := hv'
       have hl' : cells'.length = xs.length + 1 := by have := hf'.1; simpa [IntR] using this
       refine ⟨cells'.take xs.length, ⟨by simp [IntR, hl'], .inr ⟨g, c, cur', rfl, hg', hh', by omega, k2', k3', ?_⟩⟩, ?_⟩
       · have e2 : (xs ++ [k]).length * IntR.k = xs.length + 1 := by simp [IntR]
         rw [e2] at k4'
         rw [← k4', List.take_take]
         congr 1
         simp [IntR]
       · have := hf'.take xs.length
         simpa [IntR] using this
end Go.Proofs.YtiplipdigabidaaGreat
