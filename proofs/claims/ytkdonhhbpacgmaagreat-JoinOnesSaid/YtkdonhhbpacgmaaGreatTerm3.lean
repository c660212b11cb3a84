/- term.compared, term.Compare, term.Same. -/
import Derived.Test.YtkdonhhbpacgmaaGreatTerm1
set_option linter.unusedVariables false
set_option linter.unusedSimpArgs false
namespace Go.Proofs.YtkdonhhbpacgmaaGreat
open Go.ChangeShapes Go.WideShapes Go.ChangeAt Go.RowKit
def cmpL (f : Tm → Tm → Int) : List Tm → List Tm → Int
 | [], [] => 0
 | [], _ :: _ => -1
 | _ :: _, [] => 1
 | x :: xs, y :: ys => if f x y = 0 then cmpL f xs ys else f x y
def or3 (x y z : Int) : Int := if x = 0 then if y = 0 then z else y else x
def cmp3 (a b : Tm) : Int := or3 (cmpI a.kind b.kind) (cmpI a.n b.n) (cmpS (bs a.s) (bs b.s))
def cmpT : Nat → Tm → Tm → Int
 | 0, a, b => cmp3 a b
 | d + 1, a, b => if cmp3 a b = 0 then cmpL (cmpT d) a.l b.l else cmp3 a b
theorem RTm.cells {w : World} {B d : Nat} {t : Tm} {vs : List Value} (h : RTm w B d t vs) : ∃ A c, vs = [.int .i64 t.kind, .int .i64 t.n, .string t.s, .slice A t.l.length c] ∧ t.l.length ≤ c ∧ (t.l.length * 40 ≤ 140737488351232 ∧ c ≤ 9223372036854775807) ∧ t.s.size ≤ 140737488351232 ∧ I64 t.kind ∧ I64 t.n ∧ RTms w B (d - 1) t.l A := by
 match d, h with
 | d + 1, ⟨A, c, h⟩ => exact ⟨A, c, h⟩
theorem RTms.elem {w wr : World} {B d k : Nat} {ts : List Tm} {A : Option Addr} (h : RTms w B d ts A) (hbw : Below w.heap.size w wr) (hB : B ≤ w.heap.size) (hk : k < ts.length) :
   ∃ b off x Ax cx, A = some ⟨b, off, none⟩ ∧ b < wr.heap.size ∧ ts[k]? = some x ∧ wr.cell? ⟨b, off + k * 4, none⟩ = some (.int .i64 x.kind) ∧ wr.cell? ⟨b, off + k * 4 + 1, none⟩ = some (.int .i64 x.n) ∧
     wr.cell? ⟨b, off + k * 4 + 2, none⟩ = some (.string x.s) ∧ wr.cell? ⟨b, off + k * 4 + 3, none⟩ = some (.slice Ax x.l.length cx) ∧
     RTm wr B d x [.int .i64 x.kind, .int .i64 x.n, .string x.s, .slice Ax x.l.length cx] := by
 obtain ⟨b, off, rfl, hb, hc⟩ := h (by omega)
 obtain ⟨vs, hl, ⟨x, hx, hr⟩, hcell⟩ := hc k hk
 obtain ⟨Ax, cx, rfl, _⟩ := hr.cells
 have hlt : b < w.heap.size := by omega
 have hsz := hbw.size
 exact ⟨b, off, x, Ax, cx, rfl, by omega, hx, (hbw.cell (p := ⟨b, off + k * 4, none⟩) hlt).trans (hcell 0 _ rfl), (hbw.cell (p := ⟨b, off + k * 4 + 1, none⟩) hlt).trans (hcell 1 _ rfl),
   (hbw.cell (p := ⟨b, off + k * 4 + 2, none⟩) hlt).trans (hcell 2 _ rfl), (hbw.cell (p := ⟨b, off + k * 4 + 3, none⟩) hlt).trans (hcell 3 _ rfl), hr.below hbw hB⟩
theorem RTms.base {w wr : World} {B d : Nat} {ts : List Tm} {A : Option Addr} (h : RTms w B d ts A) (hbw : Below w.heap.size w wr) (hB : B ≤ w.heap.size) (hk : 0 < ts.length) :
   ∃ b off, A = some ⟨b, off, none⟩ ∧ b < wr.heap.size := by
 obtain ⟨b, off, rfl, hb, _⟩ := h hk
 exact ⟨b, off, rfl, by have := hbw.size; omega⟩
theorem RTms.at_ {w wr : World} {B d k b off : Nat} {ts : List Tm} (h : RTms w B d ts (some ⟨b, off, none⟩)) (hbw : Below w.heap.size w wr) (hB : B ≤ w.heap.size) (hk : k < ts.length) :
   ∃ x Ax cx, ts[k]? = some x ∧ wr.cell? ⟨b, off + k * 4, none⟩ = some (.int .i64 x.kind) ∧ wr.cell? ⟨b, off + k * 4 + 1, none⟩ = some (.int .i64 x.n) ∧
     wr.cell? ⟨b, off + k * 4 + 2, none⟩ = some (.string x.s) ∧ wr.cell? ⟨b, off + k * 4 + 3, none⟩ = some (.slice Ax x.l.length cx) ∧
     RTm wr B d x [.int .i64 x.kind, .int .i64 x.n, .string x.s, .slice Ax x.l.length cx] := by
 obtain ⟨b', off', x, Ax, cx, e, hb, h⟩ := h.elem hbw hB hk
 simp only [Option.some.injEq, Addr.mk.injEq, and_true] at e
 obtain ⟨rfl, rfl⟩ := e
 exact ⟨x, Ax, cx, h⟩
set_option maxHeartbeats 1000000 in
theorem compareFunc_any (F : FuncId) (cap : Array Value) (f : Tm → Tm → Int) (d e : Nat) (xs ys : List Tm) (A A' : Option Addr) (c c' B : Nat) (w : World)
   (hF : ∀ args (w : World), (callFunc F args).run Tryz.prog w = .ok (.enter F args) w)
   (hA : RTms w B d xs A) (hA' : RTms w B e ys A') (hB : B ≤ w.heap.size) (hn : xs.length * 40 ≤ 140737488351232) (hn' : ys.length * 40 ≤ 140737488351232)
   (hf : ∀ (x y : Tm) (vs ws : List Value) (w1 : World), Below w.heap.size w w1 → RTm w1 B d x vs → RTm w1 B e y ws →
     Calls Tryz.prog F (#[.agg vs.toArray, .agg ws.toArray] ++ cap) w1 fun e w' => e = .returned (.int .i64 (f x y)) ∧ Below w1.heap.size w1 w') :
   Calls Tryz.prog 78 #[.slice A xs.length c, .slice A' ys.length c', .func (.func F) #[] cap] w fun e w' => e = .returned (.int .i64 (cmpL f xs ys)) ∧ Below w.heap.size w w' := by
 have HF := Lib.hid hf
 clear hf
 go_enter Tryz.func78, Tryz.ntmps78
 go_wp2_with fail
 go_loopw [13] (fun i wr => ∃ k : Nat, k ≤ xs.length ∧ i = .int .i64 k ∧ Below w.heap.size w wr ∧ cmpL f xs ys = cmpL f (xs.drop k) (ys.drop k)) (fun i _ => xs.length - (intOf i).toNat)
 case atStart => exact ⟨0, Nat.zero_le _, rfl, Below.refl _ _, rfl⟩
 case round =>
   obtain ⟨k, hk, rfl, hbw, heq⟩ := hrel
   have HE := Lib.hid heq
   clear heq
   by_cases hlt : k < xs.length
   · obtain ⟨b, off, x, Ax, cx, rfl, hb, hx, c0, c1, c2, c3, hr⟩ := hA.elem hbw hB hlt
     by_cases hlt2 : k < ys.length
     · obtain ⟨b', off', y, Ay, cy, rfl, hb', hy, e0, e1, e2, e3, hr'⟩ := hA'.elem hbw hB hlt2
       have hsz := hbw.size
       have hbw2 : ∀ o o' : Obj, Below w.heap.size w ((wr.alloc o).alloc o') := fun o o' => (hbw.alloc hsz _).alloc (by simp; omega) _
       have hbr2 : ∀ o o' : Obj, Below wr.heap.size wr ((wr.alloc o).alloc o') := fun o o' => ((Below.refl _ _).alloc (Nat.le_refl _) _).alloc (by simp) _
       have HB := Lib.hid hbw2
       have HR := Lib.hid hbr2
       have hx' : xs.drop k = x :: xs.drop (k + 1) := by
         obtain ⟨h1, h2⟩ := List.getElem?_eq_some_iff.1 hx
         rw [← h2]; exact List.drop_eq_getElem_cons h1
       have hy' : ys.drop k = y :: ys.drop (k + 1) := by
         obtain ⟨h1, h2⟩ := List.getElem?_eq_some_iff.1 hy
         rw [← h2]; exact List.drop_eq_getElem_cons h1
       have HE2 : Hid (cmpL f xs ys = if f x y = 0 then cmpL f (xs.drop (k + 1)) (ys.drop (k + 1)) else f x y) := by
         have := HE.out
         rw [hx', hy'] at this
         exact this
       clear hbw2 hbr2 hx' hy' HE
       go_wp2_with fail
       refine (HF.out x y [_, _, _, _] [_, _, _, _] _ (HB.out _ _) (hr.below (HR.out _ _) (by omega)) (hr'.below (HR.out _ _) (by omega))).mono ?_
       rintro e w1 ⟨rfl, hb1⟩
       have hbw1 := Lib.hid ((HB.out _ _).trans (hb1.mono (by simp; omega)))
       clear hb1
       by_cases hz : (f x y != 0) = true
       · go_wp2_with fail
         go_ret
         exact ⟨ret_int (by rw [HE2.out, if_neg (by simpa using hz)]), hbw1.out⟩
       · have hz' : (f x y != 0) = false := by simpa using hz
         go_wp2_with fail
         go_roundw
         case rel => exact ⟨k + 1, by omega, by go_num, hbw1.out, by rw [HE2.out, if_pos (by simpa using hz')]⟩
         case measure => simp [intOf]; omega
     · have hz : ys.drop k = [] := List.drop_eq_nil_iff.2 (by omega)
       have HE2 : Hid (cmpL f xs ys = 1) := by
         have := HE.out
         obtain ⟨h1, h2⟩ := List.getElem?_eq_some_iff.1 hx
         rw [List.drop_eq_getElem_cons h1, hz] at this
         exact this
       have hbw2 := Lib.hid (fun o : Obj => hbw.alloc hbw.size o)
       clear HE hz
       go_wp2_with fail
       go_ret
       exact ⟨ret_int HE2.out.symm, hbw2.out _⟩
   · have hz : xs.drop k = [] := List.drop_eq_nil_iff.2 (by omega)
     have HE2 := HE.out
     rw [hz] at HE2
     have HE3 := Lib.hid HE2
     clear HE HE2 hz
     by_cases hlt2 : xs.length < ys.length
     · go_wp2_with fail
       go_ret
       obtain rfl : k = xs.length := by omega
       exact ⟨ret_int (by rw [HE3.out, List.drop_eq_getElem_cons hlt2]; rfl), hbw⟩
     · go_wp2_with fail
       go_ret
       obtain rfl : k = xs.length := by omega
       exact ⟨ret_int (by rw [HE3.out, List.drop_eq_nil_iff.2 (by omega)]; rfl), hbw⟩
def OrRel (x y z : Int) (i : Value) : Prop := i = .int .i64 0 ∨ (i = .int .i64 1 ∧ x = 0) ∨ (i = .int .i64 2 ∧ x = 0 ∧ y = 0) ∨ (i = .int .i64 3 ∧ x = 0 ∧ y = 0 ∧ z = 0)
set_option maxHeartbeats 1000000 in
theorem orInt_any (x y z : Int) (b : Nat) (w : World) (h0 : w.cell? ⟨b, 0, none⟩ = some (.int .i64 x)) (h1 : w.cell? ⟨b, 1, none⟩ = some (.int .i64 y)) (h2 : w.cell? ⟨b, 2, none⟩ = some (.int .i64 z)) :
   Calls Tryz.prog 76 #[.slice (some ⟨b, 0, none⟩) 3 3] w fun e w' => e = .returned (.int .i64 (or3 x y z)) ∧ w = w' := by
 go_enter Tryz.func76, Tryz.ntmps76
 go_wp2_with fail
 go_loop [8] (fun i => OrRel x y z i) (fun i => 3 - (intOf i).toNat)
 case atStart => exact .inl rfl
 case round =>
   rcases hrel with rfl | ⟨rfl, hx⟩ | ⟨rfl, hx, hy⟩ | ⟨rfl, hx, hy, hz⟩
   · by_cases h : (x != 0) = true
     · go_wp2_with fail
       go_ret
       exact ⟨ret_int (by rw [or3, if_neg (by simpa using h)]), rfl⟩
     · have h : (x != 0) = false := by simpa using h
       go_wp2_with fail
       go_round
       case rel => exact .inr (.inl ⟨rfl, by simpa using h⟩)
       case measure => simp [intOf]
   · have HX := Lib.hid hx
     clear hx
     by_cases h : (y != 0) = true
     · go_wp2_with fail
       go_ret
       exact ⟨ret_int (by rw [or3, if_pos HX.out, if_neg (by simpa using h)]), rfl⟩
     · have h : (y != 0) = false := by simpa using h
       go_wp2_with fail
       go_round
       case rel => exact .inr (.inr (.inl ⟨rfl, HX.out, by simpa using h⟩))
       case measure => simp [intOf]
   · have HX := Lib.hid hx
     have HY := Lib.hid hy
     clear hx hy
     by_cases h : (z != 0) = true
     · go_wp2_with fail
       go_ret
       exact ⟨ret_int (by rw [or3, if_pos HX.out, if_pos HY.out]), rfl⟩
     · have h : (z != 0) = false := by simpa using h
       go_wp2_with fail
       go_round
       case rel => exact .inr (.inr (.inr ⟨rfl, HX.out, HY.out, by simpa using h⟩))
       case measure => simp [intOf]
   · have HX := Lib.hid hx
     have HY := Lib.hid hy
     have HZ := Lib.hid hz
     clear hx hy hz
     go_wp2_with fail
     go_ret
     exact ⟨ret_int (by rw [or3, if_pos HX.out, if_pos HY.out, HZ.out]), rfl⟩
open Go.ChangeShapes Go.WideShapes Go.ChangeAt Go.RowKit
theorem flip_ {P : Program} {f : FuncId} {args : Array Value} {w : World} {v : Ending} (h : Calls P f args w fun e w' => e = v ∧ w = w') : Calls P f args w fun e w' => e = v ∧ w' = w :=
 h.mono fun _ _ h => ⟨h.1, h.2.symm⟩
theorem wp_region_still_tail' {P : Program} {id : Nat} {Q : Exit → Act → World → Prop} {a : Act} {w : World} {l : List Oper} (n : Nat) (hm : P.follows .mixedOrders = true) (hB : Region.lexTailB .any l.toArray n = true)
   (h : wpStill P l.toArray w.drew (fun a' => wpList P l.toArray Q (l.drop n) a' w.drew) (l.take n) a) : (Code.region id l.toArray true).wp P Q a w :=
 wp_region_still_tail n hm hB h
theorem below4 (w : World) (o1 o2 o3 o4 : Obj) : Below w.heap.size w ((((w.alloc o1).alloc o2).alloc o3).alloc o4).drew :=
 ((((((Below.refl _ _).alloc (Nat.le_refl _) _).alloc (by simp) _).alloc (by simp; omega) _).alloc (by simp; omega) _)).drew
theorem enters90 : ∀ args (w : World), (callFunc 152 args).run Tryz.prog w = .ok (.enter 152 args) w := ent Tryz.func152 (by kernel_rfl) rfl
set_option maxRecDepth 100000 in
set_option maxHeartbeats 400000 in
theorem comparedC_any (d : Nat) (hd : d ≤ 100) (ih : ∀ (da db : Nat) (a b : Tm) (vs ws : List Value) (B : Nat) (w : World), RTm w B da a vs → RTm w B db b ws → B ≤ w.heap.size →
   Calls Tryz.prog 126 #[.agg vs.toArray, .agg ws.toArray, .int .i64 d] w fun e w' => e = .returned (.int .i64 (cmpT d a b)) ∧ Below w.heap.size w w')
   (da db : Nat) (a b : Tm) (vs ws : List Value) (G B : Nat) (w : World) (hG : w.cell? ⟨G, 0, none⟩ = some (.int .i64 (d + 1))) (ha : RTm w B da a vs) (hb : RTm w B db b ws) (hB : B ≤ w.heap.size) :
   Calls Tryz.prog 152 #[.agg vs.toArray, .agg ws.toArray, .pointer (some ⟨G, 0, none⟩)] w fun e w' => e = .returned (.int .i64 (cmpT d a b)) ∧ Below w.heap.size w w' := by
 have HI := Lib.hid ih
 clear ih
 obtain ⟨A, c, rfl, _⟩ := ha.cells
 obtain ⟨A', c', rfl, _⟩ := hb.cells
 have hGl : G < w.heap.size := block_lt_of_cell hG
 go_enter Tryz.func152, Tryz.ntmps152
 have hbel : Below w.heap.size w ((w.alloc (.cells #[.int .i64 a.kind, .int .i64 a.n, .string a.s, .slice A a.l.length c] 44)).alloc (.cells #[.int .i64 b.kind, .int .i64 b.n, .string b.s, .slice A' b.l.length c'] 44)) :=
   ((Below.refl _ _).alloc (Nat.le_refl _) _).alloc (by simp) _
 have HB := Lib.hid hbel
 clear hbel
 go_wp2_with fail
 refine (HI.out da db a b [_, _, _, _] [_, _, _, _] B _ (ha.below HB.out hB) (hb.below HB.out hB) (Nat.le_trans hB HB.out.size)).mono ?_
 rintro e w1 ⟨rfl, hb1⟩
 have hfin := Lib.hid (HB.out.trans (hb1.mono HB.out.size))
 clear hb1
 go_wp2_with fail
 go_ret
 exact ⟨rfl, hfin.out⟩
set_option maxRecDepth 100000 in
set_option maxHeartbeats 2000000 in
theorem compared_any (d : Nat) (hd : d ≤ 100) : ∀ (da db : Nat) (a b : Tm) (vs ws : List Value) (B : Nat) (w : World), RTm w B da a vs → RTm w B db b ws → B ≤ w.heap.size →
   Calls Tryz.prog 126 #[.agg vs.toArray, .agg ws.toArray, .int .i64 d] w fun e w' => e = .returned (.int .i64 (cmpT d a b)) ∧ Below w.heap.size w w' := by
 induction d with
 | zero =>
   intro da db a b vs ws B w ha hb hB
   obtain ⟨A, c, rfl, _⟩ := ha.cells
   obtain ⟨A', c', rfl, _⟩ := hb.cells
   show Calls _ _ #[_, _, .int .i64 0] _ _
   go_enter Tryz.func126, Tryz.ntmps126
   go_wp2_with fail
   refine wp_region_still_tail' 15 (by kernel_rfl) (by kernel_rfl) ?_
   simp only [List.take_succ_cons, List.take_zero, List.drop_succ_cons, List.drop_zero]
   repeat still_step
   still_call (flip_ (cmpInt_any _ _ _))
   repeat still_step
   still_call (flip_ (cmpInt64_any _ _ _))
   repeat still_step
   still_call (flip_ (cmpStr_any _ _ _))
   refine wpStill_nil ?_
   go_wp2_with fail
   refine (orInt_any (cmpI a.kind b.kind) (cmpI a.n b.n) (cmpS (bs a.s) (bs b.s)) _ _ (by go_simp) (by go_simp) (by go_simp)).mono ?_
   rintro e w' ⟨rfl, rfl⟩
   by_cases hz : (cmp3 a b != 0) = true
   all_goals (unfold cmp3 at hz; try rw [Bool.not_eq_true] at hz)
   all_goals
     go_wp2_with fail
     go_ret
     exact ⟨rfl, below4 _ _ _ _ _⟩
 | succ d ih =>
   intro da db a b vs ws B w ha hb hB
   obtain ⟨A, c, rfl, _⟩ := ha.cells
   obtain ⟨A', c', rfl, _⟩ := hb.cells
   go_enter Tryz.func126, Tryz.ntmps126
   go_wp2_with fail
   refine wp_region_still_tail' 15 (by kernel_rfl) (by kernel_rfl) ?_
   simp only [List.take_succ_cons, List.take_zero, List.drop_succ_cons, List.drop_zero]
   repeat still_step
   still_call (flip_ (cmpInt_any _ _ _))
   repeat still_step
   still_call (flip_ (cmpInt64_any _ _ _))
   repeat still_step
   still_call (flip_ (cmpStr_any _ _ _))
   refine wpStill_nil ?_
   go_wp2_with fail
   refine (orInt_any (cmpI a.kind b.kind) (cmpI a.n b.n) (cmpS (bs a.s) (bs b.s)) _ _ (by go_simp) (by go_simp) (by go_simp)).mono ?_
   rintro e w' ⟨rfl, rfl⟩
   have hd0 : (((d + 1 : Nat) : Int) == 0) = false := by simp; omega
   by_cases hz : (cmp3 a b != 0) = true
   all_goals (have HZ := Lib.hid hz; unfold cmp3 at hz; try rw [Bool.not_eq_true] at hz)
   · go_wp2_with fail
     go_ret
     exact ⟨ret_int (by rw [cmpT, if_neg (by simpa using HZ.out)]; rfl), below4 _ _ _ _ _⟩
   · go_wp2_with fail
     obtain ⟨_, _, e1, a1, a2, a3, a4, a5, hA⟩ := ha.cells
     obtain ⟨rfl, rfl⟩ : _ ∧ _ := by simpa using e1
     obtain ⟨_, _, e2, b1, b2, b3, b4, b5, hB'⟩ := hb.cells
     obtain ⟨rfl, rfl⟩ : _ ∧ _ := by simpa using e2
     have hbel := below4 w (.cells #[.int .i64 a.kind, .int .i64 a.n, .string a.s, .slice A a.l.length c] 44) (.cells #[.int .i64 b.kind, .int .i64 b.n, .string b.s, .slice A' b.l.length c'] 44)
       (.cells #[.int .i64 (d + 1)] 3) (.cells #[.int .i64 (cmpI a.kind b.kind), .int .i64 (cmpI a.n b.n), .int .i64 (cmpS (bs a.s) (bs b.s))] 3)
     refine (compareFunc_any 152 _ (cmpT d) (da - 1) (db - 1) a.l b.l A A' c c' B _ enters90 (hA.below hbel hB) (hB'.below hbel hB) (Nat.le_trans hB hbel.size) (by omega) (by omega) ?_).mono ?_
     · intro x y vs ws w1 hb1 hx hy
       refine (comparedC_any d (by omega) (fun da db a b vs ws B w h1 h2 h3 => ih (by omega) da db a b vs ws B w h1 h2 h3) _ _ x y vs ws _ B w1 ((hb1.cell (by simp)).trans (by go_simp)) hx hy (Nat.le_trans hB (Nat.le_trans hbel.size hb1.size)))
     · rintro e w1 ⟨rfl, hb1⟩
       have hfin := hbel.trans (hb1.mono hbel.size)
       clear hb1 hbel
       go_wp2_with fail
       go_ret
       exact ⟨ret_int (by rw [cmpT, if_pos (by simpa using HZ.out)]), hfin⟩
set_option maxRecDepth 100000 in
set_option maxHeartbeats 400000 in
theorem compare_any (da db : Nat) (a b : Tm) (vs ws : List Value) (B : Nat) (w : World) (ha : RTm w B da a vs) (hb : RTm w B db b ws) (hB : B ≤ w.heap.size) :
   Calls Tryz.prog 79 #[.agg vs.toArray, .agg ws.toArray] w fun e w' => e = .returned (.int .i64 (cmpT 3 a b)) ∧ Below w.heap.size w w' := by
 obtain ⟨A, c, rfl, _⟩ := ha.cells
 obtain ⟨A', c', rfl, _⟩ := hb.cells
 have hbel : Below w.heap.size w ((w.alloc (.cells #[.int .i64 a.kind, .int .i64 a.n, .string a.s, .slice A a.l.length c] 44)).alloc (.cells #[.int .i64 b.kind, .int .i64 b.n, .string b.s, .slice A' b.l.length c'] 44)) :=
   ((Below.refl _ _).alloc (Nat.le_refl _) _).alloc (by simp) _
 have HB := Lib.hid hbel
 clear hbel
 go_enter Tryz.func79, Tryz.ntmps79
 go_wp2_with fail
 refine (compared_any 3 (by omega) da db a b [_, _, _, _] [_, _, _, _] B _ (ha.below HB.out hB) (hb.below HB.out hB) (Nat.le_trans hB HB.out.size)).mono ?_
 rintro e w1 ⟨rfl, hb1⟩
 have hfin := Lib.hid (HB.out.trans (hb1.mono HB.out.size))
 clear hb1
 go_wp2_with fail
 go_ret
 exact ⟨rfl, hfin.out⟩
end Go.Proofs.YtkdonhhbpacgmaaGreat
