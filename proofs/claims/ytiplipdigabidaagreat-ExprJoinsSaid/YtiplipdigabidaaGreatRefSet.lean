/- viaticumref6.Set. -/
import Derived.Test.YtiplipdigabidaaGreatRefHas
import Derived.Test.YtiplipdigabidaaGreatOwnS
import Derived.Test.YtiplipdigabidaaGreatSet2
import Derived.Test.YtiplipdigabidaaGreatFixP
import Derived.Test.YtiplipdigabidaaGreatPush
set_option linter.unusedVariables false
set_option linter.unusedSimpArgs false
namespace Go.Proofs.YtiplipdigabidaaGreat
open Go.ChangeShapes Go.WideShapes Go.ChangeAt Go.RowKit
def foldS (l : List Tm) (k : Nat) : List Tm := (l.take k).foldl (fun out t => insL (cmpT 3) t out) []
theorem refCompare_dd {d B : Nat} {a b : Tm} {va vb : List Value} {w : World} (ha : RTm w B d a va) (hb : RTm w B d b vb) (hB : B ≤ w.heap.size) :
   Calls Tryz.prog 39 #[.agg va.toArray, .agg vb.toArray] w fun e w' => e = .returned (.int .i64 (cmpT 3 a b)) ∧ Below w.heap.size w w' := refCompare_any ha hb hB
theorem foldS_succ {l : List Tm} {k : Nat} {x : Tm} (h : l[k]? = some x) : foldS l (k + 1) = insL (cmpT 3) x (foldS l k) := by
 obtain ⟨hk, e⟩ := List.getElem?_eq_some_iff.1 h
 unfold foldS
 rw [List.take_succ_eq_append_getElem hk, List.foldl_append, e]; rfl
theorem foldS_end {l : List Tm} {k : Nat} (h : l.length ≤ k) : foldS l k = setL (cmpT 3) l := by unfold foldS setL; rw [List.take_of_length_le h]
theorem foldS_len (l : List Tm) : ∀ k, (foldS l k).length ≤ k := by
 intro k
 induction k with
 | zero => simp [foldS]
 | succ k ih =>
   rcases h : l[k]? with _ | x
   · have : foldS l (k + 1) = foldS l k := by
       have hk := List.getElem?_eq_none_iff.1 h
       unfold foldS; rw [List.take_of_length_le (by omega), List.take_of_length_le hk]
     rw [this]; omega
   · rw [foldS_succ h]
     have := insL_le (c := cmpT 3) (t := x) (xs := foldS l k)
     omega
theorem set_bad {l : List Tm} {k : Nat} {x : Tm} (h : l[k]? = some x) (hb : badB (headK l) x = true) : setR l = (noT, 1) := by
 unfold setR setArgB; rw [any_true (p := badB (headK l)) h hb]; simp
theorem set_long {l : List Tm} (h : ¬ l.length ≤ 16) : setR l = (noT, 1) := by
 unfold setR setArgB; rw [decide_eq_false h]; rfl
theorem set_good {l : List Tm} {k : Nat} (h16 : l.length ≤ 16) (hk : l.length ≤ k) (h : ∀ j (hj : j < k) (hj' : j < l.length), badB (headK l) l[j] = false) : setR l = (setT l, 0) := by
 unfold setR setArgB; rw [any_false (p := badB (headK l)) hk h, decide_eq_true h16]; rfl
structure RInv (d B R O base : Nat) (wr : World) (out : List Tm) (A : Option Addr) (c : Nat) : Prop where
 res : Blk wr R zero4
 set_ : Blk wr O (set4 A out.length c)
 own : OwnR (TmR d) 33 wr base B (.slice A out.length c) out
theorem RInv.later {d B R O base c : Nat} {w w' : World} {out : List Tm} {A : Option Addr} (h : RInv d B R O base w out A c) (hb : Below w.heap.size w w') (hB : B ≤ w.heap.size) : RInv d B R O base w' out A c :=
 ⟨h.res.later hb, h.set_.later hb, h.own.later hb hB⟩
set_option maxRecDepth 100000 in
set_option maxHeartbeats 16000000 in
theorem refSet_any {d B c : Nat} {l : List Tm} {A : Option Addr} {w : World} (hl : RL (TmR d) w B l A) (hB : B ≤ w.heap.size) (hn : l.length ≤ 140737488351232) :
   Calls Tryz.prog 75 #[.slice A l.length c] w fun e w' => TermE d w w' (setR l) e := by
 obtain ⟨i0, hi0, hz0, hz1, hz2⟩ := info_parts infoTm
 have HL := Lib.hid hl
 clear hl
 by_cases h16 : l.length ≤ 16
 rotate_left
 · have hg : (16 : Int) < (l.length : Int) := by omega
   go_enter Tryz.func75, Tryz.ntmps75
   go_wp2_with fail
   refine bodyPost_ret (ret_tm2 rfl rfl (n11 rfl) rfl) rfl ?_
   rw [set_long h16]
   exact ⟨⟨_, _, rfl, TmOwn.no⟩, (al1 rfl).1⟩
 have hg : ¬ (16 : Int) < (l.length : Int) := by omega
 go_enter Tryz.func75, Tryz.ntmps75
 go_wp2_with fail
 generalize hW : World.alloc _ _ = w0
 obtain ⟨hb, hz⟩ := al2 hW
 have b_r := n21 hW
 have b_o := n22 hW
 have HB0 := Lib.hid hb
 have HZ0 := Lib.hid hz
 have hB0 := Nat.le_trans hB hb.size
 have HINV := Lib.hid (show RInv d B w.heap.size (w.heap.size + 1) w0.heap.size w0 (foldS l 0) none 0 from ⟨b_r, b_o, OwnR.nil _ _ _ _ _⟩)
 clear hW hz hb b_r b_o
 go_loopw [15] (fun i wr => ∃ (k : Nat) (A2 : Option Addr) (c2 : Nat), k ≤ l.length ∧ i = .int .i64 k ∧ Hid (Below w.heap.size w wr) ∧ w0.heap.size ≤ wr.heap.size ∧ Hid (RInv d B w.heap.size (w.heap.size + 1) w0.heap.size wr (foldS l k) A2 c2) ∧ Hid (∀ j (hj : j < k) (hj' : j < l.length), badB (headK l) l[j] = false)) (fun i _ => l.length - (intOf i).toNat)
 case atStart => exact ⟨0, none, 0, Nat.zero_le _, rfl, HB0, Nat.le_refl _, HINV, Lib.hid fun j hj => absurd hj (by omega)⟩
 case round =>
   obtain ⟨k, A2, c2, hk, rfl, HBW, hsz, HI, HALL⟩ := hrel
   have hBr := Nat.le_trans hB0 hsz
   have hzw := HZ0.out
   by_cases hlt : k < l.length
   rotate_left
   · have HE := Lib.hid (foldS_end (l := l) (show l.length ≤ k by omega))
     have HSR := Lib.hid (set_good h16 (show l.length ≤ k by omega) HALL.out)
     have HLN := Lib.hid (foldS_len l k)
     have HGL : Hid (∀ t ∈ foldS l k, Leaf t) := Lib.hid fun t ht => by
       have hba : ∀ t ∈ l, badB (headK l) t = false := fun t ht => by
         obtain ⟨j, hj, rfl⟩ := List.getElem_of_mem ht
         exact HALL.out j (by omega) hj
       rw [HE.out, setL_mem (cmpT_ord 3) (fun a ha b hb => good_eq (hba a ha) (hba b hb))] at ht
       exact good_leaf (hba t ht)
     generalize foldS l k = out at *
     have kO := HI.out.set_.cell
     have kR := HI.out.res.cell
     have fR := HI.out.res.free
     go_wp2_with fail
     have hbr := put4b HI.out.res (.int .i64 7) (.int .i64 0) (.string ⟨#[]⟩) (.slice A2 out.length c2)
     have how := (((HI.out.own.far (c := w.heap.size) (i := 0) (by omega) (by omega) (.int .i64 7)).far (c := w.heap.size) (i := 1) (by omega) (by omega) (.int .i64 0)).far (c := w.heap.size) (i := 2) (by omega) (by omega) (.string ⟨#[]⟩)).far (c := w.heap.size) (i := 3) (by omega) (by omega) (.slice A2 out.length c2)
     refine bodyPost_ret (ret_tm2 rfl rfl hbr rfl) rfl ?_
     have hset2 : (setT l) = ⟨7, 0, emptyS, out⟩ := by unfold setT; rw [HE.out]
     rw [HSR.out, hset2]
     exact ⟨⟨A2, c2, rfl, ⟨(how.leaves HGL.out).lower (by omega), by simp [I64], by simp [I64], by show emptyS.size ≤ _; decide, by have := HLN.out; show out.length ≤ 1000000; omega⟩⟩, put4u HBW.out (Nat.le_refl _) _ _ _ _⟩
   obtain ⟨bb, off, rfl, hob⟩ := HL.out.base HBW.out hB (by omega)
   obtain ⟨x, vs, hx, hlen, hcell, hr⟩ := HL.out.at_ HBW.out hB hlt
   obtain ⟨Ax, cx, rfl, _⟩ := RTm.cells (show RTm wr B d x vs from hr)
   have c0 : wr.cell? ⟨bb, off + k * 4, none⟩ = some (.int .i64 x.kind) := hcell 0 _ rfl
   have c1 : wr.cell? ⟨bb, off + k * 4 + 1, none⟩ = some (.int .i64 x.n) := hcell 1 _ rfl
   have c2' : wr.cell? ⟨bb, off + k * 4 + 2, none⟩ = some (.string x.s) := hcell 2 _ rfl
   have c3 : wr.cell? ⟨bb, off + k * 4 + 3, none⟩ = some (.slice Ax x.l.length cx) := hcell 3 _ rfl
   have HX := Lib.hid hx
   have HR : Hid (RTm wr B d x _) := Lib.hid hr
   obtain ⟨y, ys, hy, _, hycell, hry⟩ := HL.out.at_ (k := 0) HBW.out hB (by omega)
   obtain ⟨Ay, cy, rfl, _⟩ := RTm.cells (show RTm wr B d y ys from hry)
   have HKY : Hid (headK l = y.kind) := Lib.hid (by unfold headK; rw [List.head?_eq_getElem?, hy]; rfl)
   have f0 : wr.cell? ⟨bb, off, none⟩ = some (.int .i64 y.kind) := by simpa using hycell 0 _ rfl
   clear hcell hlen hx hr hycell hry hy
   go_wp2_with fail
   generalize hW : World.alloc _ _ = W
   obtain ⟨hb1, hz⟩ := al1 hW
   have b_x := n11 hW
   have g0 := cell_regrown ((hb1.cell (p := ⟨bb, off, none⟩) (Nat.lt_of_lt_of_le hob (by omega))).trans f0)
   have HIa := Lib.hid (HI.out.later hb1 hBr)
   have HBA := Lib.hid (bthen HBW.out hb1)
   have HRa := Lib.hid (HR.out.below hb1 hBr)
   have hsza := Nat.le_trans hsz hb1.size
   have hBa := Nat.le_trans hBr hb1.size
   have HOX : Hid (w.heap.size + 1 ≠ wr.heap.size) := Lib.hid (by omega)
   clear hW hb1 hz c0 c1 c2' c3 HBW HI HR f0 hsz hBr
   generalize hXX : wr.heap.size = X at b_x HOX ⊢
   clear hXX
   have q_x := b_x.regrown
   have hcases : ((fixedB x = false ∨ (fixedB x = true ∧ (x.kind == 7) = true) ∨ (fixedB x = true ∧ (x.kind == 7) = false ∧ (x.kind != y.kind) = true)) ∧ badB (headK l) x = true) ∨ ((fixedB x = true ∧ (x.kind == 7) = false ∧ (x.kind != y.kind) = false) ∧ badB (headK l) x = false) := by
     rw [HKY.out]
     unfold badB
     by_cases h1 : fixedB x = true
     · by_cases h2 : x.kind = 7
       · left; simp [h1, h2]
       · by_cases h3 : x.kind = y.kind
         · right; simp only [h1, h3]; rw [h3] at h2; simp [h2]
         · left; simp [h1, h2, h3]
     · left; simp only [Bool.not_eq_true] at h1; simp [h1]
   rcases hcases with ⟨hc3, hbad⟩ | ⟨⟨hf, h7, hky⟩, hbad⟩
   · have HBAD := Lib.hid (set_bad HX.out hbad)
     clear hbad
     rcases hc3 with hf | ⟨hf, h7⟩ | ⟨hf, h7, hky⟩
     all_goals
       refine wp_region_quiet_below (by kernel_rfl) (by kernel_rfl) ?_
       repeat (go_big_quiet_step ((go_at_call 18; exact Calls.regrown_of (as_bool hf (refFixed_any (HRa.out.below (below_regrown _ _ _) hBa) (Nat.le_trans hBa (below_regrown _ _ _).size))))))
       refine wpQuiet_nil ?_
       intro wc hw3
       have hb1 : Below W.heap.size W wc := by obtain ⟨p, rfl⟩ := hw3; exact below_regrown _ _ _
       clear hw3 q_x g0
       have b_r4 := (HIa.out.later hb1 hBa).res
       have HBB := Lib.hid (bthen HBA.out hb1)
       have kR := b_r4.cell
       have fR := b_r4.free
       clear hb1
       go_wp2_with fail
       have hbr := put4b b_r4 (.int .i64 0) (.int .i64 0) (.string ⟨#[]⟩) (.slice none 0 0)
       refine bodyPost_ret (ret_tm2 rfl rfl hbr rfl) rfl ?_
       rw [HBAD.out]
       exact ⟨⟨_, _, rfl, TmOwn.no⟩, put4u HBB.out (by omega) _ _ _ _⟩
   have HALL2 : Hid (∀ j (hj : j < k + 1) (hj' : j < l.length), badB (headK l) l[j] = false) := Lib.hid fun j hj hj' => by
     rcases Nat.lt_or_ge j k with h3 | h3
     · exact HALL.out j h3 hj'
     · obtain rfl : j = k := by omega
       rw [(List.getElem?_eq_some_iff.1 HX.out).2]; exact hbad
   refine wp_region_quiet_below (by kernel_rfl) (by kernel_rfl) ?_
   repeat (go_big_quiet_step ((go_at_call 18; exact Calls.regrown_of (as_bool hf (refFixed_any (HRa.out.below (below_regrown _ _ _) hBa) (Nat.le_trans hBa (below_regrown _ _ _).size))))))
   refine wpQuiet_nil ?_
   intro wc hw3
   have hb1 : Below W.heap.size W wc := by obtain ⟨p, rfl⟩ := hw3; exact below_regrown _ _ _
   have HIb := Lib.hid (HIa.out.later hb1 hBa)
   have b_x2 := b_x.later hb1
   have HBB := Lib.hid (bthen HBA.out hb1)
   have HRb := Lib.hid (HRa.out.below hb1 hBa)
   have hszb := Nat.le_trans hsza hb1.size
   have hBb := Nat.le_trans hBa hb1.size
   have HOL := Lib.hid (foldS_len l k)
   have HFS := Lib.hid (foldS_succ HX.out)
   clear hw3 q_x g0 hb1 b_x HIa HBA HRa hsza hBa hf h7 hky hbad
   generalize foldS l k = out at *
   go_wp2_with fail
   go_loopw [7] (fun i wi => ∃ (m : Nat), m ≤ out.length ∧ i = .int .i64 m ∧ Hid (Below wc.heap.size wc wi) ∧ Hid (∀ j (hj : j < m) (hj' : j < out.length), cmpT 3 out[j] x < 0)) (fun i _ => out.length - (intOf i).toNat)
   case atStart => exact ⟨0, Nat.zero_le _, rfl, Lib.hid (Below.refl _ _), Lib.hid fun j hj => absurd hj (by omega)⟩
   case round =>
     obtain ⟨m, hm, rfl, HBI, HLESS⟩ := hrel
     have hol := HOL.out
     have HIi := Lib.hid (HIb.out.later HBI.out hBb)
     have HRi := Lib.hid (HRb.out.below HBI.out hBb)
     have b_xi := b_x2.later HBI.out
     have HBi := Lib.hid (bthen HBB.out HBI.out)
     have hszi := Nat.le_trans hszb HBI.out.size
     have hBi := Nat.le_trans hBb HBI.out.size
     have q_x := b_xi.regrown
     have q_o := HIi.out.set_.regrown
     by_cases hml : m < out.length
     · obtain ⟨A9, c9, e9, r1, r2, r3⟩ := HIi.out.own.reads hBi (by have := HOL.out; show out.length * (8 * 4) ≤ _; omega)
       simp only [Value.slice.injEq] at e9
       obtain ⟨rfl, _, rfl⟩ := e9
       obtain ⟨b, off', rfl, hbl⟩ := r3.base (Below.refl _ _) (Nat.le_refl _) (show 0 < out.length by omega)
       obtain ⟨z, zs, hz, _, hzcell, hrz⟩ := r3.at0 (k := m) (Below.refl _ _) (Nat.le_refl _) hml
       obtain ⟨Az, cz, rfl, _⟩ := RTm.cells (show RTm wr wr.heap.size d z zs from hrz)
       have g0 := cell_regrown (show wr.cell? ⟨b, off' + m * 4, none⟩ = some (.int .i64 z.kind) from hzcell 0 _ rfl)
       have g1 := cell_regrown (show wr.cell? ⟨b, off' + m * 4 + 1, none⟩ = some (.int .i64 z.n) from hzcell 1 _ rfl)
       have g2 := cell_regrown (show wr.cell? ⟨b, off' + m * 4 + 2, none⟩ = some (.string z.s) from hzcell 2 _ rfl)
       have g3 := cell_regrown (show wr.cell? ⟨b, off' + m * 4 + 3, none⟩ = some (.slice Az z.l.length cz) from hzcell 3 _ rfl)
       have HZR : Hid (RTm wr wr.heap.size d z _) := Lib.hid hrz
       have HZ := Lib.hid hz
       clear hz hzcell hrz r1 r2 r3
       by_cases hcl : cmpT 3 z x < 0
       · have HCL := Lib.hid hcl
         go_wp2_with fail
         refine wp_region_quiet_below (by kernel_rfl) (by kernel_rfl) ?_
         repeat (go_big_quiet_step ((go_at_call 39; exact Calls.regrown_of (refCompare_dd (HZR.out.below (below_regrown _ _ _) (Nat.le_refl _)) ((HRi.out.more hBi).below (below_regrown _ _ _) (Nat.le_refl _)) (below_regrown _ _ _).size))))
         refine wpQuiet_nil ?_
         intro wj hw3
         have hbj : Below wr.heap.size wr wj := by obtain ⟨p, rfl⟩ := hw3; exact below_regrown _ _ _
         clear hw3
         clear q_x q_o g0 g1 g2 g3 hcl
         go_wp2_with fail
         go_roundw
         case rel => exact ⟨m + 1, by omega, by go_num, Lib.hid (bthen HBI.out hbj), Lib.hid fun j hj hj' => by
             rcases Nat.lt_or_ge j m with h3 | h3
             · exact HLESS.out j h3 hj'
             · obtain rfl : j = m := by omega
               rw [(List.getElem?_eq_some_iff.1 HZ.out).2]; exact HCL.out⟩
         case measure => simp [intOf]; omega
       · go_wp2_with fail
         refine wp_region_quiet_below (by kernel_rfl) (by kernel_rfl) ?_
         repeat (go_big_quiet_step ((go_at_call 39; exact Calls.regrown_of (refCompare_dd (HZR.out.below (below_regrown _ _ _) (Nat.le_refl _)) ((HRi.out.more hBi).below (below_regrown _ _ _) (Nat.le_refl _)) (below_regrown _ _ _).size))))
         refine wpQuiet_nil ?_
         intro wj hw3
         have hbj : Below wr.heap.size wr wj := by obtain ⟨p, rfl⟩ := hw3; exact below_regrown _ _ _
         clear hw3
         clear q_x q_o g0 g1 g2 g3
         have HIj := Lib.hid (HIi.out.later hbj hBi)
         have HRj := Lib.hid (HRi.out.below hbj hBi)
         have HZj := Lib.hid (HZR.out.below hbj (Nat.le_refl _))
         have b_xj := b_xi.later hbj
         have HBj := Lib.hid (bthen HBi.out hbj)
         have hszj := Nat.le_trans hszi hbj.size
         have hBj := Nat.le_trans hBi hbj.size
         have q_x := b_xj.regrown
         have q_o := HIj.out.set_.regrown
         obtain ⟨A9, c9, e9, r1, r2, r3⟩ := HIj.out.own.reads hBj (by have := HOL.out; show out.length * (8 * 4) ≤ _; omega)
         simp only [Value.slice.injEq] at e9
         obtain ⟨rfl, _, rfl⟩ := e9
         obtain ⟨z', zs, hz, _, hzcell, hrz⟩ := r3.at0 (k := m) (Below.refl _ _) (Nat.le_refl _) hml
         have hzz : z' = z := by have := HZ.out; rw [hz] at this; simpa using this
         subst hzz
         obtain ⟨Az', cz', rfl, _⟩ := RTm.cells (show RTm wj wj.heap.size d z' zs from hrz)
         have g0 := cell_regrown (show wj.cell? ⟨b, off' + m * 4, none⟩ = some (.int .i64 z'.kind) from hzcell 0 _ rfl)
         have g1 := cell_regrown (show wj.cell? ⟨b, off' + m * 4 + 1, none⟩ = some (.int .i64 z'.n) from hzcell 1 _ rfl)
         have g2 := cell_regrown (show wj.cell? ⟨b, off' + m * 4 + 2, none⟩ = some (.string z'.s) from hzcell 2 _ rfl)
         have g3 := cell_regrown (show wj.cell? ⟨b, off' + m * 4 + 3, none⟩ = some (.slice Az' z'.l.length cz') from hzcell 3 _ rfl)
         have HZ2 : Hid (RTm wj wj.heap.size d z' _) := Lib.hid hrz
         have hcap := r1
         have hcap2 := r2.2
         clear hz hzcell hrz r1 r2 r3 HZj hbj
         by_cases hs : sameB z' x = true
         · have HNEW := Lib.hid (insL_same (c := cmpT 3) HZ.out HLESS.out (by simpa [sameB] using hs))
           go_wp2_with fail
           refine wp_region_quiet_below (by kernel_rfl) (by kernel_rfl) ?_
           repeat (go_big_quiet_step ((go_at_call 15; exact Calls.regrown_of (as_bool hs (refSame_any (HZ2.out.below (below_regrown _ _ _) (Nat.le_refl _)) ((HRj.out.more hBj).below (below_regrown _ _ _) (Nat.le_refl _)) (below_regrown _ _ _).size)))))
           refine wpQuiet_nil ?_
           intro wk hw3
           have hbk : Below wj.heap.size wj wk := by obtain ⟨p, rfl⟩ := hw3; exact below_regrown _ _ _
           clear hw3
           clear q_x q_o g0 g1 g2 g3 hs
           go_wp2_with fail
           go_roundw
           case rel => exact ⟨k + 1, _, c2, by omega, by go_num, Lib.hid (bthen HBj.out hbk), Nat.le_trans hszj hbk.size, Lib.hid (by rw [HFS.out, HNEW.out]; exact HIj.out.later hbk hBj), HALL2⟩
           case measure => simp [intOf]; omega
         · simp only [Bool.not_eq_true] at hs
           have HNEW := Lib.hid (insL_new (c := cmpT 3) HZ.out HLESS.out (by omega) (by simpa [sameB] using hs))
           go_wp2_with fail
           refine wp_region_quiet_below (by kernel_rfl) (by kernel_rfl) ?_
           repeat (go_big_quiet_step ((go_at_call 15; exact Calls.regrown_of (as_bool hs (refSame_any (HZ2.out.below (below_regrown _ _ _) (Nat.le_refl _)) ((HRj.out.more hBj).below (below_regrown _ _ _) (Nat.le_refl _)) (below_regrown _ _ _).size)))))
           refine wpQuiet_nil ?_
           intro wk hw3
           have hbk : Below wj.heap.size wj wk := by obtain ⟨p, rfl⟩ := hw3; exact below_regrown _ _ _
           clear hw3
           clear q_x q_o g0 g1 g2 g3 hs hcl
           have HIk := Lib.hid (HIj.out.later hbk hBj)
           have HRk := Lib.hid (HRj.out.below hbk hBj)
           have b_xk := b_xj.later hbk
           have HBk := Lib.hid (bthen HBj.out hbk)
           have hszk := Nat.le_trans hszj hbk.size
           have hBk := Nat.le_trans hBj hbk.size
           clear hbk
           have hoR := HIk.out.res.lt
           have hoO := HIk.out.set_.lt
           have hxl := b_xk.lt
           have k_o := HIk.out.set_.cell
           have k_x := b_xk.cell
           have HBX := Lib.hid b_xk
           have hmI : (0 : Int) ≤ (m : Int) := Int.natCast_nonneg _
           have hmc : (m : Int) ≤ (c2 : Int) := by omega
           have hox := HOX.out
           have s1 : wk.drew.cell? ⟨w.heap.size + 1, 3, none⟩ = some (.slice (some ⟨b, off', none⟩) out.length c2) := k_o 3
           have s2 : wk.drew.cell? ⟨X, 0, none⟩ = some (.int .i64 x.kind) := k_x 0
           have s3 : wk.drew.cell? ⟨X, 1, none⟩ = some (.int .i64 x.n) := k_x 1
           have s4 : wk.drew.cell? ⟨X, 2, none⟩ = some (.string x.s) := k_x 2
           have s5 : wk.drew.cell? ⟨X, 3, none⟩ = some (.slice Ax x.l.length cx) := k_x 3
           clear b_xk k_o k_x
           go_wp2_with fail
           refine wp_region_upto (S := fun w' => w'.cell? ⟨w.heap.size + 1, 3, none⟩ = some (.slice (some ⟨b, off', none⟩) out.length c2) ∧ w'.cell? ⟨X, 0, none⟩ = some (.int .i64 x.kind) ∧ w'.cell? ⟨X, 1, none⟩ = some (.int .i64 x.n) ∧ w'.cell? ⟨X, 2, none⟩ = some (.string x.s) ∧ w'.cell? ⟨X, 3, none⟩ = some (.slice Ax x.l.length cx)) 14 (by kernel_rfl) (by kernel_rfl) (by kernel_rfl) (by kernel_rfl) ⟨s1, s2, s3, s4, s5⟩ ?_
           refine upto_take (i := 0) (v := ?v1_) (by simp only [List.getElem?_toArray, List.getElem?_cons_succ, List.getElem?_cons_zero]; rfl) (by kernel_rfl) (by kernel_rfl) (by kernel_rfl) (by kernel_rfl) ?hq1_ ?hw1_ ?hy1_ ?rest1_
           case hq1_ => exact fun _ _ _ h => h
           case hw1_ => rfl
           case hy1_ => (intro w' hS'; (try dsimp only at hS'); go_simp; (try with_reducible rfl))
           (try simp only [Act.put, List.setIfInBounds_toArray, List.set_cons_zero, List.set_cons_succ])
           refine upto_take (i := 1) (v := ?v2_) (by simp only [List.getElem?_toArray, List.getElem?_cons_succ, List.getElem?_cons_zero]; rfl) (by kernel_rfl) (by kernel_rfl) (by kernel_rfl) (by kernel_rfl) ?hq2_ ?hw2_ ?hy2_ ?rest2_
           case hq2_ => exact fun _ _ _ h => h
           case hw2_ => rfl
           case hy2_ => (intro w' hS'; (try dsimp only at hS'); go_simp; (try with_reducible rfl))
           (try simp only [Act.put, List.setIfInBounds_toArray, List.set_cons_zero, List.set_cons_succ])
           refine upto_take (i := 2) (v := ?v3_) (by simp only [List.getElem?_toArray, List.getElem?_cons_succ, List.getElem?_cons_zero]; rfl) (by kernel_rfl) (by kernel_rfl) (by kernel_rfl) (by kernel_rfl) ?hq3_ ?hw3_ ?hy3_ ?rest3_
           case hq3_ => exact fun _ _ _ h => h
           case hw3_ => rfl
           case hy3_ => (intro w' hS'; (try dsimp only at hS'); go_simp; (try with_reducible rfl))
           (try simp only [Act.put, List.setIfInBounds_toArray, List.set_cons_zero, List.set_cons_succ])
           refine upto_take (i := 3) (v := ?v4_) (by simp only [List.getElem?_toArray, List.getElem?_cons_succ, List.getElem?_cons_zero]; rfl) (by kernel_rfl) (by kernel_rfl) (by kernel_rfl) (by kernel_rfl) ?hq4_ ?hw4_ ?hy4_ ?rest4_
           case hq4_ => exact fun _ _ _ h => h
           case hw4_ => rfl
           case hy4_ => (intro w' hS'; (try dsimp only at hS'); go_simp; (try with_reducible rfl))
           (try simp only [Act.put, List.setIfInBounds_toArray, List.set_cons_zero, List.set_cons_succ])
           refine upto_take (i := 5) (v := ?v5_) (by simp only [List.getElem?_toArray, List.getElem?_cons_succ, List.getElem?_cons_zero]; rfl) (by kernel_rfl) (by kernel_rfl) (by kernel_rfl) (by kernel_rfl) ?hq5_ ?hw5_ ?hy5_ ?rest5_
           case hq5_ => exact fun _ _ _ h => h
           case hw5_ => rfl
           case hy5_ => (intro w' hS'; (try dsimp only at hS'); go_simp; (try with_reducible rfl))
           (try simp only [Act.put, List.setIfInBounds_toArray, List.set_cons_zero, List.set_cons_succ])
           refine upto_take (i := 8) (v := ?v6_) (by simp only [List.getElem?_toArray, List.getElem?_cons_succ, List.getElem?_cons_zero]; rfl) (by kernel_rfl) (by kernel_rfl) (by kernel_rfl) (by kernel_rfl) ?hq6_ ?hw6_ ?hy6_ ?rest6_
           case hq6_ => exact fun _ _ _ h => h
           case hw6_ => rfl
           case hy6_ => (intro w' hS'; (try dsimp only at hS'); go_simp; (try with_reducible rfl))
           (try simp only [Act.put, List.setIfInBounds_toArray, List.set_cons_zero, List.set_cons_succ])
           refine upto_take (i := 9) (v := ?v7_) (by simp only [List.getElem?_toArray, List.getElem?_cons_succ, List.getElem?_cons_zero]; rfl) (by kernel_rfl) (by kernel_rfl) (by kernel_rfl) (by kernel_rfl) ?hq7_ ?hw7_ ?hy7_ ?rest7_
           case hq7_ => exact fun _ _ _ h => h
           case hw7_ => rfl
           case hy7_ => (intro w' hS'; (try dsimp only at hS'); go_simp; (try with_reducible rfl))
           (try simp only [Act.put, List.setIfInBounds_toArray, List.set_cons_zero, List.set_cons_succ])
           refine upto_take (i := 10) (v := ?v8_) (by simp only [List.getElem?_toArray, List.getElem?_cons_succ, List.getElem?_cons_zero]; rfl) (by kernel_rfl) (by kernel_rfl) (by kernel_rfl) (by kernel_rfl) ?hq8_ ?hw8_ ?hy8_ ?rest8_
           case hq8_ => exact fun _ _ _ h => h
           case hw8_ => rfl
           case hy8_ => (intro w' hS'; (try dsimp only at hS'); go_simp; (try with_reducible rfl))
           (try simp only [Act.put, List.setIfInBounds_toArray, List.set_cons_zero, List.set_cons_succ])
           refine upto_take (i := 11) (v := ?v9_) (by simp only [List.getElem?_toArray, List.getElem?_cons_succ, List.getElem?_cons_zero]; rfl) (by kernel_rfl) (by kernel_rfl) (by kernel_rfl) (by kernel_rfl) ?hq9_ ?hw9_ ?hy9_ ?rest9_
           case hq9_ => exact fun _ _ _ h => h
           case hw9_ => rfl
           case hy9_ => (intro w' hS'; (try dsimp only at hS'); go_simp; (try with_reducible rfl))
           (try simp only [Act.put, List.setIfInBounds_toArray, List.set_cons_zero, List.set_cons_succ])
           refine upto_ready (rs := [4, 6]) (by kernel_rfl) rfl (by kernel_rfl) ?_
           refine AllUpto.cons (by simp only [List.getElem?_toArray, List.getElem?_cons_succ, List.getElem?_cons_zero]; rfl) (fun K hK => ?_) (AllUpto.cons (by simp only [List.getElem?_toArray, List.getElem?_cons_succ, List.getElem?_cons_zero]; rfl) (fun K hK => ?_) AllUpto.nil)
           · refine step_append_R (R := TmR d) (e := 33) rfl (.const (.slice none 0 0)) (.tmp 71) 26 rfl (bytes := 56) Tryz.underlying26 hi0 hz0 hz1 hz2 rfl (show 0 < 4 by omega) (single_tm d) rfl (xs := []) (base := wk.heap.size) (B := B) (OwnR.nil _ _ _ _ _) rfl (ys := out.take m) ((HIk.out.own.later (Below.refl wk.heap.size wk).drew hBk).src.take m) (by rw [List.length_take]; omega) hBk (by simp only [List.length_nil, List.length_take]; omega) (by omega) (by simp) ?_
             intro v1 w7 hown1 hb7 hg7
             have HO1 := Lib.hid hown1
             have HG7 := Lib.hid hg7
             have hsz7 : wk.heap.size ≤ w7.heap.size := Nat.le_trans (by simp) hb7.size
             have HB17 : Hid (Below wk.heap.size wk w7) := Lib.hid ((Below.refl wk.heap.size wk).drew.trans hb7)
             have k_o7 := (HIk.out.set_.keep HB17.out hoO).cell
             have k_x7 := (HBX.out.keep HB17.out hxl).cell
             refine hK.out _ _ ⟨k_o7 3, k_x7 0, k_x7 1, k_x7 2, k_x7 3⟩ ?_
             clear hown1 hb7 hg7 hK
             (try simp only [Act.put, List.setIfInBounds_toArray, List.set_cons_zero, List.set_cons_succ])
             refine upto_ready (rs := [6]) (by kernel_rfl) rfl (by kernel_rfl) ?_
             refine AllUpto.cons (by simp only [List.getElem?_toArray, List.getElem?_cons_succ, List.getElem?_cons_zero]; rfl) (fun K hK => ?_) AllUpto.nil
             go_simp
             refine hK.out _ _ ⟨(World.cell?_alloc_lt _ _ _ (Nat.lt_of_lt_of_le hoO hsz7)).trans (k_o7 3), (World.cell?_alloc_lt _ _ _ (Nat.lt_of_lt_of_le hxl hsz7)).trans (k_x7 0), (World.cell?_alloc_lt _ _ _ (Nat.lt_of_lt_of_le hxl hsz7)).trans (k_x7 1), (World.cell?_alloc_lt _ _ _ (Nat.lt_of_lt_of_le hxl hsz7)).trans (k_x7 2), (World.cell?_alloc_lt _ _ _ (Nat.lt_of_lt_of_le hxl hsz7)).trans (k_x7 3)⟩ ?_
             clear hK
             (try simp only [Act.put, List.setIfInBounds_toArray, List.set_cons_zero, List.set_cons_succ])
             refine upto_ready (rs := [7]) (by kernel_rfl) rfl (by kernel_rfl) ?_
             refine AllUpto.cons (by simp only [List.getElem?_toArray, List.getElem?_cons_succ, List.getElem?_cons_zero]; rfl) (fun K hK => ?_) AllUpto.nil
             refine step_append_R (R := TmR d) (e := 33) rfl (.tmp 72) (.tmp 74) 26 rfl (bytes := 56) Tryz.underlying26 hi0 hz0 hz1 hz2 rfl (show 0 < 4 by omega) (single_tm d) rfl (xs := out.take m) (base := wk.heap.size) (B := B) (HO1.out.later ((Below.refl _ _).alloc (Nat.le_refl _) _) (Nat.le_trans hBk hsz7)) rfl (ys := [x]) (Blk.src (n11 rfl) ((TmR d).keep (HB17.out.alloc hsz7 _) hBk HRk.out)) rfl hBk (by simp only [List.length_cons, List.length_nil, List.length_take]; omega) (by omega) (by rw [World.size_alloc]; omega) ?_
             intro v2 w8 hown2 hb8 hg8
             have HO2 := Lib.hid hown2
             have hsz8 : wk.heap.size ≤ w8.heap.size := Nat.le_trans (by rw [World.size_alloc]; omega) hb8.size
             have HB18 : Hid (Below wk.heap.size wk w8) := Lib.hid ((HB17.out.alloc hsz7 _).trans hb8)
             have k_o8 := (HIk.out.set_.keep HB18.out hoO).cell
             have k_x8 := (HBX.out.keep HB18.out hxl).cell
             refine hK.out _ _ ⟨k_o8 3, k_x8 0, k_x8 1, k_x8 2, k_x8 3⟩ ?_
             clear hown2 hb8 hg8 hK
             (try simp only [Act.put, List.setIfInBounds_toArray, List.set_cons_zero, List.set_cons_succ])
             refine upto_ready (rs := [12]) (by kernel_rfl) rfl (by kernel_rfl) ?_
             refine AllUpto.cons (by simp only [List.getElem?_toArray, List.getElem?_cons_succ, List.getElem?_cons_zero]; rfl) (fun K hK => ?_) AllUpto.nil
             refine step_append_R (R := TmR d) (e := 33) rfl (.tmp 75) (.tmp 79) 26 rfl (bytes := 56) Tryz.underlying26 hi0 hz0 hz1 hz2 rfl (show 0 < 4 by omega) (single_tm d) rfl (xs := out.take m ++ [x]) (base := wk.heap.size) (B := B) HO2.out rfl (ys := out.drop m) (by first | exact (HIk.out.own.later HB18.out hBk).src.drop m | (rw [if_neg (show ¬ c2 = m by omega)]; exact (HIk.out.own.later HB18.out hBk).src.drop m)) (by rw [List.length_drop]) hBk (by simp only [List.length_append, List.length_cons, List.length_nil, List.length_take, List.length_drop]; omega) (by omega) hsz8 ?_
             intro v3 w9 hown3 hb9 hg9
             generalize hL : out.take m ++ [x] ++ out.drop m = out2 at hown3
             have HL3 := Lib.hid hL
             clear hL
             obtain ⟨A3, c3, rfl⟩ := hown3.form
             have HO3 := Lib.hid hown3
             have HB19 := Lib.hid (HB18.out.trans hb9)
             have k_o9 := (HIk.out.set_.keep HB19.out hoO).cell
             have f_o9 := (HIk.out.set_.keep HB19.out hoO).free
             have k_x9 := (HBX.out.keep HB19.out hxl).cell
             refine hK.out _ _ ⟨k_o9 3, k_x9 0, k_x9 1, k_x9 2, k_x9 3⟩ ?_
             clear hown3 hb9 hg9 hK
             (try simp only [Act.put, List.setIfInBounds_toArray, List.set_cons_zero, List.set_cons_succ])
             refine upto_take (i := 13) (v := ?v10_) (by simp only [List.getElem?_toArray, List.getElem?_cons_succ, List.getElem?_cons_zero]; rfl) (by kernel_rfl) (by kernel_rfl) (by kernel_rfl) (by kernel_rfl) ?hq10_ ?hw10_ ?hy10_ ?rest10_
             case hq10_ => exact fun _ _ _ h => h
             case hw10_ => rfl
             case hy10_ => (intro w' hS'; (try dsimp only at hS'); go_simp; (try with_reducible rfl))
             (try simp only [Act.put, List.setIfInBounds_toArray, List.set_cons_zero, List.set_cons_succ])
             refine upto_last (by kernel_rfl) (by kernel_rfl) (by simp only [List.getElem?_toArray, List.getElem?_cons_succ, List.getElem?_cons_zero]; rfl) (fun K hK => ?_)
             go_simp
             refine hK.out _ _ ?_
             (try simp only [Act.put, List.setIfInBounds_toArray, List.set_cons_zero, List.set_cons_succ])
             go_wp2_with fail
             go_roundw
             case rel =>
               have hb3 := HB19.out
               have hle := hb3.size
               refine ⟨k + 1, A3, c3, by omega, by go_num, Lib.hid ((bthen HBk.out hb3).setCell (by show w.heap.size ≤ w.heap.size + 1; omega) _), by simp only [World.size_setCell]; omega, Lib.hid ?_, HALL2⟩
               rw [HFS.out, HNEW.out, HL3.out]
               refine ⟨(HIk.out.res.keep hb3 hoR).far (by omega) _ _, (HIk.out.set_.keep hb3 hoO).set_ 3 (.slice A3 out2.length c3), ?_⟩
               have h9 := (HO3.out.lower (show w0.heap.size ≤ wk.heap.size by omega)).far (c := w.heap.size + 1) (i := 3) (by omega) (by omega) (.slice A3 out2.length c3)
               exact h9
             case measure => simp [intOf]; omega
           · go_simp
             refine hK.out _ _ ⟨(World.cell?_alloc_lt _ _ _ hoO).trans s1, (World.cell?_alloc_lt _ _ _ hxl).trans s2, (World.cell?_alloc_lt _ _ _ hxl).trans s3, (World.cell?_alloc_lt _ _ _ hxl).trans s4, (World.cell?_alloc_lt _ _ _ hxl).trans s5⟩ ?_
             clear hK
             (try simp only [Act.put, List.setIfInBounds_toArray, List.set_cons_zero, List.set_cons_succ])
             refine upto_ready (rs := [4]) (by kernel_rfl) rfl (by kernel_rfl) ?_
             refine AllUpto.cons (by simp only [List.getElem?_toArray, List.getElem?_cons_succ, List.getElem?_cons_zero]; rfl) (fun K hK => ?_) AllUpto.nil
             refine step_append_R (R := TmR d) (e := 33) rfl (.const (.slice none 0 0)) (.tmp 71) 26 rfl (bytes := 56) Tryz.underlying26 hi0 hz0 hz1 hz2 rfl (show 0 < 4 by omega) (single_tm d) rfl (xs := []) (base := wk.heap.size) (B := B) (OwnR.nil _ _ _ _ _) rfl (ys := out.take m) ((HIk.out.own.later ((Below.refl wk.heap.size wk).drew.alloc (Nat.le_refl _) _) hBk).src.take m) (by rw [List.length_take]; omega) hBk (by simp only [List.length_nil, List.length_take]; omega) (by omega) (by simp) ?_
             intro v1 w7 hown1 hb7 hg7
             have HO1 := Lib.hid hown1
             have HG7 := Lib.hid hg7
             have hsz7 : wk.heap.size ≤ w7.heap.size := Nat.le_trans (by simp) hb7.size
             have HB17 : Hid (Below wk.heap.size wk w7) := Lib.hid (((Below.refl wk.heap.size wk).drew.alloc (Nat.le_refl _) _).trans hb7)
             have k_o7 := (HIk.out.set_.keep HB17.out hoO).cell
             have k_x7 := (HBX.out.keep HB17.out hxl).cell
             refine hK.out _ _ ⟨k_o7 3, k_x7 0, k_x7 1, k_x7 2, k_x7 3⟩ ?_
             clear hown1 hb7 hg7 hK
             (try simp only [Act.put, List.setIfInBounds_toArray, List.set_cons_zero, List.set_cons_succ])
             refine upto_ready (rs := [7]) (by kernel_rfl) rfl (by kernel_rfl) ?_
             refine AllUpto.cons (by simp only [List.getElem?_toArray, List.getElem?_cons_succ, List.getElem?_cons_zero]; rfl) (fun K hK => ?_) AllUpto.nil
             refine step_append_R (R := TmR d) (e := 33) rfl (.tmp 72) (.tmp 74) 26 rfl (bytes := 56) Tryz.underlying26 hi0 hz0 hz1 hz2 rfl (show 0 < 4 by omega) (single_tm d) rfl (xs := out.take m) (base := wk.heap.size) (B := B) (HO1.out) rfl (ys := [x]) (Blk.src ((Blk.new wk.drew _ _).grown HG7.out ne_none) ((TmR d).keep HB17.out hBk HRk.out)) rfl hBk (by simp only [List.length_cons, List.length_nil, List.length_take]; omega) (by omega) (by exact hsz7) ?_
             intro v2 w8 hown2 hb8 hg8
             have HO2 := Lib.hid hown2
             have hsz8 : wk.heap.size ≤ w8.heap.size := Nat.le_trans (by exact hsz7) hb8.size
             have HB18 : Hid (Below wk.heap.size wk w8) := Lib.hid (HB17.out.trans hb8)
             have k_o8 := (HIk.out.set_.keep HB18.out hoO).cell
             have k_x8 := (HBX.out.keep HB18.out hxl).cell
             refine hK.out _ _ ⟨k_o8 3, k_x8 0, k_x8 1, k_x8 2, k_x8 3⟩ ?_
             clear hown2 hb8 hg8 hK
             (try simp only [Act.put, List.setIfInBounds_toArray, List.set_cons_zero, List.set_cons_succ])
             refine upto_ready (rs := [12]) (by kernel_rfl) rfl (by kernel_rfl) ?_
             refine AllUpto.cons (by simp only [List.getElem?_toArray, List.getElem?_cons_succ, List.getElem?_cons_zero]; rfl) (fun K hK => ?_) AllUpto.nil
             refine step_append_R (R := TmR d) (e := 33) rfl (.tmp 75) (.tmp 79) 26 rfl (bytes := 56) Tryz.underlying26 hi0 hz0 hz1 hz2 rfl (show 0 < 4 by omega) (single_tm d) rfl (xs := out.take m ++ [x]) (base := wk.heap.size) (B := B) HO2.out rfl (ys := out.drop m) (by first | exact (HIk.out.own.later HB18.out hBk).src.drop m | (rw [if_neg (show ¬ c2 = m by omega)]; exact (HIk.out.own.later HB18.out hBk).src.drop m)) (by rw [List.length_drop]) hBk (by simp only [List.length_append, List.length_cons, List.length_nil, List.length_take, List.length_drop]; omega) (by omega) hsz8 ?_
             intro v3 w9 hown3 hb9 hg9
             generalize hL : out.take m ++ [x] ++ out.drop m = out2 at hown3
             have HL3 := Lib.hid hL
             clear hL
             obtain ⟨A3, c3, rfl⟩ := hown3.form
             have HO3 := Lib.hid hown3
             have HB19 := Lib.hid (HB18.out.trans hb9)
             have k_o9 := (HIk.out.set_.keep HB19.out hoO).cell
             have f_o9 := (HIk.out.set_.keep HB19.out hoO).free
             have k_x9 := (HBX.out.keep HB19.out hxl).cell
             refine hK.out _ _ ⟨k_o9 3, k_x9 0, k_x9 1, k_x9 2, k_x9 3⟩ ?_
             clear hown3 hb9 hg9 hK
             (try simp only [Act.put, List.setIfInBounds_toArray, List.set_cons_zero, List.set_cons_succ])
             refine upto_take (i := 13) (v := ?v11_) (by simp only [List.getElem?_toArray, List.getElem?_cons_succ, List.getElem?_cons_zero]; rfl) (by kernel_rfl) (by kernel_rfl) (by kernel_rfl) (by kernel_rfl) ?hq11_ ?hw11_ ?hy11_ ?rest11_
             case hq11_ => exact fun _ _ _ h => h
             case hw11_ => rfl
             case hy11_ => (intro w' hS'; (try dsimp only at hS'); go_simp; (try with_reducible rfl))
             (try simp only [Act.put, List.setIfInBounds_toArray, List.set_cons_zero, List.set_cons_succ])
             refine upto_last (by kernel_rfl) (by kernel_rfl) (by simp only [List.getElem?_toArray, List.getElem?_cons_succ, List.getElem?_cons_zero]; rfl) (fun K hK => ?_)
             go_simp
             refine hK.out _ _ ?_
             (try simp only [Act.put, List.setIfInBounds_toArray, List.set_cons_zero, List.set_cons_succ])
             go_wp2_with fail
             go_roundw
             case rel =>
               have hb3 := HB19.out
               have hle := hb3.size
               refine ⟨k + 1, A3, c3, by omega, by go_num, Lib.hid ((bthen HBk.out hb3).setCell (by show w.heap.size ≤ w.heap.size + 1; omega) _), by simp only [World.size_setCell]; omega, Lib.hid ?_, HALL2⟩
               rw [HFS.out, HNEW.out, HL3.out]
               refine ⟨(HIk.out.res.keep hb3 hoR).far (by omega) _ _, (HIk.out.set_.keep hb3 hoO).set_ 3 (.slice A3 out2.length c3), ?_⟩
               have h9 := (HO3.out.lower (show w0.heap.size ≤ wk.heap.size by omega)).far (c := w.heap.size + 1) (i := 3) (by omega) (by omega) (.slice A3 out2.length c3)
               exact h9
             case measure => simp [intOf]; omega
     · go_wp2_with fail
       refine wp_region_quiet_below (by kernel_rfl) (by kernel_rfl) ?_
       repeat (go_big_quiet_step (fail))
       refine wpQuiet_nil ?_
       intro wj hw3
       have hbj : Below wr.heap.size wr wj := by obtain ⟨p, rfl⟩ := hw3; exact below_regrown _ _ _
       clear hw3 q_x q_o
       have HIj := Lib.hid (HIi.out.later hbj hBi)
       have HRj := Lib.hid (HRi.out.below hbj hBi)
       have b_xj := b_xi.later hbj
       have HBj := Lib.hid (bthen HBi.out hbj)
       have hszj := Nat.le_trans hszi hbj.size
       have hBj := Nat.le_trans hBi hbj.size
       have q_x := b_xj.regrown
       have q_o := HIj.out.set_.regrown
       clear hbj
       go_wp2_with fail
       refine wp_region_quiet_below (by kernel_rfl) (by kernel_rfl) ?_
       repeat (go_big_quiet_step (fail))
       refine wpQuiet_nil ?_
       intro wk hw3
       have hbk : Below wj.heap.size wj wk := by obtain ⟨p, rfl⟩ := hw3; exact below_regrown _ _ _
       clear hw3 q_x q_o
       have HIk := Lib.hid (HIj.out.later hbk hBj)
       have HRk := Lib.hid (HRj.out.below hbk hBj)
       have b_xk := b_xj.later hbk
       have HBk := Lib.hid (bthen HBj.out hbk)
       have hszk := Nat.le_trans hszj hbk.size
       have hBk := Nat.le_trans hBj hbk.size
       clear hbk
       have HNEW := Lib.hid (insL_end' (c := cmpT 3) (show m = out.length by omega) HLESS.out)
       obtain rfl : m = out.length := by omega
       obtain ⟨A9, c9, e9, r1, r2, _⟩ := HIk.out.own.reads hBk (by have := HOL.out; show out.length * (8 * 4) ≤ _; omega)
       simp only [Value.slice.injEq] at e9
       obtain ⟨rfl, _, rfl⟩ := e9
       rcases A2 with _ | ⟨b, off', sp⟩
       · have hoR := HIk.out.res.lt
         have hoO := HIk.out.set_.lt
         have hxl := b_xk.lt
         have k_o := HIk.out.set_.cell
         have k_x := b_xk.cell
         have HBX := Lib.hid b_xk
         have hmI : (0 : Int) ≤ (out.length : Int) := Int.natCast_nonneg _
         have hmc : (out.length : Int) ≤ (c2 : Int) := by omega
         have hox := HOX.out
         have s1 : wk.drew.cell? ⟨w.heap.size + 1, 3, none⟩ = some (.slice (none) out.length c2) := k_o 3
         have s2 : wk.drew.cell? ⟨X, 0, none⟩ = some (.int .i64 x.kind) := k_x 0
         have s3 : wk.drew.cell? ⟨X, 1, none⟩ = some (.int .i64 x.n) := k_x 1
         have s4 : wk.drew.cell? ⟨X, 2, none⟩ = some (.string x.s) := k_x 2
         have s5 : wk.drew.cell? ⟨X, 3, none⟩ = some (.slice Ax x.l.length cx) := k_x 3
         clear b_xk k_o k_x
         go_wp2_with fail
         refine wp_region_upto (S := fun w' => w'.cell? ⟨w.heap.size + 1, 3, none⟩ = some (.slice (none) out.length c2) ∧ w'.cell? ⟨X, 0, none⟩ = some (.int .i64 x.kind) ∧ w'.cell? ⟨X, 1, none⟩ = some (.int .i64 x.n) ∧ w'.cell? ⟨X, 2, none⟩ = some (.string x.s) ∧ w'.cell? ⟨X, 3, none⟩ = some (.slice Ax x.l.length cx)) 14 (by kernel_rfl) (by kernel_rfl) (by kernel_rfl) (by kernel_rfl) ⟨s1, s2, s3, s4, s5⟩ ?_
         refine upto_take (i := 0) (v := ?v12_) (by simp only [List.getElem?_toArray, List.getElem?_cons_succ, List.getElem?_cons_zero]; rfl) (by kernel_rfl) (by kernel_rfl) (by kernel_rfl) (by kernel_rfl) ?hq12_ ?hw12_ ?hy12_ ?rest12_
         case hq12_ => exact fun _ _ _ h => h
         case hw12_ => rfl
         case hy12_ => (intro w' hS'; (try dsimp only at hS'); go_simp; (try with_reducible rfl))
         (try simp only [Act.put, List.setIfInBounds_toArray, List.set_cons_zero, List.set_cons_succ])
         refine upto_take (i := 1) (v := ?v13_) (by simp only [List.getElem?_toArray, List.getElem?_cons_succ, List.getElem?_cons_zero]; rfl) (by kernel_rfl) (by kernel_rfl) (by kernel_rfl) (by kernel_rfl) ?hq13_ ?hw13_ ?hy13_ ?rest13_
         case hq13_ => exact fun _ _ _ h => h
         case hw13_ => rfl
         case hy13_ => (intro w' hS'; (try dsimp only at hS'); go_simp; (try with_reducible rfl))
         (try simp only [Act.put, List.setIfInBounds_toArray, List.set_cons_zero, List.set_cons_succ])
         refine upto_take (i := 2) (v := ?v14_) (by simp only [List.getElem?_toArray, List.getElem?_cons_succ, List.getElem?_cons_zero]; rfl) (by kernel_rfl) (by kernel_rfl) (by kernel_rfl) (by kernel_rfl) ?hq14_ ?hw14_ ?hy14_ ?rest14_
         case hq14_ => exact fun _ _ _ h => h
         case hw14_ => rfl
         case hy14_ => (intro w' hS'; (try dsimp only at hS'); go_simp; (try with_reducible rfl))
         (try simp only [Act.put, List.setIfInBounds_toArray, List.set_cons_zero, List.set_cons_succ])
         refine upto_take (i := 3) (v := ?v15_) (by simp only [List.getElem?_toArray, List.getElem?_cons_succ, List.getElem?_cons_zero]; rfl) (by kernel_rfl) (by kernel_rfl) (by kernel_rfl) (by kernel_rfl) ?hq15_ ?hw15_ ?hy15_ ?rest15_
         case hq15_ => exact fun _ _ _ h => h
         case hw15_ => rfl
         case hy15_ => (intro w' hS'; (try dsimp only at hS'); go_simp; (try with_reducible rfl))
         (try simp only [Act.put, List.setIfInBounds_toArray, List.set_cons_zero, List.set_cons_succ])
         refine upto_take (i := 5) (v := ?v16_) (by simp only [List.getElem?_toArray, List.getElem?_cons_succ, List.getElem?_cons_zero]; rfl) (by kernel_rfl) (by kernel_rfl) (by kernel_rfl) (by kernel_rfl) ?hq16_ ?hw16_ ?hy16_ ?rest16_
         case hq16_ => exact fun _ _ _ h => h
         case hw16_ => rfl
         case hy16_ => (intro w' hS'; (try dsimp only at hS'); go_simp; (try with_reducible rfl))
         (try simp only [Act.put, List.setIfInBounds_toArray, List.set_cons_zero, List.set_cons_succ])
         refine upto_take (i := 8) (v := ?v17_) (by simp only [List.getElem?_toArray, List.getElem?_cons_succ, List.getElem?_cons_zero]; rfl) (by kernel_rfl) (by kernel_rfl) (by kernel_rfl) (by kernel_rfl) ?hq17_ ?hw17_ ?hy17_ ?rest17_
         case hq17_ => exact fun _ _ _ h => h
         case hw17_ => rfl
         case hy17_ => (intro w' hS'; (try dsimp only at hS'); go_simp; (try with_reducible rfl))
         (try simp only [Act.put, List.setIfInBounds_toArray, List.set_cons_zero, List.set_cons_succ])
         refine upto_take (i := 9) (v := ?v18_) (by simp only [List.getElem?_toArray, List.getElem?_cons_succ, List.getElem?_cons_zero]; rfl) (by kernel_rfl) (by kernel_rfl) (by kernel_rfl) (by kernel_rfl) ?hq18_ ?hw18_ ?hy18_ ?rest18_
         case hq18_ => exact fun _ _ _ h => h
         case hw18_ => rfl
         case hy18_ => (intro w' hS'; (try dsimp only at hS'); go_simp; (try with_reducible rfl))
         (try simp only [Act.put, List.setIfInBounds_toArray, List.set_cons_zero, List.set_cons_succ])
         refine upto_take (i := 10) (v := ?v19_) (by simp only [List.getElem?_toArray, List.getElem?_cons_succ, List.getElem?_cons_zero]; rfl) (by kernel_rfl) (by kernel_rfl) (by kernel_rfl) (by kernel_rfl) ?hq19_ ?hw19_ ?hy19_ ?rest19_
         case hq19_ => exact fun _ _ _ h => h
         case hw19_ => rfl
         case hy19_ => (intro w' hS'; (try dsimp only at hS'); go_simp; (try with_reducible rfl))
         (try simp only [Act.put, List.setIfInBounds_toArray, List.set_cons_zero, List.set_cons_succ])
         refine upto_take (i := 11) (v := ?v20_) (by simp only [List.getElem?_toArray, List.getElem?_cons_succ, List.getElem?_cons_zero]; rfl) (by kernel_rfl) (by kernel_rfl) (by kernel_rfl) (by kernel_rfl) ?hq20_ ?hw20_ ?hy20_ ?rest20_
         case hq20_ => exact fun _ _ _ h => h
         case hw20_ => rfl
         case hy20_ => (intro w' hS'; (try dsimp only at hS'); go_simp; (try with_reducible rfl))
         (try simp only [Act.put, List.setIfInBounds_toArray, List.set_cons_zero, List.set_cons_succ])
         refine upto_ready (rs := [4, 6]) (by kernel_rfl) rfl (by kernel_rfl) ?_
         refine AllUpto.cons (by simp only [List.getElem?_toArray, List.getElem?_cons_succ, List.getElem?_cons_zero]; rfl) (fun K hK => ?_) (AllUpto.cons (by simp only [List.getElem?_toArray, List.getElem?_cons_succ, List.getElem?_cons_zero]; rfl) (fun K hK => ?_) AllUpto.nil)
         · refine step_append_R (R := TmR d) (e := 33) rfl (.const (.slice none 0 0)) (.tmp 71) 26 rfl (bytes := 56) Tryz.underlying26 hi0 hz0 hz1 hz2 rfl (show 0 < 4 by omega) (single_tm d) rfl (xs := []) (base := wk.heap.size) (B := B) (OwnR.nil _ _ _ _ _) rfl (ys := out.take out.length) ((HIk.out.own.later (Below.refl wk.heap.size wk).drew hBk).src.take out.length) (by rw [List.length_take]; omega) hBk (by simp only [List.length_nil, List.length_take]; omega) (by omega) (by simp) ?_
           intro v1 w7 hown1 hb7 hg7
           have HO1 := Lib.hid hown1
           have HG7 := Lib.hid hg7
           have hsz7 : wk.heap.size ≤ w7.heap.size := Nat.le_trans (by simp) hb7.size
           have HB17 : Hid (Below wk.heap.size wk w7) := Lib.hid ((Below.refl wk.heap.size wk).drew.trans hb7)
           have k_o7 := (HIk.out.set_.keep HB17.out hoO).cell
           have k_x7 := (HBX.out.keep HB17.out hxl).cell
           refine hK.out _ _ ⟨k_o7 3, k_x7 0, k_x7 1, k_x7 2, k_x7 3⟩ ?_
           clear hown1 hb7 hg7 hK
           (try simp only [Act.put, List.setIfInBounds_toArray, List.set_cons_zero, List.set_cons_succ])
           refine upto_ready (rs := [6]) (by kernel_rfl) rfl (by kernel_rfl) ?_
           refine AllUpto.cons (by simp only [List.getElem?_toArray, List.getElem?_cons_succ, List.getElem?_cons_zero]; rfl) (fun K hK => ?_) AllUpto.nil
           go_simp
           refine hK.out _ _ ⟨(World.cell?_alloc_lt _ _ _ (Nat.lt_of_lt_of_le hoO hsz7)).trans (k_o7 3), (World.cell?_alloc_lt _ _ _ (Nat.lt_of_lt_of_le hxl hsz7)).trans (k_x7 0), (World.cell?_alloc_lt _ _ _ (Nat.lt_of_lt_of_le hxl hsz7)).trans (k_x7 1), (World.cell?_alloc_lt _ _ _ (Nat.lt_of_lt_of_le hxl hsz7)).trans (k_x7 2), (World.cell?_alloc_lt _ _ _ (Nat.lt_of_lt_of_le hxl hsz7)).trans (k_x7 3)⟩ ?_
           clear hK
           (try simp only [Act.put, List.setIfInBounds_toArray, List.set_cons_zero, List.set_cons_succ])
           refine upto_ready (rs := [7]) (by kernel_rfl) rfl (by kernel_rfl) ?_
           refine AllUpto.cons (by simp only [List.getElem?_toArray, List.getElem?_cons_succ, List.getElem?_cons_zero]; rfl) (fun K hK => ?_) AllUpto.nil
           refine step_append_R (R := TmR d) (e := 33) rfl (.tmp 72) (.tmp 74) 26 rfl (bytes := 56) Tryz.underlying26 hi0 hz0 hz1 hz2 rfl (show 0 < 4 by omega) (single_tm d) rfl (xs := out.take out.length) (base := wk.heap.size) (B := B) (HO1.out.later ((Below.refl _ _).alloc (Nat.le_refl _) _) (Nat.le_trans hBk hsz7)) rfl (ys := [x]) (Blk.src (n11 rfl) ((TmR d).keep (HB17.out.alloc hsz7 _) hBk HRk.out)) rfl hBk (by simp only [List.length_cons, List.length_nil, List.length_take]; omega) (by omega) (by rw [World.size_alloc]; omega) ?_
           intro v2 w8 hown2 hb8 hg8
           have HO2 := Lib.hid hown2
           have hsz8 : wk.heap.size ≤ w8.heap.size := Nat.le_trans (by rw [World.size_alloc]; omega) hb8.size
           have HB18 : Hid (Below wk.heap.size wk w8) := Lib.hid ((HB17.out.alloc hsz7 _).trans hb8)
           have k_o8 := (HIk.out.set_.keep HB18.out hoO).cell
           have k_x8 := (HBX.out.keep HB18.out hxl).cell
           refine hK.out _ _ ⟨k_o8 3, k_x8 0, k_x8 1, k_x8 2, k_x8 3⟩ ?_
           clear hown2 hb8 hg8 hK
           (try simp only [Act.put, List.setIfInBounds_toArray, List.set_cons_zero, List.set_cons_succ])
           refine upto_ready (rs := [12]) (by kernel_rfl) rfl (by kernel_rfl) ?_
           refine AllUpto.cons (by simp only [List.getElem?_toArray, List.getElem?_cons_succ, List.getElem?_cons_zero]; rfl) (fun K hK => ?_) AllUpto.nil
           refine step_append_R (R := TmR d) (e := 33) rfl (.tmp 75) (.tmp 79) 26 rfl (bytes := 56) Tryz.underlying26 hi0 hz0 hz1 hz2 rfl (show 0 < 4 by omega) (single_tm d) rfl (xs := out.take out.length ++ [x]) (base := wk.heap.size) (B := B) HO2.out rfl (ys := out.drop out.length) (SrcR.none (by simp)) (by simp) hBk (by simp only [List.length_append, List.length_cons, List.length_nil, List.length_take, List.length_drop]; omega) (by omega) hsz8 ?_
           intro v3 w9 hown3 hb9 hg9
           generalize hL : out.take out.length ++ [x] ++ out.drop out.length = out2 at hown3
           have HL3 := Lib.hid hL
           clear hL
           obtain ⟨A3, c3, rfl⟩ := hown3.form
           have HO3 := Lib.hid hown3
           have HB19 := Lib.hid (HB18.out.trans hb9)
           have k_o9 := (HIk.out.set_.keep HB19.out hoO).cell
           have f_o9 := (HIk.out.set_.keep HB19.out hoO).free
           have k_x9 := (HBX.out.keep HB19.out hxl).cell
           refine hK.out _ _ ⟨k_o9 3, k_x9 0, k_x9 1, k_x9 2, k_x9 3⟩ ?_
           clear hown3 hb9 hg9 hK
           (try simp only [Act.put, List.setIfInBounds_toArray, List.set_cons_zero, List.set_cons_succ])
           refine upto_take (i := 13) (v := ?v21_) (by simp only [List.getElem?_toArray, List.getElem?_cons_succ, List.getElem?_cons_zero]; rfl) (by kernel_rfl) (by kernel_rfl) (by kernel_rfl) (by kernel_rfl) ?hq21_ ?hw21_ ?hy21_ ?rest21_
           case hq21_ => exact fun _ _ _ h => h
           case hw21_ => rfl
           case hy21_ => (intro w' hS'; (try dsimp only at hS'); go_simp; (try with_reducible rfl))
           (try simp only [Act.put, List.setIfInBounds_toArray, List.set_cons_zero, List.set_cons_succ])
           refine upto_last (by kernel_rfl) (by kernel_rfl) (by simp only [List.getElem?_toArray, List.getElem?_cons_succ, List.getElem?_cons_zero]; rfl) (fun K hK => ?_)
           go_simp
           refine hK.out _ _ ?_
           (try simp only [Act.put, List.setIfInBounds_toArray, List.set_cons_zero, List.set_cons_succ])
           go_wp2_with fail
           go_roundw
           case rel =>
             have hb3 := HB19.out
             have hle := hb3.size
             refine ⟨k + 1, A3, c3, by omega, by go_num, Lib.hid ((bthen HBk.out hb3).setCell (by show w.heap.size ≤ w.heap.size + 1; omega) _), by simp only [World.size_setCell]; omega, Lib.hid ?_, HALL2⟩
             rw [HFS.out, HNEW.out, HL3.out]
             refine ⟨(HIk.out.res.keep hb3 hoR).far (by omega) _ _, (HIk.out.set_.keep hb3 hoO).set_ 3 (.slice A3 out2.length c3), ?_⟩
             have h9 := (HO3.out.lower (show w0.heap.size ≤ wk.heap.size by omega)).far (c := w.heap.size + 1) (i := 3) (by omega) (by omega) (.slice A3 out2.length c3)
             exact h9
           case measure => simp [intOf]; omega
         · go_simp
           refine hK.out _ _ ⟨(World.cell?_alloc_lt _ _ _ hoO).trans s1, (World.cell?_alloc_lt _ _ _ hxl).trans s2, (World.cell?_alloc_lt _ _ _ hxl).trans s3, (World.cell?_alloc_lt _ _ _ hxl).trans s4, (World.cell?_alloc_lt _ _ _ hxl).trans s5⟩ ?_
           clear hK
           (try simp only [Act.put, List.setIfInBounds_toArray, List.set_cons_zero, List.set_cons_succ])
           refine upto_ready (rs := [4]) (by kernel_rfl) rfl (by kernel_rfl) ?_
           refine AllUpto.cons (by simp only [List.getElem?_toArray, List.getElem?_cons_succ, List.getElem?_cons_zero]; rfl) (fun K hK => ?_) AllUpto.nil
           refine step_append_R (R := TmR d) (e := 33) rfl (.const (.slice none 0 0)) (.tmp 71) 26 rfl (bytes := 56) Tryz.underlying26 hi0 hz0 hz1 hz2 rfl (show 0 < 4 by omega) (single_tm d) rfl (xs := []) (base := wk.heap.size) (B := B) (OwnR.nil _ _ _ _ _) rfl (ys := out.take out.length) ((HIk.out.own.later ((Below.refl wk.heap.size wk).drew.alloc (Nat.le_refl _) _) hBk).src.take out.length) (by rw [List.length_take]; omega) hBk (by simp only [List.length_nil, List.length_take]; omega) (by omega) (by simp) ?_
           intro v1 w7 hown1 hb7 hg7
           have HO1 := Lib.hid hown1
           have HG7 := Lib.hid hg7
           have hsz7 : wk.heap.size ≤ w7.heap.size := Nat.le_trans (by simp) hb7.size
           have HB17 : Hid (Below wk.heap.size wk w7) := Lib.hid (((Below.refl wk.heap.size wk).drew.alloc (Nat.le_refl _) _).trans hb7)
           have k_o7 := (HIk.out.set_.keep HB17.out hoO).cell
           have k_x7 := (HBX.out.keep HB17.out hxl).cell
           refine hK.out _ _ ⟨k_o7 3, k_x7 0, k_x7 1, k_x7 2, k_x7 3⟩ ?_
           clear hown1 hb7 hg7 hK
           (try simp only [Act.put, List.setIfInBounds_toArray, List.set_cons_zero, List.set_cons_succ])
           refine upto_ready (rs := [7]) (by kernel_rfl) rfl (by kernel_rfl) ?_
           refine AllUpto.cons (by simp only [List.getElem?_toArray, List.getElem?_cons_succ, List.getElem?_cons_zero]; rfl) (fun K hK => ?_) AllUpto.nil
           refine step_append_R (R := TmR d) (e := 33) rfl (.tmp 72) (.tmp 74) 26 rfl (bytes := 56) Tryz.underlying26 hi0 hz0 hz1 hz2 rfl (show 0 < 4 by omega) (single_tm d) rfl (xs := out.take out.length) (base := wk.heap.size) (B := B) (HO1.out) rfl (ys := [x]) (Blk.src ((Blk.new wk.drew _ _).grown HG7.out ne_none) ((TmR d).keep HB17.out hBk HRk.out)) rfl hBk (by simp only [List.length_cons, List.length_nil, List.length_take]; omega) (by omega) (by exact hsz7) ?_
           intro v2 w8 hown2 hb8 hg8
           have HO2 := Lib.hid hown2
           have hsz8 : wk.heap.size ≤ w8.heap.size := Nat.le_trans (by exact hsz7) hb8.size
           have HB18 : Hid (Below wk.heap.size wk w8) := Lib.hid (HB17.out.trans hb8)
           have k_o8 := (HIk.out.set_.keep HB18.out hoO).cell
           have k_x8 := (HBX.out.keep HB18.out hxl).cell
           refine hK.out _ _ ⟨k_o8 3, k_x8 0, k_x8 1, k_x8 2, k_x8 3⟩ ?_
           clear hown2 hb8 hg8 hK
           (try simp only [Act.put, List.setIfInBounds_toArray, List.set_cons_zero, List.set_cons_succ])
           refine upto_ready (rs := [12]) (by kernel_rfl) rfl (by kernel_rfl) ?_
           refine AllUpto.cons (by simp only [List.getElem?_toArray, List.getElem?_cons_succ, List.getElem?_cons_zero]; rfl) (fun K hK => ?_) AllUpto.nil
           refine step_append_R (R := TmR d) (e := 33) rfl (.tmp 75) (.tmp 79) 26 rfl (bytes := 56) Tryz.underlying26 hi0 hz0 hz1 hz2 rfl (show 0 < 4 by omega) (single_tm d) rfl (xs := out.take out.length ++ [x]) (base := wk.heap.size) (B := B) HO2.out rfl (ys := out.drop out.length) (SrcR.none (by simp)) (by simp) hBk (by simp only [List.length_append, List.length_cons, List.length_nil, List.length_take, List.length_drop]; omega) (by omega) hsz8 ?_
           intro v3 w9 hown3 hb9 hg9
           generalize hL : out.take out.length ++ [x] ++ out.drop out.length = out2 at hown3
           have HL3 := Lib.hid hL
           clear hL
           obtain ⟨A3, c3, rfl⟩ := hown3.form
           have HO3 := Lib.hid hown3
           have HB19 := Lib.hid (HB18.out.trans hb9)
           have k_o9 := (HIk.out.set_.keep HB19.out hoO).cell
           have f_o9 := (HIk.out.set_.keep HB19.out hoO).free
           have k_x9 := (HBX.out.keep HB19.out hxl).cell
           refine hK.out _ _ ⟨k_o9 3, k_x9 0, k_x9 1, k_x9 2, k_x9 3⟩ ?_
           clear hown3 hb9 hg9 hK
           (try simp only [Act.put, List.setIfInBounds_toArray, List.set_cons_zero, List.set_cons_succ])
           refine upto_take (i := 13) (v := ?v22_) (by simp only [List.getElem?_toArray, List.getElem?_cons_succ, List.getElem?_cons_zero]; rfl) (by kernel_rfl) (by kernel_rfl) (by kernel_rfl) (by kernel_rfl) ?hq22_ ?hw22_ ?hy22_ ?rest22_
           case hq22_ => exact fun _ _ _ h => h
           case hw22_ => rfl
           case hy22_ => (intro w' hS'; (try dsimp only at hS'); go_simp; (try with_reducible rfl))
           (try simp only [Act.put, List.setIfInBounds_toArray, List.set_cons_zero, List.set_cons_succ])
           refine upto_last (by kernel_rfl) (by kernel_rfl) (by simp only [List.getElem?_toArray, List.getElem?_cons_succ, List.getElem?_cons_zero]; rfl) (fun K hK => ?_)
           go_simp
           refine hK.out _ _ ?_
           (try simp only [Act.put, List.setIfInBounds_toArray, List.set_cons_zero, List.set_cons_succ])
           go_wp2_with fail
           go_roundw
           case rel =>
             have hb3 := HB19.out
             have hle := hb3.size
             refine ⟨k + 1, A3, c3, by omega, by go_num, Lib.hid ((bthen HBk.out hb3).setCell (by show w.heap.size ≤ w.heap.size + 1; omega) _), by simp only [World.size_setCell]; omega, Lib.hid ?_, HALL2⟩
             rw [HFS.out, HNEW.out, HL3.out]
             refine ⟨(HIk.out.res.keep hb3 hoR).far (by omega) _ _, (HIk.out.set_.keep hb3 hoO).set_ 3 (.slice A3 out2.length c3), ?_⟩
             have h9 := (HO3.out.lower (show w0.heap.size ≤ wk.heap.size by omega)).far (c := w.heap.size + 1) (i := 3) (by omega) (by omega) (.slice A3 out2.length c3)
             exact h9
           case measure => simp [intOf]; omega
       · have hoR := HIk.out.res.lt
         have hoO := HIk.out.set_.lt
         have hxl := b_xk.lt
         have k_o := HIk.out.set_.cell
         have k_x := b_xk.cell
         have HBX := Lib.hid b_xk
         have hmI : (0 : Int) ≤ (out.length : Int) := Int.natCast_nonneg _
         have hmc : (out.length : Int) ≤ (c2 : Int) := by omega
         have hox := HOX.out
         have s1 : wk.drew.cell? ⟨w.heap.size + 1, 3, none⟩ = some (.slice (some ⟨b, off', sp⟩) out.length c2) := k_o 3
         have s2 : wk.drew.cell? ⟨X, 0, none⟩ = some (.int .i64 x.kind) := k_x 0
         have s3 : wk.drew.cell? ⟨X, 1, none⟩ = some (.int .i64 x.n) := k_x 1
         have s4 : wk.drew.cell? ⟨X, 2, none⟩ = some (.string x.s) := k_x 2
         have s5 : wk.drew.cell? ⟨X, 3, none⟩ = some (.slice Ax x.l.length cx) := k_x 3
         clear b_xk k_o k_x
         go_wp2_with fail
         refine wp_region_upto (S := fun w' => w'.cell? ⟨w.heap.size + 1, 3, none⟩ = some (.slice (some ⟨b, off', sp⟩) out.length c2) ∧ w'.cell? ⟨X, 0, none⟩ = some (.int .i64 x.kind) ∧ w'.cell? ⟨X, 1, none⟩ = some (.int .i64 x.n) ∧ w'.cell? ⟨X, 2, none⟩ = some (.string x.s) ∧ w'.cell? ⟨X, 3, none⟩ = some (.slice Ax x.l.length cx)) 14 (by kernel_rfl) (by kernel_rfl) (by kernel_rfl) (by kernel_rfl) ⟨s1, s2, s3, s4, s5⟩ ?_
         refine upto_take (i := 0) (v := ?v23_) (by simp only [List.getElem?_toArray, List.getElem?_cons_succ, List.getElem?_cons_zero]; rfl) (by kernel_rfl) (by kernel_rfl) (by kernel_rfl) (by kernel_rfl) ?hq23_ ?hw23_ ?hy23_ ?rest23_
         case hq23_ => exact fun _ _ _ h => h
         case hw23_ => rfl
         case hy23_ => (intro w' hS'; (try dsimp only at hS'); go_simp; (try with_reducible rfl))
         (try simp only [Act.put, List.setIfInBounds_toArray, List.set_cons_zero, List.set_cons_succ])
         refine upto_take (i := 1) (v := ?v24_) (by simp only [List.getElem?_toArray, List.getElem?_cons_succ, List.getElem?_cons_zero]; rfl) (by kernel_rfl) (by kernel_rfl) (by kernel_rfl) (by kernel_rfl) ?hq24_ ?hw24_ ?hy24_ ?rest24_
         case hq24_ => exact fun _ _ _ h => h
         case hw24_ => rfl
         case hy24_ => (intro w' hS'; (try dsimp only at hS'); go_simp; (try with_reducible rfl))
         (try simp only [Act.put, List.setIfInBounds_toArray, List.set_cons_zero, List.set_cons_succ])
         refine upto_take (i := 2) (v := ?v25_) (by simp only [List.getElem?_toArray, List.getElem?_cons_succ, List.getElem?_cons_zero]; rfl) (by kernel_rfl) (by kernel_rfl) (by kernel_rfl) (by kernel_rfl) ?hq25_ ?hw25_ ?hy25_ ?rest25_
         case hq25_ => exact fun _ _ _ h => h
         case hw25_ => rfl
         case hy25_ => (intro w' hS'; (try dsimp only at hS'); go_simp; (try with_reducible rfl))
         (try simp only [Act.put, List.setIfInBounds_toArray, List.set_cons_zero, List.set_cons_succ])
         refine upto_take (i := 3) (v := ?v26_) (by simp only [List.getElem?_toArray, List.getElem?_cons_succ, List.getElem?_cons_zero]; rfl) (by kernel_rfl) (by kernel_rfl) (by kernel_rfl) (by kernel_rfl) ?hq26_ ?hw26_ ?hy26_ ?rest26_
         case hq26_ => exact fun _ _ _ h => h
         case hw26_ => rfl
         case hy26_ => (intro w' hS'; (try dsimp only at hS'); go_simp; (try with_reducible rfl))
         (try simp only [Act.put, List.setIfInBounds_toArray, List.set_cons_zero, List.set_cons_succ])
         refine upto_take (i := 5) (v := ?v27_) (by simp only [List.getElem?_toArray, List.getElem?_cons_succ, List.getElem?_cons_zero]; rfl) (by kernel_rfl) (by kernel_rfl) (by kernel_rfl) (by kernel_rfl) ?hq27_ ?hw27_ ?hy27_ ?rest27_
         case hq27_ => exact fun _ _ _ h => h
         case hw27_ => rfl
         case hy27_ => (intro w' hS'; (try dsimp only at hS'); go_simp; (try with_reducible rfl))
         (try simp only [Act.put, List.setIfInBounds_toArray, List.set_cons_zero, List.set_cons_succ])
         refine upto_take (i := 8) (v := ?v28_) (by simp only [List.getElem?_toArray, List.getElem?_cons_succ, List.getElem?_cons_zero]; rfl) (by kernel_rfl) (by kernel_rfl) (by kernel_rfl) (by kernel_rfl) ?hq28_ ?hw28_ ?hy28_ ?rest28_
         case hq28_ => exact fun _ _ _ h => h
         case hw28_ => rfl
         case hy28_ => (intro w' hS'; (try dsimp only at hS'); go_simp; (try with_reducible rfl))
         (try simp only [Act.put, List.setIfInBounds_toArray, List.set_cons_zero, List.set_cons_succ])
         refine upto_take (i := 9) (v := ?v29_) (by simp only [List.getElem?_toArray, List.getElem?_cons_succ, List.getElem?_cons_zero]; rfl) (by kernel_rfl) (by kernel_rfl) (by kernel_rfl) (by kernel_rfl) ?hq29_ ?hw29_ ?hy29_ ?rest29_
         case hq29_ => exact fun _ _ _ h => h
         case hw29_ => rfl
         case hy29_ => (intro w' hS'; (try dsimp only at hS'); go_simp; (try with_reducible rfl))
         (try simp only [Act.put, List.setIfInBounds_toArray, List.set_cons_zero, List.set_cons_succ])
         refine upto_take (i := 10) (v := ?v30_) (by simp only [List.getElem?_toArray, List.getElem?_cons_succ, List.getElem?_cons_zero]; rfl) (by kernel_rfl) (by kernel_rfl) (by kernel_rfl) (by kernel_rfl) ?hq30_ ?hw30_ ?hy30_ ?rest30_
         case hq30_ => exact fun _ _ _ h => h
         case hw30_ => rfl
         case hy30_ => (intro w' hS'; (try dsimp only at hS'); go_simp; (try with_reducible rfl))
         (try simp only [Act.put, List.setIfInBounds_toArray, List.set_cons_zero, List.set_cons_succ])
         refine upto_take (i := 11) (v := ?v31_) (by simp only [List.getElem?_toArray, List.getElem?_cons_succ, List.getElem?_cons_zero]; rfl) (by kernel_rfl) (by kernel_rfl) (by kernel_rfl) (by kernel_rfl) ?hq31_ ?hw31_ ?hy31_ ?rest31_
         case hq31_ => exact fun _ _ _ h => h
         case hw31_ => rfl
         case hy31_ => (intro w' hS'; (try dsimp only at hS'); go_simp; (try with_reducible rfl))
         (try simp only [Act.put, List.setIfInBounds_toArray, List.set_cons_zero, List.set_cons_succ])
         refine upto_ready (rs := [4, 6]) (by kernel_rfl) rfl (by kernel_rfl) ?_
         refine AllUpto.cons (by simp only [List.getElem?_toArray, List.getElem?_cons_succ, List.getElem?_cons_zero]; rfl) (fun K hK => ?_) (AllUpto.cons (by simp only [List.getElem?_toArray, List.getElem?_cons_succ, List.getElem?_cons_zero]; rfl) (fun K hK => ?_) AllUpto.nil)
         · refine step_append_R (R := TmR d) (e := 33) rfl (.const (.slice none 0 0)) (.tmp 71) 26 rfl (bytes := 56) Tryz.underlying26 hi0 hz0 hz1 hz2 rfl (show 0 < 4 by omega) (single_tm d) rfl (xs := []) (base := wk.heap.size) (B := B) (OwnR.nil _ _ _ _ _) rfl (ys := out.take out.length) ((HIk.out.own.later (Below.refl wk.heap.size wk).drew hBk).src.take out.length) (by rw [List.length_take]; omega) hBk (by simp only [List.length_nil, List.length_take]; omega) (by omega) (by simp) ?_
           intro v1 w7 hown1 hb7 hg7
           have HO1 := Lib.hid hown1
           have HG7 := Lib.hid hg7
           have hsz7 : wk.heap.size ≤ w7.heap.size := Nat.le_trans (by simp) hb7.size
           have HB17 : Hid (Below wk.heap.size wk w7) := Lib.hid ((Below.refl wk.heap.size wk).drew.trans hb7)
           have k_o7 := (HIk.out.set_.keep HB17.out hoO).cell
           have k_x7 := (HBX.out.keep HB17.out hxl).cell
           refine hK.out _ _ ⟨k_o7 3, k_x7 0, k_x7 1, k_x7 2, k_x7 3⟩ ?_
           clear hown1 hb7 hg7 hK
           (try simp only [Act.put, List.setIfInBounds_toArray, List.set_cons_zero, List.set_cons_succ])
           refine upto_ready (rs := [6]) (by kernel_rfl) rfl (by kernel_rfl) ?_
           refine AllUpto.cons (by simp only [List.getElem?_toArray, List.getElem?_cons_succ, List.getElem?_cons_zero]; rfl) (fun K hK => ?_) AllUpto.nil
           go_simp
           refine hK.out _ _ ⟨(World.cell?_alloc_lt _ _ _ (Nat.lt_of_lt_of_le hoO hsz7)).trans (k_o7 3), (World.cell?_alloc_lt _ _ _ (Nat.lt_of_lt_of_le hxl hsz7)).trans (k_x7 0), (World.cell?_alloc_lt _ _ _ (Nat.lt_of_lt_of_le hxl hsz7)).trans (k_x7 1), (World.cell?_alloc_lt _ _ _ (Nat.lt_of_lt_of_le hxl hsz7)).trans (k_x7 2), (World.cell?_alloc_lt _ _ _ (Nat.lt_of_lt_of_le hxl hsz7)).trans (k_x7 3)⟩ ?_
           clear hK
           (try simp only [Act.put, List.setIfInBounds_toArray, List.set_cons_zero, List.set_cons_succ])
           refine upto_ready (rs := [7]) (by kernel_rfl) rfl (by kernel_rfl) ?_
           refine AllUpto.cons (by simp only [List.getElem?_toArray, List.getElem?_cons_succ, List.getElem?_cons_zero]; rfl) (fun K hK => ?_) AllUpto.nil
           refine step_append_R (R := TmR d) (e := 33) rfl (.tmp 72) (.tmp 74) 26 rfl (bytes := 56) Tryz.underlying26 hi0 hz0 hz1 hz2 rfl (show 0 < 4 by omega) (single_tm d) rfl (xs := out.take out.length) (base := wk.heap.size) (B := B) (HO1.out.later ((Below.refl _ _).alloc (Nat.le_refl _) _) (Nat.le_trans hBk hsz7)) rfl (ys := [x]) (Blk.src (n11 rfl) ((TmR d).keep (HB17.out.alloc hsz7 _) hBk HRk.out)) rfl hBk (by simp only [List.length_cons, List.length_nil, List.length_take]; omega) (by omega) (by rw [World.size_alloc]; omega) ?_
           intro v2 w8 hown2 hb8 hg8
           have HO2 := Lib.hid hown2
           have hsz8 : wk.heap.size ≤ w8.heap.size := Nat.le_trans (by rw [World.size_alloc]; omega) hb8.size
           have HB18 : Hid (Below wk.heap.size wk w8) := Lib.hid ((HB17.out.alloc hsz7 _).trans hb8)
           have k_o8 := (HIk.out.set_.keep HB18.out hoO).cell
           have k_x8 := (HBX.out.keep HB18.out hxl).cell
           refine hK.out _ _ ⟨k_o8 3, k_x8 0, k_x8 1, k_x8 2, k_x8 3⟩ ?_
           clear hown2 hb8 hg8 hK
           (try simp only [Act.put, List.setIfInBounds_toArray, List.set_cons_zero, List.set_cons_succ])
           refine upto_ready (rs := [12]) (by kernel_rfl) rfl (by kernel_rfl) ?_
           refine AllUpto.cons (by simp only [List.getElem?_toArray, List.getElem?_cons_succ, List.getElem?_cons_zero]; rfl) (fun K hK => ?_) AllUpto.nil
           refine step_append_R (R := TmR d) (e := 33) rfl (.tmp 75) (.tmp 79) 26 rfl (bytes := 56) Tryz.underlying26 hi0 hz0 hz1 hz2 rfl (show 0 < 4 by omega) (single_tm d) rfl (xs := out.take out.length ++ [x]) (base := wk.heap.size) (B := B) HO2.out rfl (ys := out.drop out.length) (SrcR.none (by simp)) (by simp) hBk (by simp only [List.length_append, List.length_cons, List.length_nil, List.length_take, List.length_drop]; omega) (by omega) hsz8 ?_
           intro v3 w9 hown3 hb9 hg9
           generalize hL : out.take out.length ++ [x] ++ out.drop out.length = out2 at hown3
           have HL3 := Lib.hid hL
           clear hL
           obtain ⟨A3, c3, rfl⟩ := hown3.form
           have HO3 := Lib.hid hown3
           have HB19 := Lib.hid (HB18.out.trans hb9)
           have k_o9 := (HIk.out.set_.keep HB19.out hoO).cell
           have f_o9 := (HIk.out.set_.keep HB19.out hoO).free
           have k_x9 := (HBX.out.keep HB19.out hxl).cell
           refine hK.out _ _ ⟨k_o9 3, k_x9 0, k_x9 1, k_x9 2, k_x9 3⟩ ?_
           clear hown3 hb9 hg9 hK
           (try simp only [Act.put, List.setIfInBounds_toArray, List.set_cons_zero, List.set_cons_succ])
           refine upto_take (i := 13) (v := ?v32_) (by simp only [List.getElem?_toArray, List.getElem?_cons_succ, List.getElem?_cons_zero]; rfl) (by kernel_rfl) (by kernel_rfl) (by kernel_rfl) (by kernel_rfl) ?hq32_ ?hw32_ ?hy32_ ?rest32_
           case hq32_ => exact fun _ _ _ h => h
           case hw32_ => rfl
           case hy32_ => (intro w' hS'; (try dsimp only at hS'); go_simp; (try with_reducible rfl))
           (try simp only [Act.put, List.setIfInBounds_toArray, List.set_cons_zero, List.set_cons_succ])
           refine upto_last (by kernel_rfl) (by kernel_rfl) (by simp only [List.getElem?_toArray, List.getElem?_cons_succ, List.getElem?_cons_zero]; rfl) (fun K hK => ?_)
           go_simp
           refine hK.out _ _ ?_
           (try simp only [Act.put, List.setIfInBounds_toArray, List.set_cons_zero, List.set_cons_succ])
           go_wp2_with fail
           go_roundw
           case rel =>
             have hb3 := HB19.out
             have hle := hb3.size
             refine ⟨k + 1, A3, c3, by omega, by go_num, Lib.hid ((bthen HBk.out hb3).setCell (by show w.heap.size ≤ w.heap.size + 1; omega) _), by simp only [World.size_setCell]; omega, Lib.hid ?_, HALL2⟩
             rw [HFS.out, HNEW.out, HL3.out]
             refine ⟨(HIk.out.res.keep hb3 hoR).far (by omega) _ _, (HIk.out.set_.keep hb3 hoO).set_ 3 (.slice A3 out2.length c3), ?_⟩
             have h9 := (HO3.out.lower (show w0.heap.size ≤ wk.heap.size by omega)).far (c := w.heap.size + 1) (i := 3) (by omega) (by omega) (.slice A3 out2.length c3)
             exact h9
           case measure => simp [intOf]; omega
         · go_simp
           refine hK.out _ _ ⟨(World.cell?_alloc_lt _ _ _ hoO).trans s1, (World.cell?_alloc_lt _ _ _ hxl).trans s2, (World.cell?_alloc_lt _ _ _ hxl).trans s3, (World.cell?_alloc_lt _ _ _ hxl).trans s4, (World.cell?_alloc_lt _ _ _ hxl).trans s5⟩ ?_
           clear hK
           (try simp only [Act.put, List.setIfInBounds_toArray, List.set_cons_zero, List.set_cons_succ])
           refine upto_ready (rs := [4]) (by kernel_rfl) rfl (by kernel_rfl) ?_
           refine AllUpto.cons (by simp only [List.getElem?_toArray, List.getElem?_cons_succ, List.getElem?_cons_zero]; rfl) (fun K hK => ?_) AllUpto.nil
           refine step_append_R (R := TmR d) (e := 33) rfl (.const (.slice none 0 0)) (.tmp 71) 26 rfl (bytes := 56) Tryz.underlying26 hi0 hz0 hz1 hz2 rfl (show 0 < 4 by omega) (single_tm d) rfl (xs := []) (base := wk.heap.size) (B := B) (OwnR.nil _ _ _ _ _) rfl (ys := out.take out.length) ((HIk.out.own.later ((Below.refl wk.heap.size wk).drew.alloc (Nat.le_refl _) _) hBk).src.take out.length) (by rw [List.length_take]; omega) hBk (by simp only [List.length_nil, List.length_take]; omega) (by omega) (by simp) ?_
           intro v1 w7 hown1 hb7 hg7
           have HO1 := Lib.hid hown1
           have HG7 := Lib.hid hg7
           have hsz7 : wk.heap.size ≤ w7.heap.size := Nat.le_trans (by simp) hb7.size
           have HB17 : Hid (Below wk.heap.size wk w7) := Lib.hid (((Below.refl wk.heap.size wk).drew.alloc (Nat.le_refl _) _).trans hb7)
           have k_o7 := (HIk.out.set_.keep HB17.out hoO).cell
           have k_x7 := (HBX.out.keep HB17.out hxl).cell
           refine hK.out _ _ ⟨k_o7 3, k_x7 0, k_x7 1, k_x7 2, k_x7 3⟩ ?_
           clear hown1 hb7 hg7 hK
           (try simp only [Act.put, List.setIfInBounds_toArray, List.set_cons_zero, List.set_cons_succ])
           refine upto_ready (rs := [7]) (by kernel_rfl) rfl (by kernel_rfl) ?_
           refine AllUpto.cons (by simp only [List.getElem?_toArray, List.getElem?_cons_succ, List.getElem?_cons_zero]; rfl) (fun K hK => ?_) AllUpto.nil
           refine step_append_R (R := TmR d) (e := 33) rfl (.tmp 72) (.tmp 74) 26 rfl (bytes := 56) Tryz.underlying26 hi0 hz0 hz1 hz2 rfl (show 0 < 4 by omega) (single_tm d) rfl (xs := out.take out.length) (base := wk.heap.size) (B := B) (HO1.out) rfl (ys := [x]) (Blk.src ((Blk.new wk.drew _ _).grown HG7.out ne_none) ((TmR d).keep HB17.out hBk HRk.out)) rfl hBk (by simp only [List.length_cons, List.length_nil, List.length_take]; omega) (by omega) (by exact hsz7) ?_
           intro v2 w8 hown2 hb8 hg8
           have HO2 := Lib.hid hown2
           have hsz8 : wk.heap.size ≤ w8.heap.size := Nat.le_trans (by exact hsz7) hb8.size
           have HB18 : Hid (Below wk.heap.size wk w8) := Lib.hid (HB17.out.trans hb8)
           have k_o8 := (HIk.out.set_.keep HB18.out hoO).cell
           have k_x8 := (HBX.out.keep HB18.out hxl).cell
           refine hK.out _ _ ⟨k_o8 3, k_x8 0, k_x8 1, k_x8 2, k_x8 3⟩ ?_
           clear hown2 hb8 hg8 hK
           (try simp only [Act.put, List.setIfInBounds_toArray, List.set_cons_zero, List.set_cons_succ])
           refine upto_ready (rs := [12]) (by kernel_rfl) rfl (by kernel_rfl) ?_
           refine AllUpto.cons (by simp only [List.getElem?_toArray, List.getElem?_cons_succ, List.getElem?_cons_zero]; rfl) (fun K hK => ?_) AllUpto.nil
           refine step_append_R (R := TmR d) (e := 33) rfl (.tmp 75) (.tmp 79) 26 rfl (bytes := 56) Tryz.underlying26 hi0 hz0 hz1 hz2 rfl (show 0 < 4 by omega) (single_tm d) rfl (xs := out.take out.length ++ [x]) (base := wk.heap.size) (B := B) HO2.out rfl (ys := out.drop out.length) (SrcR.none (by simp)) (by simp) hBk (by simp only [List.length_append, List.length_cons, List.length_nil, List.length_take, List.length_drop]; omega) (by omega) hsz8 ?_
           intro v3 w9 hown3 hb9 hg9
           generalize hL : out.take out.length ++ [x] ++ out.drop out.length = out2 at hown3
           have HL3 := Lib.hid hL
           clear hL
           obtain ⟨A3, c3, rfl⟩ := hown3.form
           have HO3 := Lib.hid hown3
           have HB19 := Lib.hid (HB18.out.trans hb9)
           have k_o9 := (HIk.out.set_.keep HB19.out hoO).cell
           have f_o9 := (HIk.out.set_.keep HB19.out hoO).free
           have k_x9 := (HBX.out.keep HB19.out hxl).cell
           refine hK.out _ _ ⟨k_o9 3, k_x9 0, k_x9 1, k_x9 2, k_x9 3⟩ ?_
           clear hown3 hb9 hg9 hK
           (try simp only [Act.put, List.setIfInBounds_toArray, List.set_cons_zero, List.set_cons_succ])
           refine upto_take (i := 13) (v := ?v33_) (by simp only [List.getElem?_toArray, List.getElem?_cons_succ, List.getElem?_cons_zero]; rfl) (by kernel_rfl) (by kernel_rfl) (by kernel_rfl) (by kernel_rfl) ?hq33_ ?hw33_ ?hy33_ ?rest33_
           case hq33_ => exact fun _ _ _ h => h
           case hw33_ => rfl
           case hy33_ => (intro w' hS'; (try dsimp only at hS'); go_simp; (try with_reducible rfl))
           (try simp only [Act.put, List.setIfInBounds_toArray, List.set_cons_zero, List.set_cons_succ])
           refine upto_last (by kernel_rfl) (by kernel_rfl) (by simp only [List.getElem?_toArray, List.getElem?_cons_succ, List.getElem?_cons_zero]; rfl) (fun K hK => ?_)
           go_simp
           refine hK.out _ _ ?_
           (try simp only [Act.put, List.setIfInBounds_toArray, List.set_cons_zero, List.set_cons_succ])
           go_wp2_with fail
           go_roundw
           case rel =>
             have hb3 := HB19.out
             have hle := hb3.size
             refine ⟨k + 1, A3, c3, by omega, by go_num, Lib.hid ((bthen HBk.out hb3).setCell (by show w.heap.size ≤ w.heap.size + 1; omega) _), by simp only [World.size_setCell]; omega, Lib.hid ?_, HALL2⟩
             rw [HFS.out, HNEW.out, HL3.out]
             refine ⟨(HIk.out.res.keep hb3 hoR).far (by omega) _ _, (HIk.out.set_.keep hb3 hoO).set_ 3 (.slice A3 out2.length c3), ?_⟩
             have h9 := (HO3.out.lower (show w0.heap.size ≤ wk.heap.size by omega)).far (c := w.heap.size + 1) (i := 3) (by omega) (by omega) (.slice A3 out2.length c3)
             exact h9
           case measure => simp [intOf]; omega
end Go.Proofs.YtiplipdigabidaaGreat
