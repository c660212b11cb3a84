/- viaticumref6.run, Match. -/
import Derived.Test.YtiplipdigabidaaGreatRq8
import Derived.Test.YtiplipdigabidaaGreatMat3
set_option linter.unusedVariables false
set_option linter.unusedSimpArgs false
namespace Go.Proofs.YtiplipdigabidaaGreat
open Go.ChangeShapes Go.WideShapes Go.ChangeAt Go.RowKit
theorem reach_at {w : World} {G cl ca B : Nat} {i a : Int} {l : List Ins} {Al : Option Addr} {s : ByteArray} {first last : Bool} {on : List Bool} (h0 : 0 ≤ i) (hi : i < l.length) (ha : 0 ≤ a) (hg : BlkT w G (boolsA on) 4) (hon : on.length = l.length) (hl : RL InsR w B l Al) (hBG : B ≤ G) (hp : Prg l) (hfi : (a == 0) = first) (hla : (a == (s.size : Int)) = last) :
   Calls Tryz.prog 100 #[.slice Al l.length cl, .slice (some ⟨G, 0, none⟩) l.length ca, .int .i64 i, .string s, .int .i64 a] w fun e w' => ReachE G l.length ca w w' (reachQ l first last i on) e := by
 obtain ⟨i0, rfl⟩ := Int.eq_ofNat_of_zero_le h0
 obtain ⟨a0, rfl⟩ := Int.eq_ofNat_of_zero_le ha
 exact reach_any hg hon hl hBG hp (by omega) hfi hla
theorem takesQ_step {l : List Ins} {c : Nat} {last : Bool} {on next : List Bool} {k : Nat} {b : Bool} (h : on[k]? = some b) : takesQ l c last k (on.drop k) next = takesQ l c last (k + 1) (on.drop (k + 1)) (if b && takesI (insAt l k) c then reachQ l false last (k + 1) next else next) := by
 obtain ⟨hk, e⟩ := List.getElem?_eq_some_iff.1 h
 rw [List.drop_eq_getElem_cons hk, e]
 rfl
theorem runQ_done {l : List Ins} {t : ByteArray} {n i : Nat} {on : List Bool} (h : on.getD (l.length - 1) false = true) : runQ l t n i on = true := by
 cases n with
 | zero => exact h
 | succ n => unfold runQ; rw [if_pos h]
theorem runQ_go {l : List Ins} {t : ByteArray} {n i : Nat} {on : List Bool} (h : on.getD (l.length - 1) false = false) : runQ l t (n + 1) i on = runQ l t n (i + 1) (reachQ l false (decide (i + 1 = t.size)) 0 (takesQ l (byteAt t i) (decide (i + 1 = t.size)) 0 on (List.replicate l.length false))) := by
 show (if _ then _ else _) = _
 rw [if_neg (by rw [h]; simp)]
theorem at_end {i n : Nat} : ((i : Int) == (n : Int)) = decide (i = n) := by
 by_cases h : i = n
 · subst h; simp
 · rw [decide_eq_false h]; simp; omega
theorem at_last {i n : Nat} : (((i : Int) + 1) == (n : Int)) = decide (i + 1 = n) := at_end (i := i + 1)
theorem rd_bool {w : World} {G k : Nat} {on : List Bool} {b : Bool} (h : BlkT w G (boolsA on) 4) (hk : on[k]? = some b) : w.cell? ⟨G, k, none⟩ = some (.bool b) := by rw [h.blk.cell, boolsA_get, hk]; rfl
set_option maxRecDepth 100000 in
set_option maxHeartbeats 8000000 in
theorem runq_any {w : World} {cl B : Nat} {l : List Ins} {Al : Option Addr} {t : ByteArray} (hl : RL InsR w B l Al) (hB : B ≤ w.heap.size) (hp : Prg l) (ht : t.size ≤ 256) :
   Calls Tryz.prog 74 #[.slice Al l.length cl, .string t, .bool true] w fun e w' => e = .returned (.bool (runQ l t t.size 0 (reachQ l true (decide (t.size = 0)) 0 (List.replicate l.length false)))) ∧ Below w.heap.size w w' := by
 have hlen := hp.len
 have hpos := hp.pos
 obtain ⟨b_, off, rfl, hob⟩ := hl.base (Below.refl _ _) hB (by omega)
 have HL := Lib.hid hl
 have HP := Lib.hid hp
 have hmk := fun w => make_bools l.length (by omega) w
 have hL1 : ((l.length : Int) - 1) = ((l.length - 1 : Nat) : Int) := by omega
 have hL2 : l.length - 1 < l.length := by omega
 have HRL : Hid (∀ (f a : Bool) (i : Int) (on : List Bool), 0 ≤ i → i < l.length → on.length = l.length → (reachQ l f a i on).length = l.length) := Lib.hid (fun f a i on h0 h1 h2 => reachQ_len hp f a h0 h1 h2)
 have HTK : Hid (∀ (k c : Nat), k < l.length → takesI (insAt l k) c = true → k + 1 < l.length) := Lib.hid (fun k c hk h => takes_in hp hk h)
 clear hl hp
 go_enter Tryz.func74, Tryz.ntmps74
 go_wp2_with fail
 generalize hA : World.alloc _ _ = w1
 have hb := below_new hA
 have HG1 : Hid (BlkT w1 w.heap.size (boolsA (List.replicate l.length false)) 4) := Lib.hid (hA ▸ heap_alloc_new w _)
 have HB1 := Lib.hid hb
 have hz1 := hb.size
 clear hA hb
 refine (reach_at (B := B) (first := true) (last := decide (t.size = 0)) (on := List.replicate l.length false) (Int.le_refl 0) (by omega) (Int.le_refl 0) HG1.out List.length_replicate (HL.out.keep HB1.out hB) hB HP.out rfl (by rw [show (0 : Int) = ((0 : Nat) : Int) from rfl, at_end]; by_cases h : t.size = 0 <;> simp [h]; omega)).mono ?_
 rintro e w2 ⟨rfl, he, hg⟩
 have HG2 := Lib.hid hg
 have HB2 := Lib.hid (HB1.out.trans he.1)
 have HO2 : Hid ((reachQ l true (decide (t.size = 0)) 0 (List.replicate l.length false)).length = l.length) := Lib.hid (HRL.out _ _ _ _ (Int.le_refl 0) (by omega) List.length_replicate)
 generalize hon0 : reachQ l true (decide (t.size = 0)) 0 (List.replicate l.length false) = on0 at *
 have HON0 := Lib.hid hon0
 clear hon0
 clear he hg HG1 HB1 hz1
 go_wp2_with fail
 go_loopg [7, 8] t.size (fun g v7 v8 wr => ∃ (i G ca : Nat) (on1 : List Bool), v7 = .slice (some ⟨G, 0, none⟩) l.length ca ∧ v8 = .int .i64 i ∧ i + g = t.size ∧ Hid (runQ l t g i on1 = runQ l t t.size 0 on0) ∧ Hid (BlkT wr G (boolsA on1) 4) ∧ Hid (on1.length = l.length) ∧ Hid (Below w.heap.size w wr) ∧ w.heap.size ≤ G)
 case atStart => exact ⟨0, _, _, on0, rfl, rfl, by omega, Lib.hid rfl, HG2, HO2, HB2, Nat.le_refl _⟩
 case round =>
   obtain ⟨i, G, ca, on1, rfl, rfl, hig, HE, HG, HO, HB, hGw⟩ := hrel
   generalize wr = wo at *
   have hGo := HG.out.blk.lt
   obtain ⟨bl, hbl⟩ : ∃ bl, on1[l.length - 1]? = some bl := ⟨_, List.getElem?_eq_getElem (by rw [HO.out]; exact hL2)⟩
   have HBL : Hid (on1.getD (l.length - 1) false = bl) := Lib.hid (by rw [List.getD_eq_getElem?_getD, hbl]; rfl)
   have c_l := rd_bool HG.out hbl
   have hile : i ≤ t.size := by omega
   clear hbl
   cases bl
   · by_cases hit : i = t.size
     · have hq : ((i : Int) == (t.size : Int)) = true := by rw [at_end, decide_eq_true hit]
       obtain rfl : gk = 0 := by omega
       have HR : Hid (runQ l t t.size 0 on0 = false) := Lib.hid (by rw [← HE.out]; exact HBL.out)
       clear hit
       go_wp2_with fail
       go_ret
       rw [HON0.out, HR.out]
       exact ⟨rfl, HB.out⟩
     · have hq : ((i : Int) == (t.size : Int)) = false := by rw [at_end, decide_eq_false hit]
       obtain ⟨g, rfl⟩ : ∃ g, gk = g + 1 := ⟨gk - 1, by omega⟩
       have hlt : i < t.size := by omega
       have hbyte := byteAt_lt t i
       have HE2 := Lib.hid ((runQ_go (n := g) HBL.out).symm.trans HE.out)
       generalize hcc : byteAt t i = c at *
       have hix := fun wx => run_ix0 hlt hcc wx
       have HLA := Lib.hid (at_last (i := i) (n := t.size))
       generalize decide (i + 1 = t.size) = last at *
       clear hit hcc HE
       go_wp2_with fail
       generalize hA : World.alloc _ _ = wi
       have hb := below_new hA
       have HN0 : Hid (BlkT wi wo.heap.size (boolsA (List.replicate l.length false)) 4) := Lib.hid (hA ▸ heap_alloc_new wo _)
       have HGi := Lib.hid (HG.out.later hb)
       have HBi := Lib.hid (bthen HB.out hb)
       have HBN : Hid (Below wo.heap.size wo wi) := Lib.hid hb
       have hzi : w.heap.size ≤ wo.heap.size := HB.out.size
       have hzo : wo.heap.size < wi.heap.size := HN0.out.blk.lt
       have HG0 := Lib.hid HG.out
       have HBo := Lib.hid HB.out
       have HLo := Lib.hid (HL.out.keep HB.out hB)
       clear hA hb HG HB c_l
       go_wp2_with fail
       go_loopw [9, 49] (fun v9 v49 wr => ∃ (k ca2 : Nat) (next : List Bool) (G2 : Nat), v9 = .slice (some ⟨G2, 0, none⟩) l.length ca2 ∧ v49 = .int .i64 k ∧ k ≤ l.length ∧ Hid (takesQ l c last k (on1.drop k) next = takesQ l c last 0 on1 (List.replicate l.length false)) ∧ Hid (BlkT wr G2 (boolsA next) 4) ∧ Hid (next.length = l.length) ∧ wo.heap.size ≤ G2 ∧ Hid (Below wo.heap.size wo wr)) (fun _ v49 _ => l.length - (intOf v49).toNat)
       case atStart => exact ⟨0, _, List.replicate l.length false, _, rfl, rfl, Nat.zero_le _, Lib.hid rfl, HN0, Lib.hid List.length_replicate, Nat.le_refl _, HBN⟩
       case round =>
         obtain ⟨k, ca2, next, G2, rfl, rfl, hk, HT, HN, HNL, hG2, HBr⟩ := hrel
         by_cases hkl : k < l.length
         · obtain ⟨b, hb⟩ : ∃ b, on1[k]? = some b := ⟨_, List.getElem?_eq_getElem (by rw [HO.out]; exact hkl)⟩
           have HT2 := Lib.hid ((takesQ_step (l := l) (c := c) (last := last) (next := next) hb).symm.trans HT.out)
           have c_g := rd_bool (HG0.out.keep HBr.out hGo) hb
           clear hb HT
           have HLr : Hid (RL InsR wr B l (some ⟨b_, off, none⟩)) := Lib.hid (HLo.out.keep HBr.out (by omega))
           have hB2 : B ≤ wr.heap.size := by have := HBr.out.size; omega
           obtain ⟨x, vs, hx, hxl, hxc, hxr⟩ := HLr.out.at_ (Below.refl _ _) hB2 hkl
           obtain rfl : vs = insC x := hxr
           have c0 : wr.cell? ⟨b_, off + k * 7, none⟩ = some (.int .i64 x.kind) := hxc 0 _ rfl
           have c1 : wr.cell? ⟨b_, off + k * 7 + 1, none⟩ = some (.int .u64 x.a) := hxc 1 _ rfl
           have c2 : wr.cell? ⟨b_, off + k * 7 + 2, none⟩ = some (.int .u64 x.b) := hxc 2 _ rfl
           have c3 : wr.cell? ⟨b_, off + k * 7 + 3, none⟩ = some (.int .u64 x.c) := hxc 3 _ rfl
           have c4 : wr.cell? ⟨b_, off + k * 7 + 4, none⟩ = some (.int .u64 x.d) := hxc 4 _ rfl
           have hIX : insAt l k = x := by
             unfold insAt
             rw [Int.toNat_natCast, List.getD_eq_getElem?_getD, hx]
             rfl
           have HTI := Lib.hid (HTK.out k c hkl)
           rw [hIX] at HT2 HTI
           clear hxc hxl hx hIX HLr hB2
           have hn64 : c / 64 = 0 ∨ c / 64 = 1 ∨ c / 64 = 2 ∨ c / 64 = 3 := by omega
           have hr : (c : Int).tmod 64 = ((c % 64 : Nat) : Int) := rfl
           have hr2 : ((c % 64 : Nat) : Int) < 64 := by omega
           have hr3 : (0 : Int) ≤ ((c % 64 : Nat) : Int) := by omega
           have hq64 : (c : Int).tdiv 64 = ((c / 64 : Nat) : Int) := rfl
           cases b
           · have HT3 : Hid (takesQ l c last (k + 1) (on1.drop (k + 1)) next = takesQ l c last 0 on1 (List.replicate l.length false)) := Lib.hid (by rw [← HT2.out]; simp)
             go_wp2_with fail
             have q0 := cell_regrown c0
             have q1 := cell_regrown c1
             have q2 := cell_regrown c2
             have q3 := cell_regrown c3
             have q4 := cell_regrown c4
             clear c0 c1 c2 c3 c4
             clear c_g
             refine wp_region_quiet_below (by kernel_rfl) (by kernel_rfl) ?_
             repeat (go_big_quiet_step (fail))
             refine wpQuiet_nil ?_
             intro w3 hw3
             have hb3 : Below wr.heap.size wr w3 := by obtain ⟨p, rfl⟩ := hw3; exact below_regrown _ _ _
             have HN3 := Lib.hid (HN.out.later hb3)
             have HB3 := Lib.hid (bthen HBr.out hb3)
             clear hw3 hb3 HN HBr
             go_wp2_with fail
             go_roundw
             case rel => exact ⟨k + 1, ca2, next, G2, rfl, by go_num, by omega, HT3, HN3, HNL, hG2, HB3⟩
             case measure => simp [intOf]; omega
           · by_cases hk1 : x.kind = 1
             · have qk : (x.kind == 1) = true := by simpa using hk1
               have HTW := fun (j : Nat) (hj : c / 64 = j) => takes_word (c := c) hk1 hj
               clear hk1
               rcases hn64 with hj | hj | hj | hj
               · have HTW2 := Lib.hid (HTW 0 hj)
                 rw [hj] at hq64
                 clear HTW hj
                 have hword : x.word 0 = x.a := rfl
                 rw [hword] at HTW2
                 clear hword
                 rcases Bool.eq_false_or_eq_true (bits .and .u64 (x.a / 2 ^ (c % 64)) 1 == 1) with hbit | hbit
                 · have HTR : Hid (takesI x c = true) := Lib.hid (by rw [HTW2.out, hbit])
                   have HT3 : Hid (takesQ l c last (k + 1) (on1.drop (k + 1)) (reachQ l false last ((k : Int) + 1) next) = takesQ l c last 0 on1 (List.replicate l.length false)) := Lib.hid (by rw [← HT2.out, HTR.out]; rfl)
                   have hk2 := HTI.out HTR.out
                   go_wp2_with fail
                   have q0 := cell_regrown c0
                   have q1 := cell_regrown c1
                   have q2 := cell_regrown c2
                   have q3 := cell_regrown c3
                   have q4 := cell_regrown c4
                   clear c0 c1 c2 c3 c4
                   clear c_g
                   refine wp_region_quiet_below (by kernel_rfl) (by kernel_rfl) ?_
                   repeat (go_big_quiet_step (fail))
                   refine wpQuiet_nil ?_
                   intro w3 hw3
                   have hb3 : Below wr.heap.size wr w3 := by obtain ⟨p, rfl⟩ := hw3; exact below_regrown _ _ _
                   have HN3 := Lib.hid (HN.out.later hb3)
                   have HB3 := Lib.hid (bthen HBr.out hb3)
                   clear hw3 hb3 HN HBr
                   go_wp2_with fail
                   refine (reach_at (B := B) (first := false) (last := last) (by omega) (by omega) (by omega) HN3.out HNL.out (HLo.out.keep HB3.out (by omega)) (by omega) HP.out (by simp; omega) HLA.out).mono ?_
                   rintro e w4 ⟨rfl, he, hg⟩
                   have HN4 := Lib.hid hg
                   have HB4 := Lib.hid (HB3.out.trans (he.1.mono hG2))
                   have HNL4 := Lib.hid (HRL.out false last ((k : Int) + 1) next (by omega) (by omega) HNL.out)
                   clear he hg HN3 HB3
                   go_wp2_with fail
                   go_roundw
                   case rel => exact ⟨k + 1, ca2, _, G2, rfl, by go_num, by omega, HT3, HN4, HNL4, hG2, HB4⟩
                   case measure => simp [intOf]; omega
                 · have HTR : Hid (takesI x c = false) := Lib.hid (by rw [HTW2.out, hbit])
                   have HT3 : Hid (takesQ l c last (k + 1) (on1.drop (k + 1)) next = takesQ l c last 0 on1 (List.replicate l.length false)) := Lib.hid (by rw [← HT2.out]; rw [HTR.out]; rfl)
                   go_wp2_with fail
                   have q0 := cell_regrown c0
                   have q1 := cell_regrown c1
                   have q2 := cell_regrown c2
                   have q3 := cell_regrown c3
                   have q4 := cell_regrown c4
                   clear c0 c1 c2 c3 c4
                   clear c_g
                   refine wp_region_quiet_below (by kernel_rfl) (by kernel_rfl) ?_
                   repeat (go_big_quiet_step (fail))
                   refine wpQuiet_nil ?_
                   intro w3 hw3
                   have hb3 : Below wr.heap.size wr w3 := by obtain ⟨p, rfl⟩ := hw3; exact below_regrown _ _ _
                   have HN3 := Lib.hid (HN.out.later hb3)
                   have HB3 := Lib.hid (bthen HBr.out hb3)
                   clear hw3 hb3 HN HBr
                   go_wp2_with fail
                   go_roundw
                   case rel => exact ⟨k + 1, ca2, next, G2, rfl, by go_num, by omega, HT3, HN3, HNL, hG2, HB3⟩
                   case measure => simp [intOf]; omega
               · have HTW2 := Lib.hid (HTW 1 hj)
                 rw [hj] at hq64
                 clear HTW hj
                 have hword : x.word 1 = x.b := rfl
                 rw [hword] at HTW2
                 clear hword
                 rcases Bool.eq_false_or_eq_true (bits .and .u64 (x.b / 2 ^ (c % 64)) 1 == 1) with hbit | hbit
                 · have HTR : Hid (takesI x c = true) := Lib.hid (by rw [HTW2.out, hbit])
                   have HT3 : Hid (takesQ l c last (k + 1) (on1.drop (k + 1)) (reachQ l false last ((k : Int) + 1) next) = takesQ l c last 0 on1 (List.replicate l.length false)) := Lib.hid (by rw [← HT2.out, HTR.out]; rfl)
                   have hk2 := HTI.out HTR.out
                   go_wp2_with fail
                   have q0 := cell_regrown c0
                   have q1 := cell_regrown c1
                   have q2 := cell_regrown c2
                   have q3 := cell_regrown c3
                   have q4 := cell_regrown c4
                   clear c0 c1 c2 c3 c4
                   clear c_g
                   refine wp_region_quiet_below (by kernel_rfl) (by kernel_rfl) ?_
                   repeat (go_big_quiet_step (fail))
                   refine wpQuiet_nil ?_
                   intro w3 hw3
                   have hb3 : Below wr.heap.size wr w3 := by obtain ⟨p, rfl⟩ := hw3; exact below_regrown _ _ _
                   have HN3 := Lib.hid (HN.out.later hb3)
                   have HB3 := Lib.hid (bthen HBr.out hb3)
                   clear hw3 hb3 HN HBr
                   go_wp2_with fail
                   refine (reach_at (B := B) (first := false) (last := last) (by omega) (by omega) (by omega) HN3.out HNL.out (HLo.out.keep HB3.out (by omega)) (by omega) HP.out (by simp; omega) HLA.out).mono ?_
                   rintro e w4 ⟨rfl, he, hg⟩
                   have HN4 := Lib.hid hg
                   have HB4 := Lib.hid (HB3.out.trans (he.1.mono hG2))
                   have HNL4 := Lib.hid (HRL.out false last ((k : Int) + 1) next (by omega) (by omega) HNL.out)
                   clear he hg HN3 HB3
                   go_wp2_with fail
                   go_roundw
                   case rel => exact ⟨k + 1, ca2, _, G2, rfl, by go_num, by omega, HT3, HN4, HNL4, hG2, HB4⟩
                   case measure => simp [intOf]; omega
                 · have HTR : Hid (takesI x c = false) := Lib.hid (by rw [HTW2.out, hbit])
                   have HT3 : Hid (takesQ l c last (k + 1) (on1.drop (k + 1)) next = takesQ l c last 0 on1 (List.replicate l.length false)) := Lib.hid (by rw [← HT2.out]; rw [HTR.out]; rfl)
                   go_wp2_with fail
                   have q0 := cell_regrown c0
                   have q1 := cell_regrown c1
                   have q2 := cell_regrown c2
                   have q3 := cell_regrown c3
                   have q4 := cell_regrown c4
                   clear c0 c1 c2 c3 c4
                   clear c_g
                   refine wp_region_quiet_below (by kernel_rfl) (by kernel_rfl) ?_
                   repeat (go_big_quiet_step (fail))
                   refine wpQuiet_nil ?_
                   intro w3 hw3
                   have hb3 : Below wr.heap.size wr w3 := by obtain ⟨p, rfl⟩ := hw3; exact below_regrown _ _ _
                   have HN3 := Lib.hid (HN.out.later hb3)
                   have HB3 := Lib.hid (bthen HBr.out hb3)
                   clear hw3 hb3 HN HBr
                   go_wp2_with fail
                   go_roundw
                   case rel => exact ⟨k + 1, ca2, next, G2, rfl, by go_num, by omega, HT3, HN3, HNL, hG2, HB3⟩
                   case measure => simp [intOf]; omega
               · have HTW2 := Lib.hid (HTW 2 hj)
                 rw [hj] at hq64
                 clear HTW hj
                 have hword : x.word 2 = x.c := rfl
                 rw [hword] at HTW2
                 clear hword
                 rcases Bool.eq_false_or_eq_true (bits .and .u64 (x.c / 2 ^ (c % 64)) 1 == 1) with hbit | hbit
                 · have HTR : Hid (takesI x c = true) := Lib.hid (by rw [HTW2.out, hbit])
                   have HT3 : Hid (takesQ l c last (k + 1) (on1.drop (k + 1)) (reachQ l false last ((k : Int) + 1) next) = takesQ l c last 0 on1 (List.replicate l.length false)) := Lib.hid (by rw [← HT2.out, HTR.out]; rfl)
                   have hk2 := HTI.out HTR.out
                   go_wp2_with fail
                   have q0 := cell_regrown c0
                   have q1 := cell_regrown c1
                   have q2 := cell_regrown c2
                   have q3 := cell_regrown c3
                   have q4 := cell_regrown c4
                   clear c0 c1 c2 c3 c4
                   clear c_g
                   refine wp_region_quiet_below (by kernel_rfl) (by kernel_rfl) ?_
                   repeat (go_big_quiet_step (fail))
                   refine wpQuiet_nil ?_
                   intro w3 hw3
                   have hb3 : Below wr.heap.size wr w3 := by obtain ⟨p, rfl⟩ := hw3; exact below_regrown _ _ _
                   have HN3 := Lib.hid (HN.out.later hb3)
                   have HB3 := Lib.hid (bthen HBr.out hb3)
                   clear hw3 hb3 HN HBr
                   go_wp2_with fail
                   refine (reach_at (B := B) (first := false) (last := last) (by omega) (by omega) (by omega) HN3.out HNL.out (HLo.out.keep HB3.out (by omega)) (by omega) HP.out (by simp; omega) HLA.out).mono ?_
                   rintro e w4 ⟨rfl, he, hg⟩
                   have HN4 := Lib.hid hg
                   have HB4 := Lib.hid (HB3.out.trans (he.1.mono hG2))
                   have HNL4 := Lib.hid (HRL.out false last ((k : Int) + 1) next (by omega) (by omega) HNL.out)
                   clear he hg HN3 HB3
                   go_wp2_with fail
                   go_roundw
                   case rel => exact ⟨k + 1, ca2, _, G2, rfl, by go_num, by omega, HT3, HN4, HNL4, hG2, HB4⟩
                   case measure => simp [intOf]; omega
                 · have HTR : Hid (takesI x c = false) := Lib.hid (by rw [HTW2.out, hbit])
                   have HT3 : Hid (takesQ l c last (k + 1) (on1.drop (k + 1)) next = takesQ l c last 0 on1 (List.replicate l.length false)) := Lib.hid (by rw [← HT2.out]; rw [HTR.out]; rfl)
                   go_wp2_with fail
                   have q0 := cell_regrown c0
                   have q1 := cell_regrown c1
                   have q2 := cell_regrown c2
                   have q3 := cell_regrown c3
                   have q4 := cell_regrown c4
                   clear c0 c1 c2 c3 c4
                   clear c_g
                   refine wp_region_quiet_below (by kernel_rfl) (by kernel_rfl) ?_
                   repeat (go_big_quiet_step (fail))
                   refine wpQuiet_nil ?_
                   intro w3 hw3
                   have hb3 : Below wr.heap.size wr w3 := by obtain ⟨p, rfl⟩ := hw3; exact below_regrown _ _ _
                   have HN3 := Lib.hid (HN.out.later hb3)
                   have HB3 := Lib.hid (bthen HBr.out hb3)
                   clear hw3 hb3 HN HBr
                   go_wp2_with fail
                   go_roundw
                   case rel => exact ⟨k + 1, ca2, next, G2, rfl, by go_num, by omega, HT3, HN3, HNL, hG2, HB3⟩
                   case measure => simp [intOf]; omega
               · have HTW2 := Lib.hid (HTW 3 hj)
                 rw [hj] at hq64
                 clear HTW hj
                 have hword : x.word 3 = x.d := rfl
                 rw [hword] at HTW2
                 clear hword
                 rcases Bool.eq_false_or_eq_true (bits .and .u64 (x.d / 2 ^ (c % 64)) 1 == 1) with hbit | hbit
                 · have HTR : Hid (takesI x c = true) := Lib.hid (by rw [HTW2.out, hbit])
                   have HT3 : Hid (takesQ l c last (k + 1) (on1.drop (k + 1)) (reachQ l false last ((k : Int) + 1) next) = takesQ l c last 0 on1 (List.replicate l.length false)) := Lib.hid (by rw [← HT2.out, HTR.out]; rfl)
                   have hk2 := HTI.out HTR.out
                   go_wp2_with fail
                   have q0 := cell_regrown c0
                   have q1 := cell_regrown c1
                   have q2 := cell_regrown c2
                   have q3 := cell_regrown c3
                   have q4 := cell_regrown c4
                   clear c0 c1 c2 c3 c4
                   clear c_g
                   refine wp_region_quiet_below (by kernel_rfl) (by kernel_rfl) ?_
                   repeat (go_big_quiet_step (fail))
                   refine wpQuiet_nil ?_
                   intro w3 hw3
                   have hb3 : Below wr.heap.size wr w3 := by obtain ⟨p, rfl⟩ := hw3; exact below_regrown _ _ _
                   have HN3 := Lib.hid (HN.out.later hb3)
                   have HB3 := Lib.hid (bthen HBr.out hb3)
                   clear hw3 hb3 HN HBr
                   go_wp2_with fail
                   refine (reach_at (B := B) (first := false) (last := last) (by omega) (by omega) (by omega) HN3.out HNL.out (HLo.out.keep HB3.out (by omega)) (by omega) HP.out (by simp; omega) HLA.out).mono ?_
                   rintro e w4 ⟨rfl, he, hg⟩
                   have HN4 := Lib.hid hg
                   have HB4 := Lib.hid (HB3.out.trans (he.1.mono hG2))
                   have HNL4 := Lib.hid (HRL.out false last ((k : Int) + 1) next (by omega) (by omega) HNL.out)
                   clear he hg HN3 HB3
                   go_wp2_with fail
                   go_roundw
                   case rel => exact ⟨k + 1, ca2, _, G2, rfl, by go_num, by omega, HT3, HN4, HNL4, hG2, HB4⟩
                   case measure => simp [intOf]; omega
                 · have HTR : Hid (takesI x c = false) := Lib.hid (by rw [HTW2.out, hbit])
                   have HT3 : Hid (takesQ l c last (k + 1) (on1.drop (k + 1)) next = takesQ l c last 0 on1 (List.replicate l.length false)) := Lib.hid (by rw [← HT2.out]; rw [HTR.out]; rfl)
                   go_wp2_with fail
                   have q0 := cell_regrown c0
                   have q1 := cell_regrown c1
                   have q2 := cell_regrown c2
                   have q3 := cell_regrown c3
                   have q4 := cell_regrown c4
                   clear c0 c1 c2 c3 c4
                   clear c_g
                   refine wp_region_quiet_below (by kernel_rfl) (by kernel_rfl) ?_
                   repeat (go_big_quiet_step (fail))
                   refine wpQuiet_nil ?_
                   intro w3 hw3
                   have hb3 : Below wr.heap.size wr w3 := by obtain ⟨p, rfl⟩ := hw3; exact below_regrown _ _ _
                   have HN3 := Lib.hid (HN.out.later hb3)
                   have HB3 := Lib.hid (bthen HBr.out hb3)
                   clear hw3 hb3 HN HBr
                   go_wp2_with fail
                   go_roundw
                   case rel => exact ⟨k + 1, ca2, next, G2, rfl, by go_num, by omega, HT3, HN3, HNL, hG2, HB3⟩
                   case measure => simp [intOf]; omega
             · have qk : (x.kind == 1) = false := by simpa using hk1
               have HTR : Hid (takesI x c = false) := Lib.hid (by unfold takesI; rw [decide_eq_false hk1]; rfl)
               have HT3 : Hid (takesQ l c last (k + 1) (on1.drop (k + 1)) next = takesQ l c last 0 on1 (List.replicate l.length false)) := Lib.hid (by rw [← HT2.out]; rw [HTR.out]; rfl)
               clear hk1
               go_wp2_with fail
               have q0 := cell_regrown c0
               have q1 := cell_regrown c1
               have q2 := cell_regrown c2
               have q3 := cell_regrown c3
               have q4 := cell_regrown c4
               clear c0 c1 c2 c3 c4
               clear c_g
               refine wp_region_quiet_below (by kernel_rfl) (by kernel_rfl) ?_
               repeat (go_big_quiet_step (fail))
               refine wpQuiet_nil ?_
               intro w3 hw3
               have hb3 : Below wr.heap.size wr w3 := by obtain ⟨p, rfl⟩ := hw3; exact below_regrown _ _ _
               have HN3 := Lib.hid (HN.out.later hb3)
               have HB3 := Lib.hid (bthen HBr.out hb3)
               clear hw3 hb3 HN HBr
               go_wp2_with fail
               go_roundw
               case rel => exact ⟨k + 1, ca2, next, G2, rfl, by go_num, by omega, HT3, HN3, HNL, hG2, HB3⟩
               case measure => simp [intOf]; omega
         · have HT3 : Hid (next = takesQ l c last 0 on1 (List.replicate l.length false)) := Lib.hid (by
             rw [← HT.out, List.drop_eq_nil_iff.2 (by rw [HO.out]; omega)]
             rfl)
           rw [← HT3.out] at HE2
           clear HT
           go_wp2_with fail
           refine (reach_at (B := B) (first := false) (last := last) (Int.le_refl 0) (by omega) (by omega) HN.out HNL.out (HLo.out.keep HBr.out (by omega)) (by omega) HP.out (by simp; omega) HLA.out).mono ?_
           rintro e w4 ⟨rfl, he, hg⟩
           have HN4 := Lib.hid hg
           have HB4 := Lib.hid (HBo.out.trans ((HBr.out.trans (he.1.mono hG2)).mono hzi))
           have HNL4 := Lib.hid (HRL.out false last 0 next (Int.le_refl 0) (by omega) HNL.out)
           clear he hg
           go_wp2_with fail
           go_roundg g
           case rel => exact ⟨i + 1, G2, ca2, _, rfl, by go_num, by omega, HE2, HN4, HNL4, HB4, by omega⟩
           case measure => omega
   · have HR : Hid (runQ l t t.size 0 on0 = true) := Lib.hid (by rw [← HE.out]; exact runQ_done HBL.out)
     go_wp2_with fail
     go_ret
     rw [HON0.out, HR.out]
     exact ⟨rfl, HB.out⟩
end Go.Proofs.YtiplipdigabidaaGreat
