/- slices.IndexFunc, slices.ContainsFunc, rule.few at an element type. Printed by wip/gen. -/
import Derived.Test.YtkdonhhbpacgmaaGreatRead2
set_option linter.unusedVariables false
set_option linter.unusedSimpArgs false
namespace Go.Proofs.YtkdonhhbpacgmaaGreat
open Go.ChangeShapes Go.WideShapes Go.ChangeAt Go.RowKit
set_option maxRecDepth 100000 in
set_option maxHeartbeats 1000000 in
theorem indexFuncString_any  (F : FuncId) (cap : Array Value) (p : ByteArray → Bool) (xs : List ByteArray) (A : Option Addr) (c B : Nat) (w : World)
   (hF : ∀ args (w : World), (callFunc F args).run Tryz.prog w = .ok (.enter F args) w) (hl : RL (StrR) w B xs A) (hB : B ≤ w.heap.size) (hn : xs.length ≤ 140737488351232)
   (ht : Tells Tryz.prog (StrR) oneOf B w F cap p) :
   Calls Tryz.prog 143 #[.slice A xs.length c, .func (.func F) #[] cap] w fun e w' => e = .returned (.int .i64 (idxF p xs)) ∧ Below w.heap.size w w' := by
 have HT := Lib.hid ht
 clear ht
 have hRk : (StrR).k = 1 := rfl
 go_enter Tryz.func143, Tryz.ntmps143
 go_wp2_with fail
 go_loopw [8] (fun i wr => ∃ k : Nat, k ≤ xs.length ∧ i = .int .i64 k ∧ Below w.heap.size w wr ∧ ∀ i (hi : i < xs.length), i < k → p xs[i] = false) (fun i _ => xs.length - (intOf i).toNat)
 case atStart => exact ⟨0, Nat.zero_le _, rfl, Below.refl _ _, fun i hi h => absurd h (by omega)⟩
 case round =>
   obtain ⟨k, hk, rfl, hbw, hall⟩ := hrel
   have HA := Lib.hid hall
   clear hall
   by_cases hlt : k < xs.length
   · obtain ⟨b, off, rfl, hb⟩ := hl.base hbw hB (by omega)
     obtain ⟨x, vs, hx, hlen, hcell, hr⟩ := hl.at_ hbw hB hlt
     rw [hRk] at hlen hcell
     obtain ⟨v0, rfl⟩ : ∃ v0, vs = [v0] := by
       match vs, hlen with
       | [v0], _ => exact ⟨_, rfl⟩
     have c0 : wr.cell? ⟨b, off + k, none⟩ = some v0 := by simpa using hcell 0 _ rfl
     have hsz := hbw.size
     have HX := Lib.hid hx
     clear hcell hlen hx
     go_wp2_with fail
     refine (HT.out x [v0] _ hbw hr).mono ?_
     rintro e w1 ⟨rfl, hb1⟩
     have hbw1 := Lib.hid (hbw.trans (hb1.mono hsz))
     clear hb1
     have hxe : xs[k] = x := (List.getElem?_eq_some_iff.1 HX.out).2
     have HXE := Lib.hid hxe
     clear hxe
     by_cases hp : p x = true
     · go_wp2_with fail
       go_ret
       exact ⟨ret_int (idxF_some hlt (by rw [HXE.out]; exact hp) (fun i hi => HA.out i (by omega) hi)).symm, hbw1.out⟩
     · have hp : p x = false := by simpa using hp
       go_wp2_with fail
       go_roundw
       case rel => exact ⟨k + 1, by omega, by go_num, hbw1.out, fun i hi h => by
         rcases Nat.lt_or_ge i k with h1 | h1
         · exact HA.out i hi h1
         · obtain rfl : i = k := by omega
           rw [HXE.out]; exact hp⟩
       case measure => simp [intOf]; omega
   · go_wp2_with fail
     go_ret
     exact ⟨ret_int (idxF_none (fun i hi => HA.out i hi (by omega))).symm, hbw⟩
set_option maxRecDepth 100000 in
theorem containsFuncString_any  (F : FuncId) (cap : Array Value) (p : ByteArray → Bool) (xs : List ByteArray) (A : Option Addr) (c B : Nat) (w : World)
   (hF : ∀ args (w : World), (callFunc F args).run Tryz.prog w = .ok (.enter F args) w) (hl : RL (StrR) w B xs A) (hB : B ≤ w.heap.size) (hn : xs.length ≤ 140737488351232)
   (ht : Tells Tryz.prog (StrR) oneOf B w F cap p) :
   Calls Tryz.prog 108 #[.slice A xs.length c, .func (.func F) #[] cap] w fun e w' => e = .returned (.bool (xs.any p)) ∧ Below w.heap.size w w' := by
 have HT := Lib.hid ht
 clear ht
 go_enter Tryz.func108, Tryz.ntmps108
 go_wp2_with (go_at_call 143; refine (indexFuncString_any  F cap p xs A c B w hF hl hB hn HT.out).mono ?_; rintro e w1 ⟨rfl, hb1⟩)
 go_ret
 exact ⟨ret_bool (idxF_any p xs), hb1⟩
set_option maxRecDepth 100000 in
set_option maxHeartbeats 1000000 in
theorem indexFuncPred_any (d : Nat) (F : FuncId) (cap : Array Value) (p : Pr → Bool) (xs : List Pr) (A : Option Addr) (c B : Nat) (w : World)
   (hF : ∀ args (w : World), (callFunc F args).run Tryz.prog w = .ok (.enter F args) w) (hl : RL (PrR d) w B xs A) (hB : B ≤ w.heap.size) (hn : xs.length ≤ 140737488351232)
   (ht : Tells Tryz.prog (PrR d) aggOf B w F cap p) :
   Calls Tryz.prog 156 #[.slice A xs.length c, .func (.func F) #[] cap] w fun e w' => e = .returned (.int .i64 (idxF p xs)) ∧ Below w.heap.size w w' := by
 have HT := Lib.hid ht
 clear ht
 have hRk : (PrR d).k = 2 := rfl
 go_enter Tryz.func156, Tryz.ntmps156
 go_wp2_with fail
 go_loopw [8] (fun i wr => ∃ k : Nat, k ≤ xs.length ∧ i = .int .i64 k ∧ Below w.heap.size w wr ∧ ∀ i (hi : i < xs.length), i < k → p xs[i] = false) (fun i _ => xs.length - (intOf i).toNat)
 case atStart => exact ⟨0, Nat.zero_le _, rfl, Below.refl _ _, fun i hi h => absurd h (by omega)⟩
 case round =>
   obtain ⟨k, hk, rfl, hbw, hall⟩ := hrel
   have HA := Lib.hid hall
   clear hall
   by_cases hlt : k < xs.length
   · obtain ⟨b, off, rfl, hb⟩ := hl.base hbw hB (by omega)
     obtain ⟨x, vs, hx, hlen, hcell, hr⟩ := hl.at_ hbw hB hlt
     rw [hRk] at hlen hcell
     obtain ⟨v0, v1, rfl⟩ : ∃ v0 v1, vs = [v0, v1] := by
       match vs, hlen with
       | [v0, v1], _ => exact ⟨_, _, rfl⟩
     have c0 : wr.cell? ⟨b, off + k * 2, none⟩ = some v0 := hcell 0 _ rfl
     have c1 : wr.cell? ⟨b, off + k * 2 + 1, none⟩ = some v1 := hcell 1 _ rfl
     have hsz := hbw.size
     have HX := Lib.hid hx
     clear hcell hlen hx
     go_wp2_with fail
     refine (HT.out x [v0, v1] _ hbw hr).mono ?_
     rintro e w1 ⟨rfl, hb1⟩
     have hbw1 := Lib.hid (hbw.trans (hb1.mono hsz))
     clear hb1
     have hxe : xs[k] = x := (List.getElem?_eq_some_iff.1 HX.out).2
     have HXE := Lib.hid hxe
     clear hxe
     by_cases hp : p x = true
     · go_wp2_with fail
       go_ret
       exact ⟨ret_int (idxF_some hlt (by rw [HXE.out]; exact hp) (fun i hi => HA.out i (by omega) hi)).symm, hbw1.out⟩
     · have hp : p x = false := by simpa using hp
       go_wp2_with fail
       go_roundw
       case rel => exact ⟨k + 1, by omega, by go_num, hbw1.out, fun i hi h => by
         rcases Nat.lt_or_ge i k with h1 | h1
         · exact HA.out i hi h1
         · obtain rfl : i = k := by omega
           rw [HXE.out]; exact hp⟩
       case measure => simp [intOf]; omega
   · go_wp2_with fail
     go_ret
     exact ⟨ret_int (idxF_none (fun i hi => HA.out i hi (by omega))).symm, hbw⟩
set_option maxRecDepth 100000 in
theorem containsFuncPred_any (d : Nat) (F : FuncId) (cap : Array Value) (p : Pr → Bool) (xs : List Pr) (A : Option Addr) (c B : Nat) (w : World)
   (hF : ∀ args (w : World), (callFunc F args).run Tryz.prog w = .ok (.enter F args) w) (hl : RL (PrR d) w B xs A) (hB : B ≤ w.heap.size) (hn : xs.length ≤ 140737488351232)
   (ht : Tells Tryz.prog (PrR d) aggOf B w F cap p) :
   Calls Tryz.prog 136 #[.slice A xs.length c, .func (.func F) #[] cap] w fun e w' => e = .returned (.bool (xs.any p)) ∧ Below w.heap.size w w' := by
 have HT := Lib.hid ht
 clear ht
 go_enter Tryz.func136, Tryz.ntmps136
 go_wp2_with (go_at_call 156; refine (indexFuncPred_any d F cap p xs A c B w hF hl hB hn HT.out).mono ?_; rintro e w1 ⟨rfl, hb1⟩)
 go_ret
 exact ⟨ret_bool (idxF_any p xs), hb1⟩
set_option maxRecDepth 100000 in
set_option maxHeartbeats 1000000 in
theorem fewLitPred_any (d : Nat) (M : FuncId) (p : Pr → Bool) (B G : Nat) (w : World) (hM : ∀ args (w : World), (callFunc M args).run Tryz.prog w = .ok (.enter M args) w)
   (hB : B ≤ w.heap.size) (hG : w.cell? ⟨G, 0, none⟩ = some (.func (.func M) #[] #[])) (ht : Tells Tryz.prog (PrR d) aggOf B w M #[] p) :
   Tells Tryz.prog (PrR d) aggOf B w 137 #[.pointer (some ⟨G, 0, none⟩)] (fun x => !p x) := by
 intro x vs w1 hb hr
 have hlen : vs.length = 2 := (PrR d).len hr
 obtain ⟨v0, v1, rfl⟩ : ∃ v0 v1, vs = [v0, v1] := by
   match vs, hlen with
   | [v0, v1], _ => exact ⟨_, _, rfl⟩
 have hGl : G < w.heap.size := block_lt_of_cell hG
 have hG1 : w1.cell? ⟨G, 0, none⟩ = some (.func (.func M) #[] #[]) := (hb.cell (p := ⟨G, 0, none⟩) hGl).trans hG
 have hGl1 : G < w1.heap.size := by have := hb.size; omega
 have HB := Lib.hid (fun o : Obj => (Below.refl w1.heap.size w1).alloc (Nat.le_refl _) o)
 have HT := Lib.hid ht
 have HR := Lib.hid hr
 have hBw : B ≤ w1.heap.size := by have := hb.size; omega
 clear ht hr
 show Calls Tryz.prog 137 #[.agg #[v0, v1], .pointer (some ⟨G, 0, none⟩)] w1 _
 go_enter Tryz.func137, Tryz.ntmps137
 go_wp2_with fail
 refine (HT.out x [v0, v1] _ (hb.trans ((HB.out _).mono hb.size)) ((PrR d).keep (HB.out _) hBw HR.out)).mono ?_
 rintro e w2 ⟨rfl, hb2⟩
 have hfin := Lib.hid ((HB.out _).trans (hb2.mono (HB.out _).size))
 clear hb2
 go_wp2_with fail
 go_ret
 exact ⟨rfl, hfin.out⟩
set_option maxRecDepth 100000 in
set_option maxHeartbeats 1000000 in
theorem fewPred_any (d : Nat) (M : FuncId) (p : Pr → Bool) (most : Int) (xs : List Pr) (A : Option Addr) (c B : Nat) (w : World) (hM : ∀ args (w : World), (callFunc M args).run Tryz.prog w = .ok (.enter M args) w)
   (hl : RL (PrR d) w B xs A) (hB : B ≤ w.heap.size) (hn : xs.length ≤ 140737488351232) (ht : Tells Tryz.prog (PrR d) aggOf B w M #[] p) :
   Calls Tryz.prog 100 #[.slice A xs.length c, .int .i64 most, .func (.func M) #[] #[]] w fun e w' => e = .returned (.bool (decide ((xs.length : Int) ≤ most) && xs.all p)) ∧ Below w.heap.size w w' := by
 have HB := Lib.hid (fun o : Obj => (Below.refl w.heap.size w).alloc (Nat.le_refl _) o)
 have HT := Lib.hid ht
 have HL := Lib.hid hl
 clear ht hl
 by_cases hm : (xs.length : Int) ≤ most
 · go_enter Tryz.func100, Tryz.ntmps100
   go_wp2_with fail
   refine (containsFuncPred_any d 137 _ _ xs A c B _ (ent Tryz.func137 (by kernel_rfl) rfl) (HL.out.keep (HB.out _) hB) (Nat.le_trans hB (HB.out _).size) hn
     (fewLitPred_any d M p B w.heap.size _ hM (Nat.le_trans hB (HB.out _).size) (by go_simp) (HT.out.later (HB.out _)))).mono ?_
   rintro e w1 ⟨rfl, hb1⟩
   have hfin := Lib.hid ((HB.out _).trans (hb1.mono (HB.out _).size))
   clear hb1
   go_wp2_with fail
   go_ret
   exact ⟨ret_bool (by simp [hm, List.all_eq_not_any_not]), hfin.out⟩
 · have hm' : decide ((xs.length : Int) ≤ most) = false := by simpa using hm
   go_enter Tryz.func100, Tryz.ntmps100
   go_wp2_with fail
   go_ret
   exact ⟨ret_bool (by simp [hm]), HB.out _⟩
set_option maxRecDepth 100000 in
set_option maxHeartbeats 1000000 in
theorem indexFuncExpr_any (d : Nat) (F : FuncId) (cap : Array Value) (p : (List OpD) → Bool) (xs : List (List OpD)) (A : Option Addr) (c B : Nat) (w : World)
   (hF : ∀ args (w : World), (callFunc F args).run Tryz.prog w = .ok (.enter F args) w) (hl : RL (ExR d) w B xs A) (hB : B ≤ w.heap.size) (hn : xs.length ≤ 140737488351232)
   (ht : Tells Tryz.prog (ExR d) aggOf B w F cap p) :
   Calls Tryz.prog 142 #[.slice A xs.length c, .func (.func F) #[] cap] w fun e w' => e = .returned (.int .i64 (idxF p xs)) ∧ Below w.heap.size w w' := by
 have HT := Lib.hid ht
 clear ht
 have hRk : (ExR d).k = 1 := rfl
 go_enter Tryz.func142, Tryz.ntmps142
 go_wp2_with fail
 go_loopw [8] (fun i wr => ∃ k : Nat, k ≤ xs.length ∧ i = .int .i64 k ∧ Below w.heap.size w wr ∧ ∀ i (hi : i < xs.length), i < k → p xs[i] = false) (fun i _ => xs.length - (intOf i).toNat)
 case atStart => exact ⟨0, Nat.zero_le _, rfl, Below.refl _ _, fun i hi h => absurd h (by omega)⟩
 case round =>
   obtain ⟨k, hk, rfl, hbw, hall⟩ := hrel
   have HA := Lib.hid hall
   clear hall
   by_cases hlt : k < xs.length
   · obtain ⟨b, off, rfl, hb⟩ := hl.base hbw hB (by omega)
     obtain ⟨x, vs, hx, hlen, hcell, hr⟩ := hl.at_ hbw hB hlt
     rw [hRk] at hlen hcell
     obtain ⟨v0, rfl⟩ : ∃ v0, vs = [v0] := by
       match vs, hlen with
       | [v0], _ => exact ⟨_, rfl⟩
     have c0 : wr.cell? ⟨b, off + k, none⟩ = some v0 := by simpa using hcell 0 _ rfl
     have hsz := hbw.size
     have HX := Lib.hid hx
     clear hcell hlen hx
     go_wp2_with fail
     refine (HT.out x [v0] _ hbw hr).mono ?_
     rintro e w1 ⟨rfl, hb1⟩
     have hbw1 := Lib.hid (hbw.trans (hb1.mono hsz))
     clear hb1
     have hxe : xs[k] = x := (List.getElem?_eq_some_iff.1 HX.out).2
     have HXE := Lib.hid hxe
     clear hxe
     by_cases hp : p x = true
     · go_wp2_with fail
       go_ret
       exact ⟨ret_int (idxF_some hlt (by rw [HXE.out]; exact hp) (fun i hi => HA.out i (by omega) hi)).symm, hbw1.out⟩
     · have hp : p x = false := by simpa using hp
       go_wp2_with fail
       go_roundw
       case rel => exact ⟨k + 1, by omega, by go_num, hbw1.out, fun i hi h => by
         rcases Nat.lt_or_ge i k with h1 | h1
         · exact HA.out i hi h1
         · obtain rfl : i = k := by omega
           rw [HXE.out]; exact hp⟩
       case measure => simp [intOf]; omega
   · go_wp2_with fail
     go_ret
     exact ⟨ret_int (idxF_none (fun i hi => HA.out i hi (by omega))).symm, hbw⟩
set_option maxRecDepth 100000 in
theorem containsFuncExpr_any (d : Nat) (F : FuncId) (cap : Array Value) (p : (List OpD) → Bool) (xs : List (List OpD)) (A : Option Addr) (c B : Nat) (w : World)
   (hF : ∀ args (w : World), (callFunc F args).run Tryz.prog w = .ok (.enter F args) w) (hl : RL (ExR d) w B xs A) (hB : B ≤ w.heap.size) (hn : xs.length ≤ 140737488351232)
   (ht : Tells Tryz.prog (ExR d) aggOf B w F cap p) :
   Calls Tryz.prog 105 #[.slice A xs.length c, .func (.func F) #[] cap] w fun e w' => e = .returned (.bool (xs.any p)) ∧ Below w.heap.size w w' := by
 have HT := Lib.hid ht
 clear ht
 go_enter Tryz.func105, Tryz.ntmps105
 go_wp2_with (go_at_call 142; refine (indexFuncExpr_any d F cap p xs A c B w hF hl hB hn HT.out).mono ?_; rintro e w1 ⟨rfl, hb1⟩)
 go_ret
 exact ⟨ret_bool (idxF_any p xs), hb1⟩
set_option maxRecDepth 100000 in
set_option maxHeartbeats 1000000 in
theorem fewLitExpr_any (d : Nat) (M : FuncId) (p : (List OpD) → Bool) (B G : Nat) (w : World) (hM : ∀ args (w : World), (callFunc M args).run Tryz.prog w = .ok (.enter M args) w)
   (hB : B ≤ w.heap.size) (hG : w.cell? ⟨G, 0, none⟩ = some (.func (.func M) #[] #[])) (ht : Tells Tryz.prog (ExR d) aggOf B w M #[] p) :
   Tells Tryz.prog (ExR d) aggOf B w 138 #[.pointer (some ⟨G, 0, none⟩)] (fun x => !p x) := by
 intro x vs w1 hb hr
 have hlen : vs.length = 1 := (ExR d).len hr
 obtain ⟨v0, rfl⟩ : ∃ v0, vs = [v0] := by
   match vs, hlen with
   | [v0], _ => exact ⟨_, rfl⟩
 have hGl : G < w.heap.size := block_lt_of_cell hG
 have hG1 : w1.cell? ⟨G, 0, none⟩ = some (.func (.func M) #[] #[]) := (hb.cell (p := ⟨G, 0, none⟩) hGl).trans hG
 have hGl1 : G < w1.heap.size := by have := hb.size; omega
 have HB := Lib.hid (fun o : Obj => (Below.refl w1.heap.size w1).alloc (Nat.le_refl _) o)
 have HT := Lib.hid ht
 have HR := Lib.hid hr
 have hBw : B ≤ w1.heap.size := by have := hb.size; omega
 clear ht hr
 show Calls Tryz.prog 138 #[.agg #[v0], .pointer (some ⟨G, 0, none⟩)] w1 _
 go_enter Tryz.func138, Tryz.ntmps138
 go_wp2_with fail
 refine (HT.out x [v0] _ (hb.trans ((HB.out _).mono hb.size)) ((ExR d).keep (HB.out _) hBw HR.out)).mono ?_
 rintro e w2 ⟨rfl, hb2⟩
 have hfin := Lib.hid ((HB.out _).trans (hb2.mono (HB.out _).size))
 clear hb2
 go_wp2_with fail
 go_ret
 exact ⟨rfl, hfin.out⟩
set_option maxRecDepth 100000 in
set_option maxHeartbeats 1000000 in
theorem fewExpr_any (d : Nat) (M : FuncId) (p : (List OpD) → Bool) (most : Int) (xs : List (List OpD)) (A : Option Addr) (c B : Nat) (w : World) (hM : ∀ args (w : World), (callFunc M args).run Tryz.prog w = .ok (.enter M args) w)
   (hl : RL (ExR d) w B xs A) (hB : B ≤ w.heap.size) (hn : xs.length ≤ 140737488351232) (ht : Tells Tryz.prog (ExR d) aggOf B w M #[] p) :
   Calls Tryz.prog 101 #[.slice A xs.length c, .int .i64 most, .func (.func M) #[] #[]] w fun e w' => e = .returned (.bool (decide ((xs.length : Int) ≤ most) && xs.all p)) ∧ Below w.heap.size w w' := by
 have HB := Lib.hid (fun o : Obj => (Below.refl w.heap.size w).alloc (Nat.le_refl _) o)
 have HT := Lib.hid ht
 have HL := Lib.hid hl
 clear ht hl
 by_cases hm : (xs.length : Int) ≤ most
 · go_enter Tryz.func101, Tryz.ntmps101
   go_wp2_with fail
   refine (containsFuncExpr_any d 138 _ _ xs A c B _ (ent Tryz.func138 (by kernel_rfl) rfl) (HL.out.keep (HB.out _) hB) (Nat.le_trans hB (HB.out _).size) hn
     (fewLitExpr_any d M p B w.heap.size _ hM (Nat.le_trans hB (HB.out _).size) (by go_simp) (HT.out.later (HB.out _)))).mono ?_
   rintro e w1 ⟨rfl, hb1⟩
   have hfin := Lib.hid ((HB.out _).trans (hb1.mono (HB.out _).size))
   clear hb1
   go_wp2_with fail
   go_ret
   exact ⟨ret_bool (by simp [hm, List.all_eq_not_any_not]), hfin.out⟩
 · have hm' : decide ((xs.length : Int) ≤ most) = false := by simpa using hm
   go_enter Tryz.func101, Tryz.ntmps101
   go_wp2_with fail
   go_ret
   exact ⟨ret_bool (by simp [hm]), HB.out _⟩
set_option maxRecDepth 100000 in
set_option maxHeartbeats 1000000 in
theorem indexFuncScope_any  (F : FuncId) (cap : Array Value) (p : Sc → Bool) (xs : List Sc) (A : Option Addr) (c B : Nat) (w : World)
   (hF : ∀ args (w : World), (callFunc F args).run Tryz.prog w = .ok (.enter F args) w) (hl : RL (ScR) w B xs A) (hB : B ≤ w.heap.size) (hn : xs.length ≤ 140737488351232)
   (ht : Tells Tryz.prog (ScR) aggOf B w F cap p) :
   Calls Tryz.prog 160 #[.slice A xs.length c, .func (.func F) #[] cap] w fun e w' => e = .returned (.int .i64 (idxF p xs)) ∧ Below w.heap.size w w' := by
 have HT := Lib.hid ht
 clear ht
 have hRk : (ScR).k = 2 := rfl
 go_enter Tryz.func160, Tryz.ntmps160
 go_wp2_with fail
 go_loopw [8] (fun i wr => ∃ k : Nat, k ≤ xs.length ∧ i = .int .i64 k ∧ Below w.heap.size w wr ∧ ∀ i (hi : i < xs.length), i < k → p xs[i] = false) (fun i _ => xs.length - (intOf i).toNat)
 case atStart => exact ⟨0, Nat.zero_le _, rfl, Below.refl _ _, fun i hi h => absurd h (by omega)⟩
 case round =>
   obtain ⟨k, hk, rfl, hbw, hall⟩ := hrel
   have HA := Lib.hid hall
   clear hall
   by_cases hlt : k < xs.length
   · obtain ⟨b, off, rfl, hb⟩ := hl.base hbw hB (by omega)
     obtain ⟨x, vs, hx, hlen, hcell, hr⟩ := hl.at_ hbw hB hlt
     rw [hRk] at hlen hcell
     obtain ⟨v0, v1, rfl⟩ : ∃ v0 v1, vs = [v0, v1] := by
       match vs, hlen with
       | [v0, v1], _ => exact ⟨_, _, rfl⟩
     have c0 : wr.cell? ⟨b, off + k * 2, none⟩ = some v0 := hcell 0 _ rfl
     have c1 : wr.cell? ⟨b, off + k * 2 + 1, none⟩ = some v1 := hcell 1 _ rfl
     have hsz := hbw.size
     have HX := Lib.hid hx
     clear hcell hlen hx
     go_wp2_with fail
     refine (HT.out x [v0, v1] _ hbw hr).mono ?_
     rintro e w1 ⟨rfl, hb1⟩
     have hbw1 := Lib.hid (hbw.trans (hb1.mono hsz))
     clear hb1
     have hxe : xs[k] = x := (List.getElem?_eq_some_iff.1 HX.out).2
     have HXE := Lib.hid hxe
     clear hxe
     by_cases hp : p x = true
     · go_wp2_with fail
       go_ret
       exact ⟨ret_int (idxF_some hlt (by rw [HXE.out]; exact hp) (fun i hi => HA.out i (by omega) hi)).symm, hbw1.out⟩
     · have hp : p x = false := by simpa using hp
       go_wp2_with fail
       go_roundw
       case rel => exact ⟨k + 1, by omega, by go_num, hbw1.out, fun i hi h => by
         rcases Nat.lt_or_ge i k with h1 | h1
         · exact HA.out i hi h1
         · obtain rfl : i = k := by omega
           rw [HXE.out]; exact hp⟩
       case measure => simp [intOf]; omega
   · go_wp2_with fail
     go_ret
     exact ⟨ret_int (idxF_none (fun i hi => HA.out i hi (by omega))).symm, hbw⟩
set_option maxRecDepth 100000 in
theorem containsFuncScope_any  (F : FuncId) (cap : Array Value) (p : Sc → Bool) (xs : List Sc) (A : Option Addr) (c B : Nat) (w : World)
   (hF : ∀ args (w : World), (callFunc F args).run Tryz.prog w = .ok (.enter F args) w) (hl : RL (ScR) w B xs A) (hB : B ≤ w.heap.size) (hn : xs.length ≤ 140737488351232)
   (ht : Tells Tryz.prog (ScR) aggOf B w F cap p) :
   Calls Tryz.prog 140 #[.slice A xs.length c, .func (.func F) #[] cap] w fun e w' => e = .returned (.bool (xs.any p)) ∧ Below w.heap.size w w' := by
 have HT := Lib.hid ht
 clear ht
 go_enter Tryz.func140, Tryz.ntmps140
 go_wp2_with (go_at_call 160; refine (indexFuncScope_any  F cap p xs A c B w hF hl hB hn HT.out).mono ?_; rintro e w1 ⟨rfl, hb1⟩)
 go_ret
 exact ⟨ret_bool (idxF_any p xs), hb1⟩
set_option maxRecDepth 100000 in
set_option maxHeartbeats 1000000 in
theorem fewLitScope_any  (M : FuncId) (p : Sc → Bool) (B G : Nat) (w : World) (hM : ∀ args (w : World), (callFunc M args).run Tryz.prog w = .ok (.enter M args) w)
   (hB : B ≤ w.heap.size) (hG : w.cell? ⟨G, 0, none⟩ = some (.func (.func M) #[] #[])) (ht : Tells Tryz.prog (ScR) aggOf B w M #[] p) :
   Tells Tryz.prog (ScR) aggOf B w 141 #[.pointer (some ⟨G, 0, none⟩)] (fun x => !p x) := by
 intro x vs w1 hb hr
 have hlen : vs.length = 2 := (ScR).len hr
 obtain ⟨v0, v1, rfl⟩ : ∃ v0 v1, vs = [v0, v1] := by
   match vs, hlen with
   | [v0, v1], _ => exact ⟨_, _, rfl⟩
 have hGl : G < w.heap.size := block_lt_of_cell hG
 have hG1 : w1.cell? ⟨G, 0, none⟩ = some (.func (.func M) #[] #[]) := (hb.cell (p := ⟨G, 0, none⟩) hGl).trans hG
 have hGl1 : G < w1.heap.size := by have := hb.size; omega
 have HB := Lib.hid (fun o : Obj => (Below.refl w1.heap.size w1).alloc (Nat.le_refl _) o)
 have HT := Lib.hid ht
 have HR := Lib.hid hr
 have hBw : B ≤ w1.heap.size := by have := hb.size; omega
 clear ht hr
 show Calls Tryz.prog 141 #[.agg #[v0, v1], .pointer (some ⟨G, 0, none⟩)] w1 _
 go_enter Tryz.func141, Tryz.ntmps141
 go_wp2_with fail
 refine (HT.out x [v0, v1] _ (hb.trans ((HB.out _).mono hb.size)) ((ScR).keep (HB.out _) hBw HR.out)).mono ?_
 rintro e w2 ⟨rfl, hb2⟩
 have hfin := Lib.hid ((HB.out _).trans (hb2.mono (HB.out _).size))
 clear hb2
 go_wp2_with fail
 go_ret
 exact ⟨rfl, hfin.out⟩
set_option maxRecDepth 100000 in
set_option maxHeartbeats 1000000 in
theorem fewScope_any  (M : FuncId) (p : Sc → Bool) (most : Int) (xs : List Sc) (A : Option Addr) (c B : Nat) (w : World) (hM : ∀ args (w : World), (callFunc M args).run Tryz.prog w = .ok (.enter M args) w)
   (hl : RL (ScR) w B xs A) (hB : B ≤ w.heap.size) (hn : xs.length ≤ 140737488351232) (ht : Tells Tryz.prog (ScR) aggOf B w M #[] p) :
   Calls Tryz.prog 103 #[.slice A xs.length c, .int .i64 most, .func (.func M) #[] #[]] w fun e w' => e = .returned (.bool (decide ((xs.length : Int) ≤ most) && xs.all p)) ∧ Below w.heap.size w w' := by
 have HB := Lib.hid (fun o : Obj => (Below.refl w.heap.size w).alloc (Nat.le_refl _) o)
 have HT := Lib.hid ht
 have HL := Lib.hid hl
 clear ht hl
 by_cases hm : (xs.length : Int) ≤ most
 · go_enter Tryz.func103, Tryz.ntmps103
   go_wp2_with fail
   refine (containsFuncScope_any  141 _ _ xs A c B _ (ent Tryz.func141 (by kernel_rfl) rfl) (HL.out.keep (HB.out _) hB) (Nat.le_trans hB (HB.out _).size) hn
     (fewLitScope_any  M p B w.heap.size _ hM (Nat.le_trans hB (HB.out _).size) (by go_simp) (HT.out.later (HB.out _)))).mono ?_
   rintro e w1 ⟨rfl, hb1⟩
   have hfin := Lib.hid ((HB.out _).trans (hb1.mono (HB.out _).size))
   clear hb1
   go_wp2_with fail
   go_ret
   exact ⟨ret_bool (by simp [hm, List.all_eq_not_any_not]), hfin.out⟩
 · have hm' : decide ((xs.length : Int) ≤ most) = false := by simpa using hm
   go_enter Tryz.func103, Tryz.ntmps103
   go_wp2_with fail
   go_ret
   exact ⟨ret_bool (by simp [hm]), HB.out _⟩
end Go.Proofs.YtkdonhhbpacgmaaGreat
