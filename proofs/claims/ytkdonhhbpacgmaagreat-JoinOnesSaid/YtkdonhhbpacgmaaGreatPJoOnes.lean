/- JoinOnes: for every input the call returns true, and each argument reads afterwards as it read before. No conditions: every input of the given row. -/
import Derived.Test.YtkdonhhbpacgmaaGreatJoAw6
import Derived.Test.YtkdonhhbpacgmaaGreatRule4
import Derived.Test.YtkdonhhbpacgmaaGreatOpen
import Derived.Test.YtkdonhhbpacgmaaGreatFound
import Derived.Test.YtkdonhhbpacgmaaGreatLJoOnes
import Derived.HandedShaped
import Derived.Shelf.Vars
import Derived.ChangeMaps5
import Derived.Test.YtkdonhhbpacgmaaGreatRows
import Derived.ProofKit
set_option linter.unusedVariables false
set_option linter.unusedSimpArgs false
namespace Go.Proofs.YtkdonhhbpacgmaaGreat
open Go.ChangeShapes Go.WideShapes Go.ChangeAt Go.RowKit
def rA : Ru := ⟨⟨⟨#[]⟩, []⟩, [pP], [], []⟩
theorem rA_may : mayRuleB rA = false := by kernel_rfl
theorem rA_query : mayQueryB rA = true := by kernel_rfl
theorem rA_rd {D cD V cV : Nat} {w : World} (h0 : w.cell? ⟨D, 0, none⟩ = some (.string pS)) (h1 : w.cell? ⟨D, 1, none⟩ = some (.slice (some ⟨V, 0, none⟩) 1 cV)) (hD : D < w.heap.size) (hV : RL (TmR 2) w w.heap.size [pv] (some ⟨V, 0, none⟩)) (hcV : 1 ≤ cV ∧ cV ≤ 9223372036854775807) (hcD : 1 ≤ cD ∧ cD ≤ 9223372036854775807) :
   (RuR 2).rd w w.heap.size rA [.string ⟨#[]⟩, .slice none 0 0, .slice (some ⟨D, 0, none⟩) 1 cD, .slice none 0 0, .slice none 0 0] := by
 refine ⟨_, _, _, _, rfl, by decide, ⟨none, 0, rfl, Nat.le_refl _, ⟨by simp [rA], by omega⟩, fun h => absurd h (by simp [rA])⟩, ⟨_, cD, rfl, hcD.1, ⟨by simp [rA, PrR], hcD.2⟩, ?_⟩, ⟨none, 0, rfl, Nat.le_refl _, ⟨by simp [rA], by omega⟩, fun h => absurd h (by simp [rA])⟩, ⟨none, 0, rfl, Nat.le_refl _, ⟨by simp [rA], by omega⟩, fun h => absurd h (by simp [rA])⟩⟩
 refine RL.one (vs := [.string pS, .slice (some ⟨V, 0, none⟩) 1 cV]) hD ⟨_, rfl, by decide, _, cV, rfl, hcV.1, ⟨by simp [pP, TmR], hcV.2⟩, hV⟩ ?_
 intro j v hv
 match j, hv with
 | 0, hv => simp only [List.getElem?_cons_zero, Option.some.injEq] at hv; subst hv; exact h0
 | 1, hv => simp only [List.getElem?_cons_succ, List.getElem?_cons_zero, Option.some.injEq] at hv; subst hv; exact h1
 | j + 2, hv => simp at hv
set_option maxRecDepth 100000 in
set_option maxHeartbeats 8000000 in
theorem answers_any {D cD V cV S L cL base : Nat} {w : World} (hD0 : w.cell? ⟨D, 0, none⟩ = some (.string pS)) (hD1 : w.cell? ⟨D, 1, none⟩ = some (.slice (some ⟨V, 0, none⟩) 1 cV)) (hDl : D < w.heap.size) (hV : RL (TmR 2) w w.heap.size [pv] (some ⟨V, 0, none⟩)) (hcV : 1 ≤ cV ∧ cV ≤ 9223372036854775807) (hcD : 1 ≤ cD ∧ cD ≤ 9223372036854775807) (hS : Blk w S #[.slice (some ⟨L, 0, none⟩) 1 cL]) (hc : 1 ≤ cL) (hc2 : cL ≤ 9223372036854775807) (hf : FC base w L) :
   Calls Tryz.prog 19 #[.agg #[.string ⟨#[]⟩, .slice none 0 0, .slice (some ⟨D, 0, none⟩) 1 cD, .slice none 0 0, .slice none 0 0], .pointer (some ⟨S, 0, none⟩), .int .u32 1] w fun z w' => (∃ (g c : Nat) (x : An1) (h : Nat), z = .returned (.tuple #[.slice (some ⟨g, 0, none⟩) 1 c, .int .i64 0]) ∧ 1 ≤ c ∧ c ≤ 9223372036854775807 ∧ (w'.cell? ⟨g, 0, none⟩ = some (.slice x.an 1 x.cn) ∧ w'.cell? ⟨g, 1, none⟩ = some (.slice x.at_ 1 x.ct) ∧ w'.cell? ⟨g, 2, none⟩ = some (.int .u32 1)) ∧ x.at_ = some ⟨h, 0, none⟩ ∧ T1 w' h) ∧ Below w.heap.size w w' := by
 have HD := Lib.hid (And.intro hD0 hD1)
 have HV := Lib.hid hV
 have HS := Lib.hid hS
 have HF := Lib.hid hf
 clear hD0 hD1 hV hS hf
 go_enter Tryz.func19, Tryz.ntmps19
 go_upto_region 1 with fail
 generalize hWW : World.alloc _ _ = w1
 obtain ⟨hb1, hz⟩ := al1 hWW
 have HR1 := Lib.hid (n11 hWW)
 have HB1 := Lib.hid hb1
 have hsz1 := hb1.size
 clear hWW hb1 hz
 have k_r := HR1.out.cell
 have l_r := HR1.out.lt
 go_wp2_with fail
 refine (mayRule_any (vs := [.string ⟨#[]⟩, .slice none 0 0, .slice (some ⟨D, 0, none⟩) 1 cD, .slice none 0 0, .slice none 0 0]) (rA_rd (cV := cV) ((HB1.out.cell (p := ⟨D, 0, none⟩) hDl).trans HD.out.1) ((HB1.out.cell (p := ⟨D, 1, none⟩) hDl).trans HD.out.2) (by omega) ((HV.out.keep HB1.out (Nat.le_refl _)).wide hsz1) hcV hcD) (Nat.le_refl _)).mono ?_
 rintro e w2 ⟨rfl, hb2⟩
 rw [rA_may]
 have HR2 := Lib.hid (HR1.out.later hb2)
 have HB2 := Lib.hid (bthen HB1.out hb2)
 have hsz2 := HB2.out.size
 clear hb2 k_r l_r
 have k_r := HR2.out.cell
 have l_r := HR2.out.lt
 go_wp2_with fail
 refine (mayQuery_any (vs := [.string ⟨#[]⟩, .slice none 0 0, .slice (some ⟨D, 0, none⟩) 1 cD, .slice none 0 0, .slice none 0 0]) (rA_rd (cV := cV) ((HB2.out.cell (p := ⟨D, 0, none⟩) hDl).trans HD.out.1) ((HB2.out.cell (p := ⟨D, 1, none⟩) hDl).trans HD.out.2) (by omega) ((HV.out.keep HB2.out (Nat.le_refl _)).wide hsz2) hcV hcD) (Nat.le_refl _)).mono ?_
 rintro e w3 ⟨rfl, hb3⟩
 rw [rA_query]
 have HR3 := Lib.hid (HR2.out.later hb3)
 have HB3 := Lib.hid (bthen HB2.out hb3)
 have hsz3 := HB3.out.size
 clear hb3 k_r l_r
 have k_r := HR3.out.cell
 have l_r := HR3.out.lt
 go_upto_region 4 with fail
 generalize hWW : World.alloc _ _ = w4
 obtain ⟨hb4, hz⟩ := al1 hWW
 have HW4 := Lib.hid (n11 hWW)
 have HB4 := Lib.hid (bthen HB3.out hb4)
 have hsz4 := HB4.out.size
 have hl4 := HW4.out.lt
 have HS4 := Lib.hid (HS.out.later HB4.out)
 have HF4 := Lib.hid (HF.out.later HB4.out)
 clear hWW hb4 hz k_r l_r
 go_wp2_with fail
 refine (goes0_any (V := V) (cV := cV) HW4.out ((HB4.out.cell (p := ⟨D, 0, none⟩) hDl).trans HD.out.1) ((HB4.out.cell (p := ⟨D, 1, none⟩) hDl).trans HD.out.2) (by omega) ((HV.out.keep HB4.out (Nat.le_refl _)).wide hsz3) hcV HS4.out hc hc2 HF4.out).mono ?_
 rintro e w5 ⟨rfl, hex, g, c, x, h, hw, q1, q2, q3, q4, q5, q6, q7, q8⟩
 have HW5 := Lib.hid (show Blk w5 w3.heap.size #[.string ⟨#[]⟩, .slice none 0 0, .slice (some ⟨D, 0, none⟩) 1 cD, .slice none 0 0, .slice none 0 0, .pointer (some ⟨S, 0, none⟩), .int .u32 1, .int .i64 1, .slice (some ⟨g, 0, none⟩) 1 c, .int .i64 0] from hw)
 have HC5 := Lib.hid q5
 have HT5 := Lib.hid q8
 have HB5 : Hid (Below w.heap.size w w5) := Lib.hid (HB4.out.trans (hex.1.mono (by omega)))
 clear hex hw q5 q8
 have k_w := HW5.out.cell
 have l_w := HW5.out.lt
 go_wp2_with fail
 refine sort1_any.mono ?_
 rintro e w6 ⟨rfl, rfl⟩
 go_wp2_with fail
 refine compact1_any.mono ?_
 rintro e w6 ⟨rfl, rfl⟩
 go_wp2_with fail
 go_ret2
 exact ⟨⟨g, c, x, h, rfl, q3, q4, HC5.out, q6, HT5.out⟩, HB5.out⟩
set_option maxRecDepth 100000 in
set_option maxHeartbeats 4000000 in
theorem variable_any {s : ByteArray} {w : World} : Calls Tryz.prog 20 #[.string s] w fun z w' => z = .returned (.agg #[.int .i64 1, .int .i64 0, .string s, .slice none 0 0]) ∧ Below w.heap.size w w' := by
 go_enter Tryz.func20, Tryz.ntmps20
 go_upto_region 1 with fail
 generalize hW : World.alloc _ _ = w1
 obtain ⟨hb1, hz⟩ := al1 hW
 have HS1 := Lib.hid (n11 hW)
 have HB1 := Lib.hid hb1
 clear hW hb1 hz
 have f_s := HS1.out.free
 have k_s := HS1.out.cell
 have l_s := HS1.out.lt
 go_wp2_with fail
 refine bodyPost_ret (ret_tm rfl rfl ((((HS1.out.set_ 0 (.int .i64 1)).set_ 1 (.int .i64 0)).set_ 2 (.string s)).set_ 3 (.slice none 0 0)) rfl) rfl ?_
 exact ⟨rfl, (((HB1.out.setCell (p := ⟨w.heap.size, 0, none⟩) (Nat.le_refl _) _).setCell (p := ⟨w.heap.size, 1, none⟩) (Nat.le_refl _) _).setCell (p := ⟨w.heap.size, 2, none⟩) (Nat.le_refl _) _).setCell (p := ⟨w.heap.size, 3, none⟩) (Nat.le_refl _) _⟩
theorem V1_of {w : World} {g : Nat} (hb : Blk w g #[.int .i64 1, .int .i64 0, .string ⟨#[120]⟩, .slice none 0 0]) : RL (TmR 2) w w.heap.size [pv] (some ⟨g, 0, none⟩) := by
 refine RL.one (vs := [.int .i64 1, .int .i64 0, .string ⟨#[120]⟩, .slice none 0 0]) hb.lt ⟨none, 0, rfl, by simp [pv], ⟨by simp [pv], by omega⟩, by decide, by simp [pv, I64], by simp [pv, I64], fun h => absurd h (by simp [pv])⟩ ?_
 intro j v hv
 refine (hb.cell j).trans ?_
 simpa using hv
set_option maxRecDepth 100000 in
set_option maxHeartbeats 8000000 in
theorem awake_any {w : World} : Calls Tryz.prog 7 #[] w fun z w' => z = .returned (.bool true) ∧ Below w.heap.size w w' := by
 go_enter Tryz.func7, Tryz.ntmps7
 go_wp2_with fail
 generalize hWa : w.alloc _ = wa
 obtain ⟨hba, hza⟩ := al1 hWa
 have HTa := Lib.hid (n11 hWa)
 clear hWa
 rw [show w.heap.size + 1 = wa.heap.size from hza.symm]
 generalize hWb : wa.alloc _ = wb
 obtain ⟨hbb, hzb⟩ := al1 hWb
 have HGb := Lib.hid (n11 hWb)
 have ht : T1 wa w.heap.size := T1.of HTa.out.lt (Nat.zero_le _) (HTa.out.cell 0) (HTa.out.cell 1) (HTa.out.cell 2) (HTa.out.cell 3)
 have HTb := Lib.hid (ht.later hbb)
 have HBb := Lib.hid (bthen hba hbb)
 have hszb := HBb.out.size
 clear hWb ht
 refine (made_any (c0 := 1) (HGb.out.cell 0) (HGb.out.cell 1) (HGb.out.cell 2) HGb.out.lt HTb.out).mono ?_
 rintro e w2 ⟨⟨S, M, L, cL, rfl, hS, hc1, hc2, hq1, hq2, hfc⟩, hb2⟩
 have HS2 := Lib.hid hS
 have HF2 := Lib.hid hfc
 have HB2 := Lib.hid (bthen HBb.out hb2)
 clear hS hfc hb2 hba hbb
 go_wp2_with fail
 refine variable_any.mono ?_
 rintro e w3 ⟨rfl, hb3⟩
 have HS3 := Lib.hid (HS2.out.later hb3)
 have HF3 := Lib.hid (HF2.out.later hb3)
 have HB3 := Lib.hid (bthen HB2.out hb3)
 clear hb3
 go_wp2_with fail
 generalize hWa : w3.alloc _ = wc
 obtain ⟨hbc, hzc⟩ := al1 hWa
 have HVc := Lib.hid (n11 hWa)
 clear hWa
 rw [show w3.heap.size + 1 = wc.heap.size from hzc.symm]
 generalize hWb : wc.alloc _ = wd
 obtain ⟨hbd, hzd⟩ := al1 hWb
 have HDd := Lib.hid (n11 hWb)
 have HVd := Lib.hid (V1_of (HVc.out.later hbd))
 have HSd := Lib.hid ((HS3.out.later hbc).later hbd)
 have HFd := Lib.hid ((HF3.out.later hbc).later hbd)
 have HBd := Lib.hid (bthen (bthen HB3.out hbc) hbd)
 clear hWb hbc hbd
 refine (answers_any (V := w3.heap.size) (cV := 1) (HDd.out.cell 0) (HDd.out.cell 1) HDd.out.lt HVd.out ⟨by omega, by omega⟩ ⟨by omega, by omega⟩ HSd.out hc1 hc2 HFd.out).mono ?_
 rintro e w5 ⟨⟨g, c, x, h, rfl, g1, g2, ⟨c0, c1, c2⟩, ex, ht⟩, hb5⟩
 obtain ⟨An, cn, At, ct⟩ := x
 obtain rfl : At = some ⟨h, 0, none⟩ := ex
 dsimp only at c0 c1 c2
 obtain ⟨A9, c9, _, _, t1, _, _⟩ := ht.cells
 have HB5 := Lib.hid (bthen HBd.out hb5)
 clear hb5 ht
 go_wp2_with fail
 go_ret
 exact ⟨rfl, HB5.out⟩
open Go.ChangeShapes Go.WideShapes Go.ChangeAt Go.RowKit
theorem cells_Strs : Tryz.prog.cellsOf 25 = 1 := by kernel_rfl
theorem cells_Bind : Tryz.prog.cellsOf 27 = 2 := by kernel_rfl
section
variable {H : Type} {enc : TypeId × Value → H} {w : World} {base : Nat} {held : Bool}
theorem strs_open {n : Nat} {cs : List Value} {x : DataW H × List MemPlace} (h : DataW.trod enc Tryz.prog w base (fun _ => true) held n 25 cs = some x) (ho : Ok Tryz.prog 25 x.1) : ∃ ts v, cs = [v] ∧ RSl StrR w w.heap.size ts v :=
 open_row StrR (D := n) (B := 16) (Tryz.underlying25) cells_string (by simp [StrR]) (by simp [StrR]) (by kernel_rfl) h ho (by omega) (fun m hm cs x hx ho => by
   obtain ⟨s, e, i⟩ := open_string (Tryz.underlying9) hx ho
   exact ⟨s, e, i⟩)
def BindAt (D : Nat) (w : World) (B : Nat) (b : Bd) (cs : List Value) : Prop :=
 ∃ An cn At ct, cs = [.slice An b.names.length cn, .slice At b.terms.length ct] ∧ RL StrR w B (b.names.map mkS) An ∧ RL (TmR D) w B b.terms At ∧ b.names.length ≤ cn ∧ b.terms.length ≤ ct ∧ b.names.length * 8 ≤ 140737488351232 ∧ b.terms.length * 32 ≤ 140737488351232 ∧ cn ≤ 9223372036854775807 ∧ ct ≤ 9223372036854775807
set_option maxRecDepth 100000 in
theorem bind_open {n D : Nat} {cs : List Value} {x : DataW H × List MemPlace} (h : DataW.trod enc Tryz.prog w base (fun _ => true) held n 27 cs = some x) (ho : Ok Tryz.prog 27 x.1) (hD : n ≤ D) : ∃ b, BindAt D w w.heap.size b cs := by
 obtain ⟨hc, n', hn, hf⟩ := open_fields (Tryz.underlying27) h ho
 have hcl := hc.trans cells_Bind
 match cs, hcl with
 | [c0, c1], _ =>
   obtain ⟨_, h0, o0⟩ := hf 0 _ _ _ _ rfl rfl rfl cells_Strs
   obtain ⟨_, h1, o1⟩ := hf 1 _ _ _ _ rfl rfl rfl cells_Terms
   obtain ⟨xs, v0, e0, g0⟩ := strs_open h0 o0
   obtain ⟨ts, v1, e1, g1⟩ := terms_open (D := D) h1 o1 (by omega)
   replace e0 : [c0] = _ := e0
   replace e1 : [c1] = _ := e1
   simp only [List.cons.injEq, and_true] at e0 e1
   subst e0 e1
   obtain ⟨An, cn, rfl, a1, a2, a3⟩ := g0
   obtain ⟨At, ct, rfl, b1, b2, b3⟩ := g1
   have hm : (xs.map bs).map mkS = xs := by
     rw [List.map_map]
     conv => rhs; rw [← List.map_id xs]
     apply List.map_congr_left
     intro s _
     exact mkS_bs s
   refine ⟨⟨xs.map bs, ts⟩, An, cn, At, ct, by simp, by rw [hm]; exact a3, b3, by simpa using a1, b1, ?_, ?_, a2.2, b2.2⟩
   · simpa [StrR] using a2.1
   · simpa [TmR] using b2.1
end
open Go.ChangeShapes Go.WideShapes Go.ChangeAt Go.RowKit
theorem own : ownKnob Tryz.prog.godebug = none := by kernel_rfl
theorem laidOut : laidOutB Tryz.prog = true := by kernel_rfl
theorem ok_of {H : Type} {P : Program} {ts : List TypeId} {ds : List (DataW H)} (h : (DataW.weightsEach P ts ds).all (· ≤ reachBytes) = true) {j : Nat} {t : TypeId} {d : DataW H} (ht : ts[j]? = some t) (hd : ds[j]? = some d) : Ok P t d := fun n hn => by
 have := List.all_eq_true.1 h n (DataW.weights_mem_each ht hd n hn)
 simpa using this
set_option maxRecDepth 100000 in
theorem joinOnes_lifted (os : Os) (started : os.Started) (H : Type) (enc : TypeId × Value → H) :
   ReturnsInHanded {} Tryz.checked os 3 .any (Rows.joinOnesSpec.pre6 enc Tryz.prog Tryz.f3 Rows.joinOnesRow.domain false) (Rows.joinOnesSpec.post enc Tryz.prog Tryz.f3 false true false false) := by
 refine returnsInHanded_of_change_shaped (C := Tryz.checked) own started (by kernel_rfl) Tryz.func3
   (ChangeSpec.witness6 (enc := enc) (C := Tryz.checked) false ⟨#[], #[.agg #[.string ⟨#[]⟩, .slice none 0 0], .agg #[.string ⟨#[]⟩, .slice none 0 0], .agg #[.slice none 0 0, .slice none 0 0]], []⟩ 8 (by kernel_rfl) (by kernel_rfl) (by kernel_rfl) (by kernel_rfl)) ?_
 intro W base args ds gs before hval0 hW _ hsz0 hsh _
 have hsz : (DataW.weightsEach Tryz.prog (Tryz.f3.params.toList ++ Rows.joinOnesSpec.plain.varTypes Tryz.prog) (ds ++ gs)).all (· ≤ reachBytes) = true := hsz0
 clear hsz0
 have hval : ∀ (j : Nat) t v, Tryz.f3.params[j]? = some t → args[j]? = some v → Value.okWide Tryz.prog W .any base t v := hval0
 have hW' := hW
 obtain ⟨p, q, hA0, hV, rfl, hfz, hnd⟩ := hW
 have hA : DataW.TrodAll enc Tryz.prog W 0 (fun _ => true) true Tryz.f3.params.toList args.toList ds p := hA0
 rw [Tryz.params3] at hA hval hsz
 obtain ⟨v0, v1, v2, d0, d1, d2, p0, p1, p2, rfl, rfl, rfl, h0, h1, h2⟩ := trodAll_three hA
 obtain ⟨rfl, rfl⟩ := trodVars_none hV
 obtain ⟨cs0, rfl, _⟩ := okWide_struct Tryz.underlying24 (hval 0 24 v0 rfl rfl)
 obtain ⟨cs1, rfl, _⟩ := okWide_struct Tryz.underlying24 (hval 1 24 v1 rfl rfl)
 obtain ⟨cs2, rfl, _⟩ := okWide_struct Tryz.underlying27 (hval 2 27 v2 rfl rfl)
 have k0 := h0
 have lt0 : ∀ x ∈ (p0 : List MemPlace), x.block < W.heap.size := by obtain ⟨m, hm⟩ := k0; exact DataW.trod_lt m _ _ _ hm
 have k1 := h1
 have lt1 : ∀ x ∈ (p1 : List MemPlace), x.block < W.heap.size := by obtain ⟨m, hm⟩ := k1; exact DataW.trod_lt m _ _ _ hm
 have k2 := h2
 have lt2 : ∀ x ∈ (p2 : List MemPlace), x.block < W.heap.size := by obtain ⟨m, hm⟩ := k2; exact DataW.trod_lt m _ _ _ hm
 obtain ⟨n0, t0⟩ := h0
 obtain ⟨n1, t1⟩ := h1
 obtain ⟨n2, t2⟩ := h2
 obtain ⟨D, hD⟩ : ∃ D, n0 ≤ D + 1 ∧ n1 ≤ D + 1 ∧ n2 ≤ D + 1 := ⟨(max (max n0 n1) n2), by omega⟩
 obtain ⟨r0, hr0⟩ := pred_open (D := D + 1) t0 (ok_of hsz (j := 0) rfl rfl) (by omega)
 obtain ⟨r1, hr1⟩ := pred_open (D := D + 1) t1 (ok_of hsz (j := 1) rfl rfl) (by omega)
 obtain ⟨r2, hr2⟩ := bind_open (D := D + 1) t2 (ok_of hsz (j := 2) rfl rfl) (by omega)
 clear hA0 hval0
 obtain ⟨cs0⟩ := cs0
 obtain ⟨cs1⟩ := cs1
 obtain ⟨cs2⟩ := cs2
 obtain ⟨An, cn, At, ct, e2, hbn, hbt, _, _, hbn1, hbt1, _, _⟩ := hr2
 subst e2
 refine (joinOnes_of (fun _ _ => awake_any) hr0 hr1 hbn hbt hbn1 hbt1 (Nat.le_refl _)).mono fun e W' ⟨he, bel⟩ => ?_
 subst he
 exact ⟨_, rfl, _, _, _, [], _, [], hW', trodAll_mk1 (shut_bool Tryz.underlying4 _), trodAll_mk3 (Below.trod laidOut (by kernel_rfl) (of_decide_eq_true (by kernel_rfl)) k0 bel lt0) (Below.trod laidOut (by kernel_rfl) (of_decide_eq_true (by kernel_rfl)) k1 bel lt1) (Below.trod laidOut (by kernel_rfl) (of_decide_eq_true (by kernel_rfl)) k2 bel lt2), rfl, bel.frame _, fun h => by cases h⟩
theorem joinOnes_over : Rows.joinOnesRow.holds Tryz.pinned (OpenSpec.ofChange Rows.joinOnesSpec) :=
 OpenClaim.holds_of_wide 3 Tryz.f3 rfl rfl rfl rfl rfl rfl rfl ⟨rfl, rfl, rfl, rfl, rfl⟩ rfl rfl rfl rfl rfl (by kernel_rfl) Tryz.func3 (by kernel_rfl)
   (of_decide_eq_true (by kernel_rfl)) (by unfold Func.isWrapper; first | (rw [if_pos (by decide +kernel)]; kernel_rfl) | (rw [if_neg (by decide +kernel)]; exact ⟨rfl, rfl⟩))
   (fun os started H enc _ => joinOnes_lifted os started H enc)
theorem joinOnes_holds : Rows.JoinOnesSaid := joinOnes_over
end Go.Proofs.YtkdonhhbpacgmaaGreat
