/- viaticumref6.Fixed. -/
import Derived.Test.YtkdonhhbpacgmaaGreatBS
import Derived.Test.YtkdonhhbpacgmaaGreatRef4
set_option linter.unusedVariables false
set_option linter.unusedSimpArgs false
namespace Go.Proofs.YtkdonhhbpacgmaaGreat
open Go.ChangeShapes Go.WideShapes Go.ChangeAt Go.RowKit
def varsOf (ts : List Tm) : List Bytes := (ts.filter (fun t => decide (t.kind = 1))).map (fun t => bs t.s)
def varsAll (ps : List Pr) : List Bytes := ps.flatMap (fun p => varsOf p.terms)
theorem varsOf_append (ts us : List Tm) : varsOf (ts ++ us) = varsOf ts ++ varsOf us := by simp [varsOf]
theorem varsAll_append (ps qs : List Pr) : varsAll (ps ++ qs) = varsAll ps ++ varsAll qs := by simp [varsAll]
theorem varsOf_take (ts : List Tm) (j : Nat) : (varsOf (ts.take j)).length ≤ (varsOf ts).length := by
 have e := varsOf_append (ts.take j) (ts.drop j)
 rw [List.take_append_drop] at e
 rw [e]; simp
theorem varsAll_take (ps : List Pr) (k : Nat) : (varsAll (ps.take k)).length ≤ (varsAll ps).length := by
 have e := varsAll_append (ps.take k) (ps.drop k)
 rw [List.take_append_drop] at e
 rw [e]; simp
theorem varsAll_succ {ps : List Pr} {k : Nat} {p : Pr} (h : ps[k]? = some p) : varsAll (ps.take (k + 1)) = varsAll (ps.take k) ++ varsOf p.terms := by
 obtain ⟨h1, h2⟩ := List.getElem?_eq_some_iff.1 h
 rw [List.take_succ_eq_append_getElem h1, h2]; simp [varsAll]
theorem varsOf_succ {ts : List Tm} {k : Nat} {t : Tm} (h : ts[k]? = some t) : varsOf (ts.take (k + 1)) = varsOf (ts.take k) ++ (if t.kind = 1 then [bs t.s] else []) := by
 obtain ⟨h1, h2⟩ := List.getElem?_eq_some_iff.1 h
 rw [List.take_succ_eq_append_getElem h1, h2]
 by_cases hk : t.kind = 1 <;> simp [varsOf, hk]
theorem infoStr : (Tryz.prog.info? 9).map (fun i => (i.zero, i.size, i.bytes)) = some (some (.string ⟨#[]⟩), 1, 16) := by kernel_rfl
theorem OwnS.later {w w' : World} {base : Nat} {v : Value} {L : List Bytes} (h : OwnS w base v L) (hb : Below w.heap.size w w') : OwnS w' base v L := by
 refine ⟨h.1, ?_⟩
 rcases h.2 with h2 | ⟨g, cap, cur, hv, hg, hh, r⟩
 · exact .inl h2
 · refine .inr ⟨g, cap, cur, hv, hg, ?_, r⟩
   have hlt : g < w.heap.size := by
     rcases Nat.lt_or_ge g w.heap.size with h' | h'
     · exact h'
     · rw [Array.getElem?_eq_none h'] at hh; cases hh
   rw [hb.block g hlt]; exact hh
theorem OwnS.reads {w : World} {base : Nat} {v : Value} {L : List Bytes} (h : OwnS w base v L) (hl : ∀ l ∈ L, l.length ≤ 140737488351232) (hn : L.length ≤ 1000000) : ∃ A c, v = .slice A L.length c ∧ L.length ≤ c ∧ RL StrR w w.heap.size (L.map mkS) A := by
 rcases h.2 with ⟨h1, h2⟩ | ⟨g, cap, cur, hv, hg, hh, h1, h2, h3, h4⟩
 · refine ⟨none, 0, by rw [h1, h2], by omega, ?_⟩
   intro h0
   simp [h2] at h0
 · refine ⟨_, cap, hv, h1, fun _ => ⟨g, 0, rfl, ?_, fun i hi => ?_⟩⟩
   · rcases Nat.lt_or_ge g w.heap.size with h' | h'
     · exact h'
     · rw [Array.getElem?_eq_none h'] at hh; cases hh
   · have hi' : i < L.length := by simpa using hi
     refine ⟨[.string (mkS L[i])], rfl, ⟨mkS L[i], by simp [hi'], rfl, ?_⟩, fun j v hj => ?_⟩
     · have := hl L[i] (List.getElem_mem hi')
       show (mkS L[i]).size ≤ _
       rw [Lib.size_eq]
       simpa [mkS] using this
     · match j, hj with
       | 0, hj =>
         have hj : Value.string (mkS L[i]) = v := by simpa using hj
         subst hj
         have hc : cur[i]? = some (encStr L[i]) := by
           have : (cur.toList.take (L.length * 1))[i]? = (L.map encStr)[i]? := by rw [h4]
           rw [List.getElem?_take, if_pos (by omega), List.getElem?_map, List.getElem?_eq_getElem hi'] at this
           simpa using this
         show World.cell? w ⟨g, 0 + i * 1 + 0, none⟩ = _
         simp [World.cell?, hh, hc, encStr, mkS]
set_option maxRecDepth 100000 in
set_option maxHeartbeats 2000000 in
theorem names_any (d : Nat) (ps : List Pr) (A : Option Addr) (c B : Nat) (w : World) (hl : RL (PrR d) w B ps A) (hB : B ≤ w.heap.size) (hn : ps.length ≤ 140737488351232) (hcount : (varsAll ps).length ≤ 1000000) :
   Calls Tryz.prog 71 #[.slice A ps.length c] w fun e w' => ∃ v, e = .returned v ∧ OwnS w' w.heap.size v (uniqL (varsAll ps)) ∧ Below w.heap.size w w' := by
 obtain ⟨i0, hi, hz0, hz1, hz2⟩ := info_parts infoStr
 go_enter Tryz.func71, Tryz.ntmps71
 go_wp2_with fail
 go_loopw [3, 10] (fun v i wr => ∃ k : Nat, k ≤ ps.length ∧ i = .int .i64 k ∧ OwnS wr w.heap.size v (varsAll (ps.take k)) ∧ Below w.heap.size w wr) (fun _ i _ => ps.length - (intOf i).toNat)
 case atStart => exact ⟨0, Nat.zero_le _, rfl, World.ownsRow_nil _ _ _ _, Below.refl _ _⟩
 case round =>
   obtain ⟨k, hk, rfl, hown, hbw⟩ := hrel
   by_cases hlt : k < ps.length
   · obtain ⟨b, off, rfl, hb⟩ := hl.base hbw hB (by omega)
     obtain ⟨p, vs, hx, hlen, hcell, hr⟩ := hl.at0 hbw hB hlt
     obtain ⟨_, rfl, hs, A', c', rfl, hc1, hc2, hl'⟩ := hr
     have c0 : wr.cell? ⟨b, off + k * 2, none⟩ = some (.string p.name) := hcell 0 _ rfl
     have c1 : wr.cell? ⟨b, off + k * 2 + 1, none⟩ = some (.slice A' p.terms.length c') := hcell 1 _ rfl
     simp only [TmR] at hc2
     have HX := Lib.hid (varsAll_succ hx)
     have HT := Lib.hid (varsAll_take ps (k + 1))
     clear hcell hlen hx
     go_wp2_with fail
     have hbw2 : Below w.heap.size w (wr.alloc (.cells #[.string p.name, .slice A' p.terms.length c'] 24)) := hbw.alloc hbw.size _
     have hown2 : OwnS (wr.alloc (.cells #[.string p.name, .slice A' p.terms.length c'] 24)) w.heap.size u3 (varsAll (ps.take k)) := hown.alloc _
     have hsz2 : wr.heap.size < (wr.alloc (.cells #[.string p.name, .slice A' p.terms.length c'] 24)).heap.size := by simp
     have hsz := hbw.size
     clear hbw hown c0 c1 hl
     generalize (wr.alloc (.cells #[.string p.name, .slice A' p.terms.length c'] 24)) = W at *
     go_loopw [3, 17] (fun v i wr2 => ∃ j : Nat, j ≤ p.terms.length ∧ i = .int .i64 j ∧ OwnS wr2 w.heap.size v (varsAll (ps.take k) ++ varsOf (p.terms.take j)) ∧ Below w.heap.size w wr2) (fun _ i _ => p.terms.length - (intOf i).toNat)
     case atStart => exact ⟨0, Nat.zero_le _, rfl, by simpa [varsOf] using hown2, hbw2⟩
     case round =>
       obtain ⟨j, hj, rfl, hown3, hbw3⟩ := hrel
       by_cases hlt2 : j < p.terms.length
       · obtain ⟨b', off', rfl, hb'⟩ := hl'.base hbw3 hB (by omega)
         obtain ⟨x, vs, hx, hlen, hcell, hr⟩ := hl'.at0 hbw3 hB hlt2
         obtain ⟨Ax, cx, rfl, _⟩ := RTm.cells hr
         have c0 : wr.cell? ⟨b', off' + j * 4, none⟩ = some (.int .i64 x.kind) := hcell 0 _ rfl
         have c1 : wr.cell? ⟨b', off' + j * 4 + 1, none⟩ = some (.int .i64 x.n) := hcell 1 _ rfl
         have c2 : wr.cell? ⟨b', off' + j * 4 + 2, none⟩ = some (.string x.s) := hcell 2 _ rfl
         have c3 : wr.cell? ⟨b', off' + j * 4 + 3, none⟩ = some (.slice Ax x.l.length cx) := hcell 3 _ rfl
         have HX2 := Lib.hid (varsOf_succ hx)
         have HT2 := Lib.hid (varsOf_take p.terms (j + 1))
         have HO := Lib.hid hown3
         have HG := Lib.hid (fun g (hg : u3.ownBlock = some g) => ((HO.out.lt g hg).1 : w.heap.size ≤ g))
         have HL : Hid ((varsAll (ps.take k)).length + (varsOf (p.terms.take j)).length ≤ 1000000) := by
           have h1 := HT.out
           rw [HX.out, List.length_append] at h1
           have h2 := varsOf_take p.terms j
           exact (by omega : (varsAll (ps.take k)).length + (varsOf (p.terms.take j)).length ≤ 1000000)
         have hszr := hbw3.size
         clear hcell hlen hx hr hown3
         by_cases hk1 : (x.kind == 1) = true
         · have HK := Lib.hid hk1
           go_wp2_with (at_builtin; refine wpList_append_own _ rfl (.tmp 24) (.tmp 27) 25 rfl w.heap.size 9 i0 (.string ⟨#[]⟩) 1 16 Tryz.underlying25 hi hz0 hz1 hz2 rfl (by decide) _ _ _ rfl (World.ownsRow.alloc (World.ownsRow.alloc HO.out _) _) ⟨wr.heap.size + 1, 0, none⟩ 1 1 [.string x.s] rfl rfl ?c1 ?c2 ?c3 ?c4 ?c5 ?_)
           case c1 =>
             intro i u hi
             match i, hi with
             | 0, hi =>
               simp only [List.getElem?_cons_zero, Option.some.injEq] at hi
               subst hi
               simp [Addr.add]
           case c2 => intro u hu; simp at hu; subst hu; rfl
           case c3 => have := HL.out; unfold maxLen; rw [List.length_append]; omega
           case c4 => have := HL.out; rw [List.length_append]; omega
           case c5 => simp; omega
           intro v' w' hown' hgrow _
           have hnew : OwnS w' w.heap.size v' (varsAll (ps.take k) ++ varsOf (p.terms.take (j + 1))) := by
             have := HK.out
             rw [beq_iff_eq] at this
             rw [HX2.out, if_pos this]
             unfold OwnS
             simpa [encStr_bs, Nat.add_assoc] using hown'
           have hbelow : Below w.heap.size w w' := by
             refine Below.grown (w := (wr.alloc _).alloc _) ((hbw3.alloc hszr _).alloc (by simp; omega) _) hgrow (by simp; omega) ?_
             intro g hg
             exact HG.out g hg
           clear hown' hgrow
           go_wp2
           go_roundw
           case rel => exact ⟨j + 1, by omega, by go_num, hnew, hbelow⟩
           case measure => simp [intOf]; omega
         · have hk1 : (x.kind == 1) = false := by simpa using hk1
           have HK := Lib.hid hk1
           have hnew : OwnS (wr.alloc (.cells #[.int .i64 x.kind, .int .i64 x.n, .string x.s, .slice Ax x.l.length cx] 44)) w.heap.size u3 (varsAll (ps.take k) ++ varsOf (p.terms.take (j + 1))) := by
             have := HK.out
             rw [beq_eq_false_iff_ne] at this
             rw [HX2.out, if_neg this, List.append_nil]
             exact World.ownsRow.alloc HO.out _
           have HN := Lib.hid hnew
           have HBel := Lib.hid (fun o : Obj => hbw3.alloc hszr o)
           clear hnew
           go_wp2_with fail
           go_roundw
           case rel => exact ⟨j + 1, by omega, by go_num, HN.out, HBel.out _⟩
           case measure => simp [intOf]; omega
       · go_wp2_with fail
         go_roundw
         case rel => exact ⟨k + 1, by omega, by go_num, by
           rw [HX.out]
           rw [List.take_of_length_le (l := p.terms) (by omega)] at hown3
           exact hown3, hbw3⟩
         case measure => simp [intOf]; omega
   · have hown' : OwnS wr w.heap.size u3 (varsAll ps) := by rwa [List.take_of_length_le (by omega)] at hown
     have HO := Lib.hid hown'
     clear hown hown'
     go_wp2_with fail
     refine (sortS_any _ w.heap.size _ _ HO.out hbw.size (by omega)).mono ?_
     rintro e w1 ⟨rfl, hs1, hb1⟩
     have HS := Lib.hid hs1
     have HB1 := Lib.hid (hbw.trans hb1)
     clear hs1 hb1
     go_wp2_with fail
     refine (compactS_any _ w.heap.size _ _ HS.out (by rw [sortL_length]; omega)).mono ?_
     rintro e w2 ⟨v', rfl, hs2, hb2⟩
     have HS2 := Lib.hid hs2
     have HB2 := Lib.hid (HB1.out.trans hb2)
     clear hs2 hb2
     go_wp2_with fail
     go_ret
     exact ⟨_, rfl, HS2.out, HB2.out⟩
open Go.ChangeShapes Go.WideShapes Go.ChangeAt Go.RowKit
set_option maxRecDepth 100000 in
set_option maxHeartbeats 1000000 in
theorem refFixed_any {d : Nat} {t : Tm} {vs : List Value} {B : Nat} {w : World} (h : RTm w B d t vs) (hB : B ≤ w.heap.size) :
   Calls Tryz.prog 34 #[.agg vs.toArray] w fun e w' => e = .returned (.bool (fixedB t)) ∧ Below w.heap.size w w' := by
 obtain ⟨A, c, rfl, q1, q2, q3, q4, q5, _⟩ := h.cells
 have HA := Lib.hid h
 clear h
 have hk : (t.kind != 1) = true ∨ (t.kind != 1) = false := by cases (t.kind != 1) <;> simp
 have hm : mayB t = true ∨ mayB t = false := by cases mayB t <;> simp
 rcases hm with hm | hm
 · have HM := Lib.hid hm
   clear hm
   rcases hk with hk | hk
   · have HK := Lib.hid hk
     go_enter Tryz.func34, Tryz.ntmps34
     go_wp2_with fail
     generalize hW : World.alloc _ _ = w1
     obtain ⟨hb, hz⟩ := al1 hW
     have b_a_1 := n11 hW
     have HB1 := Lib.hid hb
     clear hW hz hb
     refine (refMay_any (t := t) (vs := [_, _, _, _]) (HA.out.below HB1.out hB) (Nat.le_trans hB HB1.out.size)).mono ?_
     rintro x w2 ⟨rfl, hb⟩
     have b_a_2 := b_a_1.later hb
     have HB2 := Lib.hid (bthen HB1.out hb)
     clear b_a_1
     clear hb
     rw [HM.out]
     have k_a := b_a_2.cell
     have l_a := b_a_2.lt
     go_wp2_with fail
     clear k_a l_a
     go_ret
     exact ⟨ret_bool (by have h := HK.out; unfold fixedB; rw [HM.out, Bool.and_true]; simp only [bne_iff_ne, bne_eq_false_iff_eq] at h; simp [h]), HB2.out⟩
   · have HK := Lib.hid hk
     go_enter Tryz.func34, Tryz.ntmps34
     go_wp2_with fail
     generalize hW : World.alloc _ _ = w1
     obtain ⟨hb, hz⟩ := al1 hW
     have b_a_1 := n11 hW
     have HB1 := Lib.hid hb
     clear hW hz hb
     refine (refMay_any (t := t) (vs := [_, _, _, _]) (HA.out.below HB1.out hB) (Nat.le_trans hB HB1.out.size)).mono ?_
     rintro x w2 ⟨rfl, hb⟩
     have b_a_2 := b_a_1.later hb
     have HB2 := Lib.hid (bthen HB1.out hb)
     clear b_a_1
     clear hb
     rw [HM.out]
     have k_a := b_a_2.cell
     have l_a := b_a_2.lt
     go_wp2_with fail
     clear k_a l_a
     go_ret
     exact ⟨ret_bool (by have h := HK.out; unfold fixedB; rw [HM.out, Bool.and_true]; simp only [bne_iff_ne, bne_eq_false_iff_eq] at h; simp [h]), HB2.out⟩
 · have HM := Lib.hid hm
   clear hm
   go_enter Tryz.func34, Tryz.ntmps34
   go_wp2_with fail
   generalize hW : World.alloc _ _ = w1
   obtain ⟨hb, hz⟩ := al1 hW
   have b_a_1 := n11 hW
   have HB1 := Lib.hid hb
   clear hW hz hb
   refine (refMay_any (t := t) (vs := [_, _, _, _]) (HA.out.below HB1.out hB) (Nat.le_trans hB HB1.out.size)).mono ?_
   rintro x w2 ⟨rfl, hb⟩
   have b_a_2 := b_a_1.later hb
   have HB2 := Lib.hid (bthen HB1.out hb)
   clear b_a_1
   clear hb
   rw [HM.out]
   have k_a := b_a_2.cell
   have l_a := b_a_2.lt
   go_wp2_with fail
   clear k_a l_a
   go_ret
   exact ⟨ret_bool (by unfold fixedB; rw [HM.out, Bool.and_false]), HB2.out⟩
end Go.Proofs.YtkdonhhbpacgmaaGreat
