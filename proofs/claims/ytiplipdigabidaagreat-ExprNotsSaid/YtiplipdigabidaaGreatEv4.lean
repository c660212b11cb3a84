/- expr.stack's value. -/
import Derived.Test.YtiplipdigabidaaGreatFound
set_option linter.unusedVariables false
set_option linter.unusedSimpArgs false
namespace Go.Proofs.YtiplipdigabidaaGreat
open Go.ChangeShapes Go.WideShapes Go.ChangeAt Go.RowKit

/-- What a term stands for: the error, the terms. -/
def valR (b : Bd) (t : Tm) (ts : List Tm) : Int × List Tm :=
  if t.kind = 1 then
    match lookR b (bs t.s) with
    | none => (8, ts)
    | some u => (0, ts ++ [u])
  else (0, ts ++ [t])
theorem lookR_mem {b : Bd} {n : Bytes} {u : Tm} (h : lookR b n = some u) : u ∈ b.terms := by
  unfold lookR at h
  split at h
  · exact List.mem_of_getElem? h
  · cases h

theorem FoundE.no {d : Nat} {w w' : World} {z : Ending} (h : FoundE d w w' none z) : (∃ A c, z = .returned (.tuple #[.agg #[.int .i64 0, .int .i64 0, .string ⟨#[]⟩, .slice A 0 c], .bool false])) ∧ Below w.heap.size w w' := by
  obtain ⟨⟨A, c, e, _⟩, hb⟩ := h
  exact ⟨⟨A, c, e⟩, hb⟩
theorem FoundE.yes {d : Nat} {w w' : World} {u : Tm} {z : Ending} (h : FoundE d w w' (some u) z) : (∃ A c, z = .returned (.tuple #[.agg #[.int .i64 u.kind, .int .i64 u.n, .string u.s, .slice A u.l.length c], .bool true]) ∧ TmOwn d w.heap.size w' u A c) ∧ Below w.heap.size w w' := h

set_option maxRecDepth 100000 in
set_option maxHeartbeats 4000000 in
theorem evalue_any {S base D B c cn ct : Nat} {b : Bd} {An At : Option Addr} {w : World} {xs : List SV} {next : Int} {A : Option Addr} {o : OpD} {ovs : List Value} (hok : BdOk b) (hbn : RL StrR w B (b.names.map mkS) An) (hbt : RL (TmR (D + 1)) w B b.terms At)
    (h : StkE S base D (.slice An b.names.length cn) (.slice At b.terms.length ct) w xs next A c) (ho : (OpR (D + 1)).rd w B o ovs) (hol : ∀ u ∈ o.term.l, Leaf u) (ho16 : o.term.l.length ≤ 16) (hB : B ≤ w.heap.size) (hb : base ≤ w.heap.size) (hn : xs.length ≤ 90000) :
    Calls Tryz.prog 34 #[.pointer (some ⟨S, 0, none⟩), .agg ovs.toArray] w fun e w' => EvE S base D (.slice An b.names.length cn) (.slice At b.terms.length ct) w w' (valR b o.term (xs.map SV.t)).1 (valR b o.term (xs.map SV.t)).2 next e := by
  obtain ⟨ts, rfl, _, _, _, ht⟩ := ho
  obtain ⟨Ao, co, rfl, _, _, hs, hk, hi, hr⟩ := RTm.cells ht
  have hSlt := h.hd.blk.lt
  have HS := Lib.hid h
  have HOK := Lib.hid hok
  have HN := Lib.hid hbn
  have HT := Lib.hid hbt
  have HR := Lib.hid (And.intro (RTms.rl hr) (And.intro hol (And.intro hk (And.intro hi hs))))
  clear h ht hr hol hok hbn hbt
  go_enter Tryz.func34, Tryz.ntmps34
  by_cases h1 : o.term.kind = 1
  · have q1 : (o.term.kind == 1) = true := by rw [h1]; rfl
    go_upto_region 4 with fail
    generalize hW : World.alloc _ _ = w1
    obtain ⟨hb1, hz⟩ := al2 hW
    have b_t := n22 hW
    have BT := Lib.hid b_t
    have HB1 := Lib.hid hb1
    have HS1 := Lib.hid (HS.out.later hb1)
    have HN1 := Lib.hid (HN.out.keep hb1.drew hB)
    have HT1 := Lib.hid (HT.out.keep hb1.drew hB)
    have hB1 : B ≤ w1.drew.heap.size := Nat.le_trans hB hb1.size
    have k_t := b_t.cell
    have l_t := b_t.lt
    have f_t := b_t.free
    have k_s := HS1.out.hd.blk.cell
    have l_s := HS1.out.hd.blk.lt
    clear hW hb1 b_t
    rcases hL : lookR b (bs o.term.s) with _ | u
    · have HV : Hid (valR b o.term (xs.map SV.t) = (8, xs.map SV.t)) := Lib.hid (by unfold valR; rw [if_pos h1, hL])
      have HL := Lib.hid hL
      clear h1 hL
      go_region_with (first
        | (go_at_call 51
           refine (found_any (cn := cn) (ct := ct) (name := o.term.s) HOK.out HN1.out HT1.out hB1).mono ?_
           rintro e w2 hE
           rw [HL.out] at hE
           obtain ⟨⟨A2, c2, rfl⟩, hb2⟩ := hE.no
           have b_t2 := BT.out.drew.later hb2
           have k_t2 := b_t2.cell
           have l_t2 := b_t2.lt
           have f_t2 := b_t2.free
           have HF := Lib.hid (Below.trans HB1.out.drew (hb2.mono (show w.heap.size ≤ w1.drew.heap.size from HB1.out.size)))
           clear hE hb2 b_t2))
      all_goals
        go_wp2_with fail
        go_ret
        rw [HV.out]
        exact ⟨rfl, .of ((put4u HF.out (Nat.le_succ _) _ _ _ _).mono hb), fun h => absurd (show (8 : Int) = 0 from h) (by decide)⟩
    · have HV : Hid (valR b o.term (xs.map SV.t) = (0, xs.map SV.t ++ [u])) := Lib.hid (by unfold valR; rw [if_pos h1, hL])
      have HL := Lib.hid hL
      clear h1 hL
      go_region_with (first
        | (go_at_call 51
           refine (found_any (cn := cn) (ct := ct) (name := o.term.s) HOK.out HN1.out HT1.out hB1).mono ?_
           rintro e w2 hE
           rw [HL.out] at hE
           obtain ⟨⟨A2, c2, rfl, hown⟩, hb2⟩ := hE.yes
           have b_t2 := BT.out.drew.later hb2
           have k_t2 := b_t2.cell
           have l_t2 := b_t2.lt
           have f_t2 := b_t2.free
           have HF := Lib.hid (And.intro (Below.trans HB1.out.drew (hb2.mono (show w.heap.size ≤ w1.drew.heap.size from HB1.out.size))) (And.intro hown b_t2))
           clear hE hb2 b_t2 hown))
      all_goals
        have HB3 := Lib.hid (put4u HF.out.1 (Nat.le_succ _) (.int .i64 u.kind) (.int .i64 u.n) (.string u.s) (.slice A2 u.l.length c2))
        have HO3 := Lib.hid (HF.out.2.1.put4 (g := w.heap.size + 1) (show w.heap.size + 1 < w1.heap.size by omega) (.int .i64 u.kind) (.int .i64 u.n) (.string u.s) (.slice A2 u.l.length c2))
        have BT3 := Lib.hid (put4b HF.out.2.2 (.int .i64 u.kind) (.int .i64 u.n) (.string u.s) (.slice A2 u.l.length c2))
        generalize ((((w2.setCell ⟨w.heap.size + 1, 0, none⟩ (.int .i64 u.kind)).setCell ⟨w.heap.size + 1, 1, none⟩ (.int .i64 u.n)).setCell ⟨w.heap.size + 1, 2, none⟩ (.string u.s)).setCell ⟨w.heap.size + 1, 3, none⟩ (.slice A2 u.l.length c2)) = w3 at *
        clear k_t2 l_t2 f_t2 k_t l_t f_t
        have k_t := BT3.out.cell
        have l_t := BT3.out.lt
        have f_t := BT3.out.free
        go_wp2_with fail
        obtain ⟨hle, hl16⟩ := fixed_leaves (HOK.out.fixed u (lookR_mem HL.out))
        obtain ⟨Az, cz, hez, _, _, _, _, _, hrz⟩ := RTm.cells HO3.out.rtm
        simp only [List.cons.injEq, Value.slice.injEq, and_true, true_and] at hez
        obtain ⟨rfl, rfl⟩ := hez
        refine (cloneTm_any (RTms.rl hrz) (Nat.le_refl _) (by omega)).mono ?_
        rintro e w4 ⟨⟨v, rfl, hv⟩, hb4⟩
        obtain ⟨A4, c4, rfl⟩ := hv.form
        have HO4 : Hid (TmOwn D w3.heap.size w4 u A4 c4) := Lib.hid ⟨hv.leaves hle, HO3.out.k, HO3.out.n, HO3.out.s, by omega⟩
        have b_t4 := BT3.out.later hb4
        have HB4 := Lib.hid (bthen HB3.out hb4)
        clear k_t l_t f_t hv hb4 hrz
        have k_t := b_t4.cell
        have l_t := b_t4.lt
        have f_t := b_t4.free
        go_wp2_with fail
        have hlt3 := BT3.out.lt
        have HB5 : Hid (Below w.heap.size w (w4.setCell ⟨w.heap.size + 1, 3, none⟩ (.slice A4 u.l.length c4))) := Lib.hid (HB4.out.setCell (p := ⟨w.heap.size + 1, 3, none⟩) (by show w.heap.size ≤ w.heap.size + 1; omega) _)
        have HO5 := Lib.hid (HO4.out.far (g := w.heap.size + 1) (i := 3) (by omega) (.slice A4 u.l.length c4))
        have HS5 := Lib.hid (HS.out.later HB5.out)
        generalize (w4.setCell ⟨w.heap.size + 1, 3, none⟩ (.slice A4 u.l.length c4)) = w5 at *
        have hsz5 := HB5.out.size
        refine (spush_any (x := ⟨u, A4, c4⟩) HS5.out HO5.out.at_ (apart_of HS.out (fun a ha => (HO5.out.blk a ha).1) (by omega)) (fun a ha => ⟨by have := (HO5.out.blk a ha).1; omega, (HO5.out.blk a ha).2⟩) (by omega) (by omega)).mono ?_
        rintro e w6 ⟨rfl, hb6, hps⟩
        have HS6 := Lib.hid (And.intro hb6 hps)
        clear hb6 hps k_t l_t f_t b_t4
        go_wp2_with fail
        go_ret
        rw [HV.out]
        exact ⟨rfl, (BelX.of (HB5.out.mono hb)).trans HS6.out.1, fun he => HS6.out.2.ev rfl rfl⟩
  · have q1 : (o.term.kind == 1) = false := by simpa using h1
    have HV : Hid (valR b o.term (xs.map SV.t) = (0, xs.map SV.t ++ [o.term])) := Lib.hid (by unfold valR; rw [if_neg h1])
    clear h1
    go_wp2_with fail
    generalize hW : World.alloc _ _ = w1
    obtain ⟨hb1, hz⟩ := al2 hW
    have b_t := n22 hW
    have HR1 := Lib.hid (HR.out.1.keep hb1 hB)
    have HB1 := Lib.hid hb1
    clear hW
    refine (cloneTm_any HR1.out (Nat.le_trans hB hb1.size) (by omega)).mono ?_
    rintro e w2 ⟨⟨v, rfl, hv⟩, hb2⟩
    obtain ⟨A2, c2, rfl⟩ := hv.form
    have HO : Hid (TmOwn D w1.heap.size w2 o.term A2 c2) := Lib.hid ⟨hv.leaves HR.out.2.1, HR.out.2.2.1, HR.out.2.2.2.1, HR.out.2.2.2.2, by omega⟩
    have b_t2 := b_t.later hb2
    have HB2 := Lib.hid (bthen HB1.out hb2)
    have k_t := b_t2.cell
    have l_t := b_t2.lt
    have f_t := b_t2.free
    clear hv hb2 b_t
    go_wp2_with fail
    have HB3 : Hid (Below w.heap.size w (w2.setCell ⟨w.heap.size + 1, 3, none⟩ (.slice A2 o.term.l.length c2))) := Lib.hid (HB2.out.setCell (p := ⟨w.heap.size + 1, 3, none⟩) (by show w.heap.size ≤ w.heap.size + 1; omega) _)
    have HO3 := Lib.hid (HO.out.far (g := w.heap.size + 1) (i := 3) (by omega) (.slice A2 o.term.l.length c2))
    have HS3 := Lib.hid (HS.out.later HB3.out)
    generalize (w2.setCell ⟨w.heap.size + 1, 3, none⟩ (.slice A2 o.term.l.length c2)) = w3 at *
    have hsz3 := HB3.out.size
    refine (spush_any (x := ⟨o.term, A2, c2⟩) HS3.out HO3.out.at_ (apart_of HS.out (fun a ha => (HO3.out.blk a ha).1) (by omega)) (fun a ha => ⟨by have := (HO3.out.blk a ha).1; omega, (HO3.out.blk a ha).2⟩) (by omega) (by omega)).mono ?_
    rintro e w4 ⟨rfl, hb4, hps⟩
    have HS4 := Lib.hid (And.intro hb4 hps)
    clear hb4 hps k_t l_t f_t b_t2
    go_wp2_with fail
    go_ret
    rw [HV.out]
    exact ⟨rfl, (BelX.of (HB3.out.mono hb)).trans HS4.out.1, fun he => HS4.out.2.ev rfl rfl⟩
end Go.Proofs.YtiplipdigabidaaGreat
