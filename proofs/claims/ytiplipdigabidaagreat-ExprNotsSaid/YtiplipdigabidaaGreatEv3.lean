/- expr.stack's unary, binary, decides. -/
import Derived.Test.YtiplipdigabidaaGreatPush
import Derived.Test.YtiplipdigabidaaGreatBin2
import Derived.Deep.RegionWith
import Derived.Deep.Cut

set_option linter.unusedVariables false
set_option linter.unusedSimpArgs false
namespace Go.Proofs.YtiplipdigabidaaGreat
open Go.ChangeShapes Go.WideShapes Go.ChangeAt Go.RowKit

/-- The stack holds these terms. -/
def EvS (S base D : Nat) (bn bt : Value) (w : World) (ts : List Tm) (next : Int) : Prop := ∃ xs A c, xs.map SV.t = ts ∧ StkE S base D bn bt w xs next A c
/-- What an operation leaves. -/
def EvE (S base D : Nat) (bn bt : Value) (w w' : World) (e : Int) (ts : List Tm) (next : Int) (z : Ending) : Prop :=
  z = .returned (.int .i64 e) ∧ BelX base S w w' ∧ (e = 0 → EvS S base D bn bt w' ts next)
theorem EvS.later {S base D : Nat} {bn bt : Value} {w w' : World} {ts : List Tm} {next : Int} (h : EvS S base D bn bt w ts next) (hb : Below w.heap.size w w') : EvS S base D bn bt w' ts next := by
  obtain ⟨xs, A, c, h1, h2⟩ := h
  exact ⟨xs, A, c, h1, h2.later hb⟩
theorem PushS.ev {S base D : Nat} {bn bt : Value} {w : World} {xs : List SV} {x : SV} {next e : Int} {ts : List Tm} (h : PushS S base D bn bt w xs x next e) (ht : xs.map SV.t = ts) (he : e = 0) : EvS S base D bn bt w (ts ++ [x.t]) next := by
  rcases h with ⟨_, A, c, h⟩ | ⟨h, _⟩
  · exact ⟨xs ++ [x], A, c, by rw [List.map_append, ht]; rfl, h⟩
  · exact absurd he h
theorem apart_of {S base D c : Nat} {bn bt : Value} {w : World} {xs : List SV} {next : Int} {A : Option Addr} (h : StkE S base D bn bt w xs next A c) {x : SV} {n : Nat} (hx : ∀ a, x.a = some a → n ≤ a.block) (hn : w.heap.size ≤ n) : Apart S A x := by
  intro a ha
  have h1 := hx a ha
  have h2 := h.hd.blk.lt
  refine ⟨by omega, fun b hb => ?_⟩
  subst hb
  obtain ⟨cells, how, _⟩ := h.own
  have := (how.lt b.block rfl).2
  omega

set_option maxRecDepth 100000 in
set_option maxHeartbeats 2000000 in
theorem eunary_any {S base D B d c : Nat} {bn bt : Value} {w : World} {xs : List SV} {x : SV} {next : Int} {A : Option Addr} {o : OpD} {ovs : List Value} (h : StkE S base D bn bt w (xs ++ [x]) next A c) (ho : (OpR d).rd w B o ovs) (hb : base ≤ w.heap.size) (hn : xs.length ≤ 100000) :
    Calls Tryz.prog 35 #[.pointer (some ⟨S, 0, none⟩), .agg ovs.toArray] w fun e w' => EvE S base D bn bt w w' (unR o.code x.t).2 (xs.map SV.t ++ [(unR o.code x.t).1]) next e := by
  obtain ⟨ts, rfl, _, _, _, ht⟩ := ho
  obtain ⟨At, ct, rfl, _⟩ := RTm.cells ht
  have hSlt := h.hd.blk.lt
  have HS := Lib.hid h
  clear h ht
  go_enter Tryz.func35, Tryz.ntmps35
  go_wp2_with fail
  generalize hW : World.alloc _ _ = w1
  obtain ⟨hb1, hz⟩ := al1 hW
  have b_o := n11 hW
  have HS1 := Lib.hid (HS.out.later (hb1.drew))
  have HB1 := Lib.hid hb1
  have BO := Lib.hid b_o
  have k_o := b_o.cell
  clear hW hb1 b_o
  go_region_with (first
    | (go_at_call 38
       refine (pop_any HS1.out hn).mono ?_
       rintro e w2 ⟨rfl, he, hs, htm, hap, hlt⟩
       have k_o2 := (he.blk (by omega) BO.out.drew).cell
       have HS2 := Lib.hid (And.intro hs (And.intro htm he))
       clear he hs htm hap hlt)
    | (go_at_call 66
       refine (unary_any (code := o.code) (a := x.t) (d := D) (vs := [_, _, _, _]) HS2.out.2.1.1 (Nat.le_refl _)).mono ?_
       rintro e w3 ⟨⟨A3, c3, rfl, hown⟩, hb3⟩
       have HS3 := Lib.hid (And.intro (HS2.out.1.later hb3) (And.intro hown hb3))
       clear hown hb3)
    | (go_at_call 65
       have hsz1 := HS2.out.2.2.1.size
       have hsz2 := HS3.out.2.2.size
       have hszd : w1.drew.heap.size = w1.heap.size := rfl
       refine (spush_any (x := ⟨(unR o.code x.t).1, A3, c3⟩) HS3.out.1 HS3.out.2.1.at_ (apart_of HS2.out.1 (fun a ha => (HS3.out.2.1.blk a ha).1) (Nat.le_refl _)) (fun a ha => ⟨by have := (HS3.out.2.1.blk a ha).1; omega, (HS3.out.2.1.blk a ha).2⟩) (by omega) hn).mono ?_
       rintro e w4 ⟨rfl, hb4, hps⟩
       have HS4 := Lib.hid (And.intro hb4 hps)
       clear hb4 hps))
  all_goals
    go_wp2_with fail
    go_ret
    refine ⟨rfl, ?_, fun he => HS4.out.2.ev rfl he⟩
    exact (((BelX.of (HB1.out.mono hb).drew).trans (.exc HS2.out.2.2 (Nat.le_trans hb HB1.out.size))).trans (.of (HS3.out.2.2.mono (by omega)))).trans HS4.out.1
end Go.Proofs.YtiplipdigabidaaGreat

/- expr.stack's binary. -/
set_option linter.unusedVariables false
set_option linter.unusedSimpArgs false
namespace Go.Proofs.YtiplipdigabidaaGreat
open Go.ChangeShapes Go.WideShapes Go.ChangeAt Go.RowKit

theorem TmAt.exc {D S : Nat} {w w' : World} {x : SV} {A : Option Addr} (h : TmAt D w x) (he : Exc S w w') (ha : Apart S A x) (hlt : ∀ a, x.a = some a → a.block < w.heap.size) : TmAt D w' x :=
  h.keep (he.1.mono (Nat.zero_le _)) fun a e => he.2 a.block (hlt a e) (ha a e).1

set_option maxRecDepth 100000 in
set_option maxHeartbeats 4000000 in
theorem ebinary_any {S base D B d c : Nat} {bn bt : Value} {w : World} {xs : List SV} {xa xb : SV} {next : Int} {A : Option Addr} {o : OpD} {ovs : List Value} {m : Int} (h : StkE S base D bn bt w (xs ++ [xa] ++ [xb]) next A c) (ho : (OpR d).rd w B o ovs) (hb : base ≤ w.heap.size) (hS0 : 0 < S) (hn : xs.length ≤ 90000) (hm : w.cell? ⟨0, 0, none⟩ = some (.int .i64 m)) (h0 : 0 < base) :
    Calls Tryz.prog 36 #[.pointer (some ⟨S, 0, none⟩), .agg ovs.toArray] w fun e w' => EvE S base D bn bt w w' (binR o.code xa.t xb.t).2 (xs.map SV.t ++ [(binR o.code xa.t xb.t).1]) next e := by
  obtain ⟨ts, rfl, _, _, _, ht⟩ := ho
  obtain ⟨At, ct, rfl, _⟩ := RTm.cells ht
  have hSlt := h.hd.blk.lt
  have HS := Lib.hid h
  have HM := Lib.hid hm
  clear h ht hm
  go_enter Tryz.func36, Tryz.ntmps36
  go_wp2_with fail
  generalize hW : World.alloc _ _ = w1
  obtain ⟨hb1, hz⟩ := al1 hW
  have BO := Lib.hid (n11 hW)
  have HS1 := Lib.hid (HS.out.later hb1)
  have HB1 := Lib.hid hb1
  clear hW hb1
  refine (pop_any HS1.out (by simp; omega)).mono ?_
  rintro e w2 ⟨rfl, he, hs, htm, hap, hlt⟩
  have BO2 := Lib.hid (he.blk (by omega) BO.out)
  have HS2 := Lib.hid hs
  have HX2 := Lib.hid (And.intro htm (And.intro hap (And.intro hlt he)))
  have hsz2 := he.1.size
  clear he hs htm hap hlt
  unfold SV.cs
  go_wp2_with fail
  generalize hW : World.alloc _ _ = w3
  obtain ⟨hb3, hz3⟩ := al1 hW
  have BB := Lib.hid (n11 hW)
  have BO3 := Lib.hid (BO2.out.later hb3)
  have HS3 := Lib.hid (HS2.out.later hb3.drew)
  have HB3 := Lib.hid hb3
  have HX3 := Lib.hid (HX2.out.1.later hb3.drew)
  have k_o := BO3.out.cell
  have k_b := BB.out.cell
  clear hW hb3
  go_region_with (first
    | (go_at_call 38
       refine (pop_any HS3.out (by omega)).mono ?_
       rintro e w4 ⟨rfl, he, hs, htm, hap, hlt⟩
       have k_o2 := (he.blk (by omega) BO3.out.drew).cell
       have k_b2 := (he.blk (by omega) BB.out.drew).cell
       have hxb := HX3.out.exc he HX2.out.2.1 (fun a ha => Nat.lt_of_lt_of_le (HX2.out.2.2.1 a ha).2 (by show w1.heap.size ≤ w3.heap.size; omega))
       have HS4 := Lib.hid (And.intro hs (And.intro htm (And.intro hxb he)))
       clear he hs htm hap hlt hxb)
    | (go_at_call 67
       have hb4 : BelX base S w w4 := ((((BelX.of (HB1.out.mono hb)).trans (.exc HX2.out.2.2.2 (by omega))).trans (.of (HB3.out.mono (by omega)))).drew).trans (.exc HS4.out.2.2.2 (show base ≤ w3.heap.size by omega))
       have hsz4 := hb4.size
       refine (binary_any (code := o.code) (a := xa.t) (b := xb.t) (d := D) (vs := [_, _, _, _]) (ws := [_, _, _, _]) HS4.out.2.1.1 HS4.out.2.2.1.1 (Nat.le_refl _) ((((hb4.mono (show 1 ≤ base from h0)).low hS0).cell (p := ⟨0, 0, none⟩) (Nat.lt_succ_self 0)).trans HM.out) (by omega)).mono ?_
       rintro e w5 ⟨⟨A3, c3, rfl, hown⟩, hb5⟩
       have HS5 := Lib.hid (And.intro (HS4.out.1.later hb5) (And.intro hown (And.intro hb5 hb4)))
       clear hown hb5 hb4)
    | (go_at_call 65
       have hsz5 := HS5.out.2.2.1.size
       have hsz4b := HS5.out.2.2.2.size
       refine (spush_any (x := ⟨(binR o.code xa.t xb.t).1, A3, c3⟩) HS5.out.1 HS5.out.2.1.at_ (apart_of HS4.out.1 (fun a ha => (HS5.out.2.1.blk a ha).1) (Nat.le_refl _)) (fun a ha => ⟨by have := (HS5.out.2.1.blk a ha).1; omega, (HS5.out.2.1.blk a ha).2⟩) (by omega) (by omega)).mono ?_
       rintro e w6 ⟨rfl, hb6, hps⟩
       have HS6 := Lib.hid (And.intro hb6 hps)
       clear hb6 hps))
  all_goals
    go_wp2_with fail
    go_ret
    refine ⟨rfl, ?_, fun he => HS6.out.2.ev rfl he⟩
    exact (HS5.out.2.2.2.trans (.of (HS5.out.2.2.1.mono (Nat.le_trans hb HS5.out.2.2.2.size)))).trans HS6.out.1
end Go.Proofs.YtiplipdigabidaaGreat

/- expr.stack's decides. -/
set_option linter.unusedVariables false
set_option linter.unusedSimpArgs false
namespace Go.Proofs.YtiplipdigabidaaGreat
open Go.ChangeShapes Go.WideShapes Go.ChangeAt Go.RowKit

/-- What an operation that may leave its right side out tells: the error, the terms, how far. -/
def decR (o : OpD) (t : Tm) (ts : List Tm) (next : Int) : Int × List Tm × Int :=
  if t.kind ≠ 6 then (7, ts, next)
  else if (decide (t.n = 1) == decide (o.kind = 5)) = true then (0, ts ++ [t], wrap64 (next + o.skip))
  else (0, ts, next)

set_option maxRecDepth 100000 in
set_option maxHeartbeats 4000000 in
theorem edecides_any {S base D B d c : Nat} {bn bt : Value} {w : World} {xs : List SV} {x : SV} {next : Int} {A : Option Addr} {o : OpD} {ovs : List Value} (h : StkE S base D bn bt w (xs ++ [x]) next A c) (ho : (OpR d).rd w B o ovs) (hb : base ≤ w.heap.size) (hn : xs.length ≤ 90000) :
    Calls Tryz.prog 37 #[.pointer (some ⟨S, 0, none⟩), .agg ovs.toArray] w fun e w' => EvE S base D bn bt w w' (decR o x.t (xs.map SV.t) next).1 (decR o x.t (xs.map SV.t) next).2.1 (decR o x.t (xs.map SV.t) next).2.2 e := by
  obtain ⟨ts, rfl, _, _, _, ht⟩ := ho
  obtain ⟨At, ct, rfl, _⟩ := RTm.cells ht
  have hSlt := h.hd.blk.lt
  have HS := Lib.hid h
  clear h ht
  go_enter Tryz.func37, Tryz.ntmps37
  go_wp2_with fail
  generalize hW : World.alloc _ _ = w1
  obtain ⟨hb1, hz⟩ := al1 hW
  have BO := Lib.hid (n11 hW)
  have HS1 := Lib.hid (HS.out.later hb1)
  have HB1 := Lib.hid hb1
  clear hW hb1
  refine (pop_any HS1.out (by omega)).mono ?_
  rintro e w2 ⟨rfl, he, hs, htm, hap, hlt⟩
  have BO2 := Lib.hid (he.blk (by omega) BO.out)
  have HS2 := Lib.hid hs
  have HX2 := Lib.hid (And.intro htm (And.intro hap (And.intro hlt he)))
  have hsz2 := he.1.size
  clear he hs htm hap hlt
  unfold SV.cs
  go_upto_region 2 with fail
  generalize hW : World.alloc _ _ = w3
  obtain ⟨hb3, hz3⟩ := al1 hW
  have BB := Lib.hid (n11 hW)
  have BO3 := Lib.hid (BO2.out.later hb3)
  have HS3 := Lib.hid (HS2.out.later hb3)
  have HX3 := Lib.hid (HX2.out.1.later hb3)
  have HBw : Hid (BelX base S w w3) := Lib.hid (((BelX.of (HB1.out.mono hb)).trans (.exc HX2.out.2.2.2 (by omega))).trans (.of (hb3.mono (by omega))))
  have HLT : Hid (∀ a, x.a = some a → base ≤ a.block ∧ a.block < w3.heap.size) := Lib.hid fun a ha => by have := HX2.out.2.2.1 a ha; omega
  have k_b := BB.out.cell
  have k_o := BO3.out.cell
  clear hW hb3
  by_cases h6 : x.t.kind = 6
  · have q6 : (x.t.kind != 6) = false := by rw [h6]; rfl
    by_cases hq : (decide (x.t.n = 1) == decide (o.kind = 5)) = true
    · have HR : Hid (decR o x.t (xs.map SV.t) next = (0, xs.map SV.t ++ [x.t], wrap64 (next + o.skip))) := Lib.hid (by unfold decR; rw [if_neg (by simp [h6]), if_pos hq])
      have hq2 : ((x.t.n == 1) == (o.kind == 5)) = true := hq
      clear hq h6
      have k_s := HS3.out.hd.blk.cell
      have f_s := HS3.out.hd.blk.free
      have hS3 : S < w3.heap.size := by omega
      go_wp2_with fail
      go_region
      have HB4 : Hid (BelX base S w (w3.setCell ⟨S, 3, none⟩ (.int .i64 (wrap64 (next + o.skip)))).drew) := Lib.hid (HBw.out.setS 3 _).drew
      have HS4 : Hid (StkE S base D bn bt (w3.setCell ⟨S, 3, none⟩ (.int .i64 (wrap64 (next + o.skip)))).drew xs (wrap64 (next + o.skip)) A c) := Lib.hid ((HS3.out.head _).later (Below.refl _ _).drew)
      have HE4 : Hid (Exc S w3 (w3.setCell ⟨S, 3, none⟩ (.int .i64 (wrap64 (next + o.skip)))).drew) := Lib.hid ((Exc.refl S w3).set 3 _).drew
      have BB4 := Lib.hid (HE4.out.blk (by omega) BB.out)
      generalize (w3.setCell ⟨S, 3, none⟩ (.int .i64 (wrap64 (next + o.skip)))).drew = w4 at *
      clear k_b k_o k_s f_s
      have k_b := BB4.out.cell
      have hsz4 := HE4.out.1.size
      go_wp2_with fail
      refine (spush_any (x := x) HS4.out (HX3.out.exc HE4.out HX2.out.2.1 fun a ha => (HLT.out a ha).2) HX2.out.2.1 (fun a ha => ⟨(HLT.out a ha).1, Nat.lt_of_lt_of_le (HLT.out a ha).2 hsz4⟩) (by omega) (by omega)).mono ?_
      rintro e w5 ⟨rfl, hb5, hps⟩
      have HS5 := Lib.hid (And.intro hb5 hps)
      clear hb5 hps
      go_wp2_with fail
      go_ret
      rw [HR.out]
      exact ⟨rfl, HB4.out.trans HS5.out.1, fun he => HS5.out.2.ev rfl rfl⟩
    · have HR : Hid (decR o x.t (xs.map SV.t) next = (0, xs.map SV.t, next)) := Lib.hid (by unfold decR; rw [if_neg (by simp [h6]), if_neg hq])
      have hq2 : ((x.t.n == 1) == (o.kind == 5)) = false := by rw [Bool.eq_false_iff]; exact hq
      clear hq h6
      go_wp2_with fail
      go_ret
      rw [HR.out]
      exact ⟨rfl, HBw.out, fun _ => ⟨xs, A, c, rfl, HS3.out⟩⟩
  · have q6 : (x.t.kind != 6) = true := by simpa using h6
    have HR : Hid (decR o x.t (xs.map SV.t) next = (7, xs.map SV.t, next)) := Lib.hid (by unfold decR; rw [if_pos h6])
    clear h6
    go_wp2_with fail
    go_ret
    rw [HR.out]
    exact ⟨rfl, HBw.out, fun h => absurd (show (7 : Int) = 0 from h) (by decide)⟩
end Go.Proofs.YtiplipdigabidaaGreat

