/- expr.stack's value. -/
import Derived.Test.YtiplipdigabidaaGreatUniq
import Derived.Test.YtiplipdigabidaaGreatRegSpec
import Derived.Test.YtiplipdigabidaaGreatFixP
import Derived.Test.YtiplipdigabidaaGreatSet2
import Derived.Test.YtiplipdigabidaaGreatOp5
set_option linter.unusedVariables false
set_option linter.unusedSimpArgs false
namespace Go.Proofs.YtiplipdigabidaaGreat
open Go.ChangeShapes Go.WideShapes Go.ChangeAt Go.RowKit
set_option maxHeartbeats 400000 in
theorem lessStr_any (x y : ByteArray) (w : World) :
   Calls Tryz.prog 107 #[.string x, .string y] w fun e w' => e = .returned (.bool (decide (bs x < bs y))) ∧ w = w' := by
 go_enter Tryz.func107, Tryz.ntmps107
 go_wp2
 all_goals go_ret
 all_goals refine ⟨ret_bool ?_, rfl⟩
 all_goals
   rw [bytesLess_eq, ByteArray.toList_eq, ByteArray.toList_eq]
set_option maxHeartbeats 400000 in
theorem isNaNStr_any (x : ByteArray) (w : World) : Calls Tryz.prog 112 #[.string x] w fun e w' => e = .returned (.bool false) ∧ w = w' := by
 go_enter Tryz.func112, Tryz.ntmps112
 go_wp2
 all_goals go_ret
 all_goals exact ⟨ret_bool (by simp), rfl⟩
def posL (L : List Bytes) (t : Bytes) : Nat := L.findIdx (fun x => !decide (x < t))
theorem strs_at {L : List Bytes} {A : Option Addr} {B : Nat} {w wr : World} (hl : RL StrR w B (L.map mkS) A) (hbw : Below w.heap.size w wr) (hB : B ≤ w.heap.size) (h0 : 0 < L.length) :
   ∃ b off, A = some ⟨b, off, none⟩ ∧ b < wr.heap.size ∧ ∀ m (hm : m < L.length), wr.cell? ⟨b, off + m, none⟩ = some (.string (mkS L[m])) := by
 obtain ⟨b, off, rfl, hb⟩ := hl.base hbw hB (by simpa using h0)
 refine ⟨b, off, rfl, hb, fun m hm => ?_⟩
 obtain ⟨x, vs, hx, hlen, hcell, hr⟩ := hl.at_ hbw hB (k := m) (by simpa using hm)
 obtain ⟨rfl, _⟩ := hr
 have := hcell 0 _ rfl
 have e : x = mkS L[m] := by simpa [hm, eq_comm] using hx
 rw [← e]
 simpa [StrR] using this
theorem posL_eq {L : List Bytes} {t : Bytes} {i : Nat} (h : i ≤ L.length) (h1 : ∀ k (hk : k < L.length), k < i → L[k] < t) (h2 : ∀ k (hk : k < L.length), i ≤ k → ¬ L[k] < t) : posL L t = i := by
 unfold posL
 rcases Nat.lt_or_ge i L.length with hlt | hge
 · refine (List.findIdx_eq hlt).2 ⟨by simpa using h2 i hlt (Nat.le_refl _), fun j hj => ?_⟩
   simpa using h1 j (by omega) hj
 · obtain rfl : i = L.length := by omega
   refine List.findIdx_eq_length.2 fun x hx => ?_
   obtain ⟨k, hk, rfl⟩ := List.getElem_of_mem hx
   simpa using h1 k hk hk
theorem mem_at {L : List Bytes} {t : Bytes} {i : Nat} (hi : i < L.length) (h1 : ∀ k (hk : k < L.length), k < i → L[k] < t) (hs : L.Pairwise (· < ·)) (h2 : ¬ L[i] < t) : t ∈ L ↔ L[i] = t := by
 constructor
 · intro h
   obtain ⟨k, hk, rfl⟩ := List.getElem_of_mem h
   rcases Nat.lt_trichotomy k i with h | h | h
   · exact absurd (h1 k hk h) (List.lt_irrefl _)
   · subst h; rfl
   · exact absurd (List.pairwise_iff_getElem.1 hs i k hi hk h) h2
 · intro h; rw [← h]; exact List.getElem_mem hi
set_option maxRecDepth 100000 in
set_option maxHeartbeats 1000000 in
theorem bsearch_any (L : List Bytes) (A : Option Addr) (c B : Nat) (t : ByteArray) (w : World) (hl : RL StrR w B (L.map mkS) A) (hB : B ≤ w.heap.size) (hn : L.length ≤ 1000000) (hs : L.Pairwise (· < ·)) :
   Calls Tryz.prog 78 #[.slice A L.length c, .string t] w fun e w' => e = .returned (.tuple #[.int .i64 (posL L (bs t)), .bool (decide (bs t ∈ L))]) ∧ w = w' := by
 go_enter Tryz.func78, Tryz.ntmps78
 go_wp2_with fail
 go_loop [7, 8] (fun u v => ∃ i j : Nat, i ≤ j ∧ j ≤ L.length ∧ u = .int .i64 i ∧ v = .int .i64 j ∧ (∀ k (hk : k < L.length), k < i → L[k] < bs t) ∧ (∀ k (hk : k < L.length), j ≤ k → ¬ L[k] < bs t)) (fun u v => (intOf v).toNat - (intOf u).toNat)
 case atStart => exact ⟨0, L.length, Nat.zero_le _, Nat.le_refl _, rfl, rfl, fun k hk h => absurd h (by omega), fun k hk h => absurd h (by omega)⟩
 case round =>
   obtain ⟨i, j, hij, hj, rfl, rfl, hlo, hhi⟩ := hrel
   have HLO := Lib.hid hlo
   have HHI := Lib.hid hhi
   have HL := Lib.hid hl
   have HS := Lib.hid hs
   clear hlo hhi hl hs
   by_cases hlt : i < j
   · obtain ⟨b, off, rfl, hb, hc⟩ := strs_at HL.out (Below.refl _ _) hB (by omega)
     have hcm := hc ((i + j) / 2) (by omega)
     have hm1 : ((i : Int) + j) / 2 < L.length := by omega
     have hm0 : 0 ≤ ((i : Int) + j) / 2 := by omega
     clear hc
     by_cases hless : L[(i + j) / 2]'(by omega) < bs t
     · have HLS := Lib.hid hless
       have hless' : decide (bs (mkS (L[(i + j) / 2]'(by omega))) < bs t) = true := by rw [bs_mkS]; simpa using hless
       clear hless
       go_wp2_with (go_at_call 107; refine (lessStr_any _ _ _).mono ?_; rintro e w' ⟨rfl, rfl⟩)
       go_round
       case rel => exact ⟨(i + j) / 2 + 1, j, by omega, hj, by go_num, rfl, fun k hk h => by
         rcases Nat.lt_or_ge k ((i + j) / 2) with h1 | h1
         · exact List.lt_trans (List.pairwise_iff_getElem.1 HS.out k _ hk (by omega) h1) HLS.out
         · obtain rfl : k = (i + j) / 2 := by omega
           exact HLS.out, HHI.out⟩
       case measure => simp [intOf]; omega
     · have HLS := Lib.hid hless
       have hless' : decide (bs (mkS (L[(i + j) / 2]'(by omega))) < bs t) = false := by rw [bs_mkS]; simpa using hless
       clear hless
       go_wp2_with (go_at_call 107; refine (lessStr_any _ _ _).mono ?_; rintro e w' ⟨rfl, rfl⟩)
       go_round
       case rel => exact ⟨i, (i + j) / 2, by omega, by omega, rfl, by go_num, HLO.out, fun k hk h h2 => by
         rcases Nat.lt_or_ge ((i + j) / 2) k with h1 | h1
         · exact HLS.out (List.lt_trans (List.pairwise_iff_getElem.1 HS.out _ k (by omega) hk h1) h2)
         · obtain rfl : k = (i + j) / 2 := by omega
           exact HLS.out h2⟩
       case measure => simp [intOf]; omega
   · obtain rfl : i = j := by omega
     have HP := Lib.hid (posL_eq hj HLO.out HHI.out)
     by_cases hin : i < L.length
     · obtain ⟨b, off, rfl, hb, hc⟩ := strs_at HL.out (Below.refl _ _) hB (by omega)
       have hcm := hc i hin
       have HM := Lib.hid (mem_at hin HLO.out HS.out (HHI.out i hin (Nat.le_refl _)))
       clear hc
       have hq : ((mkS L[i]).toList == t.toList) = decide (L[i] = bs t) := by rw [same_iff, bs_mkS]
       by_cases he : L[i] = bs t
       · have HE := Lib.hid he
         have hq' : ((mkS L[i]).toList == t.toList) = true := by rw [hq]; simpa using he
         clear hq he
         go_wp2_with fail
         go_ret2
         exact ⟨ret_ib (by rw [HP.out]) (by simpa using (HM.out.2 HE.out)), rfl⟩
       · have HE := Lib.hid he
         have hq' : ((mkS L[i]).toList == t.toList) = false := by rw [hq]; simpa using he
         clear hq he
         go_wp2_with (go_at_call 112; refine (isNaNStr_any _ _).mono ?_; rintro e w' ⟨rfl, rfl⟩)
         go_ret2
         exact ⟨ret_ib (by rw [HP.out]) (by simpa using (fun h => HE.out (HM.out.1 h))), rfl⟩
     · have hi2 : i = L.length := by omega
       subst hi2
       go_wp2_with fail
       go_ret2
       exact ⟨ret_ib (by rw [HP.out]) (by
         have : bs t ∉ L := fun h => by
           obtain ⟨k, hk, e⟩ := List.getElem_of_mem h
           exact absurd (HLO.out k hk hk) (by rw [e]; exact List.lt_irrefl _)
         simpa using this), rfl⟩
open Go.ChangeShapes Go.WideShapes Go.ChangeAt Go.RowKit
structure Bd where
 names : List Bytes
 terms : List Tm
def lookR (b : Bd) (name : Bytes) : Option Tm := if name ∈ b.names then b.terms[posL b.names name]? else none
structure BdOk (b : Bd) : Prop where
 len : b.names.length = b.terms.length
 few : b.names.length ≤ 32
 rise : b.names.Pairwise (· < ·)
 fixed : ∀ t ∈ b.terms, fixedB t = true
def bdV (An : Option Addr) (nn cn : Nat) (At : Option Addr) (nt ct : Nat) : Array Value := #[.slice An nn cn, .slice At nt ct]
theorem fixed_leaves {t : Tm} (h : fixedB t = true) : (∀ u ∈ t.l, Leaf u) ∧ t.l.length ≤ 16 := by
 have := fixed_parts h
 by_cases h7 : t.kind = 7
 · rw [if_pos h7] at this
   exact ⟨(rising_parts this.2.2).2, (rising_parts this.2.2).1⟩
 · rw [if_neg h7] at this
   rw [this]; exact ⟨fun u hu => (List.not_mem_nil hu).elim, by simp⟩
def FoundE (d : Nat) (w w' : World) (r : Option Tm) (z : Ending) : Prop :=
 (∃ A c, z = .returned (.tuple #[.agg #[.int .i64 (r.getD noT).kind, .int .i64 (r.getD noT).n, .string (r.getD noT).s, .slice A (r.getD noT).l.length c], .bool r.isSome]) ∧ TmOwn d w.heap.size w' (r.getD noT) A c) ∧ Below w.heap.size w w'
theorem posL_lt {L : List Bytes} {t : Bytes} (h : t ∈ L) : posL L t < L.length := by
 unfold posL
 rw [List.findIdx_lt_length]
 exact ⟨t, h, by simp [List.lt_irrefl]⟩
set_option maxRecDepth 100000 in
set_option maxHeartbeats 2000000 in
theorem found_any {d B cn ct : Nat} {b : Bd} {An At : Option Addr} {name : ByteArray} {w : World} (hok : BdOk b) (hn : RL StrR w B (b.names.map mkS) An) (ht : RL (TmR (d + 1)) w B b.terms At) (hB : B ≤ w.heap.size) :
   Calls Tryz.prog 51 #[.agg (bdV An b.names.length cn At b.terms.length ct), .string name] w fun e w' => FoundE d w w' (lookR b (bs name)) e := by
 have HOK := Lib.hid hok
 have HN := Lib.hid hn
 have HT := Lib.hid ht
 have hf := hok.few
 have hlen := hok.len
 have HLN := Lib.hid hlen
 clear hok hn ht hlen
 unfold bdV
 go_enter Tryz.func51, Tryz.ntmps51
 go_wp2_with fail
 generalize hW : World.alloc _ _ = w1
 obtain ⟨hb1, hz⟩ := al2 hW
 have b_b := n21 hW
 have b_r := n22 hW
 have HB1 := Lib.hid hb1
 clear hW hb1
 refine (bsearch_any b.names An cn B name w1 (HN.out.keep HB1.out hB) (Nat.le_trans hB HB1.out.size) (by omega) HOK.out.rise).mono ?_
 rintro e w2 ⟨rfl, rfl⟩
 have BB := Lib.hid b_b
 have BR := Lib.hid b_r
 by_cases hm : bs name ∈ b.names
 · have hp := posL_lt hm
   have hp2 : posL b.names (bs name) < b.terms.length := by rw [← HLN.out]; exact hp
   have HR : Hid (lookR b (bs name) = some (b.terms[posL b.names (bs name)])) := Lib.hid (by unfold lookR; rw [if_pos hm, List.getElem?_eq_getElem hp2])
   have hd : decide (bs name ∈ b.names) = true := by simpa using hm
   rw [hd]
   have hB1 := Nat.le_trans hB HB1.out.size
   have HT1 := Lib.hid (HT.out.keep HB1.out hB)
   obtain ⟨b_, off, rfl, hob⟩ := HT1.out.base (Below.refl _ _) hB1 (by omega)
   obtain ⟨x, vs, hx, hlen, hcell, hr⟩ := HT1.out.at_ (Below.refl _ _) hB1 hp2
   obtain ⟨Ax, cx, rfl, g1, g2, g3, g4, g5, _⟩ := RTm.cells (show RTm w1 B (d + 1) x vs from hr)
   have c0 : w1.cell? ⟨b_, off + posL b.names (bs name) * 4, none⟩ = some (.int .i64 x.kind) := hcell 0 _ rfl
   have c1 : w1.cell? ⟨b_, off + posL b.names (bs name) * 4 + 1, none⟩ = some (.int .i64 x.n) := hcell 1 _ rfl
   have c2 : w1.cell? ⟨b_, off + posL b.names (bs name) * 4 + 2, none⟩ = some (.string x.s) := hcell 2 _ rfl
   have c3 : w1.cell? ⟨b_, off + posL b.names (bs name) * 4 + 3, none⟩ = some (.slice Ax x.l.length cx) := hcell 3 _ rfl
   have hex : b.terms[posL b.names (bs name)] = x := by
     rw [List.getElem?_eq_getElem hp2] at hx
     simpa using hx
   rw [hex] at HR
   have HF : Hid (fixedB x = true) := Lib.hid (HOK.out.fixed x (List.mem_of_getElem? hx))
   have HXR : Hid (RL (TmR d) w1 B x.l Ax) := Lib.hid (RTms.rl ‹RTms w1 B (d + 1 - 1) x.l Ax›)
   have HI : Hid (I64 x.kind ∧ I64 x.n ∧ x.s.size ≤ 140737488351232) := Lib.hid ⟨‹_›, ‹_›, ‹_›⟩
   have k_b := b_b.cell
   have l_b := b_b.lt
   have l_r := b_r.lt
   clear hcell hlen hx hr hex hm hd
   generalize posL b.names (bs name) = p at *
   go_wp2_with fail
   generalize hW : World.alloc _ _ = w2
   obtain ⟨hb2, hz2⟩ := al1 hW
   have b_x := n11 hW
   rw [hz] at b_x
   have b_r2 := b_r.later hb2
   have HB2 := Lib.hid (bthen HB1.out hb2)
   have HX2 := Lib.hid (HXR.out.keep hb2 hB1)
   clear hW
   obtain ⟨hle, hl16⟩ := fixed_leaves HF.out
   have HLE := Lib.hid hle
   clear hle
   refine (cloneTm_any HX2.out (Nat.le_trans hB1 hb2.size) (by omega)).mono ?_
   rintro e w3 ⟨⟨v, rfl, hv⟩, hb⟩
   obtain ⟨A3, cc, rfl⟩ := hv.form
   have HV := Lib.hid (hv.leaves HLE.out)
   have HB3 := Lib.hid (bthen HB2.out hb)
   have b_r3 := b_r2.later hb
   have b_x3 := b_x.later hb
   clear hv hb
   have k_x := b_x3.cell
   have l_x := b_x3.lt
   have f_x := b_x3.free
   have k_r := b_r3.cell
   have f_r := b_r3.free
   have l_r3 := b_r3.lt
   clear k_b l_b l_r c0 c1 c2 c3
   go_wp2_with fail
   have hbase : w2.heap.size = w.heap.size + 1 + 1 + 1 := by omega
   have HO : TmOwn d w2.heap.size w3 x A3 cc := ⟨HV.out, HI.out.1, HI.out.2.1, HI.out.2.2, by omega⟩
   have HO4 := (HO.far (g := w.heap.size + 1 + 1) (i := 3) (by omega) (.slice A3 x.l.length cc)).put4 (g := w.heap.size + 1) (by omega) (.int .i64 x.kind) (.int .i64 x.n) (.string x.s) (.slice A3 x.l.length cc)
   have b_r4 := b_r3.far (c := w.heap.size + 1 + 1) (by omega) 3 (.slice A3 x.l.length cc)
   refine bodyPost_ret (ret_tm2 rfl rfl (put4b b_r4 (.int .i64 x.kind) (.int .i64 x.n) (.string x.s) (.slice A3 x.l.length cc)) rfl) rfl ?_
   rw [HR.out]
   exact ⟨⟨A3, cc, rfl, HO4.lower (by omega)⟩, put4u (HB3.out.setCell (p := ⟨w.heap.size + 1 + 1, 3, none⟩) (by show w.heap.size ≤ w.heap.size + 1 + 1; omega) _) (by omega) _ _ _ _⟩
 · have HR : Hid (lookR b (bs name) = none) := Lib.hid (by unfold lookR; rw [if_neg hm])
   have hd : decide (bs name ∈ b.names) = false := by simpa using hm
   rw [hd]
   clear hm hd
   have k_r := b_r.cell
   have f_r := b_r.free
   go_wp2_with fail
   refine bodyPost_ret (ret_tm2 rfl rfl (put4b BR.out (.int .i64 0) (.int .i64 0) (.string ⟨#[]⟩) (.slice none 0 0)) rfl) rfl ?_
   rw [HR.out]
   exact ⟨⟨none, 0, rfl, TmOwn.no⟩, put4u HB1.out (by omega) _ _ _ _⟩
open Go.ChangeShapes Go.WideShapes Go.ChangeAt Go.RowKit
def valR (b : Bd) (t : Tm) (ts : List Tm) : Int × List Tm :=
 if t.kind = 1 then
   match lookR b (bs t.s) with
   | none => (8, ts)
   | some u => (0, ts ++ [u])
 else (0, ts ++ [t])
theorem lookR_mem {b : Bd} {n : Bytes} {u : Tm} (h : lookR b n = some u) : u ∈ b.terms := by
 unfold lookR at h
 split at h
 · exact List.mem_of_getElem? h
 · cases h
theorem FoundE.no {d : Nat} {w w' : World} {z : Ending} (h : FoundE d w w' none z) : (∃ A c, z = .returned (.tuple #[.agg #[.int .i64 0, .int .i64 0, .string ⟨#[]⟩, .slice A 0 c], .bool false])) ∧ Below w.heap.size w w' := by
 obtain ⟨⟨A, c, e, _⟩, hb⟩ := h
 exact ⟨⟨A, c, e⟩, hb⟩
theorem FoundE.yes {d : Nat} {w w' : World} {u : Tm} {z : Ending} (h : FoundE d w w' (some u) z) : (∃ A c, z = .returned (.tuple #[.agg #[.int .i64 u.kind, .int .i64 u.n, .string u.s, .slice A u.l.length c], .bool true]) ∧ TmOwn d w.heap.size w' u A c) ∧ Below w.heap.size w w' := h
set_option maxRecDepth 100000 in
set_option maxHeartbeats 4000000 in
theorem evalue_any {S base D B c cn ct : Nat} {b : Bd} {An At : Option Addr} {w : World} {xs : List SV} {next : Int} {A : Option Addr} {o : OpD} {ovs : List Value} (hok : BdOk b) (hbn : RL StrR w B (b.names.map mkS) An) (hbt : RL (TmR (D + 1)) w B b.terms At)
   (h : StkE S base D (.slice An b.names.length cn) (.slice At b.terms.length ct) w xs next A c) (ho : (OpR (D + 1)).rd w B o ovs) (hol : ∀ u ∈ o.term.l, Leaf u) (ho16 : o.term.l.length ≤ 16) (hB : B ≤ w.heap.size) (hb : base ≤ w.heap.size) (hn : xs.length ≤ 90000) :
   Calls Tryz.prog 34 #[.pointer (some ⟨S, 0, none⟩), .agg ovs.toArray] w fun e w' => EvE S base D (.slice An b.names.length cn) (.slice At b.terms.length ct) w w' (valR b o.term (xs.map SV.t)).1 (valR b o.term (xs.map SV.t)).2 next e := by
 obtain ⟨ts, rfl, _, _, _, ht⟩ := ho
 obtain ⟨Ao, co, rfl, _, _, hs, hk, hi, hr⟩ := RTm.cells ht
 have hSlt := h.hd.blk.lt
 have HS := Lib.hid h
 have HOK := Lib.hid hok
 have HN := Lib.hid hbn
 have HT := Lib.hid hbt
 have HR := Lib.hid (And.intro (RTms.rl hr) (And.intro hol (And.intro hk (And.intro hi hs))))
 clear h ht hr hol hok hbn hbt
 go_enter Tryz.func34, Tryz.ntmps34
 by_cases h1 : o.term.kind = 1
 · have q1 : (o.term.kind == 1) = true := by rw [h1]; rfl
   go_upto_region 4 with fail
   generalize hW : World.alloc _ _ = w1
   obtain ⟨hb1, hz⟩ := al2 hW
   have b_t := n22 hW
   have BT := Lib.hid b_t
   have HB1 := Lib.hid hb1
   have HS1 := Lib.hid (HS.out.later hb1)
   have HN1 := Lib.hid (HN.out.keep hb1.drew hB)
   have HT1 := Lib.hid (HT.out.keep hb1.drew hB)
   have hB1 : B ≤ w1.drew.heap.size := Nat.le_trans hB hb1.size
   have k_t := b_t.cell
   have l_t := b_t.lt
   have f_t := b_t.free
   have k_s := HS1.out.hd.blk.cell
   have l_s := HS1.out.hd.blk.lt
   clear hW hb1 b_t
   rcases hL : lookR b (bs o.term.s) with _ | u
   · have HV : Hid (valR b o.term (xs.map SV.t) = (8, xs.map SV.t)) := Lib.hid (by unfold valR; rw [if_pos h1, hL])
     have HL := Lib.hid hL
     clear h1 hL
     go_region_with (first
       | (go_at_call 51
          refine (found_any (cn := cn) (ct := ct) (name := o.term.s) HOK.out HN1.out HT1.out hB1).mono ?_
          rintro e w2 hE
          rw [HL.out] at hE
          obtain ⟨⟨A2, c2, rfl⟩, hb2⟩ := hE.no
          have b_t2 := BT.out.drew.later hb2
          have k_t2 := b_t2.cell
          have l_t2 := b_t2.lt
          have f_t2 := b_t2.free
          have HF := Lib.hid (Below.trans HB1.out.drew (hb2.mono (show w.heap.size ≤ w1.drew.heap.size from HB1.out.size)))
          clear hE hb2 b_t2))
     all_goals
       go_wp2_with fail
       go_ret
       rw [HV.out]
       exact ⟨rfl, .of ((put4u HF.out (Nat.le_succ _) _ _ _ _).mono hb), fun h => absurd (show (8 : Int) = 0 from h) (by decide)⟩
   · have HV : Hid (valR b o.term (xs.map SV.t) = (0, xs.map SV.t ++ [u])) := Lib.hid (by unfold valR; rw [if_pos h1, hL])
     have HL := Lib.hid hL
     clear h1 hL
     go_region_with (first
       | (go_at_call 51
          refine (found_any (cn := cn) (ct := ct) (name := o.term.s) HOK.out HN1.out HT1.out hB1).mono ?_
          rintro e w2 hE
          rw [HL.out] at hE
          obtain ⟨⟨A2, c2, rfl, hown⟩, hb2⟩ := hE.yes
          have b_t2 := BT.out.drew.later hb2
          have k_t2 := b_t2.cell
          have l_t2 := b_t2.lt
          have f_t2 := b_t2.free
          have HF := Lib.hid (And.intro (Below.trans HB1.out.drew (hb2.mono (show w.heap.size ≤ w1.drew.heap.size from HB1.out.size))) (And.intro hown b_t2))
          clear hE hb2 b_t2 hown))
     all_goals
       have HB3 := Lib.hid (put4u HF.out.1 (Nat.le_succ _) (.int .i64 u.kind) (.int .i64 u.n) (.string u.s) (.slice A2 u.l.length c2))
       have HO3 := Lib.hid (HF.out.2.1.put4 (g := w.heap.size + 1) (show w.heap.size + 1 < w1.heap.size by omega) (.int .i64 u.kind) (.int .i64 u.n) (.string u.s) (.slice A2 u.l.length c2))
       have BT3 := Lib.hid (put4b HF.out.2.2 (.int .i64 u.kind) (.int .i64 u.n) (.string u.s) (.slice A2 u.l.length c2))
       generalize ((((w2.setCell ⟨w.heap.size + 1, 0, none⟩ (.int .i64 u.kind)).setCell ⟨w.heap.size + 1, 1, none⟩ (.int .i64 u.n)).setCell ⟨w.heap.size + 1, 2, none⟩ (.string u.s)).setCell ⟨w.heap.size + 1, 3, none⟩ (.slice A2 u.l.length c2)) = w3 at *
       clear k_t2 l_t2 f_t2 k_t l_t f_t
       have k_t := BT3.out.cell
       have l_t := BT3.out.lt
       have f_t := BT3.out.free
       go_wp2_with fail
       obtain ⟨hle, hl16⟩ := fixed_leaves (HOK.out.fixed u (lookR_mem HL.out))
       obtain ⟨Az, cz, hez, _, _, _, _, _, hrz⟩ := RTm.cells HO3.out.rtm
       simp only [List.cons.injEq, Value.slice.injEq, and_true, true_and] at hez
       obtain ⟨rfl, rfl⟩ := hez
       refine (cloneTm_any (RTms.rl hrz) (Nat.le_refl _) (by omega)).mono ?_
       rintro e w4 ⟨⟨v, rfl, hv⟩, hb4⟩
       obtain ⟨A4, c4, rfl⟩ := hv.form
       have HO4 : Hid (TmOwn D w3.heap.size w4 u A4 c4) := Lib.hid ⟨hv.leaves hle, HO3.out.k, HO3.out.n, HO3.out.s, by omega⟩
       have b_t4 := BT3.out.later hb4
       have HB4 := Lib.hid (bthen HB3.out hb4)
       clear k_t l_t f_t hv hb4 hrz
       have k_t := b_t4.cell
       have l_t := b_t4.lt
       have f_t := b_t4.free
       go_wp2_with fail
       have hlt3 := BT3.out.lt
       have HB5 : Hid (Below w.heap.size w (w4.setCell ⟨w.heap.size + 1, 3, none⟩ (.slice A4 u.l.length c4))) := Lib.hid (HB4.out.setCell (p := ⟨w.heap.size + 1, 3, none⟩) (by show w.heap.size ≤ w.heap.size + 1; omega) _)
       have HO5 := Lib.hid (HO4.out.far (g := w.heap.size + 1) (i := 3) (by omega) (.slice A4 u.l.length c4))
       have HS5 := Lib.hid (HS.out.later HB5.out)
       generalize (w4.setCell ⟨w.heap.size + 1, 3, none⟩ (.slice A4 u.l.length c4)) = w5 at *
       have hsz5 := HB5.out.size
       refine (spush_any (x := ⟨u, A4, c4⟩) HS5.out HO5.out.at_ (apart_of HS.out (fun a ha => (HO5.out.blk a ha).1) (by omega)) (fun a ha => ⟨by have := (HO5.out.blk a ha).1; omega, (HO5.out.blk a ha).2⟩) (by omega) (by omega)).mono ?_
       rintro e w6 ⟨rfl, hb6, hps⟩
       have HS6 := Lib.hid (And.intro hb6 hps)
       clear hb6 hps k_t l_t f_t b_t4
       go_wp2_with fail
       go_ret
       rw [HV.out]
       exact ⟨rfl, (BelX.of (HB5.out.mono hb)).trans HS6.out.1, fun he => HS6.out.2.ev rfl rfl⟩
 · have q1 : (o.term.kind == 1) = false := by simpa using h1
   have HV : Hid (valR b o.term (xs.map SV.t) = (0, xs.map SV.t ++ [o.term])) := Lib.hid (by unfold valR; rw [if_neg h1])
   clear h1
   go_wp2_with fail
   generalize hW : World.alloc _ _ = w1
   obtain ⟨hb1, hz⟩ := al2 hW
   have b_t := n22 hW
   have HR1 := Lib.hid (HR.out.1.keep hb1 hB)
   have HB1 := Lib.hid hb1
   clear hW
   refine (cloneTm_any HR1.out (Nat.le_trans hB hb1.size) (by omega)).mono ?_
   rintro e w2 ⟨⟨v, rfl, hv⟩, hb2⟩
   obtain ⟨A2, c2, rfl⟩ := hv.form
   have HO : Hid (TmOwn D w1.heap.size w2 o.term A2 c2) := Lib.hid ⟨hv.leaves HR.out.2.1, HR.out.2.2.1, HR.out.2.2.2.1, HR.out.2.2.2.2, by omega⟩
   have b_t2 := b_t.later hb2
   have HB2 := Lib.hid (bthen HB1.out hb2)
   have k_t := b_t2.cell
   have l_t := b_t2.lt
   have f_t := b_t2.free
   clear hv hb2 b_t
   go_wp2_with fail
   have HB3 : Hid (Below w.heap.size w (w2.setCell ⟨w.heap.size + 1, 3, none⟩ (.slice A2 o.term.l.length c2))) := Lib.hid (HB2.out.setCell (p := ⟨w.heap.size + 1, 3, none⟩) (by show w.heap.size ≤ w.heap.size + 1; omega) _)
   have HO3 := Lib.hid (HO.out.far (g := w.heap.size + 1) (i := 3) (by omega) (.slice A2 o.term.l.length c2))
   have HS3 := Lib.hid (HS.out.later HB3.out)
   generalize (w2.setCell ⟨w.heap.size + 1, 3, none⟩ (.slice A2 o.term.l.length c2)) = w3 at *
   have hsz3 := HB3.out.size
   refine (spush_any (x := ⟨o.term, A2, c2⟩) HS3.out HO3.out.at_ (apart_of HS.out (fun a ha => (HO3.out.blk a ha).1) (by omega)) (fun a ha => ⟨by have := (HO3.out.blk a ha).1; omega, (HO3.out.blk a ha).2⟩) (by omega) (by omega)).mono ?_
   rintro e w4 ⟨rfl, hb4, hps⟩
   have HS4 := Lib.hid (And.intro hb4 hps)
   clear hb4 hps k_t l_t f_t b_t2
   go_wp2_with fail
   go_ret
   rw [HV.out]
   exact ⟨rfl, (BelX.of (HB3.out.mono hb)).trans HS4.out.1, fun he => HS4.out.2.ev rfl rfl⟩
end Go.Proofs.YtiplipdigabidaaGreat
