/- expr.found. -/
import Derived.Test.YtkdonhhbpacgmaaGreatHas
import Derived.Test.YtkdonhhbpacgmaaGreatSet2
set_option linter.unusedVariables false
set_option linter.unusedSimpArgs false
namespace Go.Proofs.YtkdonhhbpacgmaaGreat
open Go.ChangeShapes Go.WideShapes Go.ChangeAt Go.RowKit
structure Bd where
 names : List Bytes
 terms : List Tm
def lookR (b : Bd) (name : Bytes) : Option Tm := if name ∈ b.names then b.terms[posL b.names name]? else none
structure BdOk (b : Bd) : Prop where
 len : b.names.length = b.terms.length
 few : b.names.length ≤ 32
 rise : b.names.Pairwise (· < ·)
 fixed : ∀ t ∈ b.terms, fixedB t = true
def bdV (An : Option Addr) (nn cn : Nat) (At : Option Addr) (nt ct : Nat) : Array Value := #[.slice An nn cn, .slice At nt ct]
theorem fixed_leaves {t : Tm} (h : fixedB t = true) : (∀ u ∈ t.l, Leaf u) ∧ t.l.length ≤ 16 := by
 have := fixed_parts h
 by_cases h7 : t.kind = 7
 · rw [if_pos h7] at this
   exact ⟨(rising_parts this.2.2).2, (rising_parts this.2.2).1⟩
 · rw [if_neg h7] at this
   rw [this]; exact ⟨fun u hu => (List.not_mem_nil hu).elim, by simp⟩
def FoundE (d : Nat) (w w' : World) (r : Option Tm) (z : Ending) : Prop :=
 (∃ A c, z = .returned (.tuple #[.agg #[.int .i64 (r.getD noT).kind, .int .i64 (r.getD noT).n, .string (r.getD noT).s, .slice A (r.getD noT).l.length c], .bool r.isSome]) ∧ TmOwn d w.heap.size w' (r.getD noT) A c) ∧ Below w.heap.size w w'
theorem posL_lt {L : List Bytes} {t : Bytes} (h : t ∈ L) : posL L t < L.length := by
 unfold posL
 rw [List.findIdx_lt_length]
 exact ⟨t, h, by simp [List.lt_irrefl]⟩
set_option maxRecDepth 100000 in
set_option maxHeartbeats 2000000 in
theorem found_any {d B cn ct : Nat} {b : Bd} {An At : Option Addr} {name : ByteArray} {w : World} (hok : BdOk b) (hn : RL StrR w B (b.names.map mkS) An) (ht : RL (TmR (d + 1)) w B b.terms At) (hB : B ≤ w.heap.size) :
   Calls Tryz.prog 56 #[.agg (bdV An b.names.length cn At b.terms.length ct), .string name] w fun e w' => FoundE d w w' (lookR b (bs name)) e := by
 have HOK := Lib.hid hok
 have HN := Lib.hid hn
 have HT := Lib.hid ht
 have hf := hok.few
 have hlen := hok.len
 have HLN := Lib.hid hlen
 clear hok hn ht hlen
 unfold bdV
 go_enter Tryz.func56, Tryz.ntmps56
 go_wp2_with fail
 generalize hW : World.alloc _ _ = w1
 obtain ⟨hb1, hz⟩ := al2 hW
 have b_b := n21 hW
 have b_r := n22 hW
 have HB1 := Lib.hid hb1
 clear hW hb1
 refine (bsearch_any b.names An cn B name w1 (HN.out.keep HB1.out hB) (Nat.le_trans hB HB1.out.size) (by omega) HOK.out.rise).mono ?_
 rintro e w2 ⟨rfl, rfl⟩
 have BB := Lib.hid b_b
 have BR := Lib.hid b_r
 by_cases hm : bs name ∈ b.names
 · have hp := posL_lt hm
   have hp2 : posL b.names (bs name) < b.terms.length := by rw [← HLN.out]; exact hp
   have HR : Hid (lookR b (bs name) = some (b.terms[posL b.names (bs name)])) := Lib.hid (by unfold lookR; rw [if_pos hm, List.getElem?_eq_getElem hp2])
   have hd : decide (bs name ∈ b.names) = true := by simpa using hm
   rw [hd]
   have hB1 := Nat.le_trans hB HB1.out.size
   have HT1 := Lib.hid (HT.out.keep HB1.out hB)
   obtain ⟨b_, off, rfl, hob⟩ := HT1.out.base (Below.refl _ _) hB1 (by omega)
   obtain ⟨x, vs, hx, hlen, hcell, hr⟩ := HT1.out.at_ (Below.refl _ _) hB1 hp2
   obtain ⟨Ax, cx, rfl, g1, g2, g3, g4, g5, _⟩ := RTm.cells (show RTm w1 B (d + 1) x vs from hr)
   have c0 : w1.cell? ⟨b_, off + posL b.names (bs name) * 4, none⟩ = some (.int .i64 x.kind) := hcell 0 _ rfl
   have c1 : w1.cell? ⟨b_, off + posL b.names (bs name) * 4 + 1, none⟩ = some (.int .i64 x.n) := hcell 1 _ rfl
   have c2 : w1.cell? ⟨b_, off + posL b.names (bs name) * 4 + 2, none⟩ = some (.string x.s) := hcell 2 _ rfl
   have c3 : w1.cell? ⟨b_, off + posL b.names (bs name) * 4 + 3, none⟩ = some (.slice Ax x.l.length cx) := hcell 3 _ rfl
   have hex : b.terms[posL b.names (bs name)] = x := by
     rw [List.getElem?_eq_getElem hp2] at hx
     simpa using hx
   rw [hex] at HR
   have HF : Hid (fixedB x = true) := Lib.hid (HOK.out.fixed x (List.mem_of_getElem? hx))
   have HXR : Hid (RL (TmR d) w1 B x.l Ax) := Lib.hid (RTms.rl ‹RTms w1 B (d + 1 - 1) x.l Ax›)
   have HI : Hid (I64 x.kind ∧ I64 x.n ∧ x.s.size ≤ 140737488351232) := Lib.hid ⟨‹_›, ‹_›, ‹_›⟩
   have k_b := b_b.cell
   have l_b := b_b.lt
   have l_r := b_r.lt
   clear hcell hlen hx hr hex hm hd
   generalize posL b.names (bs name) = p at *
   go_wp2_with fail
   generalize hW : World.alloc _ _ = w2
   obtain ⟨hb2, hz2⟩ := al1 hW
   have b_x := n11 hW
   rw [hz] at b_x
   have b_r2 := b_r.later hb2
   have HB2 := Lib.hid (bthen HB1.out hb2)
   have HX2 := Lib.hid (HXR.out.keep hb2 hB1)
   clear hW
   obtain ⟨hle, hl16⟩ := fixed_leaves HF.out
   have HLE := Lib.hid hle
   clear hle
   refine (cloneTm_any HX2.out (Nat.le_trans hB1 hb2.size) (by omega)).mono ?_
   rintro e w3 ⟨⟨v, rfl, hv⟩, hb⟩
   obtain ⟨A3, cc, rfl⟩ := hv.form
   have HV := Lib.hid (hv.leaves HLE.out)
   have HB3 := Lib.hid (bthen HB2.out hb)
   have b_r3 := b_r2.later hb
   have b_x3 := b_x.later hb
   clear hv hb
   have k_x := b_x3.cell
   have l_x := b_x3.lt
   have f_x := b_x3.free
   have k_r := b_r3.cell
   have f_r := b_r3.free
   have l_r3 := b_r3.lt
   clear k_b l_b l_r c0 c1 c2 c3
   go_wp2_with fail
   have hbase : w2.heap.size = w.heap.size + 1 + 1 + 1 := by omega
   have HO : TmOwn d w2.heap.size w3 x A3 cc := ⟨HV.out, HI.out.1, HI.out.2.1, HI.out.2.2, by omega⟩
   have HO4 := (HO.far (g := w.heap.size + 1 + 1) (i := 3) (by omega) (.slice A3 x.l.length cc)).put4 (g := w.heap.size + 1) (by omega) (.int .i64 x.kind) (.int .i64 x.n) (.string x.s) (.slice A3 x.l.length cc)
   have b_r4 := b_r3.far (c := w.heap.size + 1 + 1) (by omega) 3 (.slice A3 x.l.length cc)
   refine bodyPost_ret (ret_tm2 rfl rfl (put4b b_r4 (.int .i64 x.kind) (.int .i64 x.n) (.string x.s) (.slice A3 x.l.length cc)) rfl) rfl ?_
   rw [HR.out]
   exact ⟨⟨A3, cc, rfl, HO4.lower (by omega)⟩, put4u (HB3.out.setCell (p := ⟨w.heap.size + 1 + 1, 3, none⟩) (by show w.heap.size ≤ w.heap.size + 1 + 1; omega) _) (by omega) _ _ _ _⟩
 · have HR : Hid (lookR b (bs name) = none) := Lib.hid (by unfold lookR; rw [if_neg hm])
   have hd : decide (bs name ∈ b.names) = false := by simpa using hm
   rw [hd]
   clear hm hd
   have k_r := b_r.cell
   have f_r := b_r.free
   go_wp2_with fail
   refine bodyPost_ret (ret_tm2 rfl rfl (put4b BR.out (.int .i64 0) (.int .i64 0) (.string ⟨#[]⟩) (.slice none 0 0)) rfl) rfl ?_
   rw [HR.out]
   exact ⟨⟨none, 0, rfl, TmOwn.no⟩, put4u HB1.out (by omega) _ _ _ _⟩
end Go.Proofs.YtkdonhhbpacgmaaGreat
