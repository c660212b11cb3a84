/- expr.found. -/
import Derived.Test.YtkdonhhbpacgmaaGreatSet
import Derived.Test.YtkdonhhbpacgmaaGreatExc
set_option linter.unusedVariables false
set_option linter.unusedSimpArgs false
namespace Go.Proofs.YtkdonhhbpacgmaaGreat
open Go.ChangeShapes Go.WideShapes Go.ChangeAt Go.RowKit
structure TmOwn (d base : Nat) (w : World) (t : Tm) (A : Option Addr) (c : Nat) : Prop where
 own : OwnR (TmR d) 44 w base 0 (.slice A t.l.length c) t.l
 k : I64 t.kind
 n : I64 t.n
 s : t.s.size ≤ 140737488351232
 len : t.l.length ≤ 1000000
section
variable {d base B : Nat} {w w' : World} {t : Tm} {A : Option Addr} {c : Nat}
theorem TmOwn.rtm (h : TmOwn d base w t A c) : RTm w w.heap.size (d + 1) t [.int .i64 t.kind, .int .i64 t.n, .string t.s, .slice A t.l.length c] := by
 obtain ⟨A3, c3, e3, r1, r2, r3⟩ := h.own.reads (Nat.zero_le _) (by have := h.len; show t.l.length * (8 * 4) ≤ _; omega)
 simp only [Value.slice.injEq] at e3
 obtain ⟨rfl, _, rfl⟩ := e3
 exact ⟨A, c, rfl, r1, ⟨by have := h.len; omega, r2.2⟩, h.s, h.k, h.n, r3⟩
theorem TmOwn.later (h : TmOwn d base w t A c) (hb : Below w.heap.size w w') : TmOwn d base w' t A c := ⟨h.own.later hb (Nat.zero_le _), h.k, h.n, h.s, h.len⟩
theorem TmOwn.far (h : TmOwn d base w t A c) {g i : Nat} (hg : g < base) (u : Value) : TmOwn d base (w.setCell ⟨g, i, none⟩ u) t A c := ⟨h.own.far hg (Nat.zero_le _) u, h.k, h.n, h.s, h.len⟩
theorem OwnR.lower {α : Type} {R : Reader α} {e : TypeId} {v : Value} {xs : List α} {b0 : Nat} (h : OwnR R e w base B v xs) (hb : b0 ≤ base) : OwnR R e w b0 B v xs := by
 obtain ⟨cells, h, hf⟩ := h
 refine ⟨cells, ⟨h.1, ?_⟩, hf⟩
 rcases h.2 with h2 | ⟨g, cap, cur, hv, hg, r⟩
 · exact .inl h2
 · exact .inr ⟨g, cap, cur, hv, Nat.le_trans hb hg, r⟩
theorem TmOwn.lower (h : TmOwn d base w t A c) {b0 : Nat} (hb : b0 ≤ base) : TmOwn d b0 w t A c := ⟨h.own.lower hb, h.k, h.n, h.s, h.len⟩
theorem TmOwn.put4 (h : TmOwn d base w t A c) {g : Nat} (hg : g < base) (v0 v1 v2 v3 : Value) : TmOwn d base ((((w.setCell ⟨g, 0, none⟩ v0).setCell ⟨g, 1, none⟩ v1).setCell ⟨g, 2, none⟩ v2).setCell ⟨g, 3, none⟩ v3) t A c := (((h.far hg v0).far hg v1).far hg v2).far hg v3
theorem leaf_rd {x : Tm} {vs : List Value} (hx : Leaf x) (h : RTm w B d x vs) : RTm w 0 d x vs := by
 cases d with
 | zero => exact h.elim
 | succ d =>
   obtain ⟨A, c, e, h1, h2, h3, h4, h5, _⟩ := h
   have h0 : x.l.length = 0 := by rw [show x.l = [] from hx]; rfl
   exact ⟨A, c, e, h1, h2, h3, h4, h5, fun hn => absurd hn (by omega)⟩
theorem OwnR.leaves {e : TypeId} {v : Value} {xs : List Tm} (h : OwnR (TmR d) e w base B v xs) (hx : ∀ x ∈ xs, Leaf x) : OwnR (TmR d) e w base 0 v xs := by
 obtain ⟨cells, h, hf⟩ := h
 exact ⟨cells, h, hf.1, fun i hi => leaf_rd (hx _ (List.getElem_mem hi)) (hf.2 i hi)⟩
theorem TmOwn.flat {k n : Int} {s : ByteArray} (hk : I64 k) (hn : I64 n) (hs : s.size ≤ 140737488351232) : TmOwn d base w ⟨k, n, s, []⟩ none 0 := ⟨OwnR.nil _ _ _ _ _, hk, hn, hs, by simp⟩
theorem TmOwn.no : TmOwn d base w noT none 0 := TmOwn.flat (by simp [I64]) (by simp [I64]) (by decide)
end
theorem put4b {w : World} {g : Nat} {a b c d : Value} (h : Blk w g #[a, b, c, d]) (v0 v1 v2 v3 : Value) :
   Blk ((((w.setCell ⟨g, 0, none⟩ v0).setCell ⟨g, 1, none⟩ v1).setCell ⟨g, 2, none⟩ v2).setCell ⟨g, 3, none⟩ v3) g #[v0, v1, v2, v3] := (((h.set_ 0 v0).set_ 1 v1).set_ 2 v2).set_ 3 v3
theorem put4u {w w2 : World} {B g : Nat} (h : Below B w w2) (hg : B ≤ g) (v0 v1 v2 v3 : Value) :
   Below B w ((((w2.setCell ⟨g, 0, none⟩ v0).setCell ⟨g, 1, none⟩ v1).setCell ⟨g, 2, none⟩ v2).setCell ⟨g, 3, none⟩ v3) :=
 (((h.setCell (p := ⟨g, 0, none⟩) hg v0).setCell (p := ⟨g, 1, none⟩) hg v1).setCell (p := ⟨g, 2, none⟩) hg v2).setCell (p := ⟨g, 3, none⟩) hg v3
abbrev zero4 : Array Value := #[.int .i64 0, .int .i64 0, .string ⟨#[]⟩, .slice none 0 0]
def RestInv (d B P G R cp n : Nat) (l : List Tm) (w : World) (out : List Tm) (xs : List TV) (x : TV) (rest : List TV) : Prop :=
 (Piled (cmpT 3) noT l out (xs.map TV.t) ∧ xs.Perm (x :: rest) ∧ rest.length = n ∧ Heap cTV (atL tv0 rest) 0 n ∧ (∀ b ∈ rest, cTV x b ≤ 0)) ∧ PRd w B d rest ∧ PAt w P G rest cp ∧ Blk w R zero4
theorem RestInv.later {d B P G R cp n : Nat} {l : List Tm} {w w' : World} {out : List Tm} {xs : List TV} {x : TV} {rest : List TV} (h : RestInv d B P G R cp n l w out xs x rest) (hb : Below w.heap.size w w') (hB : B ≤ w.heap.size) : RestInv d B P G R cp n l w' out xs x rest :=
 ⟨h.1, h.2.1.below hb hB, h.2.2.1.later hb, h.2.2.2.later hb⟩
open Go.ChangeShapes Go.WideShapes Go.ChangeAt Go.RowKit
structure Bd where
 names : List Bytes
 terms : List Tm
def lookR (b : Bd) (name : Bytes) : Option Tm := if name ∈ b.names then b.terms[posL b.names name]? else none
structure BdOk (b : Bd) : Prop where
 len : b.names.length = b.terms.length
 few : b.names.length ≤ 32
 rise : b.names.Pairwise (· < ·)
 fixed : ∀ t ∈ b.terms, fixedB t = true
def bdV (An : Option Addr) (nn cn : Nat) (At : Option Addr) (nt ct : Nat) : Array Value := #[.slice An nn cn, .slice At nt ct]
theorem fixed_leaves {t : Tm} (h : fixedB t = true) : (∀ u ∈ t.l, Leaf u) ∧ t.l.length ≤ 16 := by
 have := fixed_parts h
 by_cases h7 : t.kind = 7
 · rw [if_pos h7] at this
   exact ⟨(rising_parts this.2.2).2, (rising_parts this.2.2).1⟩
 · rw [if_neg h7] at this
   rw [this]; exact ⟨fun u hu => (List.not_mem_nil hu).elim, by simp⟩
def FoundE (d : Nat) (w w' : World) (r : Option Tm) (z : Ending) : Prop :=
 (∃ A c, z = .returned (.tuple #[.agg #[.int .i64 (r.getD noT).kind, .int .i64 (r.getD noT).n, .string (r.getD noT).s, .slice A (r.getD noT).l.length c], .bool r.isSome]) ∧ TmOwn d w.heap.size w' (r.getD noT) A c) ∧ Below w.heap.size w w'
theorem posL_lt {L : List Bytes} {t : Bytes} (h : t ∈ L) : posL L t < L.length := by
 unfold posL
 rw [List.findIdx_lt_length]
 exact ⟨t, h, by simp [List.lt_irrefl]⟩
set_option maxRecDepth 100000 in
set_option maxHeartbeats 2000000 in
theorem found_any {d B cn ct : Nat} {b : Bd} {An At : Option Addr} {name : ByteArray} {w : World} (hok : BdOk b) (hn : RL StrR w B (b.names.map mkS) An) (ht : RL (TmR (d + 1)) w B b.terms At) (hB : B ≤ w.heap.size) :
   Calls Tryz.prog 56 #[.agg (bdV An b.names.length cn At b.terms.length ct), .string name] w fun e w' => FoundE d w w' (lookR b (bs name)) e := by
 have HOK := Lib.hid hok
 have HN := Lib.hid hn
 have HT := Lib.hid ht
 have hf := hok.few
 have hlen := hok.len
 have HLN := Lib.hid hlen
 clear hok hn ht hlen
 unfold bdV
 go_enter Tryz.func56, Tryz.ntmps56
 go_wp2_with fail
 generalize hW : World.alloc _ _ = w1
 obtain ⟨hb1, hz⟩ := al2 hW
 have b_b := n21 hW
 have b_r := n22 hW
 have HB1 := Lib.hid hb1
 clear hW hb1
 refine (bsearch_any b.names An cn B name w1 (HN.out.keep HB1.out hB) (Nat.le_trans hB HB1.out.size) (by omega) HOK.out.rise).mono ?_
 rintro e w2 ⟨rfl, rfl⟩
 have BB := Lib.hid b_b
 have BR := Lib.hid b_r
 by_cases hm : bs name ∈ b.names
 · have hp := posL_lt hm
   have hp2 : posL b.names (bs name) < b.terms.length := by rw [← HLN.out]; exact hp
   have HR : Hid (lookR b (bs name) = some (b.terms[posL b.names (bs name)])) := Lib.hid (by unfold lookR; rw [if_pos hm, List.getElem?_eq_getElem hp2])
   have hd : decide (bs name ∈ b.names) = true := by simpa using hm
   rw [hd]
   have hB1 := Nat.le_trans hB HB1.out.size
   have HT1 := Lib.hid (HT.out.keep HB1.out hB)
   obtain ⟨b_, off, rfl, hob⟩ := HT1.out.base (Below.refl _ _) hB1 (by omega)
   obtain ⟨x, vs, hx, hlen, hcell, hr⟩ := HT1.out.at_ (Below.refl _ _) hB1 hp2
   obtain ⟨Ax, cx, rfl, g1, g2, g3, g4, g5, _⟩ := RTm.cells (show RTm w1 B (d + 1) x vs from hr)
   have c0 : w1.cell? ⟨b_, off + posL b.names (bs name) * 4, none⟩ = some (.int .i64 x.kind) := hcell 0 _ rfl
   have c1 : w1.cell? ⟨b_, off + posL b.names (bs name) * 4 + 1, none⟩ = some (.int .i64 x.n) := hcell 1 _ rfl
   have c2 : w1.cell? ⟨b_, off + posL b.names (bs name) * 4 + 2, none⟩ = some (.string x.s) := hcell 2 _ rfl
   have c3 : w1.cell? ⟨b_, off + posL b.names (bs name) * 4 + 3, none⟩ = some (.slice Ax x.l.length cx) := hcell 3 _ rfl
   have hex : b.terms[posL b.names (bs name)] = x := by
     rw [List.getElem?_eq_getElem hp2] at hx
     simpa using hx
   rw [hex] at HR
   have HF : Hid (fixedB x = true) := Lib.hid (HOK.out.fixed x (List.mem_of_getElem? hx))
   have HXR : Hid (RL (TmR d) w1 B x.l Ax) := Lib.hid (RTms.rl ‹RTms w1 B (d + 1 - 1) x.l Ax›)
   have HI : Hid (I64 x.kind ∧ I64 x.n ∧ x.s.size ≤ 140737488351232) := Lib.hid ⟨‹_›, ‹_›, ‹_›⟩
   have k_b := b_b.cell
   have l_b := b_b.lt
   have l_r := b_r.lt
   clear hcell hlen hx hr hex hm hd
   generalize posL b.names (bs name) = p at *
   go_wp2_with fail
   generalize hW : World.alloc _ _ = w2
   obtain ⟨hb2, hz2⟩ := al1 hW
   have b_x := n11 hW
   rw [hz] at b_x
   have b_r2 := b_r.later hb2
   have HB2 := Lib.hid (bthen HB1.out hb2)
   have HX2 := Lib.hid (HXR.out.keep hb2 hB1)
   clear hW
   obtain ⟨hle, hl16⟩ := fixed_leaves HF.out
   have HLE := Lib.hid hle
   clear hle
   refine (cloneTm_any HX2.out (Nat.le_trans hB1 hb2.size) (by omega)).mono ?_
   rintro e w3 ⟨⟨v, rfl, hv⟩, hb⟩
   obtain ⟨A3, cc, rfl⟩ := hv.form
   have HV := Lib.hid (hv.leaves HLE.out)
   have HB3 := Lib.hid (bthen HB2.out hb)
   have b_r3 := b_r2.later hb
   have b_x3 := b_x.later hb
   clear hv hb
   have k_x := b_x3.cell
   have l_x := b_x3.lt
   have f_x := b_x3.free
   have k_r := b_r3.cell
   have f_r := b_r3.free
   have l_r3 := b_r3.lt
   clear k_b l_b l_r c0 c1 c2 c3
   go_wp2_with fail
   have hbase : w2.heap.size = w.heap.size + 1 + 1 + 1 := by omega
   have HO : TmOwn d w2.heap.size w3 x A3 cc := ⟨HV.out, HI.out.1, HI.out.2.1, HI.out.2.2, by omega⟩
   have HO4 := (HO.far (g := w.heap.size + 1 + 1) (i := 3) (by omega) (.slice A3 x.l.length cc)).put4 (g := w.heap.size + 1) (by omega) (.int .i64 x.kind) (.int .i64 x.n) (.string x.s) (.slice A3 x.l.length cc)
   have b_r4 := b_r3.far (c := w.heap.size + 1 + 1) (by omega) 3 (.slice A3 x.l.length cc)
   refine bodyPost_ret (ret_tm2 rfl rfl (put4b b_r4 (.int .i64 x.kind) (.int .i64 x.n) (.string x.s) (.slice A3 x.l.length cc)) rfl) rfl ?_
   rw [HR.out]
   exact ⟨⟨A3, cc, rfl, HO4.lower (by omega)⟩, put4u (HB3.out.setCell (p := ⟨w.heap.size + 1 + 1, 3, none⟩) (by show w.heap.size ≤ w.heap.size + 1 + 1; omega) _) (by omega) _ _ _ _⟩
 · have HR : Hid (lookR b (bs name) = none) := Lib.hid (by unfold lookR; rw [if_neg hm])
   have hd : decide (bs name ∈ b.names) = false := by simpa using hm
   rw [hd]
   clear hm hd
   have k_r := b_r.cell
   have f_r := b_r.free
   go_wp2_with fail
   refine bodyPost_ret (ret_tm2 rfl rfl (put4b BR.out (.int .i64 0) (.int .i64 0) (.string ⟨#[]⟩) (.slice none 0 0)) rfl) rfl ?_
   rw [HR.out]
   exact ⟨⟨none, 0, rfl, TmOwn.no⟩, put4u HB1.out (by omega) _ _ _ _⟩
end Go.Proofs.YtkdonhhbpacgmaaGreat
