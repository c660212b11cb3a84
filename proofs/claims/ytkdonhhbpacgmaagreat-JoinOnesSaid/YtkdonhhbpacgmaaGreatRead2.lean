/- Readers of predicates, operations, expressions, scopes, rules, checks, policies, blocks. -/
import Derived.Test.YtkdonhhbpacgmaaGreatRead
set_option linter.unusedVariables false
set_option linter.unusedSimpArgs false
namespace Go.Proofs.YtkdonhhbpacgmaaGreat
open Go.ChangeShapes Go.WideShapes Go.ChangeAt Go.RowKit
set_option maxRecDepth 100000 in
set_option maxHeartbeats 1000000 in
theorem indexFuncTerm_any (d : Nat) (F : FuncId) (cap : Array Value) (p : Tm → Bool) (xs : List Tm) (A : Option Addr) (c B : Nat) (w : World)
   (hF : ∀ args (w : World), (callFunc F args).run Tryz.prog w = .ok (.enter F args) w) (hl : RL (TmR d) w B xs A) (hB : B ≤ w.heap.size) (hn : xs.length ≤ 140737488351232)
   (ht : Tells Tryz.prog (TmR d) aggOf B w F cap p) :
   Calls Tryz.prog 94 #[.slice A xs.length c, .func (.func F) #[] cap] w fun e w' => e = .returned (.int .i64 (idxF p xs)) ∧ Below w.heap.size w w' := by
 have HT := Lib.hid ht
 clear ht
 have hRk : (TmR d).k = 4 := rfl
 go_enter Tryz.func94, Tryz.ntmps94
 go_wp2_with fail
 go_loopw [8] (fun i wr => ∃ k : Nat, k ≤ xs.length ∧ i = .int .i64 k ∧ Below w.heap.size w wr ∧ ∀ i (hi : i < xs.length), i < k → p xs[i] = false) (fun i _ => xs.length - (intOf i).toNat)
 case atStart => exact ⟨0, Nat.zero_le _, rfl, Below.refl _ _, fun i hi h => absurd h (by omega)⟩
 case round =>
   obtain ⟨k, hk, rfl, hbw, hall⟩ := hrel
   have HA := Lib.hid hall
   clear hall
   by_cases hlt : k < xs.length
   · obtain ⟨b, off, rfl, hb⟩ := hl.base hbw hB (by omega)
     obtain ⟨x, vs, hx, hlen, hcell, hr⟩ := hl.at_ hbw hB hlt
     rw [hRk] at hlen hcell
     obtain ⟨v0, v1, v2, v3, rfl⟩ : ∃ v0 v1 v2 v3, vs = [v0, v1, v2, v3] := by
       match vs, hlen with
       | [v0, v1, v2, v3], _ => exact ⟨_, _, _, _, rfl⟩
     have c0 : wr.cell? ⟨b, off + k * 4, none⟩ = some v0 := hcell 0 _ rfl
     have c1 : wr.cell? ⟨b, off + k * 4 + 1, none⟩ = some v1 := hcell 1 _ rfl
     have c2 : wr.cell? ⟨b, off + k * 4 + 2, none⟩ = some v2 := hcell 2 _ rfl
     have c3 : wr.cell? ⟨b, off + k * 4 + 3, none⟩ = some v3 := hcell 3 _ rfl
     have hsz := hbw.size
     have HX := Lib.hid hx
     clear hcell hlen hx
     go_wp2_with fail
     refine (HT.out x [v0, v1, v2, v3] _ hbw hr).mono ?_
     rintro e w1 ⟨rfl, hb1⟩
     have hbw1 := Lib.hid (hbw.trans (hb1.mono hsz))
     clear hb1
     have hxe : xs[k] = x := (List.getElem?_eq_some_iff.1 HX.out).2
     have HXE := Lib.hid hxe
     clear hxe
     by_cases hp : p x = true
     · go_wp2_with fail
       go_ret
       exact ⟨ret_int (idxF_some hlt (by rw [HXE.out]; exact hp) (fun i hi => HA.out i (by omega) hi)).symm, hbw1.out⟩
     · have hp : p x = false := by simpa using hp
       go_wp2_with fail
       go_roundw
       case rel => exact ⟨k + 1, by omega, by go_num, hbw1.out, fun i hi h => by
         rcases Nat.lt_or_ge i k with h1 | h1
         · exact HA.out i hi h1
         · obtain rfl : i = k := by omega
           rw [HXE.out]; exact hp⟩
       case measure => simp [intOf]; omega
   · go_wp2_with fail
     go_ret
     exact ⟨ret_int (idxF_none (fun i hi => HA.out i hi (by omega))).symm, hbw⟩
set_option maxRecDepth 100000 in
theorem containsFuncTerm_any (d : Nat) (F : FuncId) (cap : Array Value) (p : Tm → Bool) (xs : List Tm) (A : Option Addr) (c B : Nat) (w : World)
   (hF : ∀ args (w : World), (callFunc F args).run Tryz.prog w = .ok (.enter F args) w) (hl : RL (TmR d) w B xs A) (hB : B ≤ w.heap.size) (hn : xs.length ≤ 140737488351232)
   (ht : Tells Tryz.prog (TmR d) aggOf B w F cap p) :
   Calls Tryz.prog 61 #[.slice A xs.length c, .func (.func F) #[] cap] w fun e w' => e = .returned (.bool (xs.any p)) ∧ Below w.heap.size w w' := by
 have HT := Lib.hid ht
 clear ht
 go_enter Tryz.func61, Tryz.ntmps61
 go_wp2_with (go_at_call 94; refine (indexFuncTerm_any d F cap p xs A c B w hF hl hB hn HT.out).mono ?_; rintro e w1 ⟨rfl, hb1⟩)
 go_ret
 exact ⟨ret_bool (idxF_any p xs), hb1⟩
set_option maxRecDepth 100000 in
set_option maxHeartbeats 1000000 in
theorem fewLitTerm_any (d : Nat) (M : FuncId) (p : Tm → Bool) (B G : Nat) (w : World) (hM : ∀ args (w : World), (callFunc M args).run Tryz.prog w = .ok (.enter M args) w)
   (hB : B ≤ w.heap.size) (hG : w.cell? ⟨G, 0, none⟩ = some (.func (.func M) #[] #[])) (ht : Tells Tryz.prog (TmR d) aggOf B w M #[] p) :
   Tells Tryz.prog (TmR d) aggOf B w 83 #[.pointer (some ⟨G, 0, none⟩)] (fun x => !p x) := by
 intro x vs w1 hb hr
 have hlen : vs.length = 4 := (TmR d).len hr
 obtain ⟨v0, v1, v2, v3, rfl⟩ : ∃ v0 v1 v2 v3, vs = [v0, v1, v2, v3] := by
   match vs, hlen with
   | [v0, v1, v2, v3], _ => exact ⟨_, _, _, _, rfl⟩
 have hGl : G < w.heap.size := block_lt_of_cell hG
 have hG1 : w1.cell? ⟨G, 0, none⟩ = some (.func (.func M) #[] #[]) := (hb.cell (p := ⟨G, 0, none⟩) hGl).trans hG
 have hGl1 : G < w1.heap.size := by have := hb.size; omega
 have HB := Lib.hid (fun o : Obj => (Below.refl w1.heap.size w1).alloc (Nat.le_refl _) o)
 have HT := Lib.hid ht
 have HR := Lib.hid hr
 have hBw : B ≤ w1.heap.size := by have := hb.size; omega
 clear ht hr
 show Calls Tryz.prog 83 #[.agg #[v0, v1, v2, v3], .pointer (some ⟨G, 0, none⟩)] w1 _
 go_enter Tryz.func83, Tryz.ntmps83
 go_wp2_with fail
 refine (HT.out x [v0, v1, v2, v3] _ (hb.trans ((HB.out _).mono hb.size)) ((TmR d).keep (HB.out _) hBw HR.out)).mono ?_
 rintro e w2 ⟨rfl, hb2⟩
 have hfin := Lib.hid ((HB.out _).trans (hb2.mono (HB.out _).size))
 clear hb2
 go_wp2_with fail
 go_ret
 exact ⟨rfl, hfin.out⟩
set_option maxRecDepth 100000 in
set_option maxHeartbeats 1000000 in
theorem fewTerm_any (d : Nat) (M : FuncId) (p : Tm → Bool) (most : Int) (xs : List Tm) (A : Option Addr) (c B : Nat) (w : World) (hM : ∀ args (w : World), (callFunc M args).run Tryz.prog w = .ok (.enter M args) w)
   (hl : RL (TmR d) w B xs A) (hB : B ≤ w.heap.size) (hn : xs.length ≤ 140737488351232) (ht : Tells Tryz.prog (TmR d) aggOf B w M #[] p) :
   Calls Tryz.prog 47 #[.slice A xs.length c, .int .i64 most, .func (.func M) #[] #[]] w fun e w' => e = .returned (.bool (decide ((xs.length : Int) ≤ most) && xs.all p)) ∧ Below w.heap.size w w' := by
 have HB := Lib.hid (fun o : Obj => (Below.refl w.heap.size w).alloc (Nat.le_refl _) o)
 have HT := Lib.hid ht
 have HL := Lib.hid hl
 clear ht hl
 by_cases hm : (xs.length : Int) ≤ most
 · go_enter Tryz.func47, Tryz.ntmps47
   go_wp2_with fail
   refine (containsFuncTerm_any d 83 _ _ xs A c B _ (ent Tryz.func83 (by kernel_rfl) rfl) (HL.out.keep (HB.out _) hB) (Nat.le_trans hB (HB.out _).size) hn
     (fewLitTerm_any d M p B w.heap.size _ hM (Nat.le_trans hB (HB.out _).size) (by go_simp) (HT.out.later (HB.out _)))).mono ?_
   rintro e w1 ⟨rfl, hb1⟩
   have hfin := Lib.hid ((HB.out _).trans (hb1.mono (HB.out _).size))
   clear hb1
   go_wp2_with fail
   go_ret
   exact ⟨ret_bool (by simp [hm, List.all_eq_not_any_not]), hfin.out⟩
 · have hm' : decide ((xs.length : Int) ≤ most) = false := by simpa using hm
   go_enter Tryz.func47, Tryz.ntmps47
   go_wp2_with fail
   go_ret
   exact ⟨ret_bool (by simp [hm]), HB.out _⟩
open Go.ChangeShapes Go.WideShapes Go.ChangeAt Go.RowKit
structure Pr where
 name : ByteArray
 terms : List Tm
structure OpD where
 kind : Int
 term : Tm
 code : Int
 skip : Int
structure Sc where
 kind : Int
 key : ByteArray
structure Ru where
 head : Pr
 body : List Pr
 exprs : List (List OpD)
 scopes : List Sc
def RSl {α : Type} (R : Reader α) (w : World) (B : Nat) (xs : List α) (v : Value) : Prop := ∃ A c, v = .slice A xs.length c ∧ xs.length ≤ c ∧ (xs.length * (8 * R.k) ≤ 140737488351232 ∧ c ≤ 9223372036854775807) ∧ RL R w B xs A
section
variable {α : Type} {R : Reader α} {w w' : World} {B B' C : Nat} {xs : List α} {v : Value}
theorem RSl.keep (h : RSl R w B xs v) (hw : Below C w w') (hB : B ≤ C) : RSl R w' B xs v := by
 obtain ⟨A, c, rfl, h1, h2, h3⟩ := h
 exact ⟨A, c, rfl, h1, h2, h3.keep hw hB⟩
theorem RSl.wide (h : RSl R w B xs v) (hB : B ≤ B') : RSl R w B' xs v := by
 obtain ⟨A, c, rfl, h1, h2, h3⟩ := h
 exact ⟨A, c, rfl, h1, h2, h3.wide hB⟩
end
def StrR : Reader ByteArray where
 k := 1
 rd := fun _ _ s vs => vs = [.string s] ∧ s.size ≤ 140737488351232
 keep := fun _ _ h => h
 wide := fun _ h => h
 len := fun h => by rw [h.1]; rfl
def PrR (d : Nat) : Reader Pr where
 k := 2
 rd := fun w B p vs => ∃ v, vs = [.string p.name, v] ∧ p.name.size ≤ 140737488351232 ∧ RSl (TmR d) w B p.terms v
 keep := fun hw hB ⟨v, e, h1, h2⟩ => ⟨v, e, h1, h2.keep hw hB⟩
 wide := fun hB ⟨v, e, h1, h2⟩ => ⟨v, e, h1, h2.wide hB⟩
 len := fun ⟨_, e, _⟩ => by rw [e]; rfl
def OpR (d : Nat) : Reader OpD where
 k := 7
 rd := fun w B o vs => ∃ ts, vs = .int .i64 o.kind :: (ts ++ [.int .i64 o.code, .int .i64 o.skip]) ∧ I64 o.kind ∧ I64 o.code ∧ I64 o.skip ∧ RTm w B d o.term ts
 keep := fun hw hB ⟨ts, e, h1, h2, h3, h⟩ => ⟨ts, e, h1, h2, h3, RTm.below hw hB h⟩
 wide := fun hB ⟨ts, e, h1, h2, h3, h⟩ => ⟨ts, e, h1, h2, h3, RTm.more hB h⟩
 len := fun ⟨ts, e, _, _, _, h⟩ => by
   obtain ⟨_, _, rfl, _⟩ := RTm.cells h
   rw [e]; rfl
def ExR (d : Nat) : Reader (List OpD) where
 k := 1
 rd := fun w B e vs => ∃ v, vs = [v] ∧ RSl (OpR d) w B e v
 keep := fun hw hB ⟨v, e, h⟩ => ⟨v, e, h.keep hw hB⟩
 wide := fun hB ⟨v, e, h⟩ => ⟨v, e, h.wide hB⟩
 len := fun ⟨_, e, _⟩ => by rw [e]; rfl
def ScR : Reader Sc where
 k := 2
 rd := fun _ _ s vs => vs = [.int .i64 s.kind, .string s.key] ∧ I64 s.kind ∧ s.key.size ≤ 140737488351232
 keep := fun _ _ h => h
 wide := fun _ h => h
 len := fun h => by rw [h.1]; rfl
def RuR (d : Nat) : Reader Ru where
 k := 5
 rd := fun w B r vs => ∃ v0 v1 v2 v3, vs = [.string r.head.name, v0, v1, v2, v3] ∧ r.head.name.size ≤ 140737488351232 ∧ RSl (TmR d) w B r.head.terms v0 ∧ RSl (PrR d) w B r.body v1 ∧ RSl (ExR d) w B r.exprs v2 ∧ RSl ScR w B r.scopes v3
 keep := fun hw hB ⟨a, b, c, d, e, h, h0, h1, h2, h3⟩ => ⟨a, b, c, d, e, h, h0.keep hw hB, h1.keep hw hB, h2.keep hw hB, h3.keep hw hB⟩
 wide := fun hB ⟨a, b, c, d, e, h, h0, h1, h2, h3⟩ => ⟨a, b, c, d, e, h, h0.wide hB, h1.wide hB, h2.wide hB, h3.wide hB⟩
 len := fun ⟨_, _, _, _, e, _⟩ => by rw [e]; rfl
end Go.Proofs.YtkdonhhbpacgmaaGreat
