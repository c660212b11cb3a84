/- viaticumref18.bind: a name and its term, put in their place. -/
import Derived.Test.YtkdonhhbpacgmaaGreatJoFits
import Derived.Test.YtkdonhhbpacgmaaGreatHeldB
import Derived.Test.YtkdonhhbpacgmaaGreatApp
import Derived.Deep.CutRange
set_option linter.unusedVariables false
set_option linter.unusedSimpArgs false
namespace Go.Proofs.YtkdonhhbpacgmaaGreat
open Go.ChangeShapes Go.WideShapes Go.ChangeAt Go.RowKit
def TmB (B0 d : Nat) : Reader Tm where
 k := 4
 rd := fun w B t vs => B0 ≤ B ∧ RTm w B0 d t vs
 keep := fun hw hB h => ⟨h.1, RTm.below hw (Nat.le_trans h.1 hB) h.2⟩
 wide := fun hB h => ⟨Nat.le_trans h.1 hB, h.2⟩
 len := fun h => by obtain ⟨_, _, rfl, _⟩ := RTm.cells h.2; rfl
theorem RL.tmB {w : World} {B d : Nat} {ts : List Tm} {A : Option Addr} (h : RL (TmR d) w B ts A) : RL (TmB B d) w B ts A := RowOf.mono h fun _ _ _ ⟨x, hx, hr⟩ => ⟨x, hx, Nat.le_refl _, hr⟩
theorem RL.tmR {w : World} {B0 B d : Nat} {ts : List Tm} {A : Option Addr} (h : RL (TmB B0 d) w B ts A) : RL (TmR d) w B ts A := RowOf.mono h fun _ _ _ ⟨x, hx, h0, hr⟩ => ⟨x, hx, RTm.more h0 hr⟩
structure BdO (base B d : Nat) (w : World) (ns : List Bytes) (ts : List Tm) (An : Option Addr) (cn : Nat) (At : Option Addr) (ct : Nat) : Prop where
 nm : OwnR StrR 9 w base 0 (.slice An ns.length cn) (ns.map mkS)
 tm : OwnR (TmR (d + 1)) 44 w base B (.slice At ts.length ct) ts
theorem BdO.nil (base B d : Nat) (w : World) : BdO base B d w [] [] none 0 none 0 := ⟨OwnR.nil _ _ _ _ _, OwnR.nil _ _ _ _ _⟩
theorem BdO.later {base B d cn ct : Nat} {w w' : World} {ns : List Bytes} {ts : List Tm} {An At : Option Addr} (h : BdO base B d w ns ts An cn At ct) (hb : Below w.heap.size w w') (hB : B ≤ w.heap.size) : BdO base B d w' ns ts An cn At ct :=
 ⟨h.nm.later hb (Nat.zero_le _), h.tm.later hb hB⟩
theorem BdO.readsB {base B d cn ct : Nat} {w : World} {ns : List Bytes} {ts : List Tm} {An At : Option Addr} (h : BdO base B d w ns ts An cn At ct) (hB : B ≤ w.heap.size) (hn : ns.length ≤ 1000000) (ht : ts.length ≤ 1000000) : RL StrR w w.heap.size (ns.map mkS) An ∧ RL (TmB B (d + 1)) w w.heap.size ts At := by
 obtain ⟨A3, c3, e3, _, _, r3⟩ := h.nm.reads (Nat.zero_le _) (by show (ns.map mkS).length * (8 * 1) ≤ _; rw [List.length_map]; omega)
 simp only [Value.slice.injEq] at e3
 obtain ⟨rfl, _, rfl⟩ := e3
 obtain ⟨cells, how, hf⟩ := h.tm
 have h5 : OwnR (TmB B (d + 1)) 44 w base w.heap.size (.slice At ts.length ct) ts := ⟨cells, how, hf.1, fun i hi => ⟨hB, hf.2 i hi⟩⟩
 obtain ⟨A4, c4, e4, _, _, r4⟩ := h5.reads (Nat.le_refl _) (by show ts.length * (8 * 4) ≤ _; omega)
 simp only [Value.slice.injEq] at e4
 obtain ⟨rfl, _, rfl⟩ := e4
 exact ⟨r3, r4⟩
theorem BdO.reads {base B d cn ct : Nat} {w : World} {ns : List Bytes} {ts : List Tm} {An At : Option Addr} (h : BdO base B d w ns ts An cn At ct) (hB : B ≤ w.heap.size) (hn : ns.length ≤ 1000000) (ht : ts.length ≤ 1000000) : RL StrR w w.heap.size (ns.map mkS) An ∧ RL (TmR (d + 1)) w w.heap.size ts At := by
 obtain ⟨A3, c3, e3, _, _, r3⟩ := h.nm.reads (Nat.zero_le _) (by show (ns.map mkS).length * (8 * 1) ≤ _; rw [List.length_map]; omega)
 simp only [Value.slice.injEq] at e3
 obtain ⟨rfl, _, rfl⟩ := e3
 obtain ⟨A4, c4, e4, _, _, r4⟩ := h.tm.reads hB (by show ts.length * (8 * 4) ≤ _; omega)
 simp only [Value.slice.injEq] at e4
 obtain ⟨rfl, _, rfl⟩ := e4
 exact ⟨r3, r4⟩
theorem OwnR.other {α β : Type} {R : Reader α} {R2 : Reader β} {e e2 : TypeId} {w w' : World} {base base2 B B2 : Nat} {v v2 : Value} {xs : List α} {ys : List β} (h : OwnR R e w base B v xs) (h2 : OwnR R2 e2 w base2 B2 v2 ys) (he : e2 ≠ e) (hg : w.grownBy w' v.ownBlock) (hb : Below base w w') (hB : B2 ≤ base) : OwnR R2 e2 w' base2 B2 v2 ys := by
 obtain ⟨cells, h2, hf⟩ := h2
 refine ⟨cells, ⟨h2.1, ?_⟩, hf.keep hb hB⟩
 rcases h2.2 with h3 | ⟨g, cap, cur, hv, hg2, hh, r⟩
 · exact .inl h3
 · have hne := h.ne (D := g) hh he
   exact .inr ⟨g, cap, cur, hv, hg2, (hg.block g (Array.getElem?_eq_some_iff.1 hh).1 (Ne.symm hne)).trans hh, r⟩
theorem OwnR.heap {α : Type} {R : Reader α} {e T : TypeId} {w w' : World} {base B k : Nat} {v : Value} {xs : List α} {cs : Array Value} (h : OwnR R e w base B v xs) (hk : w.heap[k]? = some (.cells cs T (0, 0))) (hT : T ≠ e) (hg : w.grownBy w' v.ownBlock) : w'.heap[k]? = some (.cells cs T (0, 0)) :=
 (hg.block k (Array.getElem?_eq_some_iff.1 hk).1 (Ne.symm (h.ne hk hT))).trans hk
theorem take_app {α : Type} {L ns : List α} {j : Nat} {x : α} (h : ns = L.take j) (hx : L[j]? = some x) : ns ++ [x] = L.take (j + 1) := by rw [List.take_add_one, hx, h]; rfl
theorem BdO.of {base B d cn ct j : Nat} {w : World} {ns : List Bytes} {ts : List Tm} {An At : Option Addr} {u : Bytes} {x : ByteArray} {y : Tm} (hn : OwnR StrR 9 w base 0 (.slice An (j + 1) cn) (ns.map mkS ++ [x])) (ht : OwnR (TmR (d + 1)) 44 w base B (.slice At (j + 1) ct) (ts ++ [y])) (h1 : ns.length = j) (h2 : ts.length = j) (hx : mkS u = x) : BdO base B d w (ns ++ [u]) (ts ++ [y]) An cn At ct := by
 constructor
 · rw [List.length_append, h1, List.map_append, List.map_singleton, hx]; exact hn
 · rw [List.length_append, h2]; exact ht
theorem BdO.lower {base b0 B d cn ct : Nat} {w : World} {ns : List Bytes} {ts : List Tm} {An At : Option Addr} (h : BdO base B d w ns ts An cn At ct) (hb : b0 ≤ base) : BdO b0 B d w ns ts An cn At ct := ⟨h.nm.lower hb, h.tm.lower hb⟩
theorem heap_al {w w' : World} {k : Nat} {o : Obj} (hk : w.heap[k]? = some o) (hb : Below w.heap.size w w') : w'.heap[k]? = some o := (hb.block k (Array.getElem?_eq_some_iff.1 hk).1).trans hk
set_option maxRecDepth 100000 in
set_option maxHeartbeats 8000000 in
theorem refBind_any {d B0 B cn ct : Nat} {b : Bd} {n : ByteArray} {t : Tm} {vt : List Value} {An At : Option Addr} {w : World} (hn : RL StrR w B (b.names.map mkS) An) (ht : RL (TmB B0 (d + 1)) w B b.terms At) (hvt : (TmR (d + 1)).rd w B0 t vt)
   (hok : OkN b) (h32 : b.names.length ≤ 32) (hnot : bs n ∉ b.names) (hn0 : n.size ≤ 140737488351232) (hB0 : B0 ≤ B) (hB : B ≤ w.heap.size) :
   Calls Tryz.prog 27 #[.agg (bdV An b.names.length cn At b.terms.length ct), .string n, .agg vt.toArray] w fun z w' => (∃ An cn At ct, z = .returned (.agg #[.slice An (insB b (bs n) t).names.length cn, .slice At (insB b (bs n) t).terms.length ct]) ∧ BdO w.heap.size B0 d w' (insB b (bs n) t).names (insB b (bs n) t).terms An cn At ct) ∧ Below w.heap.size w w' := by
 have HN := Lib.hid hn
 have HT := Lib.hid ht
 have HX := Lib.hid hvt
 have HOK := Lib.hid hok
 have HNO := Lib.hid hnot
 have ht32 : b.terms.length ≤ 32 := by rw [← hok.len]; exact h32
 obtain ⟨Ax, cx, rfl, _⟩ := RTm.cells (show RTm w B0 (d + 1) t vt from hvt)
 clear hn ht hvt hok hnot
 obtain ⟨i0, hi0, hz0, hz1, hz2⟩ := info_parts infoStrJ
 obtain ⟨k0, hk0, hy0, hy1, hy2⟩ := info_parts infoTm
 unfold bdV
 go_enter Tryz.func27, Tryz.ntmps27
 go_upto_region 3 with fail
 generalize hWW : World.alloc _ _ = w1
 obtain ⟨hb1, hz⟩ := al4 hWW
 have HBB1 := Lib.hid (n41 hWW)
 have HBX1 := Lib.hid (n42 hWW)
 have HBR1 := Lib.hid (n43 hWW)
 have HBA1 := Lib.hid (n44 hWW)
 have HB1 := Lib.hid hb1
 have hsz1 := hb1.size
 have hal := HBA1.out.lt
 clear hWW hb1
 have hB1 := Nat.le_trans hB hsz1
 have hB01 := Nat.le_trans hB0 hB1
 have k_b := HBB1.out.cell
 have l_b := HBB1.out.lt
 go_upto_region 4 with fail
 clear k_b l_b
 obtain ⟨p, hp⟩ : ∃ p, p = posL b.names (bs n) := ⟨_, rfl⟩
 obtain ⟨F, hF⟩ : ∃ F, F = putL b.names p (bs n) := ⟨_, rfl⟩
 obtain ⟨G, hG⟩ : ∃ G, G = putL b.terms p t := ⟨_, rfl⟩
 have hpl : p ≤ b.names.length := hp ▸ posL_le
 have HFG : Hid (F = putL b.names p (bs n) ∧ G = putL b.terms p t ∧ p = posL b.names (bs n)) := Lib.hid ⟨hF, hG, hp⟩
 clear hF hG hp
 go_loopw [8, 14] (fun q i wr => ∃ (k j : Nat) (qb : Bool) (ns : List Bytes) (ts : List Tm) (A1 : Option Addr) (c1 : Nat) (A2 : Option Addr) (c2 : Nat), k ≤ b.names.length ∧ i = .int .i64 k ∧ q = .bool qb ∧ (if qb then p < k ∧ j = k + 1 else k ≤ p ∧ j = k) ∧ Hid (ns = F.take j ∧ ts = G.take j) ∧ ns.length = j ∧ ts.length = j ∧ Hid (Below w.heap.size w wr) ∧ Hid (w1.heap.size ≤ wr.heap.size) ∧ Hid (Blk wr w.heap.size #[.slice An b.names.length cn, .slice At b.terms.length ct]) ∧ Hid (Blk wr (w.heap.size + 1) #[.int .i64 t.kind, .int .i64 t.n, .string t.s, .slice Ax t.l.length cx]) ∧ Hid (Blk wr (w.heap.size + 1 + 1) #[.slice none 0 0, .slice none 0 0]) ∧ Hid (Blk wr (w.heap.size + 1 + 1 + 1) #[.slice A1 j c1, .slice A2 j c2]) ∧ Hid (BdO w1.heap.size B0 d wr ns ts A1 c1 A2 c2)) (fun _ i _ => b.names.length - (intOf i).toNat)
 case atStart => exact ⟨0, 0, false, [], [], none, 0, none, 0, Nat.zero_le _, rfl, rfl, ⟨Nat.zero_le _, rfl⟩, Lib.hid ⟨rfl, rfl⟩, rfl, rfl, HB1, Lib.hid (Nat.le_refl _), HBB1, HBX1, HBR1, HBA1, Lib.hid (BdO.nil _ _ _ _)⟩
 case round =>
   obtain ⟨k, j, qb, ns, ts, A1, c1, A2, c2, hk, rfl, rfl, hq, HNT, hj1, hj2, HBw, HZw, HBBw, HBXw, HBRw, HBAw, HOw⟩ := hrel
   have hBr : B ≤ wr.heap.size := Nat.le_trans hB HBw.out.size
   by_cases hlt : k < b.names.length
   · have hlt2 : k < b.terms.length := by rw [← HOK.out.len]; exact hlt
     obtain ⟨bn_, offn, rfl, hobn, hcn⟩ := strs_at (HN.out.keep HBw.out hB) (Below.refl _ _) hBr (by omega)
     have c0 := hcn k hlt
     clear hcn
     go_upto_region 6 with fail
     clear c0
     go_cut [25] from 15 to 54 (fun c wx => ∃ X : Bool, c = .bool X ∧ Hid (X = true ↔ qb = false ∧ k = p) ∧ wx = wr)
     case first =>
       cases qb
       · simp only [Bool.false_eq_true, if_false] at hq
         by_cases hkp : k = p
         · have e1 : Op.bytesLess n.toList (mkS b.names[k]).toList = true := (less_iff _ _).2 (by
             rw [bs_mkS]
             refine bytes_tri (posL_after HOK.out.rise hlt (by rw [← HFG.out.2.2, hkp]; exact Nat.le_refl _)) (fun e => HNO.out (by rw [← e]; exact List.getElem_mem hlt)))
           have HKP := Lib.hid hkp
           clear hkp
           go_wp2_with fail
           go_meet
           exact ⟨_, rfl, Lib.hid (by simp [e1, HKP.out]), rfl⟩
         · have e1 : Op.bytesLess n.toList (mkS b.names[k]).toList = false := Bool.eq_false_iff.2 fun h => by
             have h1 := (less_iff _ _).1 h
             rw [bs_mkS] at h1
             exact List.lt_asymm h1 (posL_before hlt (by rw [← HFG.out.2.2]; omega))
           have HKP := Lib.hid hkp
           clear hkp
           go_wp2_with fail
           go_meet
           exact ⟨_, rfl, Lib.hid (by simp [e1, HKP.out]), rfl⟩
       · go_wp2_with fail
         go_meet
         exact ⟨_, rfl, Lib.hid (by simp), rfl⟩
     case rest =>
       obtain ⟨X, rfl, HX1, rfl⟩ := hcut
       go_upto_if 25 with fail
       go_cut [8] from 15 to 54 (fun q wx => ∃ (j' : Nat) (qb' : Bool) (ns' : List Bytes) (ts' : List Tm) (A1' : Option Addr) (c1' : Nat) (A2' : Option Addr) (c2' : Nat), q = .bool qb' ∧ (if qb' then p ≤ k ∧ j' = k + 1 else k < p ∧ j' = k) ∧ Hid (ns' = F.take j' ∧ ts' = G.take j') ∧ ns'.length = j' ∧ ts'.length = j' ∧ Hid (Below w.heap.size w wx) ∧ Hid (w1.heap.size ≤ wx.heap.size) ∧ Hid (Blk wx w.heap.size #[.slice (some ⟨bn_, offn, none⟩) b.names.length cn, .slice At b.terms.length ct]) ∧ Hid (Blk wx (w.heap.size + 1) #[.int .i64 t.kind, .int .i64 t.n, .string t.s, .slice Ax t.l.length cx]) ∧ Hid (Blk wx (w.heap.size + 1 + 1) #[.slice none 0 0, .slice none 0 0]) ∧ Hid (Blk wx (w.heap.size + 1 + 1 + 1) #[.slice A1' j' c1', .slice A2' j' c2']) ∧ Hid (BdO w1.heap.size B0 d wx ns' ts' A1' c1' A2' c2'))
       case first =>
         cases X
         rotate_left
         · obtain ⟨rfl, hkp⟩ := HX1.out.1 rfl
           simp only [Bool.false_eq_true, if_false] at hq
           have HKP := Lib.hid hkp
           have HQ := Lib.hid hq
           have hj33 : j ≤ 33 := by omega
           clear hkp hq
           go_upto_region 7 with fail
           have HSL : Hid (∀ {w' : World}, Below w1.heap.size wc w' → (w'.cell? ⟨w.heap.size + 1 + 1 + 1, 0, none⟩ = some (.slice A1 j c1) ∧ w'.cell? ⟨w.heap.size + 1 + 1 + 1, 1, none⟩ = some (.slice A2 j c2) ∧ w'.cell? ⟨w.heap.size + 1, 0, none⟩ = some (.int .i64 t.kind) ∧ w'.cell? ⟨w.heap.size + 1, 1, none⟩ = some (.int .i64 t.n) ∧ w'.cell? ⟨w.heap.size + 1, 2, none⟩ = some (.string t.s) ∧ w'.cell? ⟨w.heap.size + 1, 3, none⟩ = some (.slice Ax t.l.length cx))) := Lib.hid (fun hb => have h := (HBAw.out.keep hb hal).cell; have h2 := (HBXw.out.keep hb (by omega)).cell; ⟨h 0, h 1, h2 0, h2 1, h2 2, h2 3⟩)
           refine wp_region_uptoB (fun w' => w'.cell? ⟨w.heap.size + 1 + 1 + 1, 0, none⟩ = some (.slice A1 j c1) ∧ w'.cell? ⟨w.heap.size + 1 + 1 + 1, 1, none⟩ = some (.slice A2 j c2) ∧ w'.cell? ⟨w.heap.size + 1, 0, none⟩ = some (.int .i64 t.kind) ∧ w'.cell? ⟨w.heap.size + 1, 1, none⟩ = some (.int .i64 t.n) ∧ w'.cell? ⟨w.heap.size + 1, 2, none⟩ = some (.string t.s) ∧ w'.cell? ⟨w.heap.size + 1, 3, none⟩ = some (.slice Ax t.l.length cx)) [11, 13] (by kernel_rfl) (HSL.out ((Below.refl w1.heap.size wc).drew)) ?_
           refine uptoB_take (i := 0) (v := ?v1_) (by simp only [List.getElem?_toArray, List.getElem?_cons_succ, List.getElem?_cons_zero]; rfl) (by kernel_rfl) (by kernel_rfl) (by kernel_rfl) (by kernel_rfl) ?hq1_ ?hw1_ ?hy1_ ?rest1_
           case hq1_ => exact fun _ _ _ h => h
           case hw1_ => rfl
           case hy1_ => (intro w' hS'; (try dsimp only at hS'); go_simp; (try with_reducible rfl))
           (try simp only [Act.put, List.setIfInBounds_toArray, List.set_cons_zero, List.set_cons_succ])
           refine uptoB_take (i := 1) (v := ?v2_) (by simp only [List.getElem?_toArray, List.getElem?_cons_succ, List.getElem?_cons_zero]; rfl) (by kernel_rfl) (by kernel_rfl) (by kernel_rfl) (by kernel_rfl) ?hq2_ ?hw2_ ?hy2_ ?rest2_
           case hq2_ => exact fun _ _ _ h => h
           case hw2_ => rfl
           case hy2_ => (intro w' hS'; (try dsimp only at hS'); go_simp; (try with_reducible rfl))
           (try simp only [Act.put, List.setIfInBounds_toArray, List.set_cons_zero, List.set_cons_succ])
           refine uptoB_take (i := 2) (v := ?v3_) (by simp only [List.getElem?_toArray, List.getElem?_cons_succ, List.getElem?_cons_zero]; rfl) (by kernel_rfl) (by kernel_rfl) (by kernel_rfl) (by kernel_rfl) ?hq3_ ?hw3_ ?hy3_ ?rest3_
           case hq3_ => exact fun _ _ _ h => h
           case hw3_ => rfl
           case hy3_ => (intro w' hS'; (try dsimp only at hS'); go_simp; (try with_reducible rfl))
           (try simp only [Act.put, List.setIfInBounds_toArray, List.set_cons_zero, List.set_cons_succ])
           refine uptoB_take (i := 5) (v := ?v4_) (by simp only [List.getElem?_toArray, List.getElem?_cons_succ, List.getElem?_cons_zero]; rfl) (by kernel_rfl) (by kernel_rfl) (by kernel_rfl) (by kernel_rfl) ?hq4_ ?hw4_ ?hy4_ ?rest4_
           case hq4_ => exact fun _ _ _ h => h
           case hw4_ => rfl
           case hy4_ => (intro w' hS'; (try dsimp only at hS'); go_simp; (try with_reducible rfl))
           (try simp only [Act.put, List.setIfInBounds_toArray, List.set_cons_zero, List.set_cons_succ])
           refine uptoB_take (i := 6) (v := ?v5_) (by simp only [List.getElem?_toArray, List.getElem?_cons_succ, List.getElem?_cons_zero]; rfl) (by kernel_rfl) (by kernel_rfl) (by kernel_rfl) (by kernel_rfl) ?hq5_ ?hw5_ ?hy5_ ?rest5_
           case hq5_ => exact fun _ _ _ h => h
           case hw5_ => rfl
           case hy5_ => (intro w' hS'; (try dsimp only at hS'); go_simp; (try with_reducible rfl))
           (try simp only [Act.put, List.setIfInBounds_toArray, List.set_cons_zero, List.set_cons_succ])
           refine uptoB_take (i := 7) (v := ?v6_) (by simp only [List.getElem?_toArray, List.getElem?_cons_succ, List.getElem?_cons_zero]; rfl) (by kernel_rfl) (by kernel_rfl) (by kernel_rfl) (by kernel_rfl) ?hq6_ ?hw6_ ?hy6_ ?rest6_
           case hq6_ => exact fun _ _ _ h => h
           case hw6_ => rfl
           case hy6_ => (intro w' hS'; (try dsimp only at hS'); go_simp; (try with_reducible rfl))
           (try simp only [Act.put, List.setIfInBounds_toArray, List.set_cons_zero, List.set_cons_succ])
           generalize hD : World.drew wc = va0
           have HU_va0 : Hid (Below w1.heap.size wc va0) := Lib.hid (hD ▸ (Below.refl w1.heap.size wc).drew)
           have HSz_va0 : Hid (w1.heap.size ≤ va0.heap.size) := Lib.hid (by have := HU_va0.out.size; have := HZw.out; omega)
           have HON_va0 : Hid (OwnR StrR 9 va0 w1.heap.size 0 (.slice A1 j c1) (ns.map mkS)) := Lib.hid (by subst hD; have h := HOw.out.nm.later ((Below.refl wc.heap.size wc).drew) (Nat.zero_le _); rwa [hj1] at h)
           have HOT_va0 : Hid (OwnR (TmR (d + 1)) 44 va0 w1.heap.size B0 (.slice A2 j c2) ts) := Lib.hid (by subst hD; have h := HOw.out.tm.later ((Below.refl wc.heap.size wc).drew) (Nat.le_trans hB0 hBr); rwa [hj2] at h)
           clear hD
           refine uptoB_ready (rs := [3, 8]) (by kernel_rfl) rfl ?_
           refine AllUptoB.cons (by simp only [List.getElem?_toArray, List.getElem?_cons_succ, List.getElem?_cons_zero]; rfl) (fun K hK => ?_) (AllUptoB.cons (by simp only [List.getElem?_toArray, List.getElem?_cons_succ, List.getElem?_cons_zero]; rfl) (fun K hK => ?_) AllUptoB.nil)
           ·
            go_simp
            generalize hWW : World.alloc _ _ = va1
            obtain ⟨hb, hz⟩ := al1 hWW
            have HU_va1 : Hid (Below w1.heap.size wc va1) := Lib.hid (HU_va0.out.trans (hb.mono HSz_va0.out))
            have HSz_va1 : Hid (w1.heap.size ≤ va1.heap.size) := Lib.hid (Nat.le_trans HSz_va0.out hb.size)
            have HP1_va1 : Hid (va1.heap[va0.heap.size]? = some (.cells #[.string n] 9 (0, 0))) := Lib.hid (hWW ▸ heap_alloc_new _ _)
            have HON_va1 := Lib.hid (HON_va0.out.later hb (Nat.zero_le _))
            have HOT_va1 := Lib.hid (HOT_va0.out.later hb (Nat.le_trans (Nat.le_trans hB0 (Nat.le_trans hB hsz1)) HSz_va0.out))
            clear hWW hb hz
            refine hK.out _ _ (fun _ => HSL.out HU_va1.out) ?_
            clear hK
            (try simp only [Act.put, List.setIfInBounds_toArray, List.set_cons_zero, List.set_cons_succ])
            refine uptoB_ready (rs := [4, 8]) (by kernel_rfl) rfl ?_
            refine AllUptoB.cons (by simp only [List.getElem?_toArray, List.getElem?_cons_succ, List.getElem?_cons_zero]; rfl) (fun K hK => ?_) (AllUptoB.cons (by simp only [List.getElem?_toArray, List.getElem?_cons_succ, List.getElem?_cons_zero]; rfl) (fun K hK => ?_) AllUptoB.nil)
            ·
             refine step_append_FB (R := StrR) (e := 9) rfl (.tmp 27) (.tmp 29) 25 rfl (bytes := 16) Tryz.underlying25 hi0 hz0 hz1 hz2 rfl (show 0 < 1 by omega) single_strJ rfl (xs := ns.map mkS) (base := w1.heap.size) (B := 0) HON_va1.out rfl (ys := [n]) (src_hp HP1_va1.out (Flat.one ⟨rfl, hn0⟩)) rfl (Nat.zero_le _) (by rw [List.length_map, hj1]; simp only [List.length_cons, List.length_nil]; omega) (by omega) HSz_va1.out ?_
             intro v_ va2 hown hb hg hf
             obtain ⟨A3, c3, rfl⟩ := hown.form
             rw [show (ns.map mkS ++ [n]).length = j + 1 by simp [hj1]] at hown ⊢
             have HU_va2 : Hid (Below w1.heap.size wc va2) := Lib.hid (HU_va1.out.trans hb)
             have HSz_va2 : Hid (w1.heap.size ≤ va2.heap.size) := Lib.hid (Nat.le_trans HSz_va1.out hb.size)
             have HON_va2 := Lib.hid hown
             have HOT_va2 := Lib.hid (HON_va1.out.other HOT_va1.out (by decide) hg hb hB01)
             clear hown hb hg hf
             refine hK.out _ _ (fun _ => HSL.out HU_va2.out) ?_
             clear hK
             (try simp only [Act.put, List.setIfInBounds_toArray, List.set_cons_zero, List.set_cons_succ])
             refine uptoB_take (i := 10) (v := ?v7_) (by simp only [List.getElem?_toArray, List.getElem?_cons_succ, List.getElem?_cons_zero]; rfl) (by kernel_rfl) (by kernel_rfl) (by kernel_rfl) (by kernel_rfl) ?hq7_ ?hw7_ ?hy7_ ?rest7_
             case hq7_ => exact fun _ _ _ h => h
             case hw7_ => rfl
             case hy7_ => (intro w' hS'; (try dsimp only at hS'); go_simp; (try with_reducible rfl))
             (try simp only [Act.put, List.setIfInBounds_toArray, List.set_cons_zero, List.set_cons_succ])
             refine uptoB_ready (rs := [8]) (by kernel_rfl) rfl ?_
             refine AllUptoB.cons (by simp only [List.getElem?_toArray, List.getElem?_cons_succ, List.getElem?_cons_zero]; rfl) (fun K hK => ?_) AllUptoB.nil
             ·
              go_simp
              generalize hWW : World.alloc _ _ = va3
              obtain ⟨hb, hz⟩ := al1 hWW
              have HU_va3 : Hid (Below w1.heap.size wc va3) := Lib.hid (HU_va2.out.trans (hb.mono HSz_va2.out))
              have HSz_va3 : Hid (w1.heap.size ≤ va3.heap.size) := Lib.hid (Nat.le_trans HSz_va2.out hb.size)
              have HP2_va3 : Hid (va3.heap[va2.heap.size]? = some (.cells #[.int .i64 t.kind, .int .i64 t.n, .string t.s, .slice Ax t.l.length cx] 44 (0, 0))) := Lib.hid (hWW ▸ heap_alloc_new _ _)
              have HON_va3 := Lib.hid (HON_va2.out.later hb (Nat.zero_le _))
              have HOT_va3 := Lib.hid (HOT_va2.out.later hb (Nat.le_trans (Nat.le_trans hB0 (Nat.le_trans hB hsz1)) HSz_va2.out))
              clear hWW hb hz
              refine hK.out _ _ (fun _ => HSL.out HU_va3.out) ?_
              clear hK
              (try simp only [Act.put, List.setIfInBounds_toArray, List.set_cons_zero, List.set_cons_succ])
              refine uptoB_ready (rs := [9]) (by kernel_rfl) rfl ?_
              refine AllUptoB.cons (by simp only [List.getElem?_toArray, List.getElem?_cons_succ, List.getElem?_cons_zero]; rfl) (fun K hK => ?_) AllUptoB.nil
              ·
               refine step_append_FB (R := TmR (d + 1)) (e := 44) rfl (.tmp 32) (.tmp 34) 22 rfl (bytes := 56) Tryz.underlying22 hk0 hy0 hy1 hy2 rfl (show 0 < 4 by omega) (single_tm (d + 1)) rfl (xs := ts) (base := w1.heap.size) (B := B0) HOT_va3.out rfl (ys := [t]) (src_hp HP2_va3.out (Flat.one ((TmR (d + 1)).keep (HBw.out.trans (HU_va3.out.mono hsz1)) (Nat.le_trans hB0 hB) HX.out))) rfl hB01 (by rw [hj2]; simp only [List.length_cons, List.length_nil]; omega) (by omega) HSz_va3.out ?_
               intro v_ va4 hown hb hg hf
               obtain ⟨A4, c4, rfl⟩ := hown.form
               rw [show (ts ++ [t]).length = j + 1 by simp [hj2]] at hown ⊢
               have HU_va4 : Hid (Below w1.heap.size wc va4) := Lib.hid (HU_va3.out.trans hb)
               have HSz_va4 : Hid (w1.heap.size ≤ va4.heap.size) := Lib.hid (Nat.le_trans HSz_va3.out hb.size)
               have HOT_va4 := Lib.hid hown
               have HON_va4 := Lib.hid (HOT_va3.out.other HON_va3.out (by decide) hg hb (Nat.zero_le _))
               clear hown hb hg hf
               refine hK.out _ _ (fun _ => HSL.out HU_va4.out) ?_
               clear hK
               (try simp only [Act.put, List.setIfInBounds_toArray, List.set_cons_zero, List.set_cons_succ])
               have k_a := ((HBAw.out.keep HU_va4.out hal).cell)
               have l_a := ((HBAw.out.keep HU_va4.out hal).lt)
               have f_a := ((HBAw.out.keep HU_va4.out hal).free)
               refine uptoB_ready (rs := [11]) (by kernel_rfl) rfl ?_
               refine AllUptoB.cons (by simp only [List.getElem?_toArray, List.getElem?_cons_succ, List.getElem?_cons_zero]; rfl) (fun K hK => ?_) AllUptoB.nil
               go_simp
               refine hK.out _ _ (SB.done 11 (by kernel_rfl) (by kernel_rfl)) ?_
               clear hK
               (try simp only [Act.put, List.setIfInBounds_toArray, List.set_cons_zero, List.set_cons_succ])
               refine uptoB_take0 (i := 12) (v := ?v8_) (by simp only [List.getElem?_toArray, List.getElem?_cons_succ, List.getElem?_cons_zero]; rfl) (by kernel_rfl) ?hw8_ (by kernel_rfl) ?hy8_ ?rest8_
               case hw8_ => rfl
               case hy8_ => (intro w'; go_simp; (try with_reducible rfl))
               (try simp only [Act.put, List.setIfInBounds_toArray, List.set_cons_zero, List.set_cons_succ])
               refine uptoB_ready (rs := [13]) (by kernel_rfl) rfl ?_
               refine AllUptoB.cons (by simp only [List.getElem?_toArray, List.getElem?_cons_succ, List.getElem?_cons_zero]; rfl) (fun K hK => ?_) AllUptoB.nil
               go_simp
               refine hK.out _ _ (SB.done 13 (by kernel_rfl) (by kernel_rfl)) ?_
               clear hK
               (try simp only [Act.put, List.setIfInBounds_toArray, List.set_cons_zero, List.set_cons_succ])
               refine uptoB_take0 (i := 14) (v := ?v9_) (by simp only [List.getElem?_toArray, List.getElem?_cons_succ, List.getElem?_cons_zero]; rfl) (by kernel_rfl) ?hw9_ (by kernel_rfl) ?hy9_ ?rest9_
               case hw9_ => rfl
               case hy9_ => (intro w'; go_simp; (try with_reducible rfl))
               (try simp only [Act.put, List.setIfInBounds_toArray, List.set_cons_zero, List.set_cons_succ])
               refine uptoB_done (by kernel_rfl) ?_
               have HON : Hid (OwnR StrR 9 ((va4.setCell ⟨w.heap.size + 1 + 1 + 1, 0, none⟩ (.slice A3 (j + 1) c3)).setCell ⟨w.heap.size + 1 + 1 + 1, 1, none⟩ (.slice A4 (j + 1) c4)) w1.heap.size 0 (.slice A3 (j + 1) c3) (ns.map mkS ++ [n])) := Lib.hid ((HON_va4.out.far (c := w.heap.size + 1 + 1 + 1) (i := 0) hal (Nat.zero_le _) _).far (c := w.heap.size + 1 + 1 + 1) (i := 1) hal (Nat.zero_le _) _)
               have HOT : Hid (OwnR (TmR (d + 1)) 44 ((va4.setCell ⟨w.heap.size + 1 + 1 + 1, 0, none⟩ (.slice A3 (j + 1) c3)).setCell ⟨w.heap.size + 1 + 1 + 1, 1, none⟩ (.slice A4 (j + 1) c4)) w1.heap.size B0 (.slice A4 (j + 1) c4) (ts ++ [t])) := Lib.hid ((HOT_va4.out.far (c := w.heap.size + 1 + 1 + 1) (i := 0) hal (by omega) _).far (c := w.heap.size + 1 + 1 + 1) (i := 1) hal (by omega) _)
               have HBAf := Lib.hid (put2b (HBAw.out.keep HU_va4.out hal) (.slice A3 (j + 1) c3) (.slice A4 (j + 1) c4))
               have HUf : Hid (Below (w.heap.size + 1 + 1 + 1) wc ((va4.setCell ⟨w.heap.size + 1 + 1 + 1, 0, none⟩ (.slice A3 (j + 1) c3)).setCell ⟨w.heap.size + 1 + 1 + 1, 1, none⟩ (.slice A4 (j + 1) c4))) := Lib.hid (((HU_va4.out.mono (Nat.le_of_lt hal)).setCell (p := ⟨w.heap.size + 1 + 1 + 1, 0, none⟩) (Nat.le_refl _) _).setCell (p := ⟨w.heap.size + 1 + 1 + 1, 1, none⟩) (Nat.le_refl _) _)
               have HSf : Hid (w1.heap.size ≤ ((va4.setCell ⟨w.heap.size + 1 + 1 + 1, 0, none⟩ (.slice A3 (j + 1) c3)).setCell ⟨w.heap.size + 1 + 1 + 1, 1, none⟩ (.slice A4 (j + 1) c4)).heap.size) := Lib.hid (by rw [World.size_setCell, World.size_setCell]; exact HSz_va4.out)
               clear f_a k_a l_a
               generalize (va4.setCell ⟨w.heap.size + 1 + 1 + 1, 0, none⟩ (.slice A3 (j + 1) c3)).setCell ⟨w.heap.size + 1 + 1 + 1, 1, none⟩ (.slice A4 (j + 1) c4) = uf at *
               go_wp2_with fail
               go_meet
               have hkp := HKP.out
               have hq := HQ.out
               exact ⟨j + 1, true, ns ++ [bs n], ts ++ [t], A3, c3, A4, c4, rfl, ⟨by omega, by omega⟩, Lib.hid ⟨take_app HNT.out.1 (by rw [HFG.out.1, show j = p by omega]; exact putL_at hpl), take_app HNT.out.2 (by rw [HFG.out.2.1, show j = p by omega]; exact putL_at (by rw [← HOK.out.len]; exact hpl))⟩, by simp [hj1], by simp [hj2], Lib.hid (HBw.out.trans (HUf.out.mono (by omega))), HSf, Lib.hid (HBBw.out.keep HUf.out (by omega)), Lib.hid (HBXw.out.keep HUf.out (by omega)), Lib.hid (HBRw.out.keep HUf.out (by omega)), HBAf, Lib.hid (BdO.of HON.out HOT.out hj1 hj2 (mkS_bs n))⟩
            ·
             go_simp
             generalize hWW : World.alloc _ _ = va5
             obtain ⟨hb, hz⟩ := al1 hWW
             have HU_va5 : Hid (Below w1.heap.size wc va5) := Lib.hid (HU_va1.out.trans (hb.mono HSz_va1.out))
             have HSz_va5 : Hid (w1.heap.size ≤ va5.heap.size) := Lib.hid (Nat.le_trans HSz_va1.out hb.size)
             have HP2_va5 : Hid (va5.heap[va1.heap.size]? = some (.cells #[.int .i64 t.kind, .int .i64 t.n, .string t.s, .slice Ax t.l.length cx] 44 (0, 0))) := Lib.hid (hWW ▸ heap_alloc_new _ _)
             have HON_va5 := Lib.hid (HON_va1.out.later hb (Nat.zero_le _))
             have HOT_va5 := Lib.hid (HOT_va1.out.later hb (Nat.le_trans (Nat.le_trans hB0 (Nat.le_trans hB hsz1)) HSz_va1.out))
             have HP1_va5 := Lib.hid (heap_al HP1_va1.out hb)
             clear hWW hb hz
             refine hK.out _ _ (fun _ => HSL.out HU_va5.out) ?_
             clear hK
             (try simp only [Act.put, List.setIfInBounds_toArray, List.set_cons_zero, List.set_cons_succ])
             refine uptoB_ready (rs := [4]) (by kernel_rfl) rfl ?_
             refine AllUptoB.cons (by simp only [List.getElem?_toArray, List.getElem?_cons_succ, List.getElem?_cons_zero]; rfl) (fun K hK => ?_) AllUptoB.nil
             ·
              refine step_append_FB (R := StrR) (e := 9) rfl (.tmp 27) (.tmp 29) 25 rfl (bytes := 16) Tryz.underlying25 hi0 hz0 hz1 hz2 rfl (show 0 < 1 by omega) single_strJ rfl (xs := ns.map mkS) (base := w1.heap.size) (B := 0) HON_va5.out rfl (ys := [n]) (src_hp HP1_va5.out (Flat.one ⟨rfl, hn0⟩)) rfl (Nat.zero_le _) (by rw [List.length_map, hj1]; simp only [List.length_cons, List.length_nil]; omega) (by omega) HSz_va5.out ?_
              intro v_ va6 hown hb hg hf
              obtain ⟨A3, c3, rfl⟩ := hown.form
              rw [show (ns.map mkS ++ [n]).length = j + 1 by simp [hj1]] at hown ⊢
              have HU_va6 : Hid (Below w1.heap.size wc va6) := Lib.hid (HU_va5.out.trans hb)
              have HSz_va6 : Hid (w1.heap.size ≤ va6.heap.size) := Lib.hid (Nat.le_trans HSz_va5.out hb.size)
              have HON_va6 := Lib.hid hown
              have HOT_va6 := Lib.hid (HON_va5.out.other HOT_va5.out (by decide) hg hb hB01)
              have HP2_va6 := Lib.hid (HON_va5.out.heap HP2_va5.out (by decide) hg)
              clear hown hb hg hf
              refine hK.out _ _ (fun _ => HSL.out HU_va6.out) ?_
              clear hK
              (try simp only [Act.put, List.setIfInBounds_toArray, List.set_cons_zero, List.set_cons_succ])
              refine uptoB_take (i := 10) (v := ?v10_) (by simp only [List.getElem?_toArray, List.getElem?_cons_succ, List.getElem?_cons_zero]; rfl) (by kernel_rfl) (by kernel_rfl) (by kernel_rfl) (by kernel_rfl) ?hq10_ ?hw10_ ?hy10_ ?rest10_
              case hq10_ => exact fun _ _ _ h => h
              case hw10_ => rfl
              case hy10_ => (intro w' hS'; (try dsimp only at hS'); go_simp; (try with_reducible rfl))
              (try simp only [Act.put, List.setIfInBounds_toArray, List.set_cons_zero, List.set_cons_succ])
              refine uptoB_ready (rs := [9]) (by kernel_rfl) rfl ?_
              refine AllUptoB.cons (by simp only [List.getElem?_toArray, List.getElem?_cons_succ, List.getElem?_cons_zero]; rfl) (fun K hK => ?_) AllUptoB.nil
              ·
               refine step_append_FB (R := TmR (d + 1)) (e := 44) rfl (.tmp 32) (.tmp 34) 22 rfl (bytes := 56) Tryz.underlying22 hk0 hy0 hy1 hy2 rfl (show 0 < 4 by omega) (single_tm (d + 1)) rfl (xs := ts) (base := w1.heap.size) (B := B0) HOT_va6.out rfl (ys := [t]) (src_hp HP2_va6.out (Flat.one ((TmR (d + 1)).keep (HBw.out.trans (HU_va6.out.mono hsz1)) (Nat.le_trans hB0 hB) HX.out))) rfl hB01 (by rw [hj2]; simp only [List.length_cons, List.length_nil]; omega) (by omega) HSz_va6.out ?_
               intro v_ va7 hown hb hg hf
               obtain ⟨A4, c4, rfl⟩ := hown.form
               rw [show (ts ++ [t]).length = j + 1 by simp [hj2]] at hown ⊢
               have HU_va7 : Hid (Below w1.heap.size wc va7) := Lib.hid (HU_va6.out.trans hb)
               have HSz_va7 : Hid (w1.heap.size ≤ va7.heap.size) := Lib.hid (Nat.le_trans HSz_va6.out hb.size)
               have HOT_va7 := Lib.hid hown
               have HON_va7 := Lib.hid (HOT_va6.out.other HON_va6.out (by decide) hg hb (Nat.zero_le _))
               clear hown hb hg hf
               refine hK.out _ _ (fun _ => HSL.out HU_va7.out) ?_
               clear hK
               (try simp only [Act.put, List.setIfInBounds_toArray, List.set_cons_zero, List.set_cons_succ])
               have k_a := ((HBAw.out.keep HU_va7.out hal).cell)
               have l_a := ((HBAw.out.keep HU_va7.out hal).lt)
               have f_a := ((HBAw.out.keep HU_va7.out hal).free)
               refine uptoB_ready (rs := [11]) (by kernel_rfl) rfl ?_
               refine AllUptoB.cons (by simp only [List.getElem?_toArray, List.getElem?_cons_succ, List.getElem?_cons_zero]; rfl) (fun K hK => ?_) AllUptoB.nil
               go_simp
               refine hK.out _ _ (SB.done 11 (by kernel_rfl) (by kernel_rfl)) ?_
               clear hK
               (try simp only [Act.put, List.setIfInBounds_toArray, List.set_cons_zero, List.set_cons_succ])
               refine uptoB_take0 (i := 12) (v := ?v11_) (by simp only [List.getElem?_toArray, List.getElem?_cons_succ, List.getElem?_cons_zero]; rfl) (by kernel_rfl) ?hw11_ (by kernel_rfl) ?hy11_ ?rest11_
               case hw11_ => rfl
               case hy11_ => (intro w'; go_simp; (try with_reducible rfl))
               (try simp only [Act.put, List.setIfInBounds_toArray, List.set_cons_zero, List.set_cons_succ])
               refine uptoB_ready (rs := [13]) (by kernel_rfl) rfl ?_
               refine AllUptoB.cons (by simp only [List.getElem?_toArray, List.getElem?_cons_succ, List.getElem?_cons_zero]; rfl) (fun K hK => ?_) AllUptoB.nil
               go_simp
               refine hK.out _ _ (SB.done 13 (by kernel_rfl) (by kernel_rfl)) ?_
               clear hK
               (try simp only [Act.put, List.setIfInBounds_toArray, List.set_cons_zero, List.set_cons_succ])
               refine uptoB_take0 (i := 14) (v := ?v12_) (by simp only [List.getElem?_toArray, List.getElem?_cons_succ, List.getElem?_cons_zero]; rfl) (by kernel_rfl) ?hw12_ (by kernel_rfl) ?hy12_ ?rest12_
               case hw12_ => rfl
               case hy12_ => (intro w'; go_simp; (try with_reducible rfl))
               (try simp only [Act.put, List.setIfInBounds_toArray, List.set_cons_zero, List.set_cons_succ])
               refine uptoB_done (by kernel_rfl) ?_
               have HON : Hid (OwnR StrR 9 ((va7.setCell ⟨w.heap.size + 1 + 1 + 1, 0, none⟩ (.slice A3 (j + 1) c3)).setCell ⟨w.heap.size + 1 + 1 + 1, 1, none⟩ (.slice A4 (j + 1) c4)) w1.heap.size 0 (.slice A3 (j + 1) c3) (ns.map mkS ++ [n])) := Lib.hid ((HON_va7.out.far (c := w.heap.size + 1 + 1 + 1) (i := 0) hal (Nat.zero_le _) _).far (c := w.heap.size + 1 + 1 + 1) (i := 1) hal (Nat.zero_le _) _)
               have HOT : Hid (OwnR (TmR (d + 1)) 44 ((va7.setCell ⟨w.heap.size + 1 + 1 + 1, 0, none⟩ (.slice A3 (j + 1) c3)).setCell ⟨w.heap.size + 1 + 1 + 1, 1, none⟩ (.slice A4 (j + 1) c4)) w1.heap.size B0 (.slice A4 (j + 1) c4) (ts ++ [t])) := Lib.hid ((HOT_va7.out.far (c := w.heap.size + 1 + 1 + 1) (i := 0) hal (by omega) _).far (c := w.heap.size + 1 + 1 + 1) (i := 1) hal (by omega) _)
               have HBAf := Lib.hid (put2b (HBAw.out.keep HU_va7.out hal) (.slice A3 (j + 1) c3) (.slice A4 (j + 1) c4))
               have HUf : Hid (Below (w.heap.size + 1 + 1 + 1) wc ((va7.setCell ⟨w.heap.size + 1 + 1 + 1, 0, none⟩ (.slice A3 (j + 1) c3)).setCell ⟨w.heap.size + 1 + 1 + 1, 1, none⟩ (.slice A4 (j + 1) c4))) := Lib.hid (((HU_va7.out.mono (Nat.le_of_lt hal)).setCell (p := ⟨w.heap.size + 1 + 1 + 1, 0, none⟩) (Nat.le_refl _) _).setCell (p := ⟨w.heap.size + 1 + 1 + 1, 1, none⟩) (Nat.le_refl _) _)
               have HSf : Hid (w1.heap.size ≤ ((va7.setCell ⟨w.heap.size + 1 + 1 + 1, 0, none⟩ (.slice A3 (j + 1) c3)).setCell ⟨w.heap.size + 1 + 1 + 1, 1, none⟩ (.slice A4 (j + 1) c4)).heap.size) := Lib.hid (by rw [World.size_setCell, World.size_setCell]; exact HSz_va7.out)
               clear f_a k_a l_a
               generalize (va7.setCell ⟨w.heap.size + 1 + 1 + 1, 0, none⟩ (.slice A3 (j + 1) c3)).setCell ⟨w.heap.size + 1 + 1 + 1, 1, none⟩ (.slice A4 (j + 1) c4) = uf at *
               go_wp2_with fail
               go_meet
               have hkp := HKP.out
               have hq := HQ.out
               exact ⟨j + 1, true, ns ++ [bs n], ts ++ [t], A3, c3, A4, c4, rfl, ⟨by omega, by omega⟩, Lib.hid ⟨take_app HNT.out.1 (by rw [HFG.out.1, show j = p by omega]; exact putL_at hpl), take_app HNT.out.2 (by rw [HFG.out.2.1, show j = p by omega]; exact putL_at (by rw [← HOK.out.len]; exact hpl))⟩, by simp [hj1], by simp [hj2], Lib.hid (HBw.out.trans (HUf.out.mono (by omega))), HSf, Lib.hid (HBBw.out.keep HUf.out (by omega)), Lib.hid (HBXw.out.keep HUf.out (by omega)), Lib.hid (HBRw.out.keep HUf.out (by omega)), HBAf, Lib.hid (BdO.of HON.out HOT.out hj1 hj2 (mkS_bs n))⟩
           ·
            go_simp
            generalize hWW : World.alloc _ _ = va8
            obtain ⟨hb, hz⟩ := al1 hWW
            have HU_va8 : Hid (Below w1.heap.size wc va8) := Lib.hid (HU_va0.out.trans (hb.mono HSz_va0.out))
            have HSz_va8 : Hid (w1.heap.size ≤ va8.heap.size) := Lib.hid (Nat.le_trans HSz_va0.out hb.size)
            have HP2_va8 : Hid (va8.heap[va0.heap.size]? = some (.cells #[.int .i64 t.kind, .int .i64 t.n, .string t.s, .slice Ax t.l.length cx] 44 (0, 0))) := Lib.hid (hWW ▸ heap_alloc_new _ _)
            have HON_va8 := Lib.hid (HON_va0.out.later hb (Nat.zero_le _))
            have HOT_va8 := Lib.hid (HOT_va0.out.later hb (Nat.le_trans (Nat.le_trans hB0 (Nat.le_trans hB hsz1)) HSz_va0.out))
            clear hWW hb hz
            refine hK.out _ _ (fun _ => HSL.out HU_va8.out) ?_
            clear hK
            (try simp only [Act.put, List.setIfInBounds_toArray, List.set_cons_zero, List.set_cons_succ])
            refine uptoB_ready (rs := [3]) (by kernel_rfl) rfl ?_
            refine AllUptoB.cons (by simp only [List.getElem?_toArray, List.getElem?_cons_succ, List.getElem?_cons_zero]; rfl) (fun K hK => ?_) AllUptoB.nil
            ·
             go_simp
             generalize hWW : World.alloc _ _ = va9
             obtain ⟨hb, hz⟩ := al1 hWW
             have HU_va9 : Hid (Below w1.heap.size wc va9) := Lib.hid (HU_va8.out.trans (hb.mono HSz_va8.out))
             have HSz_va9 : Hid (w1.heap.size ≤ va9.heap.size) := Lib.hid (Nat.le_trans HSz_va8.out hb.size)
             have HP1_va9 : Hid (va9.heap[va8.heap.size]? = some (.cells #[.string n] 9 (0, 0))) := Lib.hid (hWW ▸ heap_alloc_new _ _)
             have HON_va9 := Lib.hid (HON_va8.out.later hb (Nat.zero_le _))
             have HOT_va9 := Lib.hid (HOT_va8.out.later hb (Nat.le_trans (Nat.le_trans hB0 (Nat.le_trans hB hsz1)) HSz_va8.out))
             have HP2_va9 := Lib.hid (heap_al HP2_va8.out hb)
             clear hWW hb hz
             refine hK.out _ _ (fun _ => HSL.out HU_va9.out) ?_
             clear hK
             (try simp only [Act.put, List.setIfInBounds_toArray, List.set_cons_zero, List.set_cons_succ])
             refine uptoB_ready (rs := [4]) (by kernel_rfl) rfl ?_
             refine AllUptoB.cons (by simp only [List.getElem?_toArray, List.getElem?_cons_succ, List.getElem?_cons_zero]; rfl) (fun K hK => ?_) AllUptoB.nil
             ·
              refine step_append_FB (R := StrR) (e := 9) rfl (.tmp 27) (.tmp 29) 25 rfl (bytes := 16) Tryz.underlying25 hi0 hz0 hz1 hz2 rfl (show 0 < 1 by omega) single_strJ rfl (xs := ns.map mkS) (base := w1.heap.size) (B := 0) HON_va9.out rfl (ys := [n]) (src_hp HP1_va9.out (Flat.one ⟨rfl, hn0⟩)) rfl (Nat.zero_le _) (by rw [List.length_map, hj1]; simp only [List.length_cons, List.length_nil]; omega) (by omega) HSz_va9.out ?_
              intro v_ va10 hown hb hg hf
              obtain ⟨A3, c3, rfl⟩ := hown.form
              rw [show (ns.map mkS ++ [n]).length = j + 1 by simp [hj1]] at hown ⊢
              have HU_va10 : Hid (Below w1.heap.size wc va10) := Lib.hid (HU_va9.out.trans hb)
              have HSz_va10 : Hid (w1.heap.size ≤ va10.heap.size) := Lib.hid (Nat.le_trans HSz_va9.out hb.size)
              have HON_va10 := Lib.hid hown
              have HOT_va10 := Lib.hid (HON_va9.out.other HOT_va9.out (by decide) hg hb hB01)
              have HP2_va10 := Lib.hid (HON_va9.out.heap HP2_va9.out (by decide) hg)
              clear hown hb hg hf
              refine hK.out _ _ (fun _ => HSL.out HU_va10.out) ?_
              clear hK
              (try simp only [Act.put, List.setIfInBounds_toArray, List.set_cons_zero, List.set_cons_succ])
              refine uptoB_take (i := 10) (v := ?v13_) (by simp only [List.getElem?_toArray, List.getElem?_cons_succ, List.getElem?_cons_zero]; rfl) (by kernel_rfl) (by kernel_rfl) (by kernel_rfl) (by kernel_rfl) ?hq13_ ?hw13_ ?hy13_ ?rest13_
              case hq13_ => exact fun _ _ _ h => h
              case hw13_ => rfl
              case hy13_ => (intro w' hS'; (try dsimp only at hS'); go_simp; (try with_reducible rfl))
              (try simp only [Act.put, List.setIfInBounds_toArray, List.set_cons_zero, List.set_cons_succ])
              refine uptoB_ready (rs := [9]) (by kernel_rfl) rfl ?_
              refine AllUptoB.cons (by simp only [List.getElem?_toArray, List.getElem?_cons_succ, List.getElem?_cons_zero]; rfl) (fun K hK => ?_) AllUptoB.nil
              ·
               refine step_append_FB (R := TmR (d + 1)) (e := 44) rfl (.tmp 32) (.tmp 34) 22 rfl (bytes := 56) Tryz.underlying22 hk0 hy0 hy1 hy2 rfl (show 0 < 4 by omega) (single_tm (d + 1)) rfl (xs := ts) (base := w1.heap.size) (B := B0) HOT_va10.out rfl (ys := [t]) (src_hp HP2_va10.out (Flat.one ((TmR (d + 1)).keep (HBw.out.trans (HU_va10.out.mono hsz1)) (Nat.le_trans hB0 hB) HX.out))) rfl hB01 (by rw [hj2]; simp only [List.length_cons, List.length_nil]; omega) (by omega) HSz_va10.out ?_
               intro v_ va11 hown hb hg hf
               obtain ⟨A4, c4, rfl⟩ := hown.form
               rw [show (ts ++ [t]).length = j + 1 by simp [hj2]] at hown ⊢
               have HU_va11 : Hid (Below w1.heap.size wc va11) := Lib.hid (HU_va10.out.trans hb)
               have HSz_va11 : Hid (w1.heap.size ≤ va11.heap.size) := Lib.hid (Nat.le_trans HSz_va10.out hb.size)
               have HOT_va11 := Lib.hid hown
               have HON_va11 := Lib.hid (HOT_va10.out.other HON_va10.out (by decide) hg hb (Nat.zero_le _))
               clear hown hb hg hf
               refine hK.out _ _ (fun _ => HSL.out HU_va11.out) ?_
               clear hK
               (try simp only [Act.put, List.setIfInBounds_toArray, List.set_cons_zero, List.set_cons_succ])
               have k_a := ((HBAw.out.keep HU_va11.out hal).cell)
               have l_a := ((HBAw.out.keep HU_va11.out hal).lt)
               have f_a := ((HBAw.out.keep HU_va11.out hal).free)
               refine uptoB_ready (rs := [11]) (by kernel_rfl) rfl ?_
               refine AllUptoB.cons (by simp only [List.getElem?_toArray, List.getElem?_cons_succ, List.getElem?_cons_zero]; rfl) (fun K hK => ?_) AllUptoB.nil
               go_simp
               refine hK.out _ _ (SB.done 11 (by kernel_rfl) (by kernel_rfl)) ?_
               clear hK
               (try simp only [Act.put, List.setIfInBounds_toArray, List.set_cons_zero, List.set_cons_succ])
               refine uptoB_take0 (i := 12) (v := ?v14_) (by simp only [List.getElem?_toArray, List.getElem?_cons_succ, List.getElem?_cons_zero]; rfl) (by kernel_rfl) ?hw14_ (by kernel_rfl) ?hy14_ ?rest14_
               case hw14_ => rfl
               case hy14_ => (intro w'; go_simp; (try with_reducible rfl))
               (try simp only [Act.put, List.setIfInBounds_toArray, List.set_cons_zero, List.set_cons_succ])
               refine uptoB_ready (rs := [13]) (by kernel_rfl) rfl ?_
               refine AllUptoB.cons (by simp only [List.getElem?_toArray, List.getElem?_cons_succ, List.getElem?_cons_zero]; rfl) (fun K hK => ?_) AllUptoB.nil
               go_simp
               refine hK.out _ _ (SB.done 13 (by kernel_rfl) (by kernel_rfl)) ?_
               clear hK
               (try simp only [Act.put, List.setIfInBounds_toArray, List.set_cons_zero, List.set_cons_succ])
               refine uptoB_take0 (i := 14) (v := ?v15_) (by simp only [List.getElem?_toArray, List.getElem?_cons_succ, List.getElem?_cons_zero]; rfl) (by kernel_rfl) ?hw15_ (by kernel_rfl) ?hy15_ ?rest15_
               case hw15_ => rfl
               case hy15_ => (intro w'; go_simp; (try with_reducible rfl))
               (try simp only [Act.put, List.setIfInBounds_toArray, List.set_cons_zero, List.set_cons_succ])
               refine uptoB_done (by kernel_rfl) ?_
               have HON : Hid (OwnR StrR 9 ((va11.setCell ⟨w.heap.size + 1 + 1 + 1, 0, none⟩ (.slice A3 (j + 1) c3)).setCell ⟨w.heap.size + 1 + 1 + 1, 1, none⟩ (.slice A4 (j + 1) c4)) w1.heap.size 0 (.slice A3 (j + 1) c3) (ns.map mkS ++ [n])) := Lib.hid ((HON_va11.out.far (c := w.heap.size + 1 + 1 + 1) (i := 0) hal (Nat.zero_le _) _).far (c := w.heap.size + 1 + 1 + 1) (i := 1) hal (Nat.zero_le _) _)
               have HOT : Hid (OwnR (TmR (d + 1)) 44 ((va11.setCell ⟨w.heap.size + 1 + 1 + 1, 0, none⟩ (.slice A3 (j + 1) c3)).setCell ⟨w.heap.size + 1 + 1 + 1, 1, none⟩ (.slice A4 (j + 1) c4)) w1.heap.size B0 (.slice A4 (j + 1) c4) (ts ++ [t])) := Lib.hid ((HOT_va11.out.far (c := w.heap.size + 1 + 1 + 1) (i := 0) hal (by omega) _).far (c := w.heap.size + 1 + 1 + 1) (i := 1) hal (by omega) _)
               have HBAf := Lib.hid (put2b (HBAw.out.keep HU_va11.out hal) (.slice A3 (j + 1) c3) (.slice A4 (j + 1) c4))
               have HUf : Hid (Below (w.heap.size + 1 + 1 + 1) wc ((va11.setCell ⟨w.heap.size + 1 + 1 + 1, 0, none⟩ (.slice A3 (j + 1) c3)).setCell ⟨w.heap.size + 1 + 1 + 1, 1, none⟩ (.slice A4 (j + 1) c4))) := Lib.hid (((HU_va11.out.mono (Nat.le_of_lt hal)).setCell (p := ⟨w.heap.size + 1 + 1 + 1, 0, none⟩) (Nat.le_refl _) _).setCell (p := ⟨w.heap.size + 1 + 1 + 1, 1, none⟩) (Nat.le_refl _) _)
               have HSf : Hid (w1.heap.size ≤ ((va11.setCell ⟨w.heap.size + 1 + 1 + 1, 0, none⟩ (.slice A3 (j + 1) c3)).setCell ⟨w.heap.size + 1 + 1 + 1, 1, none⟩ (.slice A4 (j + 1) c4)).heap.size) := Lib.hid (by rw [World.size_setCell, World.size_setCell]; exact HSz_va11.out)
               clear f_a k_a l_a
               generalize (va11.setCell ⟨w.heap.size + 1 + 1 + 1, 0, none⟩ (.slice A3 (j + 1) c3)).setCell ⟨w.heap.size + 1 + 1 + 1, 1, none⟩ (.slice A4 (j + 1) c4) = uf at *
               go_wp2_with fail
               go_meet
               have hkp := HKP.out
               have hq := HQ.out
               exact ⟨j + 1, true, ns ++ [bs n], ts ++ [t], A3, c3, A4, c4, rfl, ⟨by omega, by omega⟩, Lib.hid ⟨take_app HNT.out.1 (by rw [HFG.out.1, show j = p by omega]; exact putL_at hpl), take_app HNT.out.2 (by rw [HFG.out.2.1, show j = p by omega]; exact putL_at (by rw [← HOK.out.len]; exact hpl))⟩, by simp [hj1], by simp [hj2], Lib.hid (HBw.out.trans (HUf.out.mono (by omega))), HSf, Lib.hid (HBBw.out.keep HUf.out (by omega)), Lib.hid (HBXw.out.keep HUf.out (by omega)), Lib.hid (HBRw.out.keep HUf.out (by omega)), HBAf, Lib.hid (BdO.of HON.out HOT.out hj1 hj2 (mkS_bs n))⟩
         · have HX2 : Hid (¬ (qb = false ∧ k = p)) := Lib.hid fun h => by cases HX1.out.2 h
           go_wp2_with fail
           go_meet
           refine ⟨j, qb, ns, ts, A1, c1, A2, c2, rfl, ?_, HNT, hj1, hj2, HBw, HZw, HBBw, HBXw, HBRw, HBAw, HOw⟩
           have h3 := HX2.out
           cases qb
           · simp only [Bool.false_eq_true, if_false] at hq ⊢
             simp only [true_and] at h3
             omega
           · simp only [if_true] at hq ⊢
             omega
       case rest =>
         clear HOw HBAw HBRw HBXw HBBw HZw HBw HNT hj1 hj2 hq hBr hobn
         obtain ⟨j, qb, ns, ts, A1, c1, A2, c2, rfl, hq, HNT, hj1, hj2, HBw, HZw, HBBw, HBXw, HBRw, HBAw, HOw⟩ := hcut
         have hj33 : j ≤ 33 := by cases qb <;> simp at hq <;> omega
         have HFK : Hid (F[j]? = some b.names[k] ∧ G[j]? = some b.terms[k]) := Lib.hid (by
           have hpl2 : p ≤ b.terms.length := by rw [← HOK.out.len]; exact hpl
           rw [HFG.out.1, HFG.out.2.1]
           cases qb
           · simp only [Bool.false_eq_true, if_false] at hq
             rw [hq.2]
             exact ⟨(putL_lt hpl hq.1).trans (List.getElem?_eq_getElem hlt), (putL_lt hpl2 hq.1).trans (List.getElem?_eq_getElem hlt2)⟩
           · simp only [if_true] at hq
             rw [hq.2]
             exact ⟨(putL_gt hpl hq.1).trans (List.getElem?_eq_getElem hlt), (putL_gt hpl2 hq.1).trans (List.getElem?_eq_getElem hlt2)⟩)
         have HQ := Lib.hid hq
         clear hq
         have hBr : B ≤ wc.heap.size := Nat.le_trans hB HBw.out.size
         obtain ⟨s_, vs_, hx_, _, _, hr_⟩ := (HN.out.keep HBw.out hB).at_ (Below.refl _ _) hBr (show k < (b.names.map mkS).length by rw [List.length_map]; exact hlt)
         have HSN : Hid ((mkS b.names[k]).size ≤ 140737488351232) := Lib.hid (by
           rw [List.getElem?_map, List.getElem?_eq_getElem hlt] at hx_
           simp only [Option.map_some, Option.some.injEq] at hx_
           rw [hx_]; exact hr_.2)
         clear hx_ hr_
         obtain ⟨bt_, offt, rfl, hbt, _⟩ := HT.out (by omega)
         obtain ⟨y, vs, hx, hlen, hcell, hr⟩ := (HT.out.keep HBw.out hB).at_ (Below.refl _ _) hBr hlt2
         have HYR := Lib.hid hr.2
         obtain ⟨Ay, cy, rfl, _⟩ := RTm.cells (show RTm wc B0 (d + 1) y vs from hr.2)
         have HYC : Hid (wc.cell? ⟨bt_, offt + k * 4, none⟩ = some (.int .i64 y.kind) ∧ wc.cell? ⟨bt_, offt + k * 4 + 1, none⟩ = some (.int .i64 y.n) ∧ wc.cell? ⟨bt_, offt + k * 4 + 2, none⟩ = some (.string y.s) ∧ wc.cell? ⟨bt_, offt + k * 4 + 3, none⟩ = some (.slice Ay y.l.length cy)) := Lib.hid ⟨hcell 0 _ rfl, hcell 1 _ rfl, hcell 2 _ rfl, hcell 3 _ rfl⟩
         have HYE : Hid (b.terms[k] = y) := Lib.hid (by rw [List.getElem?_eq_getElem hlt2] at hx; simpa using hx)
         clear hx hlen hcell hr
         go_upto_region 8 with fail
         have HSL : Hid (∀ {w' : World}, Below w1.heap.size wc w' → (w'.cell? ⟨w.heap.size + 1 + 1 + 1, 0, none⟩ = some (.slice A1 j c1) ∧ w'.cell? ⟨w.heap.size + 1 + 1 + 1, 1, none⟩ = some (.slice A2 j c2) ∧ w'.cell? ⟨w.heap.size, 1, none⟩ = some (.slice (some ⟨bt_, offt, none⟩) b.terms.length ct) ∧ w'.cell? ⟨bt_, offt + k * 4, none⟩ = some (.int .i64 y.kind) ∧ w'.cell? ⟨bt_, offt + k * 4 + 1, none⟩ = some (.int .i64 y.n) ∧ w'.cell? ⟨bt_, offt + k * 4 + 2, none⟩ = some (.string y.s) ∧ w'.cell? ⟨bt_, offt + k * 4 + 3, none⟩ = some (.slice Ay y.l.length cy))) := Lib.hid (fun hb => have h := (HBAw.out.keep hb hal).cell; have h2 := (HBBw.out.keep hb (by omega)).cell; ⟨h 0, h 1, h2 1, (hb.cell (p := ⟨bt_, offt + k * 4, none⟩) (by show bt_ < _; omega)).trans HYC.out.1, (hb.cell (p := ⟨bt_, offt + k * 4 + 1, none⟩) (by show bt_ < _; omega)).trans HYC.out.2.1, (hb.cell (p := ⟨bt_, offt + k * 4 + 2, none⟩) (by show bt_ < _; omega)).trans HYC.out.2.2.1, (hb.cell (p := ⟨bt_, offt + k * 4 + 3, none⟩) (by show bt_ < _; omega)).trans HYC.out.2.2.2⟩)
         refine wp_region_uptoB (fun w' => w'.cell? ⟨w.heap.size + 1 + 1 + 1, 0, none⟩ = some (.slice A1 j c1) ∧ w'.cell? ⟨w.heap.size + 1 + 1 + 1, 1, none⟩ = some (.slice A2 j c2) ∧ w'.cell? ⟨w.heap.size, 1, none⟩ = some (.slice (some ⟨bt_, offt, none⟩) b.terms.length ct) ∧ w'.cell? ⟨bt_, offt + k * 4, none⟩ = some (.int .i64 y.kind) ∧ w'.cell? ⟨bt_, offt + k * 4 + 1, none⟩ = some (.int .i64 y.n) ∧ w'.cell? ⟨bt_, offt + k * 4 + 2, none⟩ = some (.string y.s) ∧ w'.cell? ⟨bt_, offt + k * 4 + 3, none⟩ = some (.slice Ay y.l.length cy)) [15, 17] (by kernel_rfl) (HSL.out ((Below.refl w1.heap.size wc).drew)) ?_
         refine uptoB_take (i := 0) (v := ?v16_) (by simp only [List.getElem?_toArray, List.getElem?_cons_succ, List.getElem?_cons_zero]; rfl) (by kernel_rfl) (by kernel_rfl) (by kernel_rfl) (by kernel_rfl) ?hq16_ ?hw16_ ?hy16_ ?rest16_
         case hq16_ => exact fun _ _ _ h => h
         case hw16_ => rfl
         case hy16_ => (intro w' hS'; (try dsimp only at hS'); go_simp; (try with_reducible rfl))
         (try simp only [Act.put, List.setIfInBounds_toArray, List.set_cons_zero, List.set_cons_succ])
         refine uptoB_take (i := 1) (v := ?v17_) (by simp only [List.getElem?_toArray, List.getElem?_cons_succ, List.getElem?_cons_zero]; rfl) (by kernel_rfl) (by kernel_rfl) (by kernel_rfl) (by kernel_rfl) ?hq17_ ?hw17_ ?hy17_ ?rest17_
         case hq17_ => exact fun _ _ _ h => h
         case hw17_ => rfl
         case hy17_ => (intro w' hS'; (try dsimp only at hS'); go_simp; (try with_reducible rfl))
         (try simp only [Act.put, List.setIfInBounds_toArray, List.set_cons_zero, List.set_cons_succ])
         refine uptoB_take (i := 2) (v := ?v18_) (by simp only [List.getElem?_toArray, List.getElem?_cons_succ, List.getElem?_cons_zero]; rfl) (by kernel_rfl) (by kernel_rfl) (by kernel_rfl) (by kernel_rfl) ?hq18_ ?hw18_ ?hy18_ ?rest18_
         case hq18_ => exact fun _ _ _ h => h
         case hw18_ => rfl
         case hy18_ => (intro w' hS'; (try dsimp only at hS'); go_simp; (try with_reducible rfl))
         (try simp only [Act.put, List.setIfInBounds_toArray, List.set_cons_zero, List.set_cons_succ])
         refine uptoB_take (i := 5) (v := ?v19_) (by simp only [List.getElem?_toArray, List.getElem?_cons_succ, List.getElem?_cons_zero]; rfl) (by kernel_rfl) (by kernel_rfl) (by kernel_rfl) (by kernel_rfl) ?hq19_ ?hw19_ ?hy19_ ?rest19_
         case hq19_ => exact fun _ _ _ h => h
         case hw19_ => rfl
         case hy19_ => (intro w' hS'; (try dsimp only at hS'); go_simp; (try with_reducible rfl))
         (try simp only [Act.put, List.setIfInBounds_toArray, List.set_cons_zero, List.set_cons_succ])
         refine uptoB_take (i := 6) (v := ?v20_) (by simp only [List.getElem?_toArray, List.getElem?_cons_succ, List.getElem?_cons_zero]; rfl) (by kernel_rfl) (by kernel_rfl) (by kernel_rfl) (by kernel_rfl) ?hq20_ ?hw20_ ?hy20_ ?rest20_
         case hq20_ => exact fun _ _ _ h => h
         case hw20_ => rfl
         case hy20_ => (intro w' hS'; (try dsimp only at hS'); go_simp; (try with_reducible rfl))
         (try simp only [Act.put, List.setIfInBounds_toArray, List.set_cons_zero, List.set_cons_succ])
         refine uptoB_take (i := 7) (v := ?v21_) (by simp only [List.getElem?_toArray, List.getElem?_cons_succ, List.getElem?_cons_zero]; rfl) (by kernel_rfl) (by kernel_rfl) (by kernel_rfl) (by kernel_rfl) ?hq21_ ?hw21_ ?hy21_ ?rest21_
         case hq21_ => exact fun _ _ _ h => h
         case hw21_ => rfl
         case hy21_ => (intro w' hS'; (try dsimp only at hS'); go_simp; (try with_reducible rfl))
         (try simp only [Act.put, List.setIfInBounds_toArray, List.set_cons_zero, List.set_cons_succ])
         refine uptoB_take (i := 8) (v := ?v22_) (by simp only [List.getElem?_toArray, List.getElem?_cons_succ, List.getElem?_cons_zero]; rfl) (by kernel_rfl) (by kernel_rfl) (by kernel_rfl) (by kernel_rfl) ?hq22_ ?hw22_ ?hy22_ ?rest22_
         case hq22_ => exact fun _ _ _ h => h
         case hw22_ => rfl
         case hy22_ => (intro w' hS'; (try dsimp only at hS'); go_simp; (try with_reducible rfl))
         (try simp only [Act.put, List.setIfInBounds_toArray, List.set_cons_zero, List.set_cons_succ])
         refine uptoB_take (i := 9) (v := ?v23_) (by simp only [List.getElem?_toArray, List.getElem?_cons_succ, List.getElem?_cons_zero]; rfl) (by kernel_rfl) (by kernel_rfl) (by kernel_rfl) (by kernel_rfl) ?hq23_ ?hw23_ ?hy23_ ?rest23_
         case hq23_ => exact fun _ _ _ h => h
         case hw23_ => rfl
         case hy23_ => (intro w' hS'; (try dsimp only at hS'); go_simp; (try with_reducible rfl))
         (try simp only [Act.put, List.setIfInBounds_toArray, List.set_cons_zero, List.set_cons_succ])
         refine uptoB_take (i := 10) (v := ?v24_) (by simp only [List.getElem?_toArray, List.getElem?_cons_succ, List.getElem?_cons_zero]; rfl) (by kernel_rfl) (by kernel_rfl) (by kernel_rfl) (by kernel_rfl) ?hq24_ ?hw24_ ?hy24_ ?rest24_
         case hq24_ => exact fun _ _ _ h => h
         case hw24_ => rfl
         case hy24_ => (intro w' hS'; (try dsimp only at hS'); go_simp; (try with_reducible rfl))
         (try simp only [Act.put, List.setIfInBounds_toArray, List.set_cons_zero, List.set_cons_succ])
         refine uptoB_take (i := 11) (v := ?v25_) (by simp only [List.getElem?_toArray, List.getElem?_cons_succ, List.getElem?_cons_zero]; rfl) (by kernel_rfl) (by kernel_rfl) (by kernel_rfl) (by kernel_rfl) ?hq25_ ?hw25_ ?hy25_ ?rest25_
         case hq25_ => exact fun _ _ _ h => h
         case hw25_ => rfl
         case hy25_ => (intro w' hS'; (try dsimp only at hS'); go_simp; (try with_reducible rfl))
         (try simp only [Act.put, List.setIfInBounds_toArray, List.set_cons_zero, List.set_cons_succ])
         generalize hD : World.drew wc = vb0
         have HU_vb0 : Hid (Below w1.heap.size wc vb0) := Lib.hid (hD ▸ (Below.refl w1.heap.size wc).drew)
         have HSz_vb0 : Hid (w1.heap.size ≤ vb0.heap.size) := Lib.hid (by have := HU_vb0.out.size; have := HZw.out; omega)
         have HON_vb0 : Hid (OwnR StrR 9 vb0 w1.heap.size 0 (.slice A1 j c1) (ns.map mkS)) := Lib.hid (by subst hD; have h := HOw.out.nm.later ((Below.refl wc.heap.size wc).drew) (Nat.zero_le _); rwa [hj1] at h)
         have HOT_vb0 : Hid (OwnR (TmR (d + 1)) 44 vb0 w1.heap.size B0 (.slice A2 j c2) ts) := Lib.hid (by subst hD; have h := HOw.out.tm.later ((Below.refl wc.heap.size wc).drew) (Nat.le_trans hB0 hBr); rwa [hj2] at h)
         clear hD
         refine uptoB_ready (rs := [3, 12]) (by kernel_rfl) rfl ?_
         refine AllUptoB.cons (by simp only [List.getElem?_toArray, List.getElem?_cons_succ, List.getElem?_cons_zero]; rfl) (fun K hK => ?_) (AllUptoB.cons (by simp only [List.getElem?_toArray, List.getElem?_cons_succ, List.getElem?_cons_zero]; rfl) (fun K hK => ?_) AllUptoB.nil)
         ·
          go_simp
          generalize hWW : World.alloc _ _ = vb1
          obtain ⟨hb, hz⟩ := al1 hWW
          have HU_vb1 : Hid (Below w1.heap.size wc vb1) := Lib.hid (HU_vb0.out.trans (hb.mono HSz_vb0.out))
          have HSz_vb1 : Hid (w1.heap.size ≤ vb1.heap.size) := Lib.hid (Nat.le_trans HSz_vb0.out hb.size)
          have HP1_vb1 : Hid (vb1.heap[vb0.heap.size]? = some (.cells #[.string (mkS b.names[k])] 9 (0, 0))) := Lib.hid (hWW ▸ heap_alloc_new _ _)
          have HON_vb1 := Lib.hid (HON_vb0.out.later hb (Nat.zero_le _))
          have HOT_vb1 := Lib.hid (HOT_vb0.out.later hb (Nat.le_trans (Nat.le_trans hB0 (Nat.le_trans hB hsz1)) HSz_vb0.out))
          clear hWW hb hz
          refine hK.out _ _ (fun _ => HSL.out HU_vb1.out) ?_
          clear hK
          (try simp only [Act.put, List.setIfInBounds_toArray, List.set_cons_zero, List.set_cons_succ])
          refine uptoB_ready (rs := [4, 12]) (by kernel_rfl) rfl ?_
          refine AllUptoB.cons (by simp only [List.getElem?_toArray, List.getElem?_cons_succ, List.getElem?_cons_zero]; rfl) (fun K hK => ?_) (AllUptoB.cons (by simp only [List.getElem?_toArray, List.getElem?_cons_succ, List.getElem?_cons_zero]; rfl) (fun K hK => ?_) AllUptoB.nil)
          ·
           refine step_append_FB (R := StrR) (e := 9) rfl (.tmp 39) (.tmp 41) 25 rfl (bytes := 16) Tryz.underlying25 hi0 hz0 hz1 hz2 rfl (show 0 < 1 by omega) single_strJ rfl (xs := ns.map mkS) (base := w1.heap.size) (B := 0) HON_vb1.out rfl (ys := [(mkS b.names[k])]) (src_hp HP1_vb1.out (Flat.one ⟨rfl, HSN.out⟩)) rfl (Nat.zero_le _) (by rw [List.length_map, hj1]; simp only [List.length_cons, List.length_nil]; omega) (by omega) HSz_vb1.out ?_
           intro v_ vb2 hown hb hg hf
           obtain ⟨A3, c3, rfl⟩ := hown.form
           rw [show (ns.map mkS ++ [(mkS b.names[k])]).length = j + 1 by simp [hj1]] at hown ⊢
           have HU_vb2 : Hid (Below w1.heap.size wc vb2) := Lib.hid (HU_vb1.out.trans hb)
           have HSz_vb2 : Hid (w1.heap.size ≤ vb2.heap.size) := Lib.hid (Nat.le_trans HSz_vb1.out hb.size)
           have HON_vb2 := Lib.hid hown
           have HOT_vb2 := Lib.hid (HON_vb1.out.other HOT_vb1.out (by decide) hg hb hB01)
           clear hown hb hg hf
           refine hK.out _ _ (fun _ => HSL.out HU_vb2.out) ?_
           clear hK
           (try simp only [Act.put, List.setIfInBounds_toArray, List.set_cons_zero, List.set_cons_succ])
           refine uptoB_take (i := 14) (v := ?v26_) (by simp only [List.getElem?_toArray, List.getElem?_cons_succ, List.getElem?_cons_zero]; rfl) (by kernel_rfl) (by kernel_rfl) (by kernel_rfl) (by kernel_rfl) ?hq26_ ?hw26_ ?hy26_ ?rest26_
           case hq26_ => exact fun _ _ _ h => h
           case hw26_ => rfl
           case hy26_ => (intro w' hS'; (try dsimp only at hS'); go_simp; (try with_reducible rfl))
           (try simp only [Act.put, List.setIfInBounds_toArray, List.set_cons_zero, List.set_cons_succ])
           refine uptoB_ready (rs := [12]) (by kernel_rfl) rfl ?_
           refine AllUptoB.cons (by simp only [List.getElem?_toArray, List.getElem?_cons_succ, List.getElem?_cons_zero]; rfl) (fun K hK => ?_) AllUptoB.nil
           ·
            go_simp
            generalize hWW : World.alloc _ _ = vb3
            obtain ⟨hb, hz⟩ := al1 hWW
            have HU_vb3 : Hid (Below w1.heap.size wc vb3) := Lib.hid (HU_vb2.out.trans (hb.mono HSz_vb2.out))
            have HSz_vb3 : Hid (w1.heap.size ≤ vb3.heap.size) := Lib.hid (Nat.le_trans HSz_vb2.out hb.size)
            have HP2_vb3 : Hid (vb3.heap[vb2.heap.size]? = some (.cells #[.int .i64 y.kind, .int .i64 y.n, .string y.s, .slice Ay y.l.length cy] 44 (0, 0))) := Lib.hid (hWW ▸ heap_alloc_new _ _)
            have HON_vb3 := Lib.hid (HON_vb2.out.later hb (Nat.zero_le _))
            have HOT_vb3 := Lib.hid (HOT_vb2.out.later hb (Nat.le_trans (Nat.le_trans hB0 (Nat.le_trans hB hsz1)) HSz_vb2.out))
            clear hWW hb hz
            refine hK.out _ _ (fun _ => HSL.out HU_vb3.out) ?_
            clear hK
            (try simp only [Act.put, List.setIfInBounds_toArray, List.set_cons_zero, List.set_cons_succ])
            refine uptoB_ready (rs := [13]) (by kernel_rfl) rfl ?_
            refine AllUptoB.cons (by simp only [List.getElem?_toArray, List.getElem?_cons_succ, List.getElem?_cons_zero]; rfl) (fun K hK => ?_) AllUptoB.nil
            ·
             refine step_append_FB (R := TmR (d + 1)) (e := 44) rfl (.tmp 44) (.tmp 50) 22 rfl (bytes := 56) Tryz.underlying22 hk0 hy0 hy1 hy2 rfl (show 0 < 4 by omega) (single_tm (d + 1)) rfl (xs := ts) (base := w1.heap.size) (B := B0) HOT_vb3.out rfl (ys := [y]) (src_hp HP2_vb3.out (Flat.one ((TmR (d + 1)).keep HU_vb3.out hB01 HYR.out))) rfl hB01 (by rw [hj2]; simp only [List.length_cons, List.length_nil]; omega) (by omega) HSz_vb3.out ?_
             intro v_ vb4 hown hb hg hf
             obtain ⟨A4, c4, rfl⟩ := hown.form
             rw [show (ts ++ [y]).length = j + 1 by simp [hj2]] at hown ⊢
             have HU_vb4 : Hid (Below w1.heap.size wc vb4) := Lib.hid (HU_vb3.out.trans hb)
             have HSz_vb4 : Hid (w1.heap.size ≤ vb4.heap.size) := Lib.hid (Nat.le_trans HSz_vb3.out hb.size)
             have HOT_vb4 := Lib.hid hown
             have HON_vb4 := Lib.hid (HOT_vb3.out.other HON_vb3.out (by decide) hg hb (Nat.zero_le _))
             clear hown hb hg hf
             refine hK.out _ _ (fun _ => HSL.out HU_vb4.out) ?_
             clear hK
             (try simp only [Act.put, List.setIfInBounds_toArray, List.set_cons_zero, List.set_cons_succ])
             have k_a := ((HBAw.out.keep HU_vb4.out hal).cell)
             have l_a := ((HBAw.out.keep HU_vb4.out hal).lt)
             have f_a := ((HBAw.out.keep HU_vb4.out hal).free)
             refine uptoB_ready (rs := [15]) (by kernel_rfl) rfl ?_
             refine AllUptoB.cons (by simp only [List.getElem?_toArray, List.getElem?_cons_succ, List.getElem?_cons_zero]; rfl) (fun K hK => ?_) AllUptoB.nil
             go_simp
             refine hK.out _ _ (SB.done 15 (by kernel_rfl) (by kernel_rfl)) ?_
             clear hK
             (try simp only [Act.put, List.setIfInBounds_toArray, List.set_cons_zero, List.set_cons_succ])
             refine uptoB_take0 (i := 16) (v := ?v27_) (by simp only [List.getElem?_toArray, List.getElem?_cons_succ, List.getElem?_cons_zero]; rfl) (by kernel_rfl) ?hw27_ (by kernel_rfl) ?hy27_ ?rest27_
             case hw27_ => rfl
             case hy27_ => (intro w'; go_simp; (try with_reducible rfl))
             (try simp only [Act.put, List.setIfInBounds_toArray, List.set_cons_zero, List.set_cons_succ])
             refine uptoB_ready (rs := [17]) (by kernel_rfl) rfl ?_
             refine AllUptoB.cons (by simp only [List.getElem?_toArray, List.getElem?_cons_succ, List.getElem?_cons_zero]; rfl) (fun K hK => ?_) AllUptoB.nil
             go_simp
             refine hK.out _ _ (SB.done 17 (by kernel_rfl) (by kernel_rfl)) ?_
             clear hK
             (try simp only [Act.put, List.setIfInBounds_toArray, List.set_cons_zero, List.set_cons_succ])
             refine uptoB_done (by kernel_rfl) ?_
             have HON : Hid (OwnR StrR 9 ((vb4.setCell ⟨w.heap.size + 1 + 1 + 1, 0, none⟩ (.slice A3 (j + 1) c3)).setCell ⟨w.heap.size + 1 + 1 + 1, 1, none⟩ (.slice A4 (j + 1) c4)) w1.heap.size 0 (.slice A3 (j + 1) c3) (ns.map mkS ++ [(mkS b.names[k])])) := Lib.hid ((HON_vb4.out.far (c := w.heap.size + 1 + 1 + 1) (i := 0) hal (Nat.zero_le _) _).far (c := w.heap.size + 1 + 1 + 1) (i := 1) hal (Nat.zero_le _) _)
             have HOT : Hid (OwnR (TmR (d + 1)) 44 ((vb4.setCell ⟨w.heap.size + 1 + 1 + 1, 0, none⟩ (.slice A3 (j + 1) c3)).setCell ⟨w.heap.size + 1 + 1 + 1, 1, none⟩ (.slice A4 (j + 1) c4)) w1.heap.size B0 (.slice A4 (j + 1) c4) (ts ++ [y])) := Lib.hid ((HOT_vb4.out.far (c := w.heap.size + 1 + 1 + 1) (i := 0) hal (by omega) _).far (c := w.heap.size + 1 + 1 + 1) (i := 1) hal (by omega) _)
             have HBAf := Lib.hid (put2b (HBAw.out.keep HU_vb4.out hal) (.slice A3 (j + 1) c3) (.slice A4 (j + 1) c4))
             have HUf : Hid (Below (w.heap.size + 1 + 1 + 1) wc ((vb4.setCell ⟨w.heap.size + 1 + 1 + 1, 0, none⟩ (.slice A3 (j + 1) c3)).setCell ⟨w.heap.size + 1 + 1 + 1, 1, none⟩ (.slice A4 (j + 1) c4))) := Lib.hid (((HU_vb4.out.mono (Nat.le_of_lt hal)).setCell (p := ⟨w.heap.size + 1 + 1 + 1, 0, none⟩) (Nat.le_refl _) _).setCell (p := ⟨w.heap.size + 1 + 1 + 1, 1, none⟩) (Nat.le_refl _) _)
             have HSf : Hid (w1.heap.size ≤ ((vb4.setCell ⟨w.heap.size + 1 + 1 + 1, 0, none⟩ (.slice A3 (j + 1) c3)).setCell ⟨w.heap.size + 1 + 1 + 1, 1, none⟩ (.slice A4 (j + 1) c4)).heap.size) := Lib.hid (by rw [World.size_setCell, World.size_setCell]; exact HSz_vb4.out)
             clear f_a k_a l_a
             generalize (vb4.setCell ⟨w.heap.size + 1 + 1 + 1, 0, none⟩ (.slice A3 (j + 1) c3)).setCell ⟨w.heap.size + 1 + 1 + 1, 1, none⟩ (.slice A4 (j + 1) c4) = uf at *
             go_wp2_with fail
             have hq := HQ.out
             refine ⟨⟨k + 1, j + 1, qb, ns ++ [b.names[k]], ts ++ [y], A3, c3, A4, c4, by omega, by simp, rfl, ?_, Lib.hid ⟨take_app HNT.out.1 HFK.out.1, take_app HNT.out.2 (by rw [← HYE.out]; exact HFK.out.2)⟩, by simp [hj1], by simp [hj2], Lib.hid (HBw.out.trans (HUf.out.mono (by omega))), HSf, Lib.hid (HBBw.out.keep HUf.out (by omega)), Lib.hid (HBXw.out.keep HUf.out (by omega)), Lib.hid (HBRw.out.keep HUf.out (by omega)), HBAf, Lib.hid (BdO.of HON.out HOT.out hj1 hj2 rfl)⟩, by simp only [intOf]; omega⟩
             cases qb <;> simp at hq ⊢ <;> omega
          ·
           go_simp
           generalize hWW : World.alloc _ _ = vb5
           obtain ⟨hb, hz⟩ := al1 hWW
           have HU_vb5 : Hid (Below w1.heap.size wc vb5) := Lib.hid (HU_vb1.out.trans (hb.mono HSz_vb1.out))
           have HSz_vb5 : Hid (w1.heap.size ≤ vb5.heap.size) := Lib.hid (Nat.le_trans HSz_vb1.out hb.size)
           have HP2_vb5 : Hid (vb5.heap[vb1.heap.size]? = some (.cells #[.int .i64 y.kind, .int .i64 y.n, .string y.s, .slice Ay y.l.length cy] 44 (0, 0))) := Lib.hid (hWW ▸ heap_alloc_new _ _)
           have HON_vb5 := Lib.hid (HON_vb1.out.later hb (Nat.zero_le _))
           have HOT_vb5 := Lib.hid (HOT_vb1.out.later hb (Nat.le_trans (Nat.le_trans hB0 (Nat.le_trans hB hsz1)) HSz_vb1.out))
           have HP1_vb5 := Lib.hid (heap_al HP1_vb1.out hb)
           clear hWW hb hz
           refine hK.out _ _ (fun _ => HSL.out HU_vb5.out) ?_
           clear hK
           (try simp only [Act.put, List.setIfInBounds_toArray, List.set_cons_zero, List.set_cons_succ])
           refine uptoB_ready (rs := [4]) (by kernel_rfl) rfl ?_
           refine AllUptoB.cons (by simp only [List.getElem?_toArray, List.getElem?_cons_succ, List.getElem?_cons_zero]; rfl) (fun K hK => ?_) AllUptoB.nil
           ·
            refine step_append_FB (R := StrR) (e := 9) rfl (.tmp 39) (.tmp 41) 25 rfl (bytes := 16) Tryz.underlying25 hi0 hz0 hz1 hz2 rfl (show 0 < 1 by omega) single_strJ rfl (xs := ns.map mkS) (base := w1.heap.size) (B := 0) HON_vb5.out rfl (ys := [(mkS b.names[k])]) (src_hp HP1_vb5.out (Flat.one ⟨rfl, HSN.out⟩)) rfl (Nat.zero_le _) (by rw [List.length_map, hj1]; simp only [List.length_cons, List.length_nil]; omega) (by omega) HSz_vb5.out ?_
            intro v_ vb6 hown hb hg hf
            obtain ⟨A3, c3, rfl⟩ := hown.form
            rw [show (ns.map mkS ++ [(mkS b.names[k])]).length = j + 1 by simp [hj1]] at hown ⊢
            have HU_vb6 : Hid (Below w1.heap.size wc vb6) := Lib.hid (HU_vb5.out.trans hb)
            have HSz_vb6 : Hid (w1.heap.size ≤ vb6.heap.size) := Lib.hid (Nat.le_trans HSz_vb5.out hb.size)
            have HON_vb6 := Lib.hid hown
            have HOT_vb6 := Lib.hid (HON_vb5.out.other HOT_vb5.out (by decide) hg hb hB01)
            have HP2_vb6 := Lib.hid (HON_vb5.out.heap HP2_vb5.out (by decide) hg)
            clear hown hb hg hf
            refine hK.out _ _ (fun _ => HSL.out HU_vb6.out) ?_
            clear hK
            (try simp only [Act.put, List.setIfInBounds_toArray, List.set_cons_zero, List.set_cons_succ])
            refine uptoB_take (i := 14) (v := ?v28_) (by simp only [List.getElem?_toArray, List.getElem?_cons_succ, List.getElem?_cons_zero]; rfl) (by kernel_rfl) (by kernel_rfl) (by kernel_rfl) (by kernel_rfl) ?hq28_ ?hw28_ ?hy28_ ?rest28_
            case hq28_ => exact fun _ _ _ h => h
            case hw28_ => rfl
            case hy28_ => (intro w' hS'; (try dsimp only at hS'); go_simp; (try with_reducible rfl))
            (try simp only [Act.put, List.setIfInBounds_toArray, List.set_cons_zero, List.set_cons_succ])
            refine uptoB_ready (rs := [13]) (by kernel_rfl) rfl ?_
            refine AllUptoB.cons (by simp only [List.getElem?_toArray, List.getElem?_cons_succ, List.getElem?_cons_zero]; rfl) (fun K hK => ?_) AllUptoB.nil
            ·
             refine step_append_FB (R := TmR (d + 1)) (e := 44) rfl (.tmp 44) (.tmp 50) 22 rfl (bytes := 56) Tryz.underlying22 hk0 hy0 hy1 hy2 rfl (show 0 < 4 by omega) (single_tm (d + 1)) rfl (xs := ts) (base := w1.heap.size) (B := B0) HOT_vb6.out rfl (ys := [y]) (src_hp HP2_vb6.out (Flat.one ((TmR (d + 1)).keep HU_vb6.out hB01 HYR.out))) rfl hB01 (by rw [hj2]; simp only [List.length_cons, List.length_nil]; omega) (by omega) HSz_vb6.out ?_
             intro v_ vb7 hown hb hg hf
             obtain ⟨A4, c4, rfl⟩ := hown.form
             rw [show (ts ++ [y]).length = j + 1 by simp [hj2]] at hown ⊢
             have HU_vb7 : Hid (Below w1.heap.size wc vb7) := Lib.hid (HU_vb6.out.trans hb)
             have HSz_vb7 : Hid (w1.heap.size ≤ vb7.heap.size) := Lib.hid (Nat.le_trans HSz_vb6.out hb.size)
             have HOT_vb7 := Lib.hid hown
             have HON_vb7 := Lib.hid (HOT_vb6.out.other HON_vb6.out (by decide) hg hb (Nat.zero_le _))
             clear hown hb hg hf
             refine hK.out _ _ (fun _ => HSL.out HU_vb7.out) ?_
             clear hK
             (try simp only [Act.put, List.setIfInBounds_toArray, List.set_cons_zero, List.set_cons_succ])
             have k_a := ((HBAw.out.keep HU_vb7.out hal).cell)
             have l_a := ((HBAw.out.keep HU_vb7.out hal).lt)
             have f_a := ((HBAw.out.keep HU_vb7.out hal).free)
             refine uptoB_ready (rs := [15]) (by kernel_rfl) rfl ?_
             refine AllUptoB.cons (by simp only [List.getElem?_toArray, List.getElem?_cons_succ, List.getElem?_cons_zero]; rfl) (fun K hK => ?_) AllUptoB.nil
             go_simp
             refine hK.out _ _ (SB.done 15 (by kernel_rfl) (by kernel_rfl)) ?_
             clear hK
             (try simp only [Act.put, List.setIfInBounds_toArray, List.set_cons_zero, List.set_cons_succ])
             refine uptoB_take0 (i := 16) (v := ?v29_) (by simp only [List.getElem?_toArray, List.getElem?_cons_succ, List.getElem?_cons_zero]; rfl) (by kernel_rfl) ?hw29_ (by kernel_rfl) ?hy29_ ?rest29_
             case hw29_ => rfl
             case hy29_ => (intro w'; go_simp; (try with_reducible rfl))
             (try simp only [Act.put, List.setIfInBounds_toArray, List.set_cons_zero, List.set_cons_succ])
             refine uptoB_ready (rs := [17]) (by kernel_rfl) rfl ?_
             refine AllUptoB.cons (by simp only [List.getElem?_toArray, List.getElem?_cons_succ, List.getElem?_cons_zero]; rfl) (fun K hK => ?_) AllUptoB.nil
             go_simp
             refine hK.out _ _ (SB.done 17 (by kernel_rfl) (by kernel_rfl)) ?_
             clear hK
             (try simp only [Act.put, List.setIfInBounds_toArray, List.set_cons_zero, List.set_cons_succ])
             refine uptoB_done (by kernel_rfl) ?_
             have HON : Hid (OwnR StrR 9 ((vb7.setCell ⟨w.heap.size + 1 + 1 + 1, 0, none⟩ (.slice A3 (j + 1) c3)).setCell ⟨w.heap.size + 1 + 1 + 1, 1, none⟩ (.slice A4 (j + 1) c4)) w1.heap.size 0 (.slice A3 (j + 1) c3) (ns.map mkS ++ [(mkS b.names[k])])) := Lib.hid ((HON_vb7.out.far (c := w.heap.size + 1 + 1 + 1) (i := 0) hal (Nat.zero_le _) _).far (c := w.heap.size + 1 + 1 + 1) (i := 1) hal (Nat.zero_le _) _)
             have HOT : Hid (OwnR (TmR (d + 1)) 44 ((vb7.setCell ⟨w.heap.size + 1 + 1 + 1, 0, none⟩ (.slice A3 (j + 1) c3)).setCell ⟨w.heap.size + 1 + 1 + 1, 1, none⟩ (.slice A4 (j + 1) c4)) w1.heap.size B0 (.slice A4 (j + 1) c4) (ts ++ [y])) := Lib.hid ((HOT_vb7.out.far (c := w.heap.size + 1 + 1 + 1) (i := 0) hal (by omega) _).far (c := w.heap.size + 1 + 1 + 1) (i := 1) hal (by omega) _)
             have HBAf := Lib.hid (put2b (HBAw.out.keep HU_vb7.out hal) (.slice A3 (j + 1) c3) (.slice A4 (j + 1) c4))
             have HUf : Hid (Below (w.heap.size + 1 + 1 + 1) wc ((vb7.setCell ⟨w.heap.size + 1 + 1 + 1, 0, none⟩ (.slice A3 (j + 1) c3)).setCell ⟨w.heap.size + 1 + 1 + 1, 1, none⟩ (.slice A4 (j + 1) c4))) := Lib.hid (((HU_vb7.out.mono (Nat.le_of_lt hal)).setCell (p := ⟨w.heap.size + 1 + 1 + 1, 0, none⟩) (Nat.le_refl _) _).setCell (p := ⟨w.heap.size + 1 + 1 + 1, 1, none⟩) (Nat.le_refl _) _)
             have HSf : Hid (w1.heap.size ≤ ((vb7.setCell ⟨w.heap.size + 1 + 1 + 1, 0, none⟩ (.slice A3 (j + 1) c3)).setCell ⟨w.heap.size + 1 + 1 + 1, 1, none⟩ (.slice A4 (j + 1) c4)).heap.size) := Lib.hid (by rw [World.size_setCell, World.size_setCell]; exact HSz_vb7.out)
             clear f_a k_a l_a
             generalize (vb7.setCell ⟨w.heap.size + 1 + 1 + 1, 0, none⟩ (.slice A3 (j + 1) c3)).setCell ⟨w.heap.size + 1 + 1 + 1, 1, none⟩ (.slice A4 (j + 1) c4) = uf at *
             go_wp2_with fail
             have hq := HQ.out
             refine ⟨⟨k + 1, j + 1, qb, ns ++ [b.names[k]], ts ++ [y], A3, c3, A4, c4, by omega, by simp, rfl, ?_, Lib.hid ⟨take_app HNT.out.1 HFK.out.1, take_app HNT.out.2 (by rw [← HYE.out]; exact HFK.out.2)⟩, by simp [hj1], by simp [hj2], Lib.hid (HBw.out.trans (HUf.out.mono (by omega))), HSf, Lib.hid (HBBw.out.keep HUf.out (by omega)), Lib.hid (HBXw.out.keep HUf.out (by omega)), Lib.hid (HBRw.out.keep HUf.out (by omega)), HBAf, Lib.hid (BdO.of HON.out HOT.out hj1 hj2 rfl)⟩, by simp only [intOf]; omega⟩
             cases qb <;> simp at hq ⊢ <;> omega
         ·
          go_simp
          generalize hWW : World.alloc _ _ = vb8
          obtain ⟨hb, hz⟩ := al1 hWW
          have HU_vb8 : Hid (Below w1.heap.size wc vb8) := Lib.hid (HU_vb0.out.trans (hb.mono HSz_vb0.out))
          have HSz_vb8 : Hid (w1.heap.size ≤ vb8.heap.size) := Lib.hid (Nat.le_trans HSz_vb0.out hb.size)
          have HP2_vb8 : Hid (vb8.heap[vb0.heap.size]? = some (.cells #[.int .i64 y.kind, .int .i64 y.n, .string y.s, .slice Ay y.l.length cy] 44 (0, 0))) := Lib.hid (hWW ▸ heap_alloc_new _ _)
          have HON_vb8 := Lib.hid (HON_vb0.out.later hb (Nat.zero_le _))
          have HOT_vb8 := Lib.hid (HOT_vb0.out.later hb (Nat.le_trans (Nat.le_trans hB0 (Nat.le_trans hB hsz1)) HSz_vb0.out))
          clear hWW hb hz
          refine hK.out _ _ (fun _ => HSL.out HU_vb8.out) ?_
          clear hK
          (try simp only [Act.put, List.setIfInBounds_toArray, List.set_cons_zero, List.set_cons_succ])
          refine uptoB_ready (rs := [3]) (by kernel_rfl) rfl ?_
          refine AllUptoB.cons (by simp only [List.getElem?_toArray, List.getElem?_cons_succ, List.getElem?_cons_zero]; rfl) (fun K hK => ?_) AllUptoB.nil
          ·
           go_simp
           generalize hWW : World.alloc _ _ = vb9
           obtain ⟨hb, hz⟩ := al1 hWW
           have HU_vb9 : Hid (Below w1.heap.size wc vb9) := Lib.hid (HU_vb8.out.trans (hb.mono HSz_vb8.out))
           have HSz_vb9 : Hid (w1.heap.size ≤ vb9.heap.size) := Lib.hid (Nat.le_trans HSz_vb8.out hb.size)
           have HP1_vb9 : Hid (vb9.heap[vb8.heap.size]? = some (.cells #[.string (mkS b.names[k])] 9 (0, 0))) := Lib.hid (hWW ▸ heap_alloc_new _ _)
           have HON_vb9 := Lib.hid (HON_vb8.out.later hb (Nat.zero_le _))
           have HOT_vb9 := Lib.hid (HOT_vb8.out.later hb (Nat.le_trans (Nat.le_trans hB0 (Nat.le_trans hB hsz1)) HSz_vb8.out))
           have HP2_vb9 := Lib.hid (heap_al HP2_vb8.out hb)
           clear hWW hb hz
           refine hK.out _ _ (fun _ => HSL.out HU_vb9.out) ?_
           clear hK
           (try simp only [Act.put, List.setIfInBounds_toArray, List.set_cons_zero, List.set_cons_succ])
           refine uptoB_ready (rs := [4]) (by kernel_rfl) rfl ?_
           refine AllUptoB.cons (by simp only [List.getElem?_toArray, List.getElem?_cons_succ, List.getElem?_cons_zero]; rfl) (fun K hK => ?_) AllUptoB.nil
           ·
            refine step_append_FB (R := StrR) (e := 9) rfl (.tmp 39) (.tmp 41) 25 rfl (bytes := 16) Tryz.underlying25 hi0 hz0 hz1 hz2 rfl (show 0 < 1 by omega) single_strJ rfl (xs := ns.map mkS) (base := w1.heap.size) (B := 0) HON_vb9.out rfl (ys := [(mkS b.names[k])]) (src_hp HP1_vb9.out (Flat.one ⟨rfl, HSN.out⟩)) rfl (Nat.zero_le _) (by rw [List.length_map, hj1]; simp only [List.length_cons, List.length_nil]; omega) (by omega) HSz_vb9.out ?_
            intro v_ vb10 hown hb hg hf
            obtain ⟨A3, c3, rfl⟩ := hown.form
            rw [show (ns.map mkS ++ [(mkS b.names[k])]).length = j + 1 by simp [hj1]] at hown ⊢
            have HU_vb10 : Hid (Below w1.heap.size wc vb10) := Lib.hid (HU_vb9.out.trans hb)
            have HSz_vb10 : Hid (w1.heap.size ≤ vb10.heap.size) := Lib.hid (Nat.le_trans HSz_vb9.out hb.size)
            have HON_vb10 := Lib.hid hown
            have HOT_vb10 := Lib.hid (HON_vb9.out.other HOT_vb9.out (by decide) hg hb hB01)
            have HP2_vb10 := Lib.hid (HON_vb9.out.heap HP2_vb9.out (by decide) hg)
            clear hown hb hg hf
            refine hK.out _ _ (fun _ => HSL.out HU_vb10.out) ?_
            clear hK
            (try simp only [Act.put, List.setIfInBounds_toArray, List.set_cons_zero, List.set_cons_succ])
            refine uptoB_take (i := 14) (v := ?v30_) (by simp only [List.getElem?_toArray, List.getElem?_cons_succ, List.getElem?_cons_zero]; rfl) (by kernel_rfl) (by kernel_rfl) (by kernel_rfl) (by kernel_rfl) ?hq30_ ?hw30_ ?hy30_ ?rest30_
            case hq30_ => exact fun _ _ _ h => h
            case hw30_ => rfl
            case hy30_ => (intro w' hS'; (try dsimp only at hS'); go_simp; (try with_reducible rfl))
            (try simp only [Act.put, List.setIfInBounds_toArray, List.set_cons_zero, List.set_cons_succ])
            refine uptoB_ready (rs := [13]) (by kernel_rfl) rfl ?_
            refine AllUptoB.cons (by simp only [List.getElem?_toArray, List.getElem?_cons_succ, List.getElem?_cons_zero]; rfl) (fun K hK => ?_) AllUptoB.nil
            ·
             refine step_append_FB (R := TmR (d + 1)) (e := 44) rfl (.tmp 44) (.tmp 50) 22 rfl (bytes := 56) Tryz.underlying22 hk0 hy0 hy1 hy2 rfl (show 0 < 4 by omega) (single_tm (d + 1)) rfl (xs := ts) (base := w1.heap.size) (B := B0) HOT_vb10.out rfl (ys := [y]) (src_hp HP2_vb10.out (Flat.one ((TmR (d + 1)).keep HU_vb10.out hB01 HYR.out))) rfl hB01 (by rw [hj2]; simp only [List.length_cons, List.length_nil]; omega) (by omega) HSz_vb10.out ?_
             intro v_ vb11 hown hb hg hf
             obtain ⟨A4, c4, rfl⟩ := hown.form
             rw [show (ts ++ [y]).length = j + 1 by simp [hj2]] at hown ⊢
             have HU_vb11 : Hid (Below w1.heap.size wc vb11) := Lib.hid (HU_vb10.out.trans hb)
             have HSz_vb11 : Hid (w1.heap.size ≤ vb11.heap.size) := Lib.hid (Nat.le_trans HSz_vb10.out hb.size)
             have HOT_vb11 := Lib.hid hown
             have HON_vb11 := Lib.hid (HOT_vb10.out.other HON_vb10.out (by decide) hg hb (Nat.zero_le _))
             clear hown hb hg hf
             refine hK.out _ _ (fun _ => HSL.out HU_vb11.out) ?_
             clear hK
             (try simp only [Act.put, List.setIfInBounds_toArray, List.set_cons_zero, List.set_cons_succ])
             have k_a := ((HBAw.out.keep HU_vb11.out hal).cell)
             have l_a := ((HBAw.out.keep HU_vb11.out hal).lt)
             have f_a := ((HBAw.out.keep HU_vb11.out hal).free)
             refine uptoB_ready (rs := [15]) (by kernel_rfl) rfl ?_
             refine AllUptoB.cons (by simp only [List.getElem?_toArray, List.getElem?_cons_succ, List.getElem?_cons_zero]; rfl) (fun K hK => ?_) AllUptoB.nil
             go_simp
             refine hK.out _ _ (SB.done 15 (by kernel_rfl) (by kernel_rfl)) ?_
             clear hK
             (try simp only [Act.put, List.setIfInBounds_toArray, List.set_cons_zero, List.set_cons_succ])
             refine uptoB_take0 (i := 16) (v := ?v31_) (by simp only [List.getElem?_toArray, List.getElem?_cons_succ, List.getElem?_cons_zero]; rfl) (by kernel_rfl) ?hw31_ (by kernel_rfl) ?hy31_ ?rest31_
             case hw31_ => rfl
             case hy31_ => (intro w'; go_simp; (try with_reducible rfl))
             (try simp only [Act.put, List.setIfInBounds_toArray, List.set_cons_zero, List.set_cons_succ])
             refine uptoB_ready (rs := [17]) (by kernel_rfl) rfl ?_
             refine AllUptoB.cons (by simp only [List.getElem?_toArray, List.getElem?_cons_succ, List.getElem?_cons_zero]; rfl) (fun K hK => ?_) AllUptoB.nil
             go_simp
             refine hK.out _ _ (SB.done 17 (by kernel_rfl) (by kernel_rfl)) ?_
             clear hK
             (try simp only [Act.put, List.setIfInBounds_toArray, List.set_cons_zero, List.set_cons_succ])
             refine uptoB_done (by kernel_rfl) ?_
             have HON : Hid (OwnR StrR 9 ((vb11.setCell ⟨w.heap.size + 1 + 1 + 1, 0, none⟩ (.slice A3 (j + 1) c3)).setCell ⟨w.heap.size + 1 + 1 + 1, 1, none⟩ (.slice A4 (j + 1) c4)) w1.heap.size 0 (.slice A3 (j + 1) c3) (ns.map mkS ++ [(mkS b.names[k])])) := Lib.hid ((HON_vb11.out.far (c := w.heap.size + 1 + 1 + 1) (i := 0) hal (Nat.zero_le _) _).far (c := w.heap.size + 1 + 1 + 1) (i := 1) hal (Nat.zero_le _) _)
             have HOT : Hid (OwnR (TmR (d + 1)) 44 ((vb11.setCell ⟨w.heap.size + 1 + 1 + 1, 0, none⟩ (.slice A3 (j + 1) c3)).setCell ⟨w.heap.size + 1 + 1 + 1, 1, none⟩ (.slice A4 (j + 1) c4)) w1.heap.size B0 (.slice A4 (j + 1) c4) (ts ++ [y])) := Lib.hid ((HOT_vb11.out.far (c := w.heap.size + 1 + 1 + 1) (i := 0) hal (by omega) _).far (c := w.heap.size + 1 + 1 + 1) (i := 1) hal (by omega) _)
             have HBAf := Lib.hid (put2b (HBAw.out.keep HU_vb11.out hal) (.slice A3 (j + 1) c3) (.slice A4 (j + 1) c4))
             have HUf : Hid (Below (w.heap.size + 1 + 1 + 1) wc ((vb11.setCell ⟨w.heap.size + 1 + 1 + 1, 0, none⟩ (.slice A3 (j + 1) c3)).setCell ⟨w.heap.size + 1 + 1 + 1, 1, none⟩ (.slice A4 (j + 1) c4))) := Lib.hid (((HU_vb11.out.mono (Nat.le_of_lt hal)).setCell (p := ⟨w.heap.size + 1 + 1 + 1, 0, none⟩) (Nat.le_refl _) _).setCell (p := ⟨w.heap.size + 1 + 1 + 1, 1, none⟩) (Nat.le_refl _) _)
             have HSf : Hid (w1.heap.size ≤ ((vb11.setCell ⟨w.heap.size + 1 + 1 + 1, 0, none⟩ (.slice A3 (j + 1) c3)).setCell ⟨w.heap.size + 1 + 1 + 1, 1, none⟩ (.slice A4 (j + 1) c4)).heap.size) := Lib.hid (by rw [World.size_setCell, World.size_setCell]; exact HSz_vb11.out)
             clear f_a k_a l_a
             generalize (vb11.setCell ⟨w.heap.size + 1 + 1 + 1, 0, none⟩ (.slice A3 (j + 1) c3)).setCell ⟨w.heap.size + 1 + 1 + 1, 1, none⟩ (.slice A4 (j + 1) c4) = uf at *
             go_wp2_with fail
             have hq := HQ.out
             refine ⟨⟨k + 1, j + 1, qb, ns ++ [b.names[k]], ts ++ [y], A3, c3, A4, c4, by omega, by simp, rfl, ?_, Lib.hid ⟨take_app HNT.out.1 HFK.out.1, take_app HNT.out.2 (by rw [← HYE.out]; exact HFK.out.2)⟩, by simp [hj1], by simp [hj2], Lib.hid (HBw.out.trans (HUf.out.mono (by omega))), HSf, Lib.hid (HBBw.out.keep HUf.out (by omega)), Lib.hid (HBXw.out.keep HUf.out (by omega)), Lib.hid (HBRw.out.keep HUf.out (by omega)), HBAf, Lib.hid (BdO.of HON.out HOT.out hj1 hj2 rfl)⟩, by simp only [intOf]; omega⟩
             cases qb <;> simp at hq ⊢ <;> omega
   · cases qb
     · have HQ : Hid (k ≤ p ∧ j = k) := Lib.hid (by simpa using hq)
       have hj33 : j ≤ 33 := by have := HQ.out; omega
       clear hq
       go_upto_region 11 with fail
       have HSL : Hid (∀ {w' : World}, Below w1.heap.size wr w' → (w'.cell? ⟨w.heap.size + 1 + 1 + 1, 0, none⟩ = some (.slice A1 j c1) ∧ w'.cell? ⟨w.heap.size + 1 + 1 + 1, 1, none⟩ = some (.slice A2 j c2) ∧ w'.cell? ⟨w.heap.size + 1, 0, none⟩ = some (.int .i64 t.kind) ∧ w'.cell? ⟨w.heap.size + 1, 1, none⟩ = some (.int .i64 t.n) ∧ w'.cell? ⟨w.heap.size + 1, 2, none⟩ = some (.string t.s) ∧ w'.cell? ⟨w.heap.size + 1, 3, none⟩ = some (.slice Ax t.l.length cx))) := Lib.hid (fun hb => have h := (HBAw.out.keep hb hal).cell; have h2 := (HBXw.out.keep hb (by omega)).cell; ⟨h 0, h 1, h2 0, h2 1, h2 2, h2 3⟩)
       refine wp_region_uptoB (fun w' => w'.cell? ⟨w.heap.size + 1 + 1 + 1, 0, none⟩ = some (.slice A1 j c1) ∧ w'.cell? ⟨w.heap.size + 1 + 1 + 1, 1, none⟩ = some (.slice A2 j c2) ∧ w'.cell? ⟨w.heap.size + 1, 0, none⟩ = some (.int .i64 t.kind) ∧ w'.cell? ⟨w.heap.size + 1, 1, none⟩ = some (.int .i64 t.n) ∧ w'.cell? ⟨w.heap.size + 1, 2, none⟩ = some (.string t.s) ∧ w'.cell? ⟨w.heap.size + 1, 3, none⟩ = some (.slice Ax t.l.length cx)) [11, 13] (by kernel_rfl) (HSL.out ((Below.refl w1.heap.size wr).drew)) ?_
       refine uptoB_take (i := 0) (v := ?v32_) (by simp only [List.getElem?_toArray, List.getElem?_cons_succ, List.getElem?_cons_zero]; rfl) (by kernel_rfl) (by kernel_rfl) (by kernel_rfl) (by kernel_rfl) ?hq32_ ?hw32_ ?hy32_ ?rest32_
       case hq32_ => exact fun _ _ _ h => h
       case hw32_ => rfl
       case hy32_ => (intro w' hS'; (try dsimp only at hS'); go_simp; (try with_reducible rfl))
       (try simp only [Act.put, List.setIfInBounds_toArray, List.set_cons_zero, List.set_cons_succ])
       refine uptoB_take (i := 1) (v := ?v33_) (by simp only [List.getElem?_toArray, List.getElem?_cons_succ, List.getElem?_cons_zero]; rfl) (by kernel_rfl) (by kernel_rfl) (by kernel_rfl) (by kernel_rfl) ?hq33_ ?hw33_ ?hy33_ ?rest33_
       case hq33_ => exact fun _ _ _ h => h
       case hw33_ => rfl
       case hy33_ => (intro w' hS'; (try dsimp only at hS'); go_simp; (try with_reducible rfl))
       (try simp only [Act.put, List.setIfInBounds_toArray, List.set_cons_zero, List.set_cons_succ])
       refine uptoB_take (i := 2) (v := ?v34_) (by simp only [List.getElem?_toArray, List.getElem?_cons_succ, List.getElem?_cons_zero]; rfl) (by kernel_rfl) (by kernel_rfl) (by kernel_rfl) (by kernel_rfl) ?hq34_ ?hw34_ ?hy34_ ?rest34_
       case hq34_ => exact fun _ _ _ h => h
       case hw34_ => rfl
       case hy34_ => (intro w' hS'; (try dsimp only at hS'); go_simp; (try with_reducible rfl))
       (try simp only [Act.put, List.setIfInBounds_toArray, List.set_cons_zero, List.set_cons_succ])
       refine uptoB_take (i := 5) (v := ?v35_) (by simp only [List.getElem?_toArray, List.getElem?_cons_succ, List.getElem?_cons_zero]; rfl) (by kernel_rfl) (by kernel_rfl) (by kernel_rfl) (by kernel_rfl) ?hq35_ ?hw35_ ?hy35_ ?rest35_
       case hq35_ => exact fun _ _ _ h => h
       case hw35_ => rfl
       case hy35_ => (intro w' hS'; (try dsimp only at hS'); go_simp; (try with_reducible rfl))
       (try simp only [Act.put, List.setIfInBounds_toArray, List.set_cons_zero, List.set_cons_succ])
       refine uptoB_take (i := 6) (v := ?v36_) (by simp only [List.getElem?_toArray, List.getElem?_cons_succ, List.getElem?_cons_zero]; rfl) (by kernel_rfl) (by kernel_rfl) (by kernel_rfl) (by kernel_rfl) ?hq36_ ?hw36_ ?hy36_ ?rest36_
       case hq36_ => exact fun _ _ _ h => h
       case hw36_ => rfl
       case hy36_ => (intro w' hS'; (try dsimp only at hS'); go_simp; (try with_reducible rfl))
       (try simp only [Act.put, List.setIfInBounds_toArray, List.set_cons_zero, List.set_cons_succ])
       refine uptoB_take (i := 7) (v := ?v37_) (by simp only [List.getElem?_toArray, List.getElem?_cons_succ, List.getElem?_cons_zero]; rfl) (by kernel_rfl) (by kernel_rfl) (by kernel_rfl) (by kernel_rfl) ?hq37_ ?hw37_ ?hy37_ ?rest37_
       case hq37_ => exact fun _ _ _ h => h
       case hw37_ => rfl
       case hy37_ => (intro w' hS'; (try dsimp only at hS'); go_simp; (try with_reducible rfl))
       (try simp only [Act.put, List.setIfInBounds_toArray, List.set_cons_zero, List.set_cons_succ])
       generalize hD : World.drew wr = vc0
       have HU_vc0 : Hid (Below w1.heap.size wr vc0) := Lib.hid (hD ▸ (Below.refl w1.heap.size wr).drew)
       have HSz_vc0 : Hid (w1.heap.size ≤ vc0.heap.size) := Lib.hid (by have := HU_vc0.out.size; have := HZw.out; omega)
       have HON_vc0 : Hid (OwnR StrR 9 vc0 w1.heap.size 0 (.slice A1 j c1) (ns.map mkS)) := Lib.hid (by subst hD; have h := HOw.out.nm.later ((Below.refl wr.heap.size wr).drew) (Nat.zero_le _); rwa [hj1] at h)
       have HOT_vc0 : Hid (OwnR (TmR (d + 1)) 44 vc0 w1.heap.size B0 (.slice A2 j c2) ts) := Lib.hid (by subst hD; have h := HOw.out.tm.later ((Below.refl wr.heap.size wr).drew) (Nat.le_trans hB0 hBr); rwa [hj2] at h)
       clear hD
       refine uptoB_ready (rs := [3, 8]) (by kernel_rfl) rfl ?_
       refine AllUptoB.cons (by simp only [List.getElem?_toArray, List.getElem?_cons_succ, List.getElem?_cons_zero]; rfl) (fun K hK => ?_) (AllUptoB.cons (by simp only [List.getElem?_toArray, List.getElem?_cons_succ, List.getElem?_cons_zero]; rfl) (fun K hK => ?_) AllUptoB.nil)
       ·
        go_simp
        generalize hWW : World.alloc _ _ = vc1
        obtain ⟨hb, hz⟩ := al1 hWW
        have HU_vc1 : Hid (Below w1.heap.size wr vc1) := Lib.hid (HU_vc0.out.trans (hb.mono HSz_vc0.out))
        have HSz_vc1 : Hid (w1.heap.size ≤ vc1.heap.size) := Lib.hid (Nat.le_trans HSz_vc0.out hb.size)
        have HP1_vc1 : Hid (vc1.heap[vc0.heap.size]? = some (.cells #[.string n] 9 (0, 0))) := Lib.hid (hWW ▸ heap_alloc_new _ _)
        have HON_vc1 := Lib.hid (HON_vc0.out.later hb (Nat.zero_le _))
        have HOT_vc1 := Lib.hid (HOT_vc0.out.later hb (Nat.le_trans (Nat.le_trans hB0 (Nat.le_trans hB hsz1)) HSz_vc0.out))
        clear hWW hb hz
        refine hK.out _ _ (fun _ => HSL.out HU_vc1.out) ?_
        clear hK
        (try simp only [Act.put, List.setIfInBounds_toArray, List.set_cons_zero, List.set_cons_succ])
        refine uptoB_ready (rs := [4, 8]) (by kernel_rfl) rfl ?_
        refine AllUptoB.cons (by simp only [List.getElem?_toArray, List.getElem?_cons_succ, List.getElem?_cons_zero]; rfl) (fun K hK => ?_) (AllUptoB.cons (by simp only [List.getElem?_toArray, List.getElem?_cons_succ, List.getElem?_cons_zero]; rfl) (fun K hK => ?_) AllUptoB.nil)
        ·
         refine step_append_FB (R := StrR) (e := 9) rfl (.tmp 58) (.tmp 60) 25 rfl (bytes := 16) Tryz.underlying25 hi0 hz0 hz1 hz2 rfl (show 0 < 1 by omega) single_strJ rfl (xs := ns.map mkS) (base := w1.heap.size) (B := 0) HON_vc1.out rfl (ys := [n]) (src_hp HP1_vc1.out (Flat.one ⟨rfl, hn0⟩)) rfl (Nat.zero_le _) (by rw [List.length_map, hj1]; simp only [List.length_cons, List.length_nil]; omega) (by omega) HSz_vc1.out ?_
         intro v_ vc2 hown hb hg hf
         obtain ⟨A3, c3, rfl⟩ := hown.form
         rw [show (ns.map mkS ++ [n]).length = j + 1 by simp [hj1]] at hown ⊢
         have HU_vc2 : Hid (Below w1.heap.size wr vc2) := Lib.hid (HU_vc1.out.trans hb)
         have HSz_vc2 : Hid (w1.heap.size ≤ vc2.heap.size) := Lib.hid (Nat.le_trans HSz_vc1.out hb.size)
         have HON_vc2 := Lib.hid hown
         have HOT_vc2 := Lib.hid (HON_vc1.out.other HOT_vc1.out (by decide) hg hb hB01)
         clear hown hb hg hf
         refine hK.out _ _ (fun _ => HSL.out HU_vc2.out) ?_
         clear hK
         (try simp only [Act.put, List.setIfInBounds_toArray, List.set_cons_zero, List.set_cons_succ])
         refine uptoB_take (i := 10) (v := ?v38_) (by simp only [List.getElem?_toArray, List.getElem?_cons_succ, List.getElem?_cons_zero]; rfl) (by kernel_rfl) (by kernel_rfl) (by kernel_rfl) (by kernel_rfl) ?hq38_ ?hw38_ ?hy38_ ?rest38_
         case hq38_ => exact fun _ _ _ h => h
         case hw38_ => rfl
         case hy38_ => (intro w' hS'; (try dsimp only at hS'); go_simp; (try with_reducible rfl))
         (try simp only [Act.put, List.setIfInBounds_toArray, List.set_cons_zero, List.set_cons_succ])
         refine uptoB_ready (rs := [8]) (by kernel_rfl) rfl ?_
         refine AllUptoB.cons (by simp only [List.getElem?_toArray, List.getElem?_cons_succ, List.getElem?_cons_zero]; rfl) (fun K hK => ?_) AllUptoB.nil
         ·
          go_simp
          generalize hWW : World.alloc _ _ = vc3
          obtain ⟨hb, hz⟩ := al1 hWW
          have HU_vc3 : Hid (Below w1.heap.size wr vc3) := Lib.hid (HU_vc2.out.trans (hb.mono HSz_vc2.out))
          have HSz_vc3 : Hid (w1.heap.size ≤ vc3.heap.size) := Lib.hid (Nat.le_trans HSz_vc2.out hb.size)
          have HP2_vc3 : Hid (vc3.heap[vc2.heap.size]? = some (.cells #[.int .i64 t.kind, .int .i64 t.n, .string t.s, .slice Ax t.l.length cx] 44 (0, 0))) := Lib.hid (hWW ▸ heap_alloc_new _ _)
          have HON_vc3 := Lib.hid (HON_vc2.out.later hb (Nat.zero_le _))
          have HOT_vc3 := Lib.hid (HOT_vc2.out.later hb (Nat.le_trans (Nat.le_trans hB0 (Nat.le_trans hB hsz1)) HSz_vc2.out))
          clear hWW hb hz
          refine hK.out _ _ (fun _ => HSL.out HU_vc3.out) ?_
          clear hK
          (try simp only [Act.put, List.setIfInBounds_toArray, List.set_cons_zero, List.set_cons_succ])
          refine uptoB_ready (rs := [9]) (by kernel_rfl) rfl ?_
          refine AllUptoB.cons (by simp only [List.getElem?_toArray, List.getElem?_cons_succ, List.getElem?_cons_zero]; rfl) (fun K hK => ?_) AllUptoB.nil
          ·
           refine step_append_FB (R := TmR (d + 1)) (e := 44) rfl (.tmp 63) (.tmp 65) 22 rfl (bytes := 56) Tryz.underlying22 hk0 hy0 hy1 hy2 rfl (show 0 < 4 by omega) (single_tm (d + 1)) rfl (xs := ts) (base := w1.heap.size) (B := B0) HOT_vc3.out rfl (ys := [t]) (src_hp HP2_vc3.out (Flat.one ((TmR (d + 1)).keep (HBw.out.trans (HU_vc3.out.mono hsz1)) (Nat.le_trans hB0 hB) HX.out))) rfl hB01 (by rw [hj2]; simp only [List.length_cons, List.length_nil]; omega) (by omega) HSz_vc3.out ?_
           intro v_ vc4 hown hb hg hf
           obtain ⟨A4, c4, rfl⟩ := hown.form
           rw [show (ts ++ [t]).length = j + 1 by simp [hj2]] at hown ⊢
           have HU_vc4 : Hid (Below w1.heap.size wr vc4) := Lib.hid (HU_vc3.out.trans hb)
           have HSz_vc4 : Hid (w1.heap.size ≤ vc4.heap.size) := Lib.hid (Nat.le_trans HSz_vc3.out hb.size)
           have HOT_vc4 := Lib.hid hown
           have HON_vc4 := Lib.hid (HOT_vc3.out.other HON_vc3.out (by decide) hg hb (Nat.zero_le _))
           clear hown hb hg hf
           refine hK.out _ _ (fun _ => HSL.out HU_vc4.out) ?_
           clear hK
           (try simp only [Act.put, List.setIfInBounds_toArray, List.set_cons_zero, List.set_cons_succ])
           have k_a := ((HBAw.out.keep HU_vc4.out hal).cell)
           have l_a := ((HBAw.out.keep HU_vc4.out hal).lt)
           have f_a := ((HBAw.out.keep HU_vc4.out hal).free)
           refine uptoB_ready (rs := [11]) (by kernel_rfl) rfl ?_
           refine AllUptoB.cons (by simp only [List.getElem?_toArray, List.getElem?_cons_succ, List.getElem?_cons_zero]; rfl) (fun K hK => ?_) AllUptoB.nil
           go_simp
           refine hK.out _ _ (SB.done 11 (by kernel_rfl) (by kernel_rfl)) ?_
           clear hK
           (try simp only [Act.put, List.setIfInBounds_toArray, List.set_cons_zero, List.set_cons_succ])
           refine uptoB_take0 (i := 12) (v := ?v39_) (by simp only [List.getElem?_toArray, List.getElem?_cons_succ, List.getElem?_cons_zero]; rfl) (by kernel_rfl) ?hw39_ (by kernel_rfl) ?hy39_ ?rest39_
           case hw39_ => rfl
           case hy39_ => (intro w'; go_simp; (try with_reducible rfl))
           (try simp only [Act.put, List.setIfInBounds_toArray, List.set_cons_zero, List.set_cons_succ])
           refine uptoB_ready (rs := [13]) (by kernel_rfl) rfl ?_
           refine AllUptoB.cons (by simp only [List.getElem?_toArray, List.getElem?_cons_succ, List.getElem?_cons_zero]; rfl) (fun K hK => ?_) AllUptoB.nil
           go_simp
           refine hK.out _ _ (SB.done 13 (by kernel_rfl) (by kernel_rfl)) ?_
           clear hK
           (try simp only [Act.put, List.setIfInBounds_toArray, List.set_cons_zero, List.set_cons_succ])
           refine uptoB_done (by kernel_rfl) ?_
           have HON : Hid (OwnR StrR 9 ((vc4.setCell ⟨w.heap.size + 1 + 1 + 1, 0, none⟩ (.slice A3 (j + 1) c3)).setCell ⟨w.heap.size + 1 + 1 + 1, 1, none⟩ (.slice A4 (j + 1) c4)) w1.heap.size 0 (.slice A3 (j + 1) c3) (ns.map mkS ++ [n])) := Lib.hid ((HON_vc4.out.far (c := w.heap.size + 1 + 1 + 1) (i := 0) hal (Nat.zero_le _) _).far (c := w.heap.size + 1 + 1 + 1) (i := 1) hal (Nat.zero_le _) _)
           have HOT : Hid (OwnR (TmR (d + 1)) 44 ((vc4.setCell ⟨w.heap.size + 1 + 1 + 1, 0, none⟩ (.slice A3 (j + 1) c3)).setCell ⟨w.heap.size + 1 + 1 + 1, 1, none⟩ (.slice A4 (j + 1) c4)) w1.heap.size B0 (.slice A4 (j + 1) c4) (ts ++ [t])) := Lib.hid ((HOT_vc4.out.far (c := w.heap.size + 1 + 1 + 1) (i := 0) hal (by omega) _).far (c := w.heap.size + 1 + 1 + 1) (i := 1) hal (by omega) _)
           have HBAf := Lib.hid (put2b (HBAw.out.keep HU_vc4.out hal) (.slice A3 (j + 1) c3) (.slice A4 (j + 1) c4))
           have HUf : Hid (Below (w.heap.size + 1 + 1 + 1) wr ((vc4.setCell ⟨w.heap.size + 1 + 1 + 1, 0, none⟩ (.slice A3 (j + 1) c3)).setCell ⟨w.heap.size + 1 + 1 + 1, 1, none⟩ (.slice A4 (j + 1) c4))) := Lib.hid (((HU_vc4.out.mono (Nat.le_of_lt hal)).setCell (p := ⟨w.heap.size + 1 + 1 + 1, 0, none⟩) (Nat.le_refl _) _).setCell (p := ⟨w.heap.size + 1 + 1 + 1, 1, none⟩) (Nat.le_refl _) _)
           have HSf : Hid (w1.heap.size ≤ ((vc4.setCell ⟨w.heap.size + 1 + 1 + 1, 0, none⟩ (.slice A3 (j + 1) c3)).setCell ⟨w.heap.size + 1 + 1 + 1, 1, none⟩ (.slice A4 (j + 1) c4)).heap.size) := Lib.hid (by rw [World.size_setCell, World.size_setCell]; exact HSz_vc4.out)
           clear f_a k_a l_a
           generalize (vc4.setCell ⟨w.heap.size + 1 + 1 + 1, 0, none⟩ (.slice A3 (j + 1) c3)).setCell ⟨w.heap.size + 1 + 1 + 1, 1, none⟩ (.slice A4 (j + 1) c4) = uf at *
           have hq := HQ.out
           have HBO : Hid (BdO w1.heap.size B0 d uf (ns ++ [bs n]) (ts ++ [t]) A3 c3 A4 c4) := Lib.hid (BdO.of HON.out HOT.out hj1 hj2 (mkS_bs n))
           have HFF : Hid (ns ++ [bs n] = F ∧ ts ++ [t] = G) := Lib.hid (by
             have hpl2 : p ≤ b.terms.length := by rw [← HOK.out.len]; exact hpl
             have hjl : j = p := by omega
             have hp2 : p = b.names.length := by omega
             have e1 := take_app HNT.out.1 (x := bs n) (by rw [HFG.out.1, hjl]; exact putL_at hpl)
             have e2 := take_app HNT.out.2 (x := t) (by rw [HFG.out.2.1, hjl]; exact putL_at hpl2)
             rw [e1, e2]
             exact ⟨List.take_of_length_le (by rw [HFG.out.1, length_putL hpl]; omega), List.take_of_length_le (by rw [HFG.out.2.1, length_putL hpl2, ← HOK.out.len]; omega)⟩)
           have HRf := Lib.hid (HBRw.out.keep HUf.out (by omega))
           have HBf : Hid (Below w.heap.size w uf) := Lib.hid (HBw.out.trans (HUf.out.mono (by omega)))
           have HJ : Hid (j + 1 = (ns ++ [bs n]).length) := Lib.hid (by simp [hj1])
           have HJ2 : Hid (j + 1 = (ts ++ [t]).length) := Lib.hid (by simp [hj2])
           clear hq HQ
           generalize ns ++ [bs n] = NS at *
           generalize ts ++ [t] = TS at *
           have k_a := HBAf.out.cell
           have l_a := HBAf.out.lt
           have k_r := HRf.out.cell
           have l_r := HRf.out.lt
           have f_r := HRf.out.free
           go_wp2_with fail
           refine bodyPost_ret (ret_bd rfl rfl (put2b HRf.out (.slice A3 (j + 1) c3) (.slice A4 (j + 1) c4)) rfl) rfl ?_
           have eF : (insB b (bs n) t).names = NS := by rw [HFF.out.1, HFG.out.1, HFG.out.2.2]; rfl
           have eG : (insB b (bs n) t).terms = TS := by rw [HFF.out.2, HFG.out.2.1, HFG.out.2.2]; rfl
           have hb2 := (((HBO.out.nm.far (c := w.heap.size + 1 + 1) (i := 0) (by omega) (Nat.zero_le _) (.slice A3 (j + 1) c3)).far (c := w.heap.size + 1 + 1) (i := 1) (by omega) (Nat.zero_le _) (.slice A4 (j + 1) c4))).lower (b0 := w.heap.size) hsz1
           have hb3 := (((HBO.out.tm.far (c := w.heap.size + 1 + 1) (i := 0) (by omega) (by omega) (.slice A3 (j + 1) c3)).far (c := w.heap.size + 1 + 1) (i := 1) (by omega) (by omega) (.slice A4 (j + 1) c4))).lower (b0 := w.heap.size) hsz1
           exact ⟨⟨A3, c3, A4, c4, by rw [eF, eG, ← HJ.out, ← HJ2.out], by rw [eF, eG]; exact ⟨hb2, hb3⟩⟩, put2u HBf.out (by omega) _ _⟩
        ·
         go_simp
         generalize hWW : World.alloc _ _ = vc5
         obtain ⟨hb, hz⟩ := al1 hWW
         have HU_vc5 : Hid (Below w1.heap.size wr vc5) := Lib.hid (HU_vc1.out.trans (hb.mono HSz_vc1.out))
         have HSz_vc5 : Hid (w1.heap.size ≤ vc5.heap.size) := Lib.hid (Nat.le_trans HSz_vc1.out hb.size)
         have HP2_vc5 : Hid (vc5.heap[vc1.heap.size]? = some (.cells #[.int .i64 t.kind, .int .i64 t.n, .string t.s, .slice Ax t.l.length cx] 44 (0, 0))) := Lib.hid (hWW ▸ heap_alloc_new _ _)
         have HON_vc5 := Lib.hid (HON_vc1.out.later hb (Nat.zero_le _))
         have HOT_vc5 := Lib.hid (HOT_vc1.out.later hb (Nat.le_trans (Nat.le_trans hB0 (Nat.le_trans hB hsz1)) HSz_vc1.out))
         have HP1_vc5 := Lib.hid (heap_al HP1_vc1.out hb)
         clear hWW hb hz
         refine hK.out _ _ (fun _ => HSL.out HU_vc5.out) ?_
         clear hK
         (try simp only [Act.put, List.setIfInBounds_toArray, List.set_cons_zero, List.set_cons_succ])
         refine uptoB_ready (rs := [4]) (by kernel_rfl) rfl ?_
         refine AllUptoB.cons (by simp only [List.getElem?_toArray, List.getElem?_cons_succ, List.getElem?_cons_zero]; rfl) (fun K hK => ?_) AllUptoB.nil
         ·
          refine step_append_FB (R := StrR) (e := 9) rfl (.tmp 58) (.tmp 60) 25 rfl (bytes := 16) Tryz.underlying25 hi0 hz0 hz1 hz2 rfl (show 0 < 1 by omega) single_strJ rfl (xs := ns.map mkS) (base := w1.heap.size) (B := 0) HON_vc5.out rfl (ys := [n]) (src_hp HP1_vc5.out (Flat.one ⟨rfl, hn0⟩)) rfl (Nat.zero_le _) (by rw [List.length_map, hj1]; simp only [List.length_cons, List.length_nil]; omega) (by omega) HSz_vc5.out ?_
          intro v_ vc6 hown hb hg hf
          obtain ⟨A3, c3, rfl⟩ := hown.form
          rw [show (ns.map mkS ++ [n]).length = j + 1 by simp [hj1]] at hown ⊢
          have HU_vc6 : Hid (Below w1.heap.size wr vc6) := Lib.hid (HU_vc5.out.trans hb)
          have HSz_vc6 : Hid (w1.heap.size ≤ vc6.heap.size) := Lib.hid (Nat.le_trans HSz_vc5.out hb.size)
          have HON_vc6 := Lib.hid hown
          have HOT_vc6 := Lib.hid (HON_vc5.out.other HOT_vc5.out (by decide) hg hb hB01)
          have HP2_vc6 := Lib.hid (HON_vc5.out.heap HP2_vc5.out (by decide) hg)
          clear hown hb hg hf
          refine hK.out _ _ (fun _ => HSL.out HU_vc6.out) ?_
          clear hK
          (try simp only [Act.put, List.setIfInBounds_toArray, List.set_cons_zero, List.set_cons_succ])
          refine uptoB_take (i := 10) (v := ?v40_) (by simp only [List.getElem?_toArray, List.getElem?_cons_succ, List.getElem?_cons_zero]; rfl) (by kernel_rfl) (by kernel_rfl) (by kernel_rfl) (by kernel_rfl) ?hq40_ ?hw40_ ?hy40_ ?rest40_
          case hq40_ => exact fun _ _ _ h => h
          case hw40_ => rfl
          case hy40_ => (intro w' hS'; (try dsimp only at hS'); go_simp; (try with_reducible rfl))
          (try simp only [Act.put, List.setIfInBounds_toArray, List.set_cons_zero, List.set_cons_succ])
          refine uptoB_ready (rs := [9]) (by kernel_rfl) rfl ?_
          refine AllUptoB.cons (by simp only [List.getElem?_toArray, List.getElem?_cons_succ, List.getElem?_cons_zero]; rfl) (fun K hK => ?_) AllUptoB.nil
          ·
           refine step_append_FB (R := TmR (d + 1)) (e := 44) rfl (.tmp 63) (.tmp 65) 22 rfl (bytes := 56) Tryz.underlying22 hk0 hy0 hy1 hy2 rfl (show 0 < 4 by omega) (single_tm (d + 1)) rfl (xs := ts) (base := w1.heap.size) (B := B0) HOT_vc6.out rfl (ys := [t]) (src_hp HP2_vc6.out (Flat.one ((TmR (d + 1)).keep (HBw.out.trans (HU_vc6.out.mono hsz1)) (Nat.le_trans hB0 hB) HX.out))) rfl hB01 (by rw [hj2]; simp only [List.length_cons, List.length_nil]; omega) (by omega) HSz_vc6.out ?_
           intro v_ vc7 hown hb hg hf
           obtain ⟨A4, c4, rfl⟩ := hown.form
           rw [show (ts ++ [t]).length = j + 1 by simp [hj2]] at hown ⊢
           have HU_vc7 : Hid (Below w1.heap.size wr vc7) := Lib.hid (HU_vc6.out.trans hb)
           have HSz_vc7 : Hid (w1.heap.size ≤ vc7.heap.size) := Lib.hid (Nat.le_trans HSz_vc6.out hb.size)
           have HOT_vc7 := Lib.hid hown
           have HON_vc7 := Lib.hid (HOT_vc6.out.other HON_vc6.out (by decide) hg hb (Nat.zero_le _))
           clear hown hb hg hf
           refine hK.out _ _ (fun _ => HSL.out HU_vc7.out) ?_
           clear hK
           (try simp only [Act.put, List.setIfInBounds_toArray, List.set_cons_zero, List.set_cons_succ])
           have k_a := ((HBAw.out.keep HU_vc7.out hal).cell)
           have l_a := ((HBAw.out.keep HU_vc7.out hal).lt)
           have f_a := ((HBAw.out.keep HU_vc7.out hal).free)
           refine uptoB_ready (rs := [11]) (by kernel_rfl) rfl ?_
           refine AllUptoB.cons (by simp only [List.getElem?_toArray, List.getElem?_cons_succ, List.getElem?_cons_zero]; rfl) (fun K hK => ?_) AllUptoB.nil
           go_simp
           refine hK.out _ _ (SB.done 11 (by kernel_rfl) (by kernel_rfl)) ?_
           clear hK
           (try simp only [Act.put, List.setIfInBounds_toArray, List.set_cons_zero, List.set_cons_succ])
           refine uptoB_take0 (i := 12) (v := ?v41_) (by simp only [List.getElem?_toArray, List.getElem?_cons_succ, List.getElem?_cons_zero]; rfl) (by kernel_rfl) ?hw41_ (by kernel_rfl) ?hy41_ ?rest41_
           case hw41_ => rfl
           case hy41_ => (intro w'; go_simp; (try with_reducible rfl))
           (try simp only [Act.put, List.setIfInBounds_toArray, List.set_cons_zero, List.set_cons_succ])
           refine uptoB_ready (rs := [13]) (by kernel_rfl) rfl ?_
           refine AllUptoB.cons (by simp only [List.getElem?_toArray, List.getElem?_cons_succ, List.getElem?_cons_zero]; rfl) (fun K hK => ?_) AllUptoB.nil
           go_simp
           refine hK.out _ _ (SB.done 13 (by kernel_rfl) (by kernel_rfl)) ?_
           clear hK
           (try simp only [Act.put, List.setIfInBounds_toArray, List.set_cons_zero, List.set_cons_succ])
           refine uptoB_done (by kernel_rfl) ?_
           have HON : Hid (OwnR StrR 9 ((vc7.setCell ⟨w.heap.size + 1 + 1 + 1, 0, none⟩ (.slice A3 (j + 1) c3)).setCell ⟨w.heap.size + 1 + 1 + 1, 1, none⟩ (.slice A4 (j + 1) c4)) w1.heap.size 0 (.slice A3 (j + 1) c3) (ns.map mkS ++ [n])) := Lib.hid ((HON_vc7.out.far (c := w.heap.size + 1 + 1 + 1) (i := 0) hal (Nat.zero_le _) _).far (c := w.heap.size + 1 + 1 + 1) (i := 1) hal (Nat.zero_le _) _)
           have HOT : Hid (OwnR (TmR (d + 1)) 44 ((vc7.setCell ⟨w.heap.size + 1 + 1 + 1, 0, none⟩ (.slice A3 (j + 1) c3)).setCell ⟨w.heap.size + 1 + 1 + 1, 1, none⟩ (.slice A4 (j + 1) c4)) w1.heap.size B0 (.slice A4 (j + 1) c4) (ts ++ [t])) := Lib.hid ((HOT_vc7.out.far (c := w.heap.size + 1 + 1 + 1) (i := 0) hal (by omega) _).far (c := w.heap.size + 1 + 1 + 1) (i := 1) hal (by omega) _)
           have HBAf := Lib.hid (put2b (HBAw.out.keep HU_vc7.out hal) (.slice A3 (j + 1) c3) (.slice A4 (j + 1) c4))
           have HUf : Hid (Below (w.heap.size + 1 + 1 + 1) wr ((vc7.setCell ⟨w.heap.size + 1 + 1 + 1, 0, none⟩ (.slice A3 (j + 1) c3)).setCell ⟨w.heap.size + 1 + 1 + 1, 1, none⟩ (.slice A4 (j + 1) c4))) := Lib.hid (((HU_vc7.out.mono (Nat.le_of_lt hal)).setCell (p := ⟨w.heap.size + 1 + 1 + 1, 0, none⟩) (Nat.le_refl _) _).setCell (p := ⟨w.heap.size + 1 + 1 + 1, 1, none⟩) (Nat.le_refl _) _)
           have HSf : Hid (w1.heap.size ≤ ((vc7.setCell ⟨w.heap.size + 1 + 1 + 1, 0, none⟩ (.slice A3 (j + 1) c3)).setCell ⟨w.heap.size + 1 + 1 + 1, 1, none⟩ (.slice A4 (j + 1) c4)).heap.size) := Lib.hid (by rw [World.size_setCell, World.size_setCell]; exact HSz_vc7.out)
           clear f_a k_a l_a
           generalize (vc7.setCell ⟨w.heap.size + 1 + 1 + 1, 0, none⟩ (.slice A3 (j + 1) c3)).setCell ⟨w.heap.size + 1 + 1 + 1, 1, none⟩ (.slice A4 (j + 1) c4) = uf at *
           have hq := HQ.out
           have HBO : Hid (BdO w1.heap.size B0 d uf (ns ++ [bs n]) (ts ++ [t]) A3 c3 A4 c4) := Lib.hid (BdO.of HON.out HOT.out hj1 hj2 (mkS_bs n))
           have HFF : Hid (ns ++ [bs n] = F ∧ ts ++ [t] = G) := Lib.hid (by
             have hpl2 : p ≤ b.terms.length := by rw [← HOK.out.len]; exact hpl
             have hjl : j = p := by omega
             have hp2 : p = b.names.length := by omega
             have e1 := take_app HNT.out.1 (x := bs n) (by rw [HFG.out.1, hjl]; exact putL_at hpl)
             have e2 := take_app HNT.out.2 (x := t) (by rw [HFG.out.2.1, hjl]; exact putL_at hpl2)
             rw [e1, e2]
             exact ⟨List.take_of_length_le (by rw [HFG.out.1, length_putL hpl]; omega), List.take_of_length_le (by rw [HFG.out.2.1, length_putL hpl2, ← HOK.out.len]; omega)⟩)
           have HRf := Lib.hid (HBRw.out.keep HUf.out (by omega))
           have HBf : Hid (Below w.heap.size w uf) := Lib.hid (HBw.out.trans (HUf.out.mono (by omega)))
           have HJ : Hid (j + 1 = (ns ++ [bs n]).length) := Lib.hid (by simp [hj1])
           have HJ2 : Hid (j + 1 = (ts ++ [t]).length) := Lib.hid (by simp [hj2])
           clear hq HQ
           generalize ns ++ [bs n] = NS at *
           generalize ts ++ [t] = TS at *
           have k_a := HBAf.out.cell
           have l_a := HBAf.out.lt
           have k_r := HRf.out.cell
           have l_r := HRf.out.lt
           have f_r := HRf.out.free
           go_wp2_with fail
           refine bodyPost_ret (ret_bd rfl rfl (put2b HRf.out (.slice A3 (j + 1) c3) (.slice A4 (j + 1) c4)) rfl) rfl ?_
           have eF : (insB b (bs n) t).names = NS := by rw [HFF.out.1, HFG.out.1, HFG.out.2.2]; rfl
           have eG : (insB b (bs n) t).terms = TS := by rw [HFF.out.2, HFG.out.2.1, HFG.out.2.2]; rfl
           have hb2 := (((HBO.out.nm.far (c := w.heap.size + 1 + 1) (i := 0) (by omega) (Nat.zero_le _) (.slice A3 (j + 1) c3)).far (c := w.heap.size + 1 + 1) (i := 1) (by omega) (Nat.zero_le _) (.slice A4 (j + 1) c4))).lower (b0 := w.heap.size) hsz1
           have hb3 := (((HBO.out.tm.far (c := w.heap.size + 1 + 1) (i := 0) (by omega) (by omega) (.slice A3 (j + 1) c3)).far (c := w.heap.size + 1 + 1) (i := 1) (by omega) (by omega) (.slice A4 (j + 1) c4))).lower (b0 := w.heap.size) hsz1
           exact ⟨⟨A3, c3, A4, c4, by rw [eF, eG, ← HJ.out, ← HJ2.out], by rw [eF, eG]; exact ⟨hb2, hb3⟩⟩, put2u HBf.out (by omega) _ _⟩
       ·
        go_simp
        generalize hWW : World.alloc _ _ = vc8
        obtain ⟨hb, hz⟩ := al1 hWW
        have HU_vc8 : Hid (Below w1.heap.size wr vc8) := Lib.hid (HU_vc0.out.trans (hb.mono HSz_vc0.out))
        have HSz_vc8 : Hid (w1.heap.size ≤ vc8.heap.size) := Lib.hid (Nat.le_trans HSz_vc0.out hb.size)
        have HP2_vc8 : Hid (vc8.heap[vc0.heap.size]? = some (.cells #[.int .i64 t.kind, .int .i64 t.n, .string t.s, .slice Ax t.l.length cx] 44 (0, 0))) := Lib.hid (hWW ▸ heap_alloc_new _ _)
        have HON_vc8 := Lib.hid (HON_vc0.out.later hb (Nat.zero_le _))
        have HOT_vc8 := Lib.hid (HOT_vc0.out.later hb (Nat.le_trans (Nat.le_trans hB0 (Nat.le_trans hB hsz1)) HSz_vc0.out))
        clear hWW hb hz
        refine hK.out _ _ (fun _ => HSL.out HU_vc8.out) ?_
        clear hK
        (try simp only [Act.put, List.setIfInBounds_toArray, List.set_cons_zero, List.set_cons_succ])
        refine uptoB_ready (rs := [3]) (by kernel_rfl) rfl ?_
        refine AllUptoB.cons (by simp only [List.getElem?_toArray, List.getElem?_cons_succ, List.getElem?_cons_zero]; rfl) (fun K hK => ?_) AllUptoB.nil
        ·
         go_simp
         generalize hWW : World.alloc _ _ = vc9
         obtain ⟨hb, hz⟩ := al1 hWW
         have HU_vc9 : Hid (Below w1.heap.size wr vc9) := Lib.hid (HU_vc8.out.trans (hb.mono HSz_vc8.out))
         have HSz_vc9 : Hid (w1.heap.size ≤ vc9.heap.size) := Lib.hid (Nat.le_trans HSz_vc8.out hb.size)
         have HP1_vc9 : Hid (vc9.heap[vc8.heap.size]? = some (.cells #[.string n] 9 (0, 0))) := Lib.hid (hWW ▸ heap_alloc_new _ _)
         have HON_vc9 := Lib.hid (HON_vc8.out.later hb (Nat.zero_le _))
         have HOT_vc9 := Lib.hid (HOT_vc8.out.later hb (Nat.le_trans (Nat.le_trans hB0 (Nat.le_trans hB hsz1)) HSz_vc8.out))
         have HP2_vc9 := Lib.hid (heap_al HP2_vc8.out hb)
         clear hWW hb hz
         refine hK.out _ _ (fun _ => HSL.out HU_vc9.out) ?_
         clear hK
         (try simp only [Act.put, List.setIfInBounds_toArray, List.set_cons_zero, List.set_cons_succ])
         refine uptoB_ready (rs := [4]) (by kernel_rfl) rfl ?_
         refine AllUptoB.cons (by simp only [List.getElem?_toArray, List.getElem?_cons_succ, List.getElem?_cons_zero]; rfl) (fun K hK => ?_) AllUptoB.nil
         ·
          refine step_append_FB (R := StrR) (e := 9) rfl (.tmp 58) (.tmp 60) 25 rfl (bytes := 16) Tryz.underlying25 hi0 hz0 hz1 hz2 rfl (show 0 < 1 by omega) single_strJ rfl (xs := ns.map mkS) (base := w1.heap.size) (B := 0) HON_vc9.out rfl (ys := [n]) (src_hp HP1_vc9.out (Flat.one ⟨rfl, hn0⟩)) rfl (Nat.zero_le _) (by rw [List.length_map, hj1]; simp only [List.length_cons, List.length_nil]; omega) (by omega) HSz_vc9.out ?_
          intro v_ vc10 hown hb hg hf
          obtain ⟨A3, c3, rfl⟩ := hown.form
          rw [show (ns.map mkS ++ [n]).length = j + 1 by simp [hj1]] at hown ⊢
          have HU_vc10 : Hid (Below w1.heap.size wr vc10) := Lib.hid (HU_vc9.out.trans hb)
          have HSz_vc10 : Hid (w1.heap.size ≤ vc10.heap.size) := Lib.hid (Nat.le_trans HSz_vc9.out hb.size)
          have HON_vc10 := Lib.hid hown
          have HOT_vc10 := Lib.hid (HON_vc9.out.other HOT_vc9.out (by decide) hg hb hB01)
          have HP2_vc10 := Lib.hid (HON_vc9.out.heap HP2_vc9.out (by decide) hg)
          clear hown hb hg hf
          refine hK.out _ _ (fun _ => HSL.out HU_vc10.out) ?_
          clear hK
          (try simp only [Act.put, List.setIfInBounds_toArray, List.set_cons_zero, List.set_cons_succ])
          refine uptoB_take (i := 10) (v := ?v42_) (by simp only [List.getElem?_toArray, List.getElem?_cons_succ, List.getElem?_cons_zero]; rfl) (by kernel_rfl) (by kernel_rfl) (by kernel_rfl) (by kernel_rfl) ?hq42_ ?hw42_ ?hy42_ ?rest42_
          case hq42_ => exact fun _ _ _ h => h
          case hw42_ => rfl
          case hy42_ => (intro w' hS'; (try dsimp only at hS'); go_simp; (try with_reducible rfl))
          (try simp only [Act.put, List.setIfInBounds_toArray, List.set_cons_zero, List.set_cons_succ])
          refine uptoB_ready (rs := [9]) (by kernel_rfl) rfl ?_
          refine AllUptoB.cons (by simp only [List.getElem?_toArray, List.getElem?_cons_succ, List.getElem?_cons_zero]; rfl) (fun K hK => ?_) AllUptoB.nil
          ·
           refine step_append_FB (R := TmR (d + 1)) (e := 44) rfl (.tmp 63) (.tmp 65) 22 rfl (bytes := 56) Tryz.underlying22 hk0 hy0 hy1 hy2 rfl (show 0 < 4 by omega) (single_tm (d + 1)) rfl (xs := ts) (base := w1.heap.size) (B := B0) HOT_vc10.out rfl (ys := [t]) (src_hp HP2_vc10.out (Flat.one ((TmR (d + 1)).keep (HBw.out.trans (HU_vc10.out.mono hsz1)) (Nat.le_trans hB0 hB) HX.out))) rfl hB01 (by rw [hj2]; simp only [List.length_cons, List.length_nil]; omega) (by omega) HSz_vc10.out ?_
           intro v_ vc11 hown hb hg hf
           obtain ⟨A4, c4, rfl⟩ := hown.form
           rw [show (ts ++ [t]).length = j + 1 by simp [hj2]] at hown ⊢
           have HU_vc11 : Hid (Below w1.heap.size wr vc11) := Lib.hid (HU_vc10.out.trans hb)
           have HSz_vc11 : Hid (w1.heap.size ≤ vc11.heap.size) := Lib.hid (Nat.le_trans HSz_vc10.out hb.size)
           have HOT_vc11 := Lib.hid hown
           have HON_vc11 := Lib.hid (HOT_vc10.out.other HON_vc10.out (by decide) hg hb (Nat.zero_le _))
           clear hown hb hg hf
           refine hK.out _ _ (fun _ => HSL.out HU_vc11.out) ?_
           clear hK
           (try simp only [Act.put, List.setIfInBounds_toArray, List.set_cons_zero, List.set_cons_succ])
           have k_a := ((HBAw.out.keep HU_vc11.out hal).cell)
           have l_a := ((HBAw.out.keep HU_vc11.out hal).lt)
           have f_a := ((HBAw.out.keep HU_vc11.out hal).free)
           refine uptoB_ready (rs := [11]) (by kernel_rfl) rfl ?_
           refine AllUptoB.cons (by simp only [List.getElem?_toArray, List.getElem?_cons_succ, List.getElem?_cons_zero]; rfl) (fun K hK => ?_) AllUptoB.nil
           go_simp
           refine hK.out _ _ (SB.done 11 (by kernel_rfl) (by kernel_rfl)) ?_
           clear hK
           (try simp only [Act.put, List.setIfInBounds_toArray, List.set_cons_zero, List.set_cons_succ])
           refine uptoB_take0 (i := 12) (v := ?v43_) (by simp only [List.getElem?_toArray, List.getElem?_cons_succ, List.getElem?_cons_zero]; rfl) (by kernel_rfl) ?hw43_ (by kernel_rfl) ?hy43_ ?rest43_
           case hw43_ => rfl
           case hy43_ => (intro w'; go_simp; (try with_reducible rfl))
           (try simp only [Act.put, List.setIfInBounds_toArray, List.set_cons_zero, List.set_cons_succ])
           refine uptoB_ready (rs := [13]) (by kernel_rfl) rfl ?_
           refine AllUptoB.cons (by simp only [List.getElem?_toArray, List.getElem?_cons_succ, List.getElem?_cons_zero]; rfl) (fun K hK => ?_) AllUptoB.nil
           go_simp
           refine hK.out _ _ (SB.done 13 (by kernel_rfl) (by kernel_rfl)) ?_
           clear hK
           (try simp only [Act.put, List.setIfInBounds_toArray, List.set_cons_zero, List.set_cons_succ])
           refine uptoB_done (by kernel_rfl) ?_
           have HON : Hid (OwnR StrR 9 ((vc11.setCell ⟨w.heap.size + 1 + 1 + 1, 0, none⟩ (.slice A3 (j + 1) c3)).setCell ⟨w.heap.size + 1 + 1 + 1, 1, none⟩ (.slice A4 (j + 1) c4)) w1.heap.size 0 (.slice A3 (j + 1) c3) (ns.map mkS ++ [n])) := Lib.hid ((HON_vc11.out.far (c := w.heap.size + 1 + 1 + 1) (i := 0) hal (Nat.zero_le _) _).far (c := w.heap.size + 1 + 1 + 1) (i := 1) hal (Nat.zero_le _) _)
           have HOT : Hid (OwnR (TmR (d + 1)) 44 ((vc11.setCell ⟨w.heap.size + 1 + 1 + 1, 0, none⟩ (.slice A3 (j + 1) c3)).setCell ⟨w.heap.size + 1 + 1 + 1, 1, none⟩ (.slice A4 (j + 1) c4)) w1.heap.size B0 (.slice A4 (j + 1) c4) (ts ++ [t])) := Lib.hid ((HOT_vc11.out.far (c := w.heap.size + 1 + 1 + 1) (i := 0) hal (by omega) _).far (c := w.heap.size + 1 + 1 + 1) (i := 1) hal (by omega) _)
           have HBAf := Lib.hid (put2b (HBAw.out.keep HU_vc11.out hal) (.slice A3 (j + 1) c3) (.slice A4 (j + 1) c4))
           have HUf : Hid (Below (w.heap.size + 1 + 1 + 1) wr ((vc11.setCell ⟨w.heap.size + 1 + 1 + 1, 0, none⟩ (.slice A3 (j + 1) c3)).setCell ⟨w.heap.size + 1 + 1 + 1, 1, none⟩ (.slice A4 (j + 1) c4))) := Lib.hid (((HU_vc11.out.mono (Nat.le_of_lt hal)).setCell (p := ⟨w.heap.size + 1 + 1 + 1, 0, none⟩) (Nat.le_refl _) _).setCell (p := ⟨w.heap.size + 1 + 1 + 1, 1, none⟩) (Nat.le_refl _) _)
           have HSf : Hid (w1.heap.size ≤ ((vc11.setCell ⟨w.heap.size + 1 + 1 + 1, 0, none⟩ (.slice A3 (j + 1) c3)).setCell ⟨w.heap.size + 1 + 1 + 1, 1, none⟩ (.slice A4 (j + 1) c4)).heap.size) := Lib.hid (by rw [World.size_setCell, World.size_setCell]; exact HSz_vc11.out)
           clear f_a k_a l_a
           generalize (vc11.setCell ⟨w.heap.size + 1 + 1 + 1, 0, none⟩ (.slice A3 (j + 1) c3)).setCell ⟨w.heap.size + 1 + 1 + 1, 1, none⟩ (.slice A4 (j + 1) c4) = uf at *
           have hq := HQ.out
           have HBO : Hid (BdO w1.heap.size B0 d uf (ns ++ [bs n]) (ts ++ [t]) A3 c3 A4 c4) := Lib.hid (BdO.of HON.out HOT.out hj1 hj2 (mkS_bs n))
           have HFF : Hid (ns ++ [bs n] = F ∧ ts ++ [t] = G) := Lib.hid (by
             have hpl2 : p ≤ b.terms.length := by rw [← HOK.out.len]; exact hpl
             have hjl : j = p := by omega
             have hp2 : p = b.names.length := by omega
             have e1 := take_app HNT.out.1 (x := bs n) (by rw [HFG.out.1, hjl]; exact putL_at hpl)
             have e2 := take_app HNT.out.2 (x := t) (by rw [HFG.out.2.1, hjl]; exact putL_at hpl2)
             rw [e1, e2]
             exact ⟨List.take_of_length_le (by rw [HFG.out.1, length_putL hpl]; omega), List.take_of_length_le (by rw [HFG.out.2.1, length_putL hpl2, ← HOK.out.len]; omega)⟩)
           have HRf := Lib.hid (HBRw.out.keep HUf.out (by omega))
           have HBf : Hid (Below w.heap.size w uf) := Lib.hid (HBw.out.trans (HUf.out.mono (by omega)))
           have HJ : Hid (j + 1 = (ns ++ [bs n]).length) := Lib.hid (by simp [hj1])
           have HJ2 : Hid (j + 1 = (ts ++ [t]).length) := Lib.hid (by simp [hj2])
           clear hq HQ
           generalize ns ++ [bs n] = NS at *
           generalize ts ++ [t] = TS at *
           have k_a := HBAf.out.cell
           have l_a := HBAf.out.lt
           have k_r := HRf.out.cell
           have l_r := HRf.out.lt
           have f_r := HRf.out.free
           go_wp2_with fail
           refine bodyPost_ret (ret_bd rfl rfl (put2b HRf.out (.slice A3 (j + 1) c3) (.slice A4 (j + 1) c4)) rfl) rfl ?_
           have eF : (insB b (bs n) t).names = NS := by rw [HFF.out.1, HFG.out.1, HFG.out.2.2]; rfl
           have eG : (insB b (bs n) t).terms = TS := by rw [HFF.out.2, HFG.out.2.1, HFG.out.2.2]; rfl
           have hb2 := (((HBO.out.nm.far (c := w.heap.size + 1 + 1) (i := 0) (by omega) (Nat.zero_le _) (.slice A3 (j + 1) c3)).far (c := w.heap.size + 1 + 1) (i := 1) (by omega) (Nat.zero_le _) (.slice A4 (j + 1) c4))).lower (b0 := w.heap.size) hsz1
           have hb3 := (((HBO.out.tm.far (c := w.heap.size + 1 + 1) (i := 0) (by omega) (by omega) (.slice A3 (j + 1) c3)).far (c := w.heap.size + 1 + 1) (i := 1) (by omega) (by omega) (.slice A4 (j + 1) c4))).lower (b0 := w.heap.size) hsz1
           exact ⟨⟨A3, c3, A4, c4, by rw [eF, eG, ← HJ.out, ← HJ2.out], by rw [eF, eG]; exact ⟨hb2, hb3⟩⟩, put2u HBf.out (by omega) _ _⟩
     · have HFF : Hid (ns = F ∧ ts = G) := Lib.hid (by
         simp only [if_true] at hq
         have hpl2 : p ≤ b.terms.length := by rw [← HOK.out.len]; exact hpl
         rw [HNT.out.1, HNT.out.2]
         exact ⟨List.take_of_length_le (by rw [HFG.out.1, length_putL hpl]; omega), List.take_of_length_le (by rw [HFG.out.2.1, length_putL hpl2, ← HOK.out.len]; omega)⟩)
       have HJ : Hid (j = ns.length) := Lib.hid hj1.symm
       have HJ2 : Hid (j = ts.length) := Lib.hid hj2.symm
       clear hq hj1 hj2
       obtain ⟨NS, hNS⟩ : ∃ NS, NS = ns := ⟨_, rfl⟩
       obtain ⟨TS, hTS⟩ : ∃ TS, TS = ts := ⟨_, rfl⟩
       subst hNS hTS
       have HBAf := HBAw
       have HRf := HBRw
       have HBf := HBw
       have HBO := HOw
       have k_a := HBAf.out.cell
       have l_a := HBAf.out.lt
       have k_r := HRf.out.cell
       have l_r := HRf.out.lt
       have f_r := HRf.out.free
       go_wp2_with fail
       refine bodyPost_ret (ret_bd rfl rfl (put2b HRf.out (.slice A1 j c1) (.slice A2 j c2)) rfl) rfl ?_
       have eF : (insB b (bs n) t).names = NS := by rw [HFF.out.1, HFG.out.1, HFG.out.2.2]; rfl
       have eG : (insB b (bs n) t).terms = TS := by rw [HFF.out.2, HFG.out.2.1, HFG.out.2.2]; rfl
       have hb2 := (((HBO.out.nm.far (c := w.heap.size + 1 + 1) (i := 0) (by omega) (Nat.zero_le _) (.slice A1 j c1)).far (c := w.heap.size + 1 + 1) (i := 1) (by omega) (Nat.zero_le _) (.slice A2 j c2))).lower (b0 := w.heap.size) hsz1
       have hb3 := (((HBO.out.tm.far (c := w.heap.size + 1 + 1) (i := 0) (by omega) (by omega) (.slice A1 j c1)).far (c := w.heap.size + 1 + 1) (i := 1) (by omega) (by omega) (.slice A2 j c2))).lower (b0 := w.heap.size) hsz1
       exact ⟨⟨A1, c1, A2, c2, by rw [eF, eG, ← HJ.out, ← HJ2.out], by rw [eF, eG]; exact ⟨hb2, hb3⟩⟩, put2u HBf.out (by omega) _ _⟩
end Go.Proofs.YtkdonhhbpacgmaaGreat
