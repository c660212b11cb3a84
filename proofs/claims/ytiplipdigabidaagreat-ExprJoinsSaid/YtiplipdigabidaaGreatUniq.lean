/- Plain facts: a sorted list without doubles. -/
import Derived.Test.YtiplipdigabidaaGreatBin
import Derived.Test.YtiplipdigabidaaGreatPush
import Derived.Deep.RegionWith
import Derived.Deep.Cut
import Derived.Test.YtiplipdigabidaaGreatRead2
import Derived.Test.YtiplipdigabidaaGreatOrd
import Derived.Lib.OwnBridge
set_option linter.unusedVariables false
set_option linter.unusedSimpArgs false
namespace Go.Proofs.YtiplipdigabidaaGreat
open Go.ChangeShapes Go.WideShapes Go.ChangeAt Go.RowKit
theorem bv_i64 (b : BitVec 64) : I64 b.toInt := by
 have h1 := BitVec.toInt_lt (x := b)
 have h2 := BitVec.le_toInt (x := b)
 unfold I64
 omega
theorem wrapBN (v : BitVec 64) : IntKind.i64.wrap (v.toNat : Int) = v.toInt := by
 rw [IntKind.wrap_i64, BitVec.toInt_eq_toNat_cond]
 have := v.isLt
 split <;> omega
theorem i64_and (a b : Int) : I64 (bits .and .i64 a b) := by
 have h : bits .and .i64 a b = (BitVec.ofInt 64 a &&& BitVec.ofInt 64 b).toInt := wrapBN _
 rw [h]; exact bv_i64 _
theorem i64_or (a b : Int) : I64 (bits .or .i64 a b) := by
 have h : bits .or .i64 a b = (BitVec.ofInt 64 a ||| BitVec.ofInt 64 b).toInt := wrapBN _
 rw [h]; exact bv_i64 _
theorem i64_xor (a b : Int) : I64 (bits .xor .i64 a b) := by
 have h : bits .xor .i64 a b = (BitVec.ofInt 64 a ^^^ BitVec.ofInt 64 b).toInt := wrapBN _
 rw [h]; exact bv_i64 _
theorem i64_bit (b : Bool) : I64 (bit b) := by unfold bit I64; split <;> omega
theorem i64_small {n : Int} (h : -1000000000000000 ≤ n) (h' : n ≤ 1000000000000000) : I64 n := by unfold I64; omega
theorem termE_flat {d : Nat} {w w' : World} {k n e : Int} {s : ByteArray} {z : Ending} (h : z = flatR k n s e ∧ Below w.heap.size w w') (hk : I64 k) (hn : I64 n) (hs : s.size ≤ 140737488351232) : TermE d w w' (⟨k, n, s, []⟩, e) z := ⟨⟨none, 0, h.1, TmOwn.flat hk hn hs⟩, h.2⟩
theorem termE_no {d : Nat} {w w' : World} {e : Int} {z : Ending} (h : z = flatR 0 0 emp e ∧ Below w.heap.size w w') : TermE d w w' (noT, e) z := termE_flat h (by simp [I64]) (by simp [I64]) (by decide)
theorem termE_bool {d : Nat} {w w' : World} {b : Bool} {z : Ending} (h : z = flatR 6 (bit b) emp 0 ∧ Below w.heap.size w w') : TermE d w w' (boolT b, 0) z := termE_flat h (by simp [I64]) (i64_bit b) (by decide)
theorem termE_int {d : Nat} {w w' : World} {n : Int} {z : Ending} (h : z = flatR 2 n emp 0 ∧ Below w.heap.size w w') (hn : I64 n) : TermE d w w' (intT n, 0) z := termE_flat h (by simp [I64]) hn (by decide)
theorem rec_is (code a b : Int) : (recR code a b = (2, recV code a b, 0) ∧ I64 (recV code a b)) ∨ ∃ e, recR code a b = (0, 0, e) ∧ (e = 5 ∨ e = 6) := by
 unfold recR recE
 by_cases h : code = 10 ∧ b = 0
 · exact .inr ⟨6, by rw [if_pos h]; simp, .inr rfl⟩
 · rw [if_neg h]
   rcases Bool.eq_false_or_eq_true (fitsB (recV code a b)) with hf | hf
   · exact .inl ⟨by rw [hf]; simp, (fitsB_iff _).1 hf⟩
   · exact .inr ⟨5, by rw [hf]; simp, .inl rfl⟩
theorem termE_rec {d : Nat} {w w' : World} {code a b k n e : Int} {z : Ending} (hr : recR code a b = (k, n, e)) (h : z = flatR k n emp e ∧ Below w.heap.size w w') : TermE d w w' (recT (recR code a b)) z := by
 rw [hr]
 refine termE_flat h ?_ ?_ (by decide)
 · rcases rec_is code a b with ⟨h1, _⟩ | ⟨e2, h1, _⟩ <;> (rw [hr] at h1; simp only [Prod.mk.injEq] at h1; rw [h1.1]; simp [I64])
 · rcases rec_is code a b with ⟨h1, h2⟩ | ⟨e2, h1, _⟩ <;> (rw [hr] at h1; simp only [Prod.mk.injEq] at h1; rw [h1.2.1])
   · exact h2
   · simp [I64]
theorem kinds_num {code ka kb : Int} (h : kindsB code ka kb = true) (hc : code = 8 ∨ code = 9 ∨ code = 10 ∨ code = 17 ∨ code = 18 ∨ code = 19) : ka = 2 ∧ kb = 2 := by
 have h2 : kindsB code ka kb = bothB [2] ka kb := by rcases hc with rfl | rfl | rfl | rfl | rfl | rfl <;> simp [kindsB]
 rw [h2] at h
 simpa [bothB] using h
theorem kinds_add {ka kb : Int} (h : kindsB 7 ka kb = true) : ka = 2 ∧ kb = 2 ∨ ka = 3 ∧ kb = 3 := by
 have h2 : kindsB 7 ka kb = bothB [2, 3] ka kb := by simp [kindsB]
 rw [h2] at h
 simpa [bothB] using h
theorem kinds_con {ka kb : Int} (h : kindsB 11 ka kb = true) : ka = 7 ∨ ka = 3 ∧ kb = 3 := by
 have h2 : kindsB 11 ka kb = ((decide (ka = 7) && decide (2 ≤ kb) && decide (kb ≤ 7)) || bothB [3] ka kb) := by simp [kindsB]
 rw [h2] at h
 simp [bothB] at h
 omega
theorem kinds_mat {ka kb : Int} (h : kindsB 14 ka kb = true) : ka = 3 ∧ kb = 3 := by
 have h2 : kindsB 14 ka kb = bothB [3] ka kb := by simp [kindsB]
 rw [h2] at h
 simpa [bothB] using h
theorem kinds_set {code ka kb : Int} (h : kindsB code ka kb = true) (hc : code = 15 ∨ code = 16) : ka = 7 ∧ kb = 7 := by
 have h2 : kindsB code ka kb = bothB [7] ka kb := by rcases hc with rfl | rfl <;> simp [kindsB]
 rw [h2] at h
 simpa [bothB] using h
theorem fixed_text {x : Int} {s : ByteArray} {l : List Tm} (h : fixedB ⟨3, x, s, l⟩ = true) : s.size ≤ 256 := by
 unfold fixedB mayB flatMay at h
 simp at h
 omega
set_option maxRecDepth 100000 in
theorem binary_any {code : Int} {a b : Tm} {d B : Nat} {vs ws : List Value} {w : World} {m : Int} (ha : RTm w B (d + 1) a vs) (hb : RTm w B (d + 1) b ws) (hB : B ≤ w.heap.size) (hm : w.cell? ⟨0, 0, none⟩ = some (.int .i64 m)) (h0 : 0 < w.heap.size) :
   Calls Tryz.prog 67 #[.int .i64 code, .agg vs.toArray, .agg ws.toArray] w fun z w' => TermE d w w' (binR code a b) z := by
 obtain ⟨ka, x, s, l⟩ := a
 obtain ⟨kb, y, s', l'⟩ := b
 have hsz' : s'.size ≤ 140737488351232 := by obtain ⟨_, _, _, _, _, h, _⟩ := hb.cells; exact h
 unfold binR
 rcases Bool.eq_false_or_eq_true (fixedB ⟨ka, x, s, l⟩) with fa | fa
 · rcases Bool.eq_false_or_eq_true (fixedB ⟨kb, y, s', l'⟩) with fb | fb
   · by_cases hlo : code < 1
     · rw [if_pos (.inr (.inr (.inl hlo)))]
       exact (bin_lo ha hb hB fa fb hlo).mono fun _ _ h => termE_no h
     · by_cases hhi : 19 < code
       · rw [if_pos (.inr (.inr (.inr hhi)))]
         exact (bin_hi ha hb hB fa fb hhi).mono fun _ _ h => termE_no h
       · rw [if_neg (by rw [fa, fb]; simp; omega)]
         rcases Bool.eq_false_or_eq_true (kindsB code ka kb) with hk | hk
         · rw [if_neg (by show ¬ kindsB code ka kb = false; rw [hk]; simp)]
           by_cases h7 : code = 7 ∧ ka = 3
           · rw [if_pos h7]
             obtain ⟨rfl, rfl⟩ := h7
             obtain ⟨_, rfl⟩ : (3 : Int) = 3 ∧ kb = 3 := by rcases kinds_add hk with h | h <;> omega
             have := fixed_text fa
             have := fixed_text fb
             by_cases hl : s.size + s'.size ≤ 256
             · rw [if_pos hl]
               exact (bin_add ha hb hB fa fb hl).mono fun _ _ h => termE_flat h (by simp [I64]) (by simp [I64]) (by show (s ++ s').size ≤ _; rw [ByteArray.size_append]; omega)
             · rw [if_neg hl]
               exact (bin_long ha hb hB fa fb hl).mono fun _ _ h => termE_no h
           · rw [if_neg h7]
             by_cases hr : code = 7 ∨ code = 8 ∨ code = 9 ∨ code = 10
             · rw [if_pos hr]
               obtain ⟨rfl, rfl⟩ : ka = 2 ∧ kb = 2 := by
                 rcases hr with rfl | hr
                 · rcases kinds_add hk with h | h
                   · exact h
                   · exact absurd ⟨rfl, h.1⟩ h7
                 · exact kinds_num hk (by omega)
               exact (bin_reckon (k := (recR code x y).1) (n := (recR code x y).2.1) (e := (recR code x y).2.2) ha hb hB fa fb hr rfl).mono fun _ _ h => termE_rec rfl h
             · rw [if_neg hr]
               by_cases h11 : code = 11
               · rw [if_pos h11]
                 subst h11
                 rcases kinds_con hk with rfl | ⟨rfl, rfl⟩
                 · exact (bin_contset ha hb hB fa fb hk).mono fun _ _ h => termE_bool h
                 · exact (bin_contains ha hb hB fa fb hm h0 (fixed_text fa)).mono fun _ _ h => termE_bool h
               · rw [if_neg h11]
                 by_cases h12 : code = 12
                 · rw [if_pos h12]
                   subst h12
                   exact (bin_starts ha hb hB fa fb hk).mono fun _ _ h => termE_bool h
                 · rw [if_neg h12]
                   by_cases h13 : code = 13
                   · rw [if_pos h13]
                     subst h13
                     exact (bin_ends ha hb hB fa fb hk).mono fun _ _ h => termE_bool h
                   · rw [if_neg h13]
                     by_cases h14 : code = 14
                     · rw [if_pos h14]
                       subst h14
                       obtain ⟨rfl, rfl⟩ := kinds_mat hk
                       show Calls _ _ _ _ fun z w' => TermE d w w' (matchR s' s) z
                       unfold matchR
                       by_cases hz : (fitsR s' s false).2 = 0
                       · rw [if_neg (by simp [hz])]
                         exact (bin_match ha hb hB fa fb hz).mono fun _ _ h => termE_bool h
                       · rw [if_pos hz]
                         exact (bin_nomatch ha hb hB fa fb hz).mono fun _ _ h => termE_no h
                     · rw [if_neg h14]
                       by_cases h15 : code = 15
                       · rw [if_pos h15]
                         subst h15
                         obtain ⟨rfl, rfl⟩ := kinds_set hk (.inl rfl)
                         exact bin_meet ha hb hB fa fb
                       · rw [if_neg h15]
                         by_cases h16 : code = 16
                         · rw [if_pos h16]
                           subst h16
                           obtain ⟨rfl, rfl⟩ := kinds_set hk (.inr rfl)
                           exact bin_join ha hb hB fa fb
                         · rw [if_neg h16]
                           by_cases h17 : code = 17
                           · rw [if_pos h17]
                             subst h17
                             obtain ⟨rfl, rfl⟩ := kinds_num hk (by omega)
                             exact (bin_and ha hb hB fa fb).mono fun _ _ h => termE_int h (i64_and _ _)
                           · rw [if_neg h17]
                             by_cases h18 : code = 18
                             · rw [if_pos h18]
                               subst h18
                               obtain ⟨rfl, rfl⟩ := kinds_num hk (by omega)
                               exact (bin_or ha hb hB fa fb).mono fun _ _ h => termE_int h (i64_or _ _)
                             · rw [if_neg h18]
                               by_cases h19 : code = 19
                               · rw [if_pos h19]
                                 subst h19
                                 obtain ⟨rfl, rfl⟩ := kinds_num hk (by omega)
                                 exact (bin_xor ha hb hB fa fb).mono fun _ _ h => termE_int h (i64_xor _ _)
                               · rw [if_neg h19]
                                 exact (bin_compare ha hb hB fa fb (by omega) hk).mono fun _ _ h => termE_bool h
         · rw [if_pos hk]
           exact (bin_type ha hb hB fa fb (by omega) (by omega) hk).mono fun _ _ h => termE_no h
   · rw [if_pos (.inr (.inl fb))]
     exact (bin_badB ha hb hB fa fb).mono fun _ _ h => termE_no h
 · rw [if_pos (.inl fa)]
   exact (bin_badA ha hb hB fa).mono fun _ _ h => termE_no h
set_option maxRecDepth 100000 in
theorem unary_any {code : Int} {a : Tm} {d B : Nat} {vs : List Value} {w : World} (ha : RTm w B (d + 1) a vs) (hB : B ≤ w.heap.size) :
   Calls Tryz.prog 66 #[.int .i64 code, .agg vs.toArray] w fun z w' => TermE d w w' (unR code a) z := by
 obtain ⟨ka, x, s, l⟩ := a
 have hsz : s.size ≤ 140737488351232 := by obtain ⟨_, _, _, _, _, h, _⟩ := ha.cells; exact h
 unfold unR
 rcases Bool.eq_false_or_eq_true (fixedB ⟨ka, x, s, l⟩) with fa | fa
 · by_cases hlo : code < 1
   · rw [if_pos (.inr (.inl hlo))]
     exact (un_lo ha hB fa hlo).mono fun _ _ h => termE_no h
   · by_cases hhi : 3 < code
     · rw [if_pos (.inr (.inr hhi))]
       exact (un_hi ha hB fa hhi).mono fun _ _ h => termE_no h
     · rw [if_neg (by rw [fa]; simp; omega)]
       have hc : code = 1 ∨ code = 2 ∨ code = 3 := by omega
       simp only
       rcases hc with rfl | rfl | rfl
       · by_cases h6 : ka = 6
         · subst h6
           rw [if_pos ⟨rfl, rfl⟩]
           exact (un_not ha hB fa).mono fun _ _ h => termE_bool h
         · rw [if_neg (fun h => h6 h.2), if_neg (by omega), if_neg (by omega), if_neg (by omega)]
           exact (un_type1 ha hB fa h6).mono fun _ _ h => termE_no h
       · rw [if_neg (by omega)]
         by_cases h2 : ka = 2
         · subst h2
           rw [if_pos ⟨rfl, rfl⟩]
           exact (un_neg (k := (recR 8 0 x).1) (n := (recR 8 0 x).2.1) (e := (recR 8 0 x).2.2) ha hB fa rfl).mono fun _ _ h => termE_rec rfl h
         · rw [if_neg (fun h => h2 h.2), if_neg (by omega), if_neg (by omega)]
           exact (un_type2 ha hB fa h2).mono fun _ _ h => termE_no h
       · rw [if_neg (by omega), if_neg (by omega)]
         by_cases h3 : ka = 3
         · subst h3
           rw [if_pos ⟨rfl, .inl rfl⟩]
           exact (un_length ha hB fa).mono fun _ _ h => termE_int h (i64_small (by omega) (by have := fixed_text fa; omega))
         · by_cases h5 : ka = 5
           · subst h5
             rw [if_pos ⟨rfl, .inr rfl⟩]
             exact (un_len5 ha hB fa).mono fun _ _ h => termE_int h (i64_small (by omega) (by omega))
           · rw [if_neg (by omega)]
             by_cases h7 : ka = 7
             · subst h7
               rw [if_pos ⟨rfl, rfl⟩]
               exact (un_len7 ha hB fa).mono fun _ _ h => termE_int h (i64_small (by omega) (by have := (fixed_set fa).1; omega))
             · rw [if_neg (by omega)]
               exact (un_type3 ha hB fa h3 h5 h7).mono fun _ _ h => termE_no h
 · rw [if_pos (.inl fa)]
   exact (un_bad ha hB fa).mono fun _ _ h => termE_no h
open Go.ChangeShapes Go.WideShapes Go.ChangeAt Go.RowKit
def EvS (S base D : Nat) (bn bt : Value) (w : World) (ts : List Tm) (next : Int) : Prop := ∃ xs A c, xs.map SV.t = ts ∧ StkE S base D bn bt w xs next A c
def EvE (S base D : Nat) (bn bt : Value) (w w' : World) (e : Int) (ts : List Tm) (next : Int) (z : Ending) : Prop :=
 z = .returned (.int .i64 e) ∧ BelX base S w w' ∧ (e = 0 → EvS S base D bn bt w' ts next)
theorem EvS.later {S base D : Nat} {bn bt : Value} {w w' : World} {ts : List Tm} {next : Int} (h : EvS S base D bn bt w ts next) (hb : Below w.heap.size w w') : EvS S base D bn bt w' ts next := by
 obtain ⟨xs, A, c, h1, h2⟩ := h
 exact ⟨xs, A, c, h1, h2.later hb⟩
theorem PushS.ev {S base D : Nat} {bn bt : Value} {w : World} {xs : List SV} {x : SV} {next e : Int} {ts : List Tm} (h : PushS S base D bn bt w xs x next e) (ht : xs.map SV.t = ts) (he : e = 0) : EvS S base D bn bt w (ts ++ [x.t]) next := by
 rcases h with ⟨_, A, c, h⟩ | ⟨h, _⟩
 · exact ⟨xs ++ [x], A, c, by rw [List.map_append, ht]; rfl, h⟩
 · exact absurd he h
theorem apart_of {S base D c : Nat} {bn bt : Value} {w : World} {xs : List SV} {next : Int} {A : Option Addr} (h : StkE S base D bn bt w xs next A c) {x : SV} {n : Nat} (hx : ∀ a, x.a = some a → n ≤ a.block) (hn : w.heap.size ≤ n) : Apart S A x := by
 intro a ha
 have h1 := hx a ha
 have h2 := h.hd.blk.lt
 refine ⟨by omega, fun b hb => ?_⟩
 subst hb
 obtain ⟨cells, how, _⟩ := h.own
 have := (how.lt b.block rfl).2
 omega
set_option maxRecDepth 100000 in
set_option maxHeartbeats 2000000 in
theorem eunary_any {S base D B d c : Nat} {bn bt : Value} {w : World} {xs : List SV} {x : SV} {next : Int} {A : Option Addr} {o : OpD} {ovs : List Value} (h : StkE S base D bn bt w (xs ++ [x]) next A c) (ho : (OpR d).rd w B o ovs) (hb : base ≤ w.heap.size) (hn : xs.length ≤ 100000) :
   Calls Tryz.prog 35 #[.pointer (some ⟨S, 0, none⟩), .agg ovs.toArray] w fun e w' => EvE S base D bn bt w w' (unR o.code x.t).2 (xs.map SV.t ++ [(unR o.code x.t).1]) next e := by
 obtain ⟨ts, rfl, _, _, _, ht⟩ := ho
 obtain ⟨At, ct, rfl, _⟩ := RTm.cells ht
 have hSlt := h.hd.blk.lt
 have HS := Lib.hid h
 clear h ht
 go_enter Tryz.func35, Tryz.ntmps35
 go_wp2_with fail
 generalize hW : World.alloc _ _ = w1
 obtain ⟨hb1, hz⟩ := al1 hW
 have b_o := n11 hW
 have HS1 := Lib.hid (HS.out.later (hb1.drew))
 have HB1 := Lib.hid hb1
 have BO := Lib.hid b_o
 have k_o := b_o.cell
 clear hW hb1 b_o
 go_region_with (first
   | (go_at_call 38
      refine (pop_any HS1.out hn).mono ?_
      rintro e w2 ⟨rfl, he, hs, htm, hap, hlt⟩
      have k_o2 := (he.blk (by omega) BO.out.drew).cell
      have HS2 := Lib.hid (And.intro hs (And.intro htm he))
      clear he hs htm hap hlt)
   | (go_at_call 66
      refine (unary_any (code := o.code) (a := x.t) (d := D) (vs := [_, _, _, _]) HS2.out.2.1.1 (Nat.le_refl _)).mono ?_
      rintro e w3 ⟨⟨A3, c3, rfl, hown⟩, hb3⟩
      have HS3 := Lib.hid (And.intro (HS2.out.1.later hb3) (And.intro hown hb3))
      clear hown hb3)
   | (go_at_call 65
      have hsz1 := HS2.out.2.2.1.size
      have hsz2 := HS3.out.2.2.size
      have hszd : w1.drew.heap.size = w1.heap.size := rfl
      refine (spush_any (x := ⟨(unR o.code x.t).1, A3, c3⟩) HS3.out.1 HS3.out.2.1.at_ (apart_of HS2.out.1 (fun a ha => (HS3.out.2.1.blk a ha).1) (Nat.le_refl _)) (fun a ha => ⟨by have := (HS3.out.2.1.blk a ha).1; omega, (HS3.out.2.1.blk a ha).2⟩) (by omega) hn).mono ?_
      rintro e w4 ⟨rfl, hb4, hps⟩
      have HS4 := Lib.hid (And.intro hb4 hps)
      clear hb4 hps))
 all_goals
   go_wp2_with fail
   go_ret
   refine ⟨rfl, ?_, fun he => HS4.out.2.ev rfl he⟩
   exact (((BelX.of (HB1.out.mono hb).drew).trans (.exc HS2.out.2.2 (Nat.le_trans hb HB1.out.size))).trans (.of (HS3.out.2.2.mono (by omega)))).trans HS4.out.1
open Go.ChangeShapes Go.WideShapes Go.ChangeAt Go.RowKit
theorem TmAt.exc {D S : Nat} {w w' : World} {x : SV} {A : Option Addr} (h : TmAt D w x) (he : Exc S w w') (ha : Apart S A x) (hlt : ∀ a, x.a = some a → a.block < w.heap.size) : TmAt D w' x :=
 h.keep (he.1.mono (Nat.zero_le _)) fun a e => he.2 a.block (hlt a e) (ha a e).1
set_option maxRecDepth 100000 in
set_option maxHeartbeats 4000000 in
theorem ebinary_any {S base D B d c : Nat} {bn bt : Value} {w : World} {xs : List SV} {xa xb : SV} {next : Int} {A : Option Addr} {o : OpD} {ovs : List Value} {m : Int} (h : StkE S base D bn bt w (xs ++ [xa] ++ [xb]) next A c) (ho : (OpR d).rd w B o ovs) (hb : base ≤ w.heap.size) (hS0 : 0 < S) (hn : xs.length ≤ 90000) (hm : w.cell? ⟨0, 0, none⟩ = some (.int .i64 m)) (h0 : 0 < base) :
   Calls Tryz.prog 36 #[.pointer (some ⟨S, 0, none⟩), .agg ovs.toArray] w fun e w' => EvE S base D bn bt w w' (binR o.code xa.t xb.t).2 (xs.map SV.t ++ [(binR o.code xa.t xb.t).1]) next e := by
 obtain ⟨ts, rfl, _, _, _, ht⟩ := ho
 obtain ⟨At, ct, rfl, _⟩ := RTm.cells ht
 have hSlt := h.hd.blk.lt
 have HS := Lib.hid h
 have HM := Lib.hid hm
 clear h ht hm
 go_enter Tryz.func36, Tryz.ntmps36
 go_wp2_with fail
 generalize hW : World.alloc _ _ = w1
 obtain ⟨hb1, hz⟩ := al1 hW
 have BO := Lib.hid (n11 hW)
 have HS1 := Lib.hid (HS.out.later hb1)
 have HB1 := Lib.hid hb1
 clear hW hb1
 refine (pop_any HS1.out (by simp; omega)).mono ?_
 rintro e w2 ⟨rfl, he, hs, htm, hap, hlt⟩
 have BO2 := Lib.hid (he.blk (by omega) BO.out)
 have HS2 := Lib.hid hs
 have HX2 := Lib.hid (And.intro htm (And.intro hap (And.intro hlt he)))
 have hsz2 := he.1.size
 clear he hs htm hap hlt
 unfold SV.cs
 go_wp2_with fail
 generalize hW : World.alloc _ _ = w3
 obtain ⟨hb3, hz3⟩ := al1 hW
 have BB := Lib.hid (n11 hW)
 have BO3 := Lib.hid (BO2.out.later hb3)
 have HS3 := Lib.hid (HS2.out.later hb3.drew)
 have HB3 := Lib.hid hb3
 have HX3 := Lib.hid (HX2.out.1.later hb3.drew)
 have k_o := BO3.out.cell
 have k_b := BB.out.cell
 clear hW hb3
 go_region_with (first
   | (go_at_call 38
      refine (pop_any HS3.out (by omega)).mono ?_
      rintro e w4 ⟨rfl, he, hs, htm, hap, hlt⟩
      have k_o2 := (he.blk (by omega) BO3.out.drew).cell
      have k_b2 := (he.blk (by omega) BB.out.drew).cell
      have hxb := HX3.out.exc he HX2.out.2.1 (fun a ha => Nat.lt_of_lt_of_le (HX2.out.2.2.1 a ha).2 (by show w1.heap.size ≤ w3.heap.size; omega))
      have HS4 := Lib.hid (And.intro hs (And.intro htm (And.intro hxb he)))
      clear he hs htm hap hlt hxb)
   | (go_at_call 67
      have hb4 : BelX base S w w4 := ((((BelX.of (HB1.out.mono hb)).trans (.exc HX2.out.2.2.2 (by omega))).trans (.of (HB3.out.mono (by omega)))).drew).trans (.exc HS4.out.2.2.2 (show base ≤ w3.heap.size by omega))
      have hsz4 := hb4.size
      refine (binary_any (code := o.code) (a := xa.t) (b := xb.t) (d := D) (vs := [_, _, _, _]) (ws := [_, _, _, _]) HS4.out.2.1.1 HS4.out.2.2.1.1 (Nat.le_refl _) ((((hb4.mono (show 1 ≤ base from h0)).low hS0).cell (p := ⟨0, 0, none⟩) (Nat.lt_succ_self 0)).trans HM.out) (by omega)).mono ?_
      rintro e w5 ⟨⟨A3, c3, rfl, hown⟩, hb5⟩
      have HS5 := Lib.hid (And.intro (HS4.out.1.later hb5) (And.intro hown (And.intro hb5 hb4)))
      clear hown hb5 hb4)
   | (go_at_call 65
      have hsz5 := HS5.out.2.2.1.size
      have hsz4b := HS5.out.2.2.2.size
      refine (spush_any (x := ⟨(binR o.code xa.t xb.t).1, A3, c3⟩) HS5.out.1 HS5.out.2.1.at_ (apart_of HS4.out.1 (fun a ha => (HS5.out.2.1.blk a ha).1) (Nat.le_refl _)) (fun a ha => ⟨by have := (HS5.out.2.1.blk a ha).1; omega, (HS5.out.2.1.blk a ha).2⟩) (by omega) (by omega)).mono ?_
      rintro e w6 ⟨rfl, hb6, hps⟩
      have HS6 := Lib.hid (And.intro hb6 hps)
      clear hb6 hps))
 all_goals
   go_wp2_with fail
   go_ret
   refine ⟨rfl, ?_, fun he => HS6.out.2.ev rfl he⟩
   exact (HS5.out.2.2.2.trans (.of (HS5.out.2.2.1.mono (Nat.le_trans hb HS5.out.2.2.2.size)))).trans HS6.out.1
open Go.ChangeShapes Go.WideShapes Go.ChangeAt Go.RowKit
def decR (o : OpD) (t : Tm) (ts : List Tm) (next : Int) : Int × List Tm × Int :=
 if t.kind ≠ 6 then (7, ts, next)
 else if (decide (t.n = 1) == decide (o.kind = 5)) = true then (0, ts ++ [t], wrap64 (next + o.skip))
 else (0, ts, next)
set_option maxRecDepth 100000 in
set_option maxHeartbeats 4000000 in
theorem edecides_any {S base D B d c : Nat} {bn bt : Value} {w : World} {xs : List SV} {x : SV} {next : Int} {A : Option Addr} {o : OpD} {ovs : List Value} (h : StkE S base D bn bt w (xs ++ [x]) next A c) (ho : (OpR d).rd w B o ovs) (hb : base ≤ w.heap.size) (hn : xs.length ≤ 90000) :
   Calls Tryz.prog 37 #[.pointer (some ⟨S, 0, none⟩), .agg ovs.toArray] w fun e w' => EvE S base D bn bt w w' (decR o x.t (xs.map SV.t) next).1 (decR o x.t (xs.map SV.t) next).2.1 (decR o x.t (xs.map SV.t) next).2.2 e := by
 obtain ⟨ts, rfl, _, _, _, ht⟩ := ho
 obtain ⟨At, ct, rfl, _⟩ := RTm.cells ht
 have hSlt := h.hd.blk.lt
 have HS := Lib.hid h
 clear h ht
 go_enter Tryz.func37, Tryz.ntmps37
 go_wp2_with fail
 generalize hW : World.alloc _ _ = w1
 obtain ⟨hb1, hz⟩ := al1 hW
 have BO := Lib.hid (n11 hW)
 have HS1 := Lib.hid (HS.out.later hb1)
 have HB1 := Lib.hid hb1
 clear hW hb1
 refine (pop_any HS1.out (by omega)).mono ?_
 rintro e w2 ⟨rfl, he, hs, htm, hap, hlt⟩
 have BO2 := Lib.hid (he.blk (by omega) BO.out)
 have HS2 := Lib.hid hs
 have HX2 := Lib.hid (And.intro htm (And.intro hap (And.intro hlt he)))
 have hsz2 := he.1.size
 clear he hs htm hap hlt
 unfold SV.cs
 go_upto_region 2 with fail
 generalize hW : World.alloc _ _ = w3
 obtain ⟨hb3, hz3⟩ := al1 hW
 have BB := Lib.hid (n11 hW)
 have BO3 := Lib.hid (BO2.out.later hb3)
 have HS3 := Lib.hid (HS2.out.later hb3)
 have HX3 := Lib.hid (HX2.out.1.later hb3)
 have HBw : Hid (BelX base S w w3) := Lib.hid (((BelX.of (HB1.out.mono hb)).trans (.exc HX2.out.2.2.2 (by omega))).trans (.of (hb3.mono (by omega))))
 have HLT : Hid (∀ a, x.a = some a → base ≤ a.block ∧ a.block < w3.heap.size) := Lib.hid fun a ha => by have := HX2.out.2.2.1 a ha; omega
 have k_b := BB.out.cell
 have k_o := BO3.out.cell
 clear hW hb3
 by_cases h6 : x.t.kind = 6
 · have q6 : (x.t.kind != 6) = false := by rw [h6]; rfl
   by_cases hq : (decide (x.t.n = 1) == decide (o.kind = 5)) = true
   · have HR : Hid (decR o x.t (xs.map SV.t) next = (0, xs.map SV.t ++ [x.t], wrap64 (next + o.skip))) := Lib.hid (by unfold decR; rw [if_neg (by simp [h6]), if_pos hq])
     have hq2 : ((x.t.n == 1) == (o.kind == 5)) = true := hq
     clear hq h6
     have k_s := HS3.out.hd.blk.cell
     have f_s := HS3.out.hd.blk.free
     have hS3 : S < w3.heap.size := by omega
     go_wp2_with fail
     go_region
     have HB4 : Hid (BelX base S w (w3.setCell ⟨S, 3, none⟩ (.int .i64 (wrap64 (next + o.skip)))).drew) := Lib.hid (HBw.out.setS 3 _).drew
     have HS4 : Hid (StkE S base D bn bt (w3.setCell ⟨S, 3, none⟩ (.int .i64 (wrap64 (next + o.skip)))).drew xs (wrap64 (next + o.skip)) A c) := Lib.hid ((HS3.out.head _).later (Below.refl _ _).drew)
     have HE4 : Hid (Exc S w3 (w3.setCell ⟨S, 3, none⟩ (.int .i64 (wrap64 (next + o.skip)))).drew) := Lib.hid ((Exc.refl S w3).set 3 _).drew
     have BB4 := Lib.hid (HE4.out.blk (by omega) BB.out)
     generalize (w3.setCell ⟨S, 3, none⟩ (.int .i64 (wrap64 (next + o.skip)))).drew = w4 at *
     clear k_b k_o k_s f_s
     have k_b := BB4.out.cell
     have hsz4 := HE4.out.1.size
     go_wp2_with fail
     refine (spush_any (x := x) HS4.out (HX3.out.exc HE4.out HX2.out.2.1 fun a ha => (HLT.out a ha).2) HX2.out.2.1 (fun a ha => ⟨(HLT.out a ha).1, Nat.lt_of_lt_of_le (HLT.out a ha).2 hsz4⟩) (by omega) (by omega)).mono ?_
     rintro e w5 ⟨rfl, hb5, hps⟩
     have HS5 := Lib.hid (And.intro hb5 hps)
     clear hb5 hps
     go_wp2_with fail
     go_ret
     rw [HR.out]
     exact ⟨rfl, HB4.out.trans HS5.out.1, fun he => HS5.out.2.ev rfl rfl⟩
   · have HR : Hid (decR o x.t (xs.map SV.t) next = (0, xs.map SV.t, next)) := Lib.hid (by unfold decR; rw [if_neg (by simp [h6]), if_neg hq])
     have hq2 : ((x.t.n == 1) == (o.kind == 5)) = false := by rw [Bool.eq_false_iff]; exact hq
     clear hq h6
     go_wp2_with fail
     go_ret
     rw [HR.out]
     exact ⟨rfl, HBw.out, fun _ => ⟨xs, A, c, rfl, HS3.out⟩⟩
 · have q6 : (x.t.kind != 6) = true := by simpa using h6
   have HR : Hid (decR o x.t (xs.map SV.t) next = (7, xs.map SV.t, next)) := Lib.hid (by unfold decR; rw [if_pos h6])
   clear h6
   go_wp2_with fail
   go_ret
   rw [HR.out]
   exact ⟨rfl, HBw.out, fun h => absurd (show (7 : Int) = 0 from h) (by decide)⟩
open Go.ChangeShapes Go.WideShapes Go.ChangeAt Go.RowKit
open Go.ChangeShapes Go.WideShapes Go.ChangeAt Go.RowKit
def mkS (l : List UInt8) : ByteArray := ⟨l.toArray⟩
theorem bs_mkS (l : List UInt8) : bs (mkS l) = l := by simp [mkS, bs]
theorem mkS_bs (s : ByteArray) : mkS (bs s) = s := by cases s; simp [mkS, bs]
def OwnS (w : World) (base : Nat) (v : Value) (L : List (List UInt8)) : Prop := w.ownsRow base 9 1 v L.length (L.map encStr)
abbrev Bytes := List UInt8
end Go.Proofs.YtiplipdigabidaaGreat
