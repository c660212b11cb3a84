/- XBS, behind op's first part. -/
import Derived.Test.YtdphibjibnffeaaGreatFc1
import Derived.Test.YtdphibjibnffeaaGreatBS
import Derived.Laws.Bits64b
set_option linter.unusedVariables false
set_option linter.unusedSimpArgs false
set_option maxRecDepth 100000
set_option maxHeartbeats 8000000
namespace Go.Proofs.YtdphibjibnffeaaGreat
open Go.ChangeShapes Go.WideShapes Go.ChangeAt Go.RowKit
theorem oc {fn:Func} {tmps:Array Value} {p:Tmp} {g:Nat} {w:World} {cs:Array Value} (h:fn.results=#[.cell p 79]) (hp:tmps.getD p undef=.pointer (some ⟨g,0,none⟩)) (hb:Blk w g cs) (hn:cs.size=4) :
 (results fn tmps).run Tryz.prog w=.ok (.agg cs) w:=by
 obtain ⟨T,hb⟩:=hb
 exact results_cell_row h tmps w g T cs (0,0) _ hp hb Tryz.underlying79 rfl (by rw [hn];kernel_rfl)
theorem ar {fn:Func} {tmps:Array Value} {p u:Tmp} {g:Nat} {w:World} {cs:Array Value} (h:fn.results=#[.cell p 79,.tmp u]) (hp:tmps.getD p undef=.pointer (some ⟨g,0,none⟩)) (hb:Blk w g cs) (hn:cs.size=4) :
 (results fn tmps).run Tryz.prog w=.ok (.tuple #[.agg cs,tmps.getD u undef]) w:=by
 obtain ⟨T,hb⟩:=hb
 rw [results_cell_tmp h]
 have e:tmps[p]?.getD undef=.pointer (some ⟨g,0,none⟩):=by simpa using hp
 have e1:((asAddr (tmps.getD p undef)).run Tryz.prog w)=.ok ⟨g,0,none⟩ w:=by simp [e,asAddr]
 rw [e1,Result.andThen_ok,run_loadVar_row w g T 79 cs (0,0) _ hb Tryz.underlying79 rfl (by rw [hn];kernel_rfl),Result.andThen_ok]
theorem bp (n:Int) (w:World) :
 Calls Tryz.prog 278 #[.int .i64 n] w fun e w'=>e=.returned (.agg #[.int .i64 2,.int .i64 n,.string ⟨#[]⟩,.slice none 0 0])∧Below w.heap.size w w':=by
 go_enter Tryz.func278,Tryz.ntmps278
 go_wp2_with fail
 refine bodyPost_ret (oc rfl rfl (n11 rfl) rfl) rfl ?_
 exact ⟨rfl,(Below.refl _ _).alloc (Nat.le_refl _) _⟩
def bit (b:Bool):Int:=if b then 1 else 0
theorem dX (b:Bool) (w:World) :
 Calls Tryz.prog 276 #[.bool b] w fun e w'=>e=.returned (.agg #[.int .i64 6,.int .i64 (bit b),.string ⟨#[]⟩,.slice none 0 0])∧Below w.heap.size w w':=by
 cases b
 all_goals
  go_enter Tryz.func276,Tryz.ntmps276
  go_wp2_with fail
  refine bodyPost_ret (oc rfl rfl (n11 rfl) rfl) rfl ?_
  exact ⟨rfl,(Below.refl _ _).alloc (Nat.le_refl _) _⟩
def dB (ks:List Int) (a b:Int):Bool:=ks.any fun k=>decide (a=k)&&decide (b=k)
theorem bg (ks:List Int) (a b:Int) (g c:Nat) (w:World) (hks:Blk w g (ks.map (Value.int .i64)).toArray) (hn:ks.length≤1000000) :
 Calls Tryz.prog 297 #[.agg #[.int .i64 a,.int .i64 b],.slice (some ⟨g,0,none⟩) ks.length c] w fun e w'=>e=.returned (.bool (dB ks a b))∧Below w.heap.size w w':=by
 have hc:∀i (h:i<ks.length),w.cell? ⟨g,i,none⟩=some (.int .i64 ks[i]):=fun i h=>by
  have:=hks.cell i
  rw [this]
  simp [h]
 have hg:=hks.lt
 clear hks
 go_enter Tryz.func297,Tryz.ntmps297
 go_wp2_with fail
 generalize hW:World.alloc _ _=w1
 obtain ⟨hb,hz⟩:=al1 hW
 have b_p:=n11 hW
 have HB:=Lib.hid hb
 have HC:=Lib.hid (fun i (h:i<ks.length)=>(hb.cell (p:=⟨g,i,none⟩) hg).trans (hc i h))
 have hg1:g<w1.heap.size:=by omega
 clear hW hb hc hg
 go_loop [9] (fun i=>∃k:Nat,k≤ks.length∧i=.int .i64 k∧∀i,i<k→∀h:i<ks.length,(decide (a=ks[i])&&decide (b=ks[i]))=false) (fun i=>ks.length-(intOf i).toNat)
 case atStart=>exact ⟨0,Nat.zero_le _,rfl,fun i h=>absurd h (by omega)⟩
 case round=>
  obtain ⟨k,hk,rfl,hall⟩:=hrel
  have HA:=Lib.hid hall
  clear hall
  by_cases hlt:k<ks.length
  ·have hck:=HC.out k hlt
   have k_p:=b_p.cell
   have l_p:=b_p.lt
   generalize hx:ks[k]=x at hck
   have HX:=Lib.hid hx
   clear hx
   have h3:(a==x)=false∨(a==x)=true∧(b==x)=false∨(a==x)=true∧(b==x)=true:=by cases (a==x)<;>cases (b==x)<;>simp
   rcases h3 with h1 | ⟨h1,h2⟩ | ⟨h1,h2⟩
   ·go_wp2_with fail
    go_round
    case rel=>exact ⟨k+1,by omega,by go_num,fun i hi h=>by
     rcases Nat.lt_or_ge i k with h4 | h4
     ·exact HA.out i h4 h
     ·obtain rfl:i=k:=by omega
      rw [HX.out];simp only [beq_eq_false_iff_ne] at h1;simp [h1]⟩
    case measure=>simp [intOf];omega
   ·go_wp2_with fail
    go_round
    case rel=>exact ⟨k+1,by omega,by go_num,fun i hi h=>by
     rcases Nat.lt_or_ge i k with h4 | h4
     ·exact HA.out i h4 h
     ·obtain rfl:i=k:=by omega
      rw [HX.out];simp only [beq_eq_false_iff_ne] at h2;simp [h2]⟩
    case measure=>simp [intOf];omega
   ·go_wp2_with fail
    go_ret
    refine ⟨ae ?_,HB.out⟩
    rw [eq_comm,dB,List.any_eq_true]
    exact ⟨x,by rw [←HX.out];exact List.getElem_mem _,by simp only [beq_iff_eq] at h1 h2;simp [h1,h2]⟩
  ·go_wp2_with fail
   go_ret
   refine ⟨ae ?_,HB.out⟩
   rw [eq_comm,dB,List.any_eq_false]
   intro x hx
   obtain ⟨i,hi,rfl⟩:=List.getElem_of_mem hx
   rw [HA.out i (by omega) hi]
   simp
def aJ (code a b:Int):Bool:=
 if code=1∨code=2∨code=3∨code=4 then dB [2,4] a b
 else if code=5∨code=6 then decide (a=b)&&decide (2≤a)&&decide (a≤7)
 else if code=7 then dB [2,3] a b
 else if code=8∨code=9∨code=10∨code=17∨code=18∨code=19 then dB [2] a b
 else if code=11 then (decide (a=7)&&decide (2≤b)&&decide (b≤7))||dB [3] a b
 else if code=12∨code=13 then dB [3,5] a b
 else if code=14 then dB [3] a b
 else if code=15∨code=16 then dB [7] a b
 else false
theorem c11 {a b:Int} (h:¬(a=7∧2≤b∧b≤7)):dB [3] a b=aJ 11 a b:=by
 show _=((decide (a=7)&&decide (2≤b)&&decide (b≤7))||dB [3] a b)
 have hf:(decide (a=7)&&decide (2≤b)&&decide (b≤7))=false:=by
  rw [Bool.eq_false_iff]
  simp only [ne_eq,Bool.and_eq_true,decide_eq_true_eq]
  omega
 rw [hf,Bool.false_or]
theorem aR (code a b:Int) (w:World) :
 Calls Tryz.prog 279 #[.int .i64 code,.int .i64 a,.int .i64 b] w fun e w'=>e=.returned (.bool (aJ code a b))∧Below w.heap.size w w':=by
 have hc:code<1∨code > 19∨code=1∨code=2∨code=3∨code=4∨code=5∨code=6∨code=7∨code=8∨code=9∨code=10∨code=11∨code=12∨code=13∨code=14∨code=15∨code=16∨code=17∨code=18∨code=19:=by omega
 rcases hc with h | h | rfl | rfl | rfl | rfl | rfl | rfl | rfl | rfl | rfl | rfl | rfl | rfl | rfl | rfl | rfl | rfl | rfl | rfl | rfl
 ·have e:aJ code a b=false:=by unfold aJ;(repeat rw [if_neg (by omega)])
  rw [e]
  go_enter Tryz.func279,Tryz.ntmps279
  go_wp2_with fail
  go_ret
  exact ⟨rfl,(Below.refl _ _).alloc (Nat.le_refl _) _⟩
 ·have e:aJ code a b=false:=by unfold aJ;(repeat rw [if_neg (by omega)])
  rw [e]
  go_enter Tryz.func279,Tryz.ntmps279
  go_wp2_with fail
  go_ret
  exact ⟨rfl,(Below.refl _ _).alloc (Nat.le_refl _) _⟩
 ·go_enter Tryz.func279,Tryz.ntmps279
  go_wp2_with fail
  generalize hW:World.alloc _ _=w1
  obtain ⟨hb,hz⟩:=al2 hW
  refine (bg [2,4] a b (w.heap.size+1) 2 w1 (n22 hW) (by simp)).mono ?_
  rintro e w2 ⟨rfl,hb2⟩
  have HB2:=Lib.hid (ac hb hb2)
  clear hW hb hb2
  go_wp2_with fail
  go_ret
  exact ⟨ae (rfl),HB2.out⟩
 ·go_enter Tryz.func279,Tryz.ntmps279
  go_wp2_with fail
  generalize hW:World.alloc _ _=w1
  obtain ⟨hb,hz⟩:=al2 hW
  refine (bg [2,4] a b (w.heap.size+1) 2 w1 (n22 hW) (by simp)).mono ?_
  rintro e w2 ⟨rfl,hb2⟩
  have HB2:=Lib.hid (ac hb hb2)
  clear hW hb hb2
  go_wp2_with fail
  go_ret
  exact ⟨ae (rfl),HB2.out⟩
 ·go_enter Tryz.func279,Tryz.ntmps279
  go_wp2_with fail
  generalize hW:World.alloc _ _=w1
  obtain ⟨hb,hz⟩:=al2 hW
  refine (bg [2,4] a b (w.heap.size+1) 2 w1 (n22 hW) (by simp)).mono ?_
  rintro e w2 ⟨rfl,hb2⟩
  have HB2:=Lib.hid (ac hb hb2)
  clear hW hb hb2
  go_wp2_with fail
  go_ret
  exact ⟨ae (rfl),HB2.out⟩
 ·go_enter Tryz.func279,Tryz.ntmps279
  go_wp2_with fail
  generalize hW:World.alloc _ _=w1
  obtain ⟨hb,hz⟩:=al2 hW
  refine (bg [2,4] a b (w.heap.size+1) 2 w1 (n22 hW) (by simp)).mono ?_
  rintro e w2 ⟨rfl,hb2⟩
  have HB2:=Lib.hid (ac hb hb2)
  clear hW hb hb2
  go_wp2_with fail
  go_ret
  exact ⟨ae (rfl),HB2.out⟩
 ·have h3:(a==b)=false∨(a==b)=true∧decide (a≥2)=false∨(a==b)=true∧decide (a≥2)=true∧decide (a≤7)=false∨(a==b)=true∧decide (a≥2)=true∧decide (a≤7)=true:=by cases (a==b)<;>cases decide (a≥2)<;>cases decide (a≤7)<;>simp
  rcases h3 with h1 | ⟨h1,h2⟩ | ⟨h1,h2,h3⟩ | ⟨h1,h2,h3⟩
  all_goals
   have H1:=Lib.hid h1
   go_enter Tryz.func279,Tryz.ntmps279
   go_wp2_with fail
   go_ret
   exact ⟨ae (by simp only [beq_iff_eq,beq_eq_false_iff_ne,decide_eq_true_eq,decide_eq_false_iff_not] at *;simp [aJ];try omega),(Below.refl _ _).alloc (Nat.le_refl _) _⟩
 ·have h3:(a==b)=false∨(a==b)=true∧decide (a≥2)=false∨(a==b)=true∧decide (a≥2)=true∧decide (a≤7)=false∨(a==b)=true∧decide (a≥2)=true∧decide (a≤7)=true:=by cases (a==b)<;>cases decide (a≥2)<;>cases decide (a≤7)<;>simp
  rcases h3 with h1 | ⟨h1,h2⟩ | ⟨h1,h2,h3⟩ | ⟨h1,h2,h3⟩
  all_goals
   have H1:=Lib.hid h1
   go_enter Tryz.func279,Tryz.ntmps279
   go_wp2_with fail
   go_ret
   exact ⟨ae (by simp only [beq_iff_eq,beq_eq_false_iff_ne,decide_eq_true_eq,decide_eq_false_iff_not] at *;simp [aJ];try omega),(Below.refl _ _).alloc (Nat.le_refl _) _⟩
 ·go_enter Tryz.func279,Tryz.ntmps279
  go_wp2_with fail
  generalize hW:World.alloc _ _=w1
  obtain ⟨hb,hz⟩:=al2 hW
  refine (bg [2,3] a b (w.heap.size+1) 2 w1 (n22 hW) (by simp)).mono ?_
  rintro e w2 ⟨rfl,hb2⟩
  have HB2:=Lib.hid (ac hb hb2)
  clear hW hb hb2
  go_wp2_with fail
  go_ret
  exact ⟨ae (rfl),HB2.out⟩
 ·go_enter Tryz.func279,Tryz.ntmps279
  go_wp2_with fail
  generalize hW:World.alloc _ _=w1
  obtain ⟨hb,hz⟩:=al2 hW
  refine (bg [2] a b (w.heap.size+1) 1 w1 (n22 hW) (by simp)).mono ?_
  rintro e w2 ⟨rfl,hb2⟩
  have HB2:=Lib.hid (ac hb hb2)
  clear hW hb hb2
  go_wp2_with fail
  go_ret
  exact ⟨ae (rfl),HB2.out⟩
 ·go_enter Tryz.func279,Tryz.ntmps279
  go_wp2_with fail
  generalize hW:World.alloc _ _=w1
  obtain ⟨hb,hz⟩:=al2 hW
  refine (bg [2] a b (w.heap.size+1) 1 w1 (n22 hW) (by simp)).mono ?_
  rintro e w2 ⟨rfl,hb2⟩
  have HB2:=Lib.hid (ac hb hb2)
  clear hW hb hb2
  go_wp2_with fail
  go_ret
  exact ⟨ae (rfl),HB2.out⟩
 ·go_enter Tryz.func279,Tryz.ntmps279
  go_wp2_with fail
  generalize hW:World.alloc _ _=w1
  obtain ⟨hb,hz⟩:=al2 hW
  refine (bg [2] a b (w.heap.size+1) 1 w1 (n22 hW) (by simp)).mono ?_
  rintro e w2 ⟨rfl,hb2⟩
  have HB2:=Lib.hid (ac hb hb2)
  clear hW hb hb2
  go_wp2_with fail
  go_ret
  exact ⟨ae (rfl),HB2.out⟩
 ·go_enter Tryz.func279,Tryz.ntmps279
  go_wp2_with fail
  all_goals first
   | (go_ret
      exact ⟨ae (by simp [aJ];try omega),(Below.refl _ _).alloc (Nat.le_refl _) _⟩)
   | (generalize hW:World.alloc _ _=w1
      obtain ⟨hb,hz⟩:=al2 hW
      refine (bg [3] _ b (w.heap.size+1) 1 w1 (n22 hW) (by simp)).mono ?_
      rintro e w2 ⟨rfl,hb2⟩
      have HB2:=Lib.hid (ac hb hb2)
      clear hW hb hb2
      go_wp2_with fail
      go_ret
      refine ⟨ae ?_,HB2.out⟩
      have hc11:=c11 (a:=a) (b:=b) (by omega)
      first
       | exact hc11
       | (have ha:a=7:=by assumption
          exact (congrArg (fun x=>dB [3] x b) ha.symm).trans hc11)
       | (have ha:a=7:=by assumption
          have hb7:¬b≤7:=by omega
          rw [decide_eq_false hb7,Bool.false_or]
          exact (congrArg (fun x=>dB [3] x b) ha.symm).trans hc11))
 ·go_enter Tryz.func279,Tryz.ntmps279
  go_wp2_with fail
  generalize hW:World.alloc _ _=w1
  obtain ⟨hb,hz⟩:=al2 hW
  refine (bg [3,5] a b (w.heap.size+1) 2 w1 (n22 hW) (by simp)).mono ?_
  rintro e w2 ⟨rfl,hb2⟩
  have HB2:=Lib.hid (ac hb hb2)
  clear hW hb hb2
  go_wp2_with fail
  go_ret
  exact ⟨ae (rfl),HB2.out⟩
 ·go_enter Tryz.func279,Tryz.ntmps279
  go_wp2_with fail
  generalize hW:World.alloc _ _=w1
  obtain ⟨hb,hz⟩:=al2 hW
  refine (bg [3,5] a b (w.heap.size+1) 2 w1 (n22 hW) (by simp)).mono ?_
  rintro e w2 ⟨rfl,hb2⟩
  have HB2:=Lib.hid (ac hb hb2)
  clear hW hb hb2
  go_wp2_with fail
  go_ret
  exact ⟨ae (rfl),HB2.out⟩
 ·go_enter Tryz.func279,Tryz.ntmps279
  go_wp2_with fail
  generalize hW:World.alloc _ _=w1
  obtain ⟨hb,hz⟩:=al2 hW
  refine (bg [3] a b (w.heap.size+1) 1 w1 (n22 hW) (by simp)).mono ?_
  rintro e w2 ⟨rfl,hb2⟩
  have HB2:=Lib.hid (ac hb hb2)
  clear hW hb hb2
  go_wp2_with fail
  go_ret
  exact ⟨ae (rfl),HB2.out⟩
 ·go_enter Tryz.func279,Tryz.ntmps279
  go_wp2_with fail
  generalize hW:World.alloc _ _=w1
  obtain ⟨hb,hz⟩:=al2 hW
  refine (bg [7] a b (w.heap.size+1) 1 w1 (n22 hW) (by simp)).mono ?_
  rintro e w2 ⟨rfl,hb2⟩
  have HB2:=Lib.hid (ac hb hb2)
  clear hW hb hb2
  go_wp2_with fail
  go_ret
  exact ⟨ae (rfl),HB2.out⟩
 ·go_enter Tryz.func279,Tryz.ntmps279
  go_wp2_with fail
  generalize hW:World.alloc _ _=w1
  obtain ⟨hb,hz⟩:=al2 hW
  refine (bg [7] a b (w.heap.size+1) 1 w1 (n22 hW) (by simp)).mono ?_
  rintro e w2 ⟨rfl,hb2⟩
  have HB2:=Lib.hid (ac hb hb2)
  clear hW hb hb2
  go_wp2_with fail
  go_ret
  exact ⟨ae (rfl),HB2.out⟩
 ·go_enter Tryz.func279,Tryz.ntmps279
  go_wp2_with fail
  generalize hW:World.alloc _ _=w1
  obtain ⟨hb,hz⟩:=al2 hW
  refine (bg [2] a b (w.heap.size+1) 1 w1 (n22 hW) (by simp)).mono ?_
  rintro e w2 ⟨rfl,hb2⟩
  have HB2:=Lib.hid (ac hb hb2)
  clear hW hb hb2
  go_wp2_with fail
  go_ret
  exact ⟨ae (rfl),HB2.out⟩
 ·go_enter Tryz.func279,Tryz.ntmps279
  go_wp2_with fail
  generalize hW:World.alloc _ _=w1
  obtain ⟨hb,hz⟩:=al2 hW
  refine (bg [2] a b (w.heap.size+1) 1 w1 (n22 hW) (by simp)).mono ?_
  rintro e w2 ⟨rfl,hb2⟩
  have HB2:=Lib.hid (ac hb hb2)
  clear hW hb hb2
  go_wp2_with fail
  go_ret
  exact ⟨ae (rfl),HB2.out⟩
 ·go_enter Tryz.func279,Tryz.ntmps279
  go_wp2_with fail
  generalize hW:World.alloc _ _=w1
  obtain ⟨hb,hz⟩:=al2 hW
  refine (bg [2] a b (w.heap.size+1) 1 w1 (n22 hW) (by simp)).mono ?_
  rintro e w2 ⟨rfl,hb2⟩
  have HB2:=Lib.hid (ac hb hb2)
  clear hW hb hb2
  go_wp2_with fail
  go_ret
  exact ⟨ae (rfl),HB2.out⟩
theorem xo (n:Int):IntKind.u64.wrap n=n % 18446744073709551616:=IntKind.wrap_u64 n
theorem lf (n:Int):wrap64 n=if n % 18446744073709551616<9223372036854775808 then n % 18446744073709551616 else n % 18446744073709551616-18446744073709551616:=by
 unfold wrap64;omega
theorem ret_u {k:IntKind} {a b:Int} (h:a=b):Ending.returned (.int k a)=.returned (.int k b):=by rw [h]
theorem jn {k:IntKind} {a b:Int} {x y:Bool} (h:a=b) (h':x=y):Ending.returned (.tuple #[.int k a,.bool x])=.returned (.tuple #[.int k b,.bool y]):=by rw [h,h']
theorem vI (n:Int) (hn:I64 n) (w:World) :
 Calls Tryz.prog 307 #[.int .i64 n] w fun e w'=>e=.returned (.int .u64 (n.natAbs:Int))∧w=w':=by
 obtain ⟨h0,h1⟩:=hn
 rcases Int.lt_or_le n 0 with hlt | hge
 ·go_enter Tryz.func307,Tryz.ntmps307
  go_wp2_with fail
  go_ret
  exact ⟨ret_u (by rw [xo,xo];omega),rfl⟩
 ·go_enter Tryz.func307,Tryz.ntmps307
  go_wp2_with fail
  go_ret
  exact ⟨ret_u (by omega),rfl⟩
def dt (n:Int):Bool:=decide (-9223372036854775808≤n)&&decide (n≤9223372036854775807)
theorem cd (n:Int):dt n=true↔I64 n:=by simp [dt,I64]
theorem km (n:Int):dt n=false↔¬I64 n:=by rw [←cd];simp
theorem mag_mul (a b:Int):0≤(a.natAbs:Int)*(b.natAbs:Int):=Int.mul_nonneg (by omega) (by omega)
theorem qC {a b:Int} (h:(!decide (a<0)==decide (b<0))=true):a*b=-((a.natAbs:Int)*(b.natAbs:Int)):=by
 have h:¬(a<0↔b<0):=by simpa using h
 by_cases h1:a<0
 ·have e1:(a.natAbs:Int)=-a:=by omega
  have e2:(b.natAbs:Int)=b:=by omega
  rw [e1,e2,Int.neg_mul,Int.neg_neg]
 ·have e1:(a.natAbs:Int)=a:=by omega
  have e2:(b.natAbs:Int)=-b:=by omega
  rw [e1,e2,Int.mul_neg,Int.neg_neg]
theorem qD {a b:Int} (h:(!decide (a<0)==decide (b<0))=false):a*b=(a.natAbs:Int)*(b.natAbs:Int):=by
 have h:(a<0↔b<0):=by simpa using h
 by_cases h1:a<0
 ·have e1:(a.natAbs:Int)=-a:=by omega
  have e2:(b.natAbs:Int)=-b:=by omega
  rw [e1,e2,Int.neg_mul,Int.mul_neg,Int.neg_neg]
 ·have e1:(a.natAbs:Int)=a:=by omega
  have e2:(b.natAbs:Int)=b:=by omega
  rw [e1,e2]
theorem tn {a b P:Int} (h:a*b=-P) (hP:0≤P) (h0:P / 18446744073709551616=0):decide (P % 18446744073709551616≤9223372036854775808)=dt (a*b)∧(dt (a*b)=true→wrap64 (IntKind.u64.wrap (-(P % 18446744073709551616)))=a*b):=by
 rw [h]
 refine ⟨?_,fun hf=>?_⟩
 ·rw [Bool.eq_iff_iff,cd,decide_eq_true_eq];unfold I64;omega
 ·rw [cd] at hf;unfold I64 at hf;rw [xo,lf];split<;>omega
theorem tp {a b P:Int} (h:a*b=P) (hP:0≤P) (h0:P / 18446744073709551616=0):decide (P % 18446744073709551616<9223372036854775808)=dt (a*b)∧(dt (a*b)=true→wrap64 (P % 18446744073709551616)=a*b):=by
 rw [h]
 refine ⟨?_,fun hf=>?_⟩
 ·rw [Bool.eq_iff_iff,cd,decide_eq_true_eq];unfold I64;omega
 ·rw [cd] at hf;unfold I64 at hf;rw [lf];split<;>omega
theorem qj {a b P:Int} (h:a*b=-P∨a*b=P) (hP:0≤P) (h0:¬P / 18446744073709551616=0):false=dt (a*b):=by
 rw [eq_comm,km];unfold I64
 rcases h with h | h<;>rw [h]<;>omega
theorem wV {a:Int} (h:I64 a):a.natAbs<18446744073709551616:=by unfold I64 at h;omega
theorem kT (a b:Int) (ha:I64 a) (hb:I64 b) (w:World) :
 Calls Tryz.prog 296 #[.int .i64 a,.int .i64 b] w fun e w'=>(∃m:Int,e=.returned (.tuple #[.int .i64 m,.bool (dt (a*b))])∧(dt (a*b)=true→m=a*b))∧w=w':=by
 have HP:=Lib.hid (mag_mul a b)
 generalize hf:dt (a*b)=F
 have HF:=Lib.hid hf
 clear hf
 go_enter Tryz.func296,Tryz.ntmps296
 go_wp2_with (first
  | (go_at_call 307;refine (vI _ (by assumption) _).mono ?_;rintro e w' ⟨rfl,rfl⟩)
  | (go_at_call 308;refine (Tryz.bits_Mul64 a.natAbs b.natAbs (wV ha) (wV hb) _).mono ?_;rintro e w' ⟨rfl,rfl⟩))
 ·have h:=tn (qC ‹_›) HP.out ‹_›
  go_ret2
  rw [HF.out] at h
  exact ⟨⟨_,jn rfl h.1,h.2⟩,rfl⟩
 ·have h:=qj (.inl (qC ‹_›)) HP.out ‹_›
  go_ret2
  rw [HF.out] at h
  exact ⟨⟨_,jn rfl h,fun hh=>absurd (h.trans hh) (by simp)⟩,rfl⟩
 ·have h:=tp (qD ‹_›) HP.out ‹_›
  go_ret2
  rw [HF.out] at h
  exact ⟨⟨_,jn rfl h.1,h.2⟩,rfl⟩
 ·have h:=qj (.inr (qD ‹_›)) HP.out ‹_›
  go_ret2
  rw [HF.out] at h
  exact ⟨⟨_,jn rfl h,fun hh=>absurd (h.trans hh) (by simp)⟩,rfl⟩
def sr (code a b:Int):Int:=if code=7 then a+b else if code=8 then a-b else if code=9 then a*b else a.tdiv b
def mH (code a b:Int):Int:=if code=10∧b=0 then 6 else if dt (sr code a b) then 0 else 5
def lQ (code a b:Int):Int × Int × Int:=if mH code a b=0 then (2,sr code a b,0) else (0,0,mH code a b)
theorem kV {code a b k n e e':Int} (h:mH code a b=e') (he:e'≠0) (hr:lQ code a b=(k,n,e)) :
 Ending.returned (.tuple #[.agg #[.int .i64 0,.int .i64 0,.string ⟨#[]⟩,.slice none 0 0],.int .i64 e'])=.returned (.tuple #[.agg #[.int .i64 k,.int .i64 n,.string ⟨#[]⟩,.slice none 0 0],.int .i64 e]):=by
 subst h
 unfold lQ at hr
 rw [if_neg he] at hr
 simp only [Prod.mk.injEq] at hr
 obtain ⟨rfl,rfl,rfl⟩:=hr
 rfl
theorem ir {code a b k n e v:Int} (h:mH code a b=0) (hv:v=sr code a b) (hr:lQ code a b=(k,n,e)) :
 Ending.returned (.tuple #[.agg #[.int .i64 2,.int .i64 v,.string ⟨#[]⟩,.slice none 0 0],.int .i64 0])=.returned (.tuple #[.agg #[.int .i64 k,.int .i64 n,.string ⟨#[]⟩,.slice none 0 0],.int .i64 e]):=by
 subst hv
 unfold lQ at hr
 rw [if_pos h] at hr
 simp only [Prod.mk.injEq] at hr
 obtain ⟨rfl,rfl,rfl⟩:=hr
 rfl
theorem uT {a b:Int} (ha:I64 a) (hb:I64 b) (h:(!decide (a<wrap64 (a+b))==decide (0<b))=true):mH 7 a b=5:=by
 have h:¬(a<wrap64 (a+b)↔0<b):=by simpa using h
 have hf:dt (a+b)=false:=by
  rw [km];unfold I64 at *;rw [lf] at h;split at h<;>omega
 show (if (7:Int)=10∧b=0 then 6 else if dt (a+b)=true then 0 else 5)=(5:Int)
 rw [if_neg (by omega),hf];rfl
theorem uR {a b:Int} (ha:I64 a) (hb:I64 b) (h:(!decide (a<wrap64 (a+b))==decide (0<b))=false):mH 7 a b=0∧wrap64 (a+b)=sr 7 a b:=by
 have h:(a<wrap64 (a+b)↔0<b):=by simpa using h
 have hf:I64 (a+b):=by
  unfold I64 at *;rw [lf] at h;split at h<;>omega
 constructor
 ·show (if (7:Int)=10∧b=0 then 6 else if dt (a+b)=true then 0 else 5)=(0:Int)
  rw [if_neg (by omega),(cd _).2 hf];rfl
 ·show wrap64 (a+b)=a+b
  unfold I64 at hf;rw [lf];split<;>omega
theorem wm {a b:Int} (ha:I64 a) (hb:I64 b) (h:(!decide (wrap64 (a-b)<a)==decide (0<b))=true):mH 8 a b=5:=by
 have h:¬(wrap64 (a-b)<a↔0<b):=by simpa using h
 have hf:dt (a-b)=false:=by
  rw [km];unfold I64 at *;rw [lf] at h;split at h<;>omega
 show (if (8:Int)=10∧b=0 then 6 else if dt (a-b)=true then 0 else 5)=(5:Int)
 rw [if_neg (by omega),hf];rfl
theorem wl {a b:Int} (ha:I64 a) (hb:I64 b) (h:(!decide (wrap64 (a-b)<a)==decide (0<b))=false):mH 8 a b=0∧wrap64 (a-b)=sr 8 a b:=by
 have h:(wrap64 (a-b)<a↔0<b):=by simpa using h
 have hf:I64 (a-b):=by
  unfold I64 at *;rw [lf] at h;split at h<;>omega
 constructor
 ·show (if (8:Int)=10∧b=0 then 6 else if dt (a-b)=true then 0 else 5)=(0:Int)
  rw [if_neg (by omega),(cd _).2 hf];rfl
 ·show wrap64 (a-b)=a-b
  unfold I64 at hf;rw [lf];split<;>omega
theorem vP {a b:Int} (h:dt (a*b)=false):mH 9 a b=5:=by
 show (if (9:Int)=10∧b=0 then 6 else if dt (a*b)=true then 0 else 5)=(5:Int)
 rw [if_neg (by omega),h];rfl
theorem vO {a b:Int} (h:dt (a*b)=true):mH 9 a b=0:=by
 show (if (9:Int)=10∧b=0 then 6 else if dt (a*b)=true then 0 else 5)=(0:Int)
 rw [if_neg (by omega),h];rfl
theorem lv (w:World):Blk (w.alloc (.cells #[.int .i64 0,.int .i64 0,.string ⟨#[]⟩,.slice none 0 0] 79)) w.heap.size #[.int .i64 0,.int .i64 0,.string ⟨#[]⟩,.slice none 0 0]:=n11 rfl
theorem re {a b:Int} (ha:I64 a) (h0:¬b=0) (h1:¬b=-1):I64 (a.tdiv b):=by
 by_cases hb:b=1
 ·subst hb;rw [Int.tdiv_one];exact ha
 ·have e:=Int.natAbs_tdiv a b
  have l:a.natAbs / b.natAbs≤a.natAbs / 2:=Nat.div_le_div_left (by omega) (by omega)
  unfold I64 at *
  have e2:(a.tdiv b).natAbs=a.natAbs / b.natAbs:=e
  omega
theorem oV {a b:Int} (h1:b=-1) (h:(!a !=-9223372036854775808)=true):mH 10 a b=5:=by
 subst h1
 have h:a=-9223372036854775808:=by simpa using h
 subst h
 decide
theorem div_m1 {a b:Int} (ha:I64 a) (h1:b=-1) (h:(!a !=-9223372036854775808)=false):mH 10 a b=0∧wrap64 (-a)=sr 10 a b:=by
 subst h1
 have h:¬a=-9223372036854775808:=by simpa using h
 have e:sr 10 a (-1)=-a:=by show a.tdiv (-1)=-a;rw [Int.tdiv_neg,Int.tdiv_one]
 unfold I64 at ha
 refine ⟨?_,?_⟩
 ·unfold mH;rw [if_neg (by omega),e,(cd _).2 (by unfold I64;omega)];rfl
 ·rw [e,lf];split<;>omega
theorem div_ok {a b:Int} (ha:I64 a) (h0:¬b=0) (h1:¬b=-1):mH 10 a b=0∧wrap64 (a.tdiv b)=sr 10 a b:=by
 have h:=re ha h0 h1
 refine ⟨?_,?_⟩
 ·unfold mH;rw [if_neg (by omega)]
  show (if dt (a.tdiv b)=true then 0 else 5)=(0:Int)
  rw [(cd _).2 h];rfl
 ·show wrap64 (a.tdiv b)=a.tdiv b
  unfold I64 at h;rw [lf];split<;>omega
theorem put4 {w w2:World} {g:Nat} {a0 a1 a2 a3 v0 v1 v2 v3:Value} (h:Blk w2 g #[a0,a1,a2,a3]) (hb:Below w.heap.size w w2) (hg:w.heap.size≤g) :
 Blk ((((w2.setCell ⟨g,0,none⟩ v0).setCell ⟨g,1,none⟩ v1).setCell ⟨g,2,none⟩ v2).setCell ⟨g,3,none⟩ v3) g #[v0,v1,v2,v3] ∧
 Below w.heap.size w ((((w2.setCell ⟨g,0,none⟩ v0).setCell ⟨g,1,none⟩ v1).setCell ⟨g,2,none⟩ v2).setCell ⟨g,3,none⟩ v3):=
 ⟨(((h.set_ 0 v0).set_ 1 v1).set_ 2 v2).set_ 3 v3,(((hb.setCell (p:=⟨g,0,none⟩) hg v0).setCell (p:=⟨g,1,none⟩) hg v1).setCell (p:=⟨g,2,none⟩) hg v2).setCell (p:=⟨g,3,none⟩) hg v3⟩
theorem lR (code a b k n e:Int) (hc:code=7∨code=8∨code=9∨code=10) (ha:I64 a) (hb:I64 b) (hr:lQ code a b=(k,n,e)) (w:World) :
 Calls Tryz.prog 277 #[.int .i64 code,.int .i64 a,.int .i64 b] w fun x w'=>x=.returned (.tuple #[.agg #[.int .i64 k,.int .i64 n,.string ⟨#[]⟩,.slice none 0 0],.int .i64 e])∧Below w.heap.size w w':=by
 have HR:=Lib.hid hr
 clear hr
 rcases hc with rfl | rfl | rfl | rfl
 ·go_enter Tryz.func277,Tryz.ntmps277
  go_wp2_with fail
  ·have h:=uT ha hb ‹_›
   refine bodyPost_ret (ar rfl rfl (lv w) rfl) rfl ?_
   exact ⟨kV h (by omega) HR.out,(Below.refl _ _).alloc (Nat.le_refl _) _⟩
  ·have h:=uR ha hb ‹_›
   have HH:=Lib.hid h.1
   have HB:=Lib.hid ((Below.refl w.heap.size w).alloc (Nat.le_refl _) (.cells #[.int .i64 0,.int .i64 0,.string ⟨#[]⟩,.slice none 0 0] 79))
   have hz:=lv w
   rw [h.2]
   generalize hW:World.alloc _ _=w1 at *
   refine (bp _ _).mono ?_
   rintro x w2 ⟨rfl,hb2⟩
   have b_z:=hz.later hb2
   have HB2:=Lib.hid (ac HB.out hb2)
   have k_z:=b_z.cell
   have f_z:=b_z.free
   have l_z:=b_z.lt
   clear hz h hb2
   go_wp2_with fail
   refine bodyPost_ret (ar rfl rfl (put4 b_z HB2.out (Nat.le_refl _)).1 rfl) rfl ?_
   exact ⟨ir HH.out rfl HR.out,(put4 b_z HB2.out (Nat.le_refl _)).2⟩
 ·go_enter Tryz.func277,Tryz.ntmps277
  go_wp2_with fail
  ·have h:=wm ha hb ‹_›
   refine bodyPost_ret (ar rfl rfl (lv w) rfl) rfl ?_
   exact ⟨kV h (by omega) HR.out,(Below.refl _ _).alloc (Nat.le_refl _) _⟩
  ·have h:=wl ha hb ‹_›
   have HH:=Lib.hid h.1
   have HB:=Lib.hid ((Below.refl w.heap.size w).alloc (Nat.le_refl _) (.cells #[.int .i64 0,.int .i64 0,.string ⟨#[]⟩,.slice none 0 0] 79))
   have hz:=lv w
   rw [h.2]
   generalize hW:World.alloc _ _=w1 at *
   refine (bp _ _).mono ?_
   rintro x w2 ⟨rfl,hb2⟩
   have b_z:=hz.later hb2
   have HB2:=Lib.hid (ac HB.out hb2)
   have k_z:=b_z.cell
   have f_z:=b_z.free
   have l_z:=b_z.lt
   clear hz h hb2
   go_wp2_with fail
   refine bodyPost_ret (ar rfl rfl (put4 b_z HB2.out (Nat.le_refl _)).1 rfl) rfl ?_
   exact ⟨ir HH.out rfl HR.out,(put4 b_z HB2.out (Nat.le_refl _)).2⟩
 ·cases hf:dt (a*b)
  ·have HF:=Lib.hid hf
   go_enter Tryz.func277,Tryz.ntmps277
   go_wp2_with fail
   refine (kT a b ha hb _).mono ?_
   rintro x w1_ ⟨⟨m,rfl,hm⟩,rfl⟩
   rw [hf]
   clear hf hm
   go_wp2_with fail
   ·have h:=vP HF.out
    refine bodyPost_ret (ar rfl rfl (lv w) rfl) rfl ?_
    exact ⟨kV h (by omega) HR.out,(Below.refl _ _).alloc (Nat.le_refl _) _⟩
  ·have HF:=Lib.hid hf
   go_enter Tryz.func277,Tryz.ntmps277
   go_wp2_with fail
   refine (kT a b ha hb _).mono ?_
   rintro x w1_ ⟨⟨m,rfl,hm⟩,rfl⟩
   rw [hf]
   rw [hf] at hm
   obtain rfl:=hm rfl
   clear hf
   go_wp2_with fail
   ·have h:=(show mH 9 a b=0∧a*b=sr 9 a b from ⟨vO HF.out,rfl⟩)
    have HH:=Lib.hid h.1
    have HB:=Lib.hid ((Below.refl w.heap.size w).alloc (Nat.le_refl _) (.cells #[.int .i64 0,.int .i64 0,.string ⟨#[]⟩,.slice none 0 0] 79))
    have hz:=lv w
    rw [h.2]
    generalize hW:World.alloc _ _=w1 at *
    refine (bp _ _).mono ?_
    rintro x w2 ⟨rfl,hb2⟩
    have b_z:=hz.later hb2
    have HB2:=Lib.hid (ac HB.out hb2)
    have k_z:=b_z.cell
    have f_z:=b_z.free
    have l_z:=b_z.lt
    clear hz h hb2
    go_wp2_with fail
    refine bodyPost_ret (ar rfl rfl (put4 b_z HB2.out (Nat.le_refl _)).1 rfl) rfl ?_
    exact ⟨ir HH.out rfl HR.out,(put4 b_z HB2.out (Nat.le_refl _)).2⟩
 ·rcases Decidable.em (b=0) with hb0 | hb0
  ·subst hb0
   go_enter Tryz.func277,Tryz.ntmps277
   go_wp2_with fail
   have h:mH 10 a 0=6:=rfl
   refine bodyPost_ret (ar rfl rfl (lv w) rfl) rfl ?_
   exact ⟨kV h (by omega) HR.out,(Below.refl _ _).alloc (Nat.le_refl _) _⟩
  ·go_enter Tryz.func277,Tryz.ntmps277
   go_wp2_with fail
   ·have h:=oV ‹_› ‹_›
    refine bodyPost_ret (ar rfl rfl (lv w) rfl) rfl ?_
    exact ⟨kV h (by omega) HR.out,(Below.refl _ _).alloc (Nat.le_refl _) _⟩
   ·have hm1:b=-1:=‹_›
    subst hm1
    have h:=div_m1 ha rfl ‹_›
    have HH:=Lib.hid h.1
    have HB:=Lib.hid ((Below.refl w.heap.size w).alloc (Nat.le_refl _) (.cells #[.int .i64 0,.int .i64 0,.string ⟨#[]⟩,.slice none 0 0] 79))
    have hz:=lv w
    rw [h.2]
    generalize hW:World.alloc _ _=w1 at *
    refine (bp _ _).mono ?_
    rintro x w2 ⟨rfl,hb2⟩
    have b_z:=hz.later hb2
    have HB2:=Lib.hid (ac HB.out hb2)
    have k_z:=b_z.cell
    have f_z:=b_z.free
    have l_z:=b_z.lt
    clear hz h hb2
    go_wp2_with fail
    refine bodyPost_ret (ar rfl rfl (put4 b_z HB2.out (Nat.le_refl _)).1 rfl) rfl ?_
    exact ⟨ir HH.out rfl HR.out,(put4 b_z HB2.out (Nat.le_refl _)).2⟩
   ·have h:=div_ok ha hb0 ‹_›
    have HH:=Lib.hid h.1
    have HB:=Lib.hid ((Below.refl w.heap.size w).alloc (Nat.le_refl _) (.cells #[.int .i64 0,.int .i64 0,.string ⟨#[]⟩,.slice none 0 0] 79))
    have hz:=lv w
    rw [h.2]
    generalize hW:World.alloc _ _=w1 at *
    refine (bp _ _).mono ?_
    rintro x w2 ⟨rfl,hb2⟩
    have b_z:=hz.later hb2
    have HB2:=Lib.hid (ac HB.out hb2)
    have k_z:=b_z.cell
    have f_z:=b_z.free
    have l_z:=b_z.lt
    clear hz h hb2
    go_wp2_with fail
    refine bodyPost_ret (ar rfl rfl (put4 b_z HB2.out (Nat.le_refl _)).1 rfl) rfl ?_
    exact ⟨ir HH.out rfl HR.out,(put4 b_z HB2.out (Nat.le_refl _)).2⟩
end Go.Proofs.YtdphibjibnffeaaGreat
