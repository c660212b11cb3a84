/- What a fixed term is made of. -/
import Derived.Test.YtdphibjibnffeaaGreatOwn
import Derived.Test.YtdphibjibnffeaaGreatBS
import Derived.Laws.Bits64b
import Derived.Test.YtdphibjibnffeaaGreatTerm5
set_option linter.unusedVariables false
set_option linter.unusedSimpArgs false
set_option maxRecDepth 100000
set_option maxHeartbeats 8000000
namespace Go.Proofs.YtdphibjibnffeaaGreat
open Go.ChangeShapes Go.WideShapes Go.ChangeAt Go.RowKit
theorem oZ {fn:Func} {tmps:Array Value} {p:Tmp} {g:Nat} {w:World} {cs:Array Value} (h:fn.results=#[.cell p 79]) (hp:tmps.getD p undef=.pointer (some ⟨g,0,none⟩)) (hb:Blk w g cs) (hn:cs.size=4) :
 (results fn tmps).run Tryz.prog w=.ok (.agg cs) w:=by
 obtain ⟨T,hb⟩:=hb
 exact results_cell_row h tmps w g T cs (0,0) _ hp hb Tryz.underlying79 rfl (by rw [hn];kernel_rfl)
theorem am {fn:Func} {tmps:Array Value} {p u:Tmp} {g:Nat} {w:World} {cs:Array Value} (h:fn.results=#[.cell p 79,.tmp u]) (hp:tmps.getD p undef=.pointer (some ⟨g,0,none⟩)) (hb:Blk w g cs) (hn:cs.size=4) :
 (results fn tmps).run Tryz.prog w=.ok (.tuple #[.agg cs,tmps.getD u undef]) w:=by
 obtain ⟨T,hb⟩:=hb
 rw [results_cell_tmp h]
 have e:tmps[p]?.getD undef=.pointer (some ⟨g,0,none⟩):=by simpa using hp
 have e1:((asAddr (tmps.getD p undef)).run Tryz.prog w)=.ok ⟨g,0,none⟩ w:=by simp [e,asAddr]
 rw [e1,Result.andThen_ok,run_loadVar_row w g T 79 cs (0,0) _ hb Tryz.underlying79 rfl (by rw [hn];kernel_rfl),Result.andThen_ok]
theorem bm (n:Int) (w:World) :
 Calls Tryz.prog 278 #[.int .i64 n] w fun e w'=>e=.returned (.agg #[.int .i64 2,.int .i64 n,.string ⟨#[]⟩,.slice none 0 0])∧Below w.heap.size w w':=by
 go_enter Tryz.func278,Tryz.ntmps278
 go_wp2_with fail
 refine bodyPost_ret (oZ rfl rfl (n11 rfl) rfl) rfl ?_
 exact ⟨rfl,(zp _ _).alloc (zn _) _⟩
def bit (b:Bool):Int:=if b then 1 else 0
theorem ee (b:Bool) (w:World) :
 Calls Tryz.prog 276 #[.bool b] w fun e w'=>e=.returned (.agg #[.int .i64 6,.int .i64 (bit b),.string ⟨#[]⟩,.slice none 0 0])∧Below w.heap.size w w':=by
 cases b
 all_goals
  go_enter Tryz.func276,Tryz.ntmps276
  go_wp2_with fail
  refine bodyPost_ret (oZ rfl rfl (n11 rfl) rfl) rfl ?_
  exact ⟨rfl,(zp _ _).alloc (zn _) _⟩
def dG (ks:List Int) (a b:Int):Bool:=ks.any fun k=>decide (a=k)&&decide (b=k)
theorem aZ (ks:List Int) (a b:Int) (g c:Nat) (w:World) (hks:Blk w g (ks.map (Value.int .i64)).toArray) (hn:ks.length≤1000000) :
 Calls Tryz.prog 297 #[.agg #[.int .i64 a,.int .i64 b],.slice (some ⟨g,0,none⟩) ks.length c] w fun e w'=>e=.returned (.bool (dG ks a b))∧Below w.heap.size w w':=by
 have hc:∀i (h:i<ks.length),w.cell? ⟨g,i,none⟩=some (.int .i64 ks[i]):=fun i h=>by
  have:=hks.cell i
  rw [this]
  simp [h]
 have hg:=hks.lt
 clear hks
 go_enter Tryz.func297,Tryz.ntmps297
 go_wp2_with fail
 generalize hW:World.alloc _ _=w1
 obtain ⟨hb,hz⟩:=al1 hW
 have b_p:=n11 hW
 have HB:=zl hb
 have HC:=zl (fun i (h:i<ks.length)=>(hb.cell (p:=⟨g,i,none⟩) hg).trans (hc i h))
 have hg1:g<w1.heap.size:=by omega
 clear hW hb hc hg
 go_loop [9] (fun i=>∃k:Nat,k≤ks.length∧i=.int .i64 k∧∀i,i<k→∀h:i<ks.length,(decide (a=ks[i])&&decide (b=ks[i]))=false) (fun i=>ks.length-(intOf i).toNat)
 case atStart=>exact ⟨0,zo _,rfl,fun i h=>absurd h (by omega)⟩
 case round=>
  obtain ⟨k,hk,rfl,hall⟩:=hrel
  have HA:=zl hall
  clear hall
  by_cases hlt:k<ks.length
  ·have hck:=HC.out k hlt
   have k_p:=b_p.cell
   have l_p:=b_p.lt
   generalize hx:ks[k]=x at hck
   have HX:=zl hx
   clear hx
   have h3:(a==x)=false∨(a==x)=true∧(b==x)=false∨(a==x)=true∧(b==x)=true:=by cases (a==x)<;>cases (b==x)<;>simp
   rcases h3 with h1 | ⟨h1,h2⟩ | ⟨h1,h2⟩
   ·go_wp2_with fail
    go_round
    case rel=>exact ⟨k+1,by omega,by go_num,fun i hi h=>by
     rcases Nat.lt_or_ge i k with h4 | h4
     ·exact HA.out i h4 h
     ·obtain rfl:i=k:=by omega
      rw [HX.out];simp only [beq_eq_false_iff_ne] at h1;simp [h1]⟩
    case measure=>simp [intOf];omega
   ·go_wp2_with fail
    go_round
    case rel=>exact ⟨k+1,by omega,by go_num,fun i hi h=>by
     rcases Nat.lt_or_ge i k with h4 | h4
     ·exact HA.out i h4 h
     ·obtain rfl:i=k:=by omega
      rw [HX.out];simp only [beq_eq_false_iff_ne] at h2;simp [h2]⟩
    case measure=>simp [intOf];omega
   ·go_wp2_with fail
    go_ret
    refine ⟨ac ?_,HB.out⟩
    rw [eq_comm,dG,List.any_eq_true]
    exact ⟨x,by rw [←HX.out];exact List.getElem_mem _,by simp only [beq_iff_eq] at h1 h2;simp [h1,h2]⟩
  ·go_wp2_with fail
   go_ret
   refine ⟨ac ?_,HB.out⟩
   rw [eq_comm,dG,List.any_eq_false]
   intro x hx
   obtain ⟨i,hi,rfl⟩:=List.getElem_of_mem hx
   rw [HA.out i (by omega) hi]
   simp
def aD (code a b:Int):Bool:=
 if code=1∨code=2∨code=3∨code=4 then dG [2,4] a b
 else if code=5∨code=6 then decide (a=b)&&decide (2≤a)&&decide (a≤7)
 else if code=7 then dG [2,3] a b
 else if code=8∨code=9∨code=10∨code=17∨code=18∨code=19 then dG [2] a b
 else if code=11 then (decide (a=7)&&decide (2≤b)&&decide (b≤7))||dG [3] a b
 else if code=12∨code=13 then dG [3,5] a b
 else if code=14 then dG [3] a b
 else if code=15∨code=16 then dG [7] a b
 else false
theorem c11 {a b:Int} (h:¬(a=7∧2≤b∧b≤7)):dG [3] a b=aD 11 a b:=by
 show _=((decide (a=7)&&decide (2≤b)&&decide (b≤7))||dG [3] a b)
 have hf:(decide (a=7)&&decide (2≤b)&&decide (b≤7))=false:=by
  rw [Bool.eq_false_iff]
  simp only [ne_eq,Bool.and_eq_true,decide_eq_true_eq]
  omega
 rw [hf,Bool.false_or]
theorem aO (code a b:Int) (w:World) :
 Calls Tryz.prog 279 #[.int .i64 code,.int .i64 a,.int .i64 b] w fun e w'=>e=.returned (.bool (aD code a b))∧Below w.heap.size w w':=by
 have hc:code<1∨code > 19∨code=1∨code=2∨code=3∨code=4∨code=5∨code=6∨code=7∨code=8∨code=9∨code=10∨code=11∨code=12∨code=13∨code=14∨code=15∨code=16∨code=17∨code=18∨code=19:=by omega
 rcases hc with h | h | rfl | rfl | rfl | rfl | rfl | rfl | rfl | rfl | rfl | rfl | rfl | rfl | rfl | rfl | rfl | rfl | rfl | rfl | rfl
 ·have e:aD code a b=false:=by unfold aD;(repeat rw [if_neg (by omega)])
  rw [e]
  go_enter Tryz.func279,Tryz.ntmps279
  go_wp2_with fail
  go_ret
  exact ⟨rfl,(zp _ _).alloc (zn _) _⟩
 ·have e:aD code a b=false:=by unfold aD;(repeat rw [if_neg (by omega)])
  rw [e]
  go_enter Tryz.func279,Tryz.ntmps279
  go_wp2_with fail
  go_ret
  exact ⟨rfl,(zp _ _).alloc (zn _) _⟩
 ·go_enter Tryz.func279,Tryz.ntmps279
  go_wp2_with fail
  generalize hW:World.alloc _ _=w1
  obtain ⟨hb,hz⟩:=al2 hW
  refine (aZ [2,4] a b (w.heap.size+1) 2 w1 (n22 hW) (by simp)).mono ?_
  rintro e w2 ⟨rfl,hb2⟩
  have HB2:=zl (ab hb hb2)
  clear hW hb hb2
  go_wp2_with fail
  go_ret
  exact ⟨ac (rfl),HB2.out⟩
 ·go_enter Tryz.func279,Tryz.ntmps279
  go_wp2_with fail
  generalize hW:World.alloc _ _=w1
  obtain ⟨hb,hz⟩:=al2 hW
  refine (aZ [2,4] a b (w.heap.size+1) 2 w1 (n22 hW) (by simp)).mono ?_
  rintro e w2 ⟨rfl,hb2⟩
  have HB2:=zl (ab hb hb2)
  clear hW hb hb2
  go_wp2_with fail
  go_ret
  exact ⟨ac (rfl),HB2.out⟩
 ·go_enter Tryz.func279,Tryz.ntmps279
  go_wp2_with fail
  generalize hW:World.alloc _ _=w1
  obtain ⟨hb,hz⟩:=al2 hW
  refine (aZ [2,4] a b (w.heap.size+1) 2 w1 (n22 hW) (by simp)).mono ?_
  rintro e w2 ⟨rfl,hb2⟩
  have HB2:=zl (ab hb hb2)
  clear hW hb hb2
  go_wp2_with fail
  go_ret
  exact ⟨ac (rfl),HB2.out⟩
 ·go_enter Tryz.func279,Tryz.ntmps279
  go_wp2_with fail
  generalize hW:World.alloc _ _=w1
  obtain ⟨hb,hz⟩:=al2 hW
  refine (aZ [2,4] a b (w.heap.size+1) 2 w1 (n22 hW) (by simp)).mono ?_
  rintro e w2 ⟨rfl,hb2⟩
  have HB2:=zl (ab hb hb2)
  clear hW hb hb2
  go_wp2_with fail
  go_ret
  exact ⟨ac (rfl),HB2.out⟩
 ·have h3:(a==b)=false∨(a==b)=true∧decide (a≥2)=false∨(a==b)=true∧decide (a≥2)=true∧decide (a≤7)=false∨(a==b)=true∧decide (a≥2)=true∧decide (a≤7)=true:=by cases (a==b)<;>cases decide (a≥2)<;>cases decide (a≤7)<;>simp
  rcases h3 with h1 | ⟨h1,h2⟩ | ⟨h1,h2,h3⟩ | ⟨h1,h2,h3⟩
  all_goals
   have H1:=zl h1
   go_enter Tryz.func279,Tryz.ntmps279
   go_wp2_with fail
   go_ret
   exact ⟨ac (by simp only [beq_iff_eq,beq_eq_false_iff_ne,decide_eq_true_eq,decide_eq_false_iff_not] at *;simp [aD];try omega),(zp _ _).alloc (zn _) _⟩
 ·have h3:(a==b)=false∨(a==b)=true∧decide (a≥2)=false∨(a==b)=true∧decide (a≥2)=true∧decide (a≤7)=false∨(a==b)=true∧decide (a≥2)=true∧decide (a≤7)=true:=by cases (a==b)<;>cases decide (a≥2)<;>cases decide (a≤7)<;>simp
  rcases h3 with h1 | ⟨h1,h2⟩ | ⟨h1,h2,h3⟩ | ⟨h1,h2,h3⟩
  all_goals
   have H1:=zl h1
   go_enter Tryz.func279,Tryz.ntmps279
   go_wp2_with fail
   go_ret
   exact ⟨ac (by simp only [beq_iff_eq,beq_eq_false_iff_ne,decide_eq_true_eq,decide_eq_false_iff_not] at *;simp [aD];try omega),(zp _ _).alloc (zn _) _⟩
 ·go_enter Tryz.func279,Tryz.ntmps279
  go_wp2_with fail
  generalize hW:World.alloc _ _=w1
  obtain ⟨hb,hz⟩:=al2 hW
  refine (aZ [2,3] a b (w.heap.size+1) 2 w1 (n22 hW) (by simp)).mono ?_
  rintro e w2 ⟨rfl,hb2⟩
  have HB2:=zl (ab hb hb2)
  clear hW hb hb2
  go_wp2_with fail
  go_ret
  exact ⟨ac (rfl),HB2.out⟩
 ·go_enter Tryz.func279,Tryz.ntmps279
  go_wp2_with fail
  generalize hW:World.alloc _ _=w1
  obtain ⟨hb,hz⟩:=al2 hW
  refine (aZ [2] a b (w.heap.size+1) 1 w1 (n22 hW) (by simp)).mono ?_
  rintro e w2 ⟨rfl,hb2⟩
  have HB2:=zl (ab hb hb2)
  clear hW hb hb2
  go_wp2_with fail
  go_ret
  exact ⟨ac (rfl),HB2.out⟩
 ·go_enter Tryz.func279,Tryz.ntmps279
  go_wp2_with fail
  generalize hW:World.alloc _ _=w1
  obtain ⟨hb,hz⟩:=al2 hW
  refine (aZ [2] a b (w.heap.size+1) 1 w1 (n22 hW) (by simp)).mono ?_
  rintro e w2 ⟨rfl,hb2⟩
  have HB2:=zl (ab hb hb2)
  clear hW hb hb2
  go_wp2_with fail
  go_ret
  exact ⟨ac (rfl),HB2.out⟩
 ·go_enter Tryz.func279,Tryz.ntmps279
  go_wp2_with fail
  generalize hW:World.alloc _ _=w1
  obtain ⟨hb,hz⟩:=al2 hW
  refine (aZ [2] a b (w.heap.size+1) 1 w1 (n22 hW) (by simp)).mono ?_
  rintro e w2 ⟨rfl,hb2⟩
  have HB2:=zl (ab hb hb2)
  clear hW hb hb2
  go_wp2_with fail
  go_ret
  exact ⟨ac (rfl),HB2.out⟩
 ·go_enter Tryz.func279,Tryz.ntmps279
  go_wp2_with fail
  all_goals first
   | (go_ret
      exact ⟨ac (by simp [aD];try omega),(zp _ _).alloc (zn _) _⟩)
   | (generalize hW:World.alloc _ _=w1
      obtain ⟨hb,hz⟩:=al2 hW
      refine (aZ [3] _ b (w.heap.size+1) 1 w1 (n22 hW) (by simp)).mono ?_
      rintro e w2 ⟨rfl,hb2⟩
      have HB2:=zl (ab hb hb2)
      clear hW hb hb2
      go_wp2_with fail
      go_ret
      refine ⟨ac ?_,HB2.out⟩
      have hc11:=c11 (a:=a) (b:=b) (by omega)
      first
       | exact hc11
       | (have ha:a=7:=by assumption
          exact (congrArg (fun x=>dG [3] x b) ha.symm).trans hc11)
       | (have ha:a=7:=by assumption
          have hb7:¬b≤7:=by omega
          rw [decide_eq_false hb7,Bool.false_or]
          exact (congrArg (fun x=>dG [3] x b) ha.symm).trans hc11))
 ·go_enter Tryz.func279,Tryz.ntmps279
  go_wp2_with fail
  generalize hW:World.alloc _ _=w1
  obtain ⟨hb,hz⟩:=al2 hW
  refine (aZ [3,5] a b (w.heap.size+1) 2 w1 (n22 hW) (by simp)).mono ?_
  rintro e w2 ⟨rfl,hb2⟩
  have HB2:=zl (ab hb hb2)
  clear hW hb hb2
  go_wp2_with fail
  go_ret
  exact ⟨ac (rfl),HB2.out⟩
 ·go_enter Tryz.func279,Tryz.ntmps279
  go_wp2_with fail
  generalize hW:World.alloc _ _=w1
  obtain ⟨hb,hz⟩:=al2 hW
  refine (aZ [3,5] a b (w.heap.size+1) 2 w1 (n22 hW) (by simp)).mono ?_
  rintro e w2 ⟨rfl,hb2⟩
  have HB2:=zl (ab hb hb2)
  clear hW hb hb2
  go_wp2_with fail
  go_ret
  exact ⟨ac (rfl),HB2.out⟩
 ·go_enter Tryz.func279,Tryz.ntmps279
  go_wp2_with fail
  generalize hW:World.alloc _ _=w1
  obtain ⟨hb,hz⟩:=al2 hW
  refine (aZ [3] a b (w.heap.size+1) 1 w1 (n22 hW) (by simp)).mono ?_
  rintro e w2 ⟨rfl,hb2⟩
  have HB2:=zl (ab hb hb2)
  clear hW hb hb2
  go_wp2_with fail
  go_ret
  exact ⟨ac (rfl),HB2.out⟩
 ·go_enter Tryz.func279,Tryz.ntmps279
  go_wp2_with fail
  generalize hW:World.alloc _ _=w1
  obtain ⟨hb,hz⟩:=al2 hW
  refine (aZ [7] a b (w.heap.size+1) 1 w1 (n22 hW) (by simp)).mono ?_
  rintro e w2 ⟨rfl,hb2⟩
  have HB2:=zl (ab hb hb2)
  clear hW hb hb2
  go_wp2_with fail
  go_ret
  exact ⟨ac (rfl),HB2.out⟩
 ·go_enter Tryz.func279,Tryz.ntmps279
  go_wp2_with fail
  generalize hW:World.alloc _ _=w1
  obtain ⟨hb,hz⟩:=al2 hW
  refine (aZ [7] a b (w.heap.size+1) 1 w1 (n22 hW) (by simp)).mono ?_
  rintro e w2 ⟨rfl,hb2⟩
  have HB2:=zl (ab hb hb2)
  clear hW hb hb2
  go_wp2_with fail
  go_ret
  exact ⟨ac (rfl),HB2.out⟩
 ·go_enter Tryz.func279,Tryz.ntmps279
  go_wp2_with fail
  generalize hW:World.alloc _ _=w1
  obtain ⟨hb,hz⟩:=al2 hW
  refine (aZ [2] a b (w.heap.size+1) 1 w1 (n22 hW) (by simp)).mono ?_
  rintro e w2 ⟨rfl,hb2⟩
  have HB2:=zl (ab hb hb2)
  clear hW hb hb2
  go_wp2_with fail
  go_ret
  exact ⟨ac (rfl),HB2.out⟩
 ·go_enter Tryz.func279,Tryz.ntmps279
  go_wp2_with fail
  generalize hW:World.alloc _ _=w1
  obtain ⟨hb,hz⟩:=al2 hW
  refine (aZ [2] a b (w.heap.size+1) 1 w1 (n22 hW) (by simp)).mono ?_
  rintro e w2 ⟨rfl,hb2⟩
  have HB2:=zl (ab hb hb2)
  clear hW hb hb2
  go_wp2_with fail
  go_ret
  exact ⟨ac (rfl),HB2.out⟩
 ·go_enter Tryz.func279,Tryz.ntmps279
  go_wp2_with fail
  generalize hW:World.alloc _ _=w1
  obtain ⟨hb,hz⟩:=al2 hW
  refine (aZ [2] a b (w.heap.size+1) 1 w1 (n22 hW) (by simp)).mono ?_
  rintro e w2 ⟨rfl,hb2⟩
  have HB2:=zl (ab hb hb2)
  clear hW hb hb2
  go_wp2_with fail
  go_ret
  exact ⟨ac (rfl),HB2.out⟩
theorem ze (n:Int):IntKind.u64.wrap n=n % 18446744073709551616:=IntKind.wrap_u64 n
theorem lF (n:Int):wrap64 n=if n % 18446744073709551616<9223372036854775808 then n % 18446744073709551616 else n % 18446744073709551616-18446744073709551616:=by
 unfold wrap64;omega
theorem ret_u {k:IntKind} {a b:Int} (h:a=b):Ending.returned (.int k a)=.returned (.int k b):=by rw [h]
theorem jH {k:IntKind} {a b:Int} {x y:Bool} (h:a=b) (h':x=y):Ending.returned (.tuple #[.int k a,.bool x])=.returned (.tuple #[.int k b,.bool y]):=by rw [h,h']
theorem xD (n:Int) (hn:I64 n) (w:World) :
 Calls Tryz.prog 307 #[.int .i64 n] w fun e w'=>e=.returned (.int .u64 (n.natAbs:Int))∧w=w':=by
 obtain ⟨h0,h1⟩:=hn
 rcases Int.lt_or_le n 0 with hlt | hge
 ·go_enter Tryz.func307,Tryz.ntmps307
  go_wp2_with fail
  go_ret
  exact ⟨ret_u (by rw [ze,ze];omega),rfl⟩
 ·go_enter Tryz.func307,Tryz.ntmps307
  go_wp2_with fail
  go_ret
  exact ⟨ret_u (by omega),rfl⟩
def dw (n:Int):Bool:=decide (-9223372036854775808≤n)&&decide (n≤9223372036854775807)
theorem cd (n:Int):dw n=true↔I64 n:=by simp [dw,I64]
theorem kJ (n:Int):dw n=false↔¬I64 n:=by rw [←cd];simp
theorem mag_mul (a b:Int):0≤(a.natAbs:Int)*(b.natAbs:Int):=Int.mul_nonneg (by omega) (by omega)
theorem rx {a b:Int} (h:(!decide (a<0)==decide (b<0))=true):a*b=-((a.natAbs:Int)*(b.natAbs:Int)):=by
 have h:¬(a<0↔b<0):=by simpa using h
 by_cases h1:a<0
 ·have e1:(a.natAbs:Int)=-a:=by omega
  have e2:(b.natAbs:Int)=b:=by omega
  rw [e1,e2,Int.neg_mul,Int.neg_neg]
 ·have e1:(a.natAbs:Int)=a:=by omega
  have e2:(b.natAbs:Int)=-b:=by omega
  rw [e1,e2,Int.mul_neg,Int.neg_neg]
theorem ry {a b:Int} (h:(!decide (a<0)==decide (b<0))=false):a*b=(a.natAbs:Int)*(b.natAbs:Int):=by
 have h:(a<0↔b<0):=by simpa using h
 by_cases h1:a<0
 ·have e1:(a.natAbs:Int)=-a:=by omega
  have e2:(b.natAbs:Int)=-b:=by omega
  rw [e1,e2,Int.neg_mul,Int.mul_neg,Int.neg_neg]
 ·have e1:(a.natAbs:Int)=a:=by omega
  have e2:(b.natAbs:Int)=b:=by omega
  rw [e1,e2]
theorem uJ {a b P:Int} (h:a*b=-P) (hP:0≤P) (h0:P / 18446744073709551616=0):decide (P % 18446744073709551616≤9223372036854775808)=dw (a*b)∧(dw (a*b)=true→wrap64 (IntKind.u64.wrap (-(P % 18446744073709551616)))=a*b):=by
 rw [h]
 refine ⟨?_,fun hf=>?_⟩
 ·rw [Bool.eq_iff_iff,cd,decide_eq_true_eq];unfold I64;omega
 ·rw [cd] at hf;unfold I64 at hf;rw [ze,lF];split<;>omega
theorem uK {a b P:Int} (h:a*b=P) (hP:0≤P) (h0:P / 18446744073709551616=0):decide (P % 18446744073709551616<9223372036854775808)=dw (a*b)∧(dw (a*b)=true→wrap64 (P % 18446744073709551616)=a*b):=by
 rw [h]
 refine ⟨?_,fun hf=>?_⟩
 ·rw [Bool.eq_iff_iff,cd,decide_eq_true_eq];unfold I64;omega
 ·rw [cd] at hf;unfold I64 at hf;rw [lF];split<;>omega
theorem rh {a b P:Int} (h:a*b=-P∨a*b=P) (hP:0≤P) (h0:¬P / 18446744073709551616=0):false=dw (a*b):=by
 rw [eq_comm,kJ];unfold I64
 rcases h with h | h<;>rw [h]<;>omega
theorem yM {a:Int} (h:I64 a):a.natAbs<18446744073709551616:=by unfold I64 at h;omega
theorem lq (a b:Int) (ha:I64 a) (hb:I64 b) (w:World) :
 Calls Tryz.prog 296 #[.int .i64 a,.int .i64 b] w fun e w'=>(∃m:Int,e=.returned (.tuple #[.int .i64 m,.bool (dw (a*b))])∧(dw (a*b)=true→m=a*b))∧w=w':=by
 have HP:=zl (mag_mul a b)
 generalize hf:dw (a*b)=F
 have HF:=zl hf
 clear hf
 go_enter Tryz.func296,Tryz.ntmps296
 go_wp2_with (first
  | (go_at_call 307;refine (xD _ (by assumption) _).mono ?_;rintro e w' ⟨rfl,rfl⟩)
  | (go_at_call 308;refine (Tryz.bits_Mul64 a.natAbs b.natAbs (yM ha) (yM hb) _).mono ?_;rintro e w' ⟨rfl,rfl⟩))
 ·have h:=uJ (rx ‹_›) HP.out ‹_›
  go_ret2
  rw [HF.out] at h
  exact ⟨⟨_,jH rfl h.1,h.2⟩,rfl⟩
 ·have h:=rh (.inl (rx ‹_›)) HP.out ‹_›
  go_ret2
  rw [HF.out] at h
  exact ⟨⟨_,jH rfl h,fun hh=>absurd (h.trans hh) (by simp)⟩,rfl⟩
 ·have h:=uK (ry ‹_›) HP.out ‹_›
  go_ret2
  rw [HF.out] at h
  exact ⟨⟨_,jH rfl h.1,h.2⟩,rfl⟩
 ·have h:=rh (.inr (ry ‹_›)) HP.out ‹_›
  go_ret2
  rw [HF.out] at h
  exact ⟨⟨_,jH rfl h,fun hh=>absurd (h.trans hh) (by simp)⟩,rfl⟩
def tA (code a b:Int):Int:=if code=7 then a+b else if code=8 then a-b else if code=9 then a*b else a.tdiv b
def nz (code a b:Int):Int:=if code=10∧b=0 then 6 else if dw (tA code a b) then 0 else 5
def my (code a b:Int):Int × Int × Int:=if nz code a b=0 then (2,tA code a b,0) else (0,0,nz code a b)
theorem lu {code a b k n e e':Int} (h:nz code a b=e') (he:e'≠0) (hr:my code a b=(k,n,e)) :
 Ending.returned (.tuple #[.agg #[.int .i64 0,.int .i64 0,.string ⟨#[]⟩,.slice none 0 0],.int .i64 e'])=.returned (.tuple #[.agg #[.int .i64 k,.int .i64 n,.string ⟨#[]⟩,.slice none 0 0],.int .i64 e]):=by
 subst h
 unfold my at hr
 rw [if_neg he] at hr
 simp only [Prod.mk.injEq] at hr
 obtain ⟨rfl,rfl,rfl⟩:=hr
 rfl
theorem iQ {code a b k n e v:Int} (h:nz code a b=0) (hv:v=tA code a b) (hr:my code a b=(k,n,e)) :
 Ending.returned (.tuple #[.agg #[.int .i64 2,.int .i64 v,.string ⟨#[]⟩,.slice none 0 0],.int .i64 0])=.returned (.tuple #[.agg #[.int .i64 k,.int .i64 n,.string ⟨#[]⟩,.slice none 0 0],.int .i64 e]):=by
 subst hv
 unfold my at hr
 rw [if_pos h] at hr
 simp only [Prod.mk.injEq] at hr
 obtain ⟨rfl,rfl,rfl⟩:=hr
 rfl
theorem wM {a b:Int} (ha:I64 a) (hb:I64 b) (h:(!decide (a<wrap64 (a+b))==decide (0<b))=true):nz 7 a b=5:=by
 have h:¬(a<wrap64 (a+b)↔0<b):=by simpa using h
 have hf:dw (a+b)=false:=by
  rw [kJ];unfold I64 at *;rw [lF] at h;split at h<;>omega
 show (if (7:Int)=10∧b=0 then 6 else if dw (a+b)=true then 0 else 5)=(5:Int)
 rw [if_neg (by omega),hf];rfl
theorem wK {a b:Int} (ha:I64 a) (hb:I64 b) (h:(!decide (a<wrap64 (a+b))==decide (0<b))=false):nz 7 a b=0∧wrap64 (a+b)=tA 7 a b:=by
 have h:(a<wrap64 (a+b)↔0<b):=by simpa using h
 have hf:I64 (a+b):=by
  unfold I64 at *;rw [lF] at h;split at h<;>omega
 constructor
 ·show (if (7:Int)=10∧b=0 then 6 else if dw (a+b)=true then 0 else 5)=(0:Int)
  rw [if_neg (by omega),(cd _).2 hf];rfl
 ·show wrap64 (a+b)=a+b
  unfold I64 at hf;rw [lF];split<;>omega
theorem yi {a b:Int} (ha:I64 a) (hb:I64 b) (h:(!decide (wrap64 (a-b)<a)==decide (0<b))=true):nz 8 a b=5:=by
 have h:¬(wrap64 (a-b)<a↔0<b):=by simpa using h
 have hf:dw (a-b)=false:=by
  rw [kJ];unfold I64 at *;rw [lF] at h;split at h<;>omega
 show (if (8:Int)=10∧b=0 then 6 else if dw (a-b)=true then 0 else 5)=(5:Int)
 rw [if_neg (by omega),hf];rfl
theorem yh {a b:Int} (ha:I64 a) (hb:I64 b) (h:(!decide (wrap64 (a-b)<a)==decide (0<b))=false):nz 8 a b=0∧wrap64 (a-b)=tA 8 a b:=by
 have h:(wrap64 (a-b)<a↔0<b):=by simpa using h
 have hf:I64 (a-b):=by
  unfold I64 at *;rw [lF] at h;split at h<;>omega
 constructor
 ·show (if (8:Int)=10∧b=0 then 6 else if dw (a-b)=true then 0 else 5)=(0:Int)
  rw [if_neg (by omega),(cd _).2 hf];rfl
 ·show wrap64 (a-b)=a-b
  unfold I64 at hf;rw [lF];split<;>omega
theorem xK {a b:Int} (h:dw (a*b)=false):nz 9 a b=5:=by
 show (if (9:Int)=10∧b=0 then 6 else if dw (a*b)=true then 0 else 5)=(5:Int)
 rw [if_neg (by omega),h];rfl
theorem xJ {a b:Int} (h:dw (a*b)=true):nz 9 a b=0:=by
 show (if (9:Int)=10∧b=0 then 6 else if dw (a*b)=true then 0 else 5)=(0:Int)
 rw [if_neg (by omega),h];rfl
theorem lX (w:World):Blk (w.alloc (.cells #[.int .i64 0,.int .i64 0,.string ⟨#[]⟩,.slice none 0 0] 79)) w.heap.size #[.int .i64 0,.int .i64 0,.string ⟨#[]⟩,.slice none 0 0]:=n11 rfl
theorem rX {a b:Int} (ha:I64 a) (h0:¬b=0) (h1:¬b=-1):I64 (a.tdiv b):=by
 by_cases hb:b=1
 ·subst hb;rw [Int.tdiv_one];exact ha
 ·have e:=Int.natAbs_tdiv a b
  have l:a.natAbs / b.natAbs≤a.natAbs / 2:=Nat.div_le_div_left (by omega) (by omega)
  unfold I64 at *
  have e2:(a.tdiv b).natAbs=a.natAbs / b.natAbs:=e
  omega
theorem pT {a b:Int} (h1:b=-1) (h:(!a !=-9223372036854775808)=true):nz 10 a b=5:=by
 subst h1
 have h:a=-9223372036854775808:=by simpa using h
 subst h
 decide
theorem div_m1 {a b:Int} (ha:I64 a) (h1:b=-1) (h:(!a !=-9223372036854775808)=false):nz 10 a b=0∧wrap64 (-a)=tA 10 a b:=by
 subst h1
 have h:¬a=-9223372036854775808:=by simpa using h
 have e:tA 10 a (-1)=-a:=by show a.tdiv (-1)=-a;rw [Int.tdiv_neg,Int.tdiv_one]
 unfold I64 at ha
 refine ⟨?_,?_⟩
 ·unfold nz;rw [if_neg (by omega),e,(cd _).2 (by unfold I64;omega)];rfl
 ·rw [e,lF];split<;>omega
theorem div_ok {a b:Int} (ha:I64 a) (h0:¬b=0) (h1:¬b=-1):nz 10 a b=0∧wrap64 (a.tdiv b)=tA 10 a b:=by
 have h:=rX ha h0 h1
 refine ⟨?_,?_⟩
 ·unfold nz;rw [if_neg (by omega)]
  show (if dw (a.tdiv b)=true then 0 else 5)=(0:Int)
  rw [(cd _).2 h];rfl
 ·show wrap64 (a.tdiv b)=a.tdiv b
  unfold I64 at h;rw [lF];split<;>omega
theorem put4 {w w2:World} {g:Nat} {a0 a1 a2 a3 v0 v1 v2 v3:Value} (h:Blk w2 g #[a0,a1,a2,a3]) (hb:Below w.heap.size w w2) (hg:w.heap.size≤g) :
 Blk ((((w2.setCell ⟨g,0,none⟩ v0).setCell ⟨g,1,none⟩ v1).setCell ⟨g,2,none⟩ v2).setCell ⟨g,3,none⟩ v3) g #[v0,v1,v2,v3] ∧
 Below w.heap.size w ((((w2.setCell ⟨g,0,none⟩ v0).setCell ⟨g,1,none⟩ v1).setCell ⟨g,2,none⟩ v2).setCell ⟨g,3,none⟩ v3):=
 ⟨(((h.set_ 0 v0).set_ 1 v1).set_ 2 v2).set_ 3 v3,(((hb.setCell (p:=⟨g,0,none⟩) hg v0).setCell (p:=⟨g,1,none⟩) hg v1).setCell (p:=⟨g,2,none⟩) hg v2).setCell (p:=⟨g,3,none⟩) hg v3⟩
theorem mz (code a b k n e:Int) (hc:code=7∨code=8∨code=9∨code=10) (ha:I64 a) (hb:I64 b) (hr:my code a b=(k,n,e)) (w:World) :
 Calls Tryz.prog 277 #[.int .i64 code,.int .i64 a,.int .i64 b] w fun x w'=>x=.returned (.tuple #[.agg #[.int .i64 k,.int .i64 n,.string ⟨#[]⟩,.slice none 0 0],.int .i64 e])∧Below w.heap.size w w':=by
 have HR:=zl hr
 clear hr
 rcases hc with rfl | rfl | rfl | rfl
 ·go_enter Tryz.func277,Tryz.ntmps277
  go_wp2_with fail
  ·have h:=wM ha hb ‹_›
   refine bodyPost_ret (am rfl rfl (lX w) rfl) rfl ?_
   exact ⟨lu h (by omega) HR.out,(zp _ _).alloc (zn _) _⟩
  ·have h:=wK ha hb ‹_›
   have HH:=zl h.1
   have HB:=zl ((zp w.heap.size w).alloc (zn _) (.cells #[.int .i64 0,.int .i64 0,.string ⟨#[]⟩,.slice none 0 0] 79))
   have hz:=lX w
   rw [h.2]
   generalize hW:World.alloc _ _=w1 at *
   refine (bm _ _).mono ?_
   rintro x w2 ⟨rfl,hb2⟩
   have b_z:=hz.later hb2
   have HB2:=zl (ab HB.out hb2)
   have k_z:=b_z.cell
   have f_z:=b_z.free
   have l_z:=b_z.lt
   clear hz h hb2
   go_wp2_with fail
   refine bodyPost_ret (am rfl rfl (put4 b_z HB2.out (zn _)).1 rfl) rfl ?_
   exact ⟨iQ HH.out rfl HR.out,(put4 b_z HB2.out (zn _)).2⟩
 ·go_enter Tryz.func277,Tryz.ntmps277
  go_wp2_with fail
  ·have h:=yi ha hb ‹_›
   refine bodyPost_ret (am rfl rfl (lX w) rfl) rfl ?_
   exact ⟨lu h (by omega) HR.out,(zp _ _).alloc (zn _) _⟩
  ·have h:=yh ha hb ‹_›
   have HH:=zl h.1
   have HB:=zl ((zp w.heap.size w).alloc (zn _) (.cells #[.int .i64 0,.int .i64 0,.string ⟨#[]⟩,.slice none 0 0] 79))
   have hz:=lX w
   rw [h.2]
   generalize hW:World.alloc _ _=w1 at *
   refine (bm _ _).mono ?_
   rintro x w2 ⟨rfl,hb2⟩
   have b_z:=hz.later hb2
   have HB2:=zl (ab HB.out hb2)
   have k_z:=b_z.cell
   have f_z:=b_z.free
   have l_z:=b_z.lt
   clear hz h hb2
   go_wp2_with fail
   refine bodyPost_ret (am rfl rfl (put4 b_z HB2.out (zn _)).1 rfl) rfl ?_
   exact ⟨iQ HH.out rfl HR.out,(put4 b_z HB2.out (zn _)).2⟩
 ·cases hf:dw (a*b)
  ·have HF:=zl hf
   go_enter Tryz.func277,Tryz.ntmps277
   go_wp2_with fail
   refine (lq a b ha hb _).mono ?_
   rintro x w1_ ⟨⟨m,rfl,hm⟩,rfl⟩
   rw [hf]
   clear hf hm
   go_wp2_with fail
   ·have h:=xK HF.out
    refine bodyPost_ret (am rfl rfl (lX w) rfl) rfl ?_
    exact ⟨lu h (by omega) HR.out,(zp _ _).alloc (zn _) _⟩
  ·have HF:=zl hf
   go_enter Tryz.func277,Tryz.ntmps277
   go_wp2_with fail
   refine (lq a b ha hb _).mono ?_
   rintro x w1_ ⟨⟨m,rfl,hm⟩,rfl⟩
   rw [hf]
   rw [hf] at hm
   obtain rfl:=hm rfl
   clear hf
   go_wp2_with fail
   ·have h:=(show nz 9 a b=0∧a*b=tA 9 a b from ⟨xJ HF.out,rfl⟩)
    have HH:=zl h.1
    have HB:=zl ((zp w.heap.size w).alloc (zn _) (.cells #[.int .i64 0,.int .i64 0,.string ⟨#[]⟩,.slice none 0 0] 79))
    have hz:=lX w
    rw [h.2]
    generalize hW:World.alloc _ _=w1 at *
    refine (bm _ _).mono ?_
    rintro x w2 ⟨rfl,hb2⟩
    have b_z:=hz.later hb2
    have HB2:=zl (ab HB.out hb2)
    have k_z:=b_z.cell
    have f_z:=b_z.free
    have l_z:=b_z.lt
    clear hz h hb2
    go_wp2_with fail
    refine bodyPost_ret (am rfl rfl (put4 b_z HB2.out (zn _)).1 rfl) rfl ?_
    exact ⟨iQ HH.out rfl HR.out,(put4 b_z HB2.out (zn _)).2⟩
 ·rcases Decidable.em (b=0) with hb0 | hb0
  ·subst hb0
   go_enter Tryz.func277,Tryz.ntmps277
   go_wp2_with fail
   have h:nz 10 a 0=6:=rfl
   refine bodyPost_ret (am rfl rfl (lX w) rfl) rfl ?_
   exact ⟨lu h (by omega) HR.out,(zp _ _).alloc (zn _) _⟩
  ·go_enter Tryz.func277,Tryz.ntmps277
   go_wp2_with fail
   ·have h:=pT ‹_› ‹_›
    refine bodyPost_ret (am rfl rfl (lX w) rfl) rfl ?_
    exact ⟨lu h (by omega) HR.out,(zp _ _).alloc (zn _) _⟩
   ·have hm1:b=-1:=‹_›
    subst hm1
    have h:=div_m1 ha rfl ‹_›
    have HH:=zl h.1
    have HB:=zl ((zp w.heap.size w).alloc (zn _) (.cells #[.int .i64 0,.int .i64 0,.string ⟨#[]⟩,.slice none 0 0] 79))
    have hz:=lX w
    rw [h.2]
    generalize hW:World.alloc _ _=w1 at *
    refine (bm _ _).mono ?_
    rintro x w2 ⟨rfl,hb2⟩
    have b_z:=hz.later hb2
    have HB2:=zl (ab HB.out hb2)
    have k_z:=b_z.cell
    have f_z:=b_z.free
    have l_z:=b_z.lt
    clear hz h hb2
    go_wp2_with fail
    refine bodyPost_ret (am rfl rfl (put4 b_z HB2.out (zn _)).1 rfl) rfl ?_
    exact ⟨iQ HH.out rfl HR.out,(put4 b_z HB2.out (zn _)).2⟩
   ·have h:=div_ok ha hb0 ‹_›
    have HH:=zl h.1
    have HB:=zl ((zp w.heap.size w).alloc (zn _) (.cells #[.int .i64 0,.int .i64 0,.string ⟨#[]⟩,.slice none 0 0] 79))
    have hz:=lX w
    rw [h.2]
    generalize hW:World.alloc _ _=w1 at *
    refine (bm _ _).mono ?_
    rintro x w2 ⟨rfl,hb2⟩
    have b_z:=hz.later hb2
    have HB2:=zl (ab HB.out hb2)
    have k_z:=b_z.cell
    have f_z:=b_z.free
    have l_z:=b_z.lt
    clear hz h hb2
    go_wp2_with fail
    refine bodyPost_ret (am rfl rfl (put4 b_z HB2.out (zn _)).1 rfl) rfl ?_
    exact ⟨iQ HH.out rfl HR.out,(put4 b_z HB2.out (zn _)).2⟩
end Go.Proofs.YtdphibjibnffeaaGreat
namespace Go.Proofs.YtdphibjibnffeaaGreat
theorem un (x y:Int):cT x y=-cT y x:=by unfold cT;split<;>split<;>omega
theorem iv {x y:Int}:cT x y=0↔x=y:=by unfold cT;split<;>(try split)<;>omega
theorem nM (x y:List UInt8):cX x y=-cX y x:=by
 unfold cX
 by_cases h1:x<y
 ·rw [if_pos h1,if_neg (List.lt_asymm h1),if_pos h1]
 ·by_cases h2:y<x
  ·rw [if_neg h1,if_pos h2,if_pos h2];rfl
  ·rw [if_neg h1,if_neg h2,if_neg h2,if_neg h1];rfl
theorem nO {x y:List UInt8}:cX x y=0↔x=y:=by
 constructor
 ·intro h
  unfold cX at h
  by_cases h1:x<y
  ·rw [if_pos h1] at h;omega
  ·by_cases h2:y<x
   ·rw [if_neg h1,if_pos h2] at h;omega
   ·exact List.le_antisymm (List.not_lt.1 h2) (List.not_lt.1 h1)
 ·rintro rfl
  unfold cX
  rw [if_neg (List.lt_irrefl _),if_neg (List.lt_irrefl _)]
theorem xe {x y:List UInt8}:cX x y<0↔x<y:=by
 unfold cX
 by_cases h1:x<y
 ·simp [h1]
 ·by_cases h2:y<x
  ·rw [if_neg h1,if_pos h2];simp [h1]
  ·rw [if_neg h1,if_neg h2];simp [h1]
structure Ord3 {α:Type} (c:α→α→Int):Prop where
 anti:∀x y,c x y=-c y x
 trans:∀x y z,c x y≤0→c y z≤0→c x z≤0
section
variable {α:Type} {c:α→α→Int}
theorem Ord3.self (h:Ord3 c) (x:α):c x x=0:=by have:=h.anti x x;omega
theorem Ord3.lt_le (h:Ord3 c) {x y z:α} (h1:c x y<0) (h2:c y z≤0):c x z<0:=by
 have t:=h.trans x y z (by omega) h2
 rcases Int.lt_or_eq_of_le t with t | t
 ·exact t
 ·have a:=h.anti x z
  have b:=h.trans y z x h2 (by omega)
  have d:=h.anti x y
  omega
theorem Ord3.le_lt (h:Ord3 c) {x y z:α} (h1:c x y≤0) (h2:c y z<0):c x z<0:=by
 have t:=h.trans x y z h1 (by omega)
 rcases Int.lt_or_eq_of_le t with t | t
 ·exact t
 ·have a:=h.anti x z
  have b:=h.trans z x y (by omega) h1
  have d:=h.anti y z
  omega
theorem Ord3.zero_l (h:Ord3 c) {x y z:α} (h1:c x y=0):c x z=c y z∨(c x z<0∧c y z<0)∨(0<c x z∧0<c y z):=by
 have h1':=h.anti x y
 rcases Int.lt_trichotomy (c y z) 0 with k | k | k
 ·exact .inr (.inl ⟨h.le_lt (by omega) k,k⟩)
 ·left
  have a:=h.trans x y z (by omega) (by omega)
  have b:=h.trans z y x (by have:=h.anti z y;omega) (by omega)
  have d:=h.anti x z
  omega
 ·right;right
  have a:=h.anti y z
  have b:=h.anti x z
  have d:=h.lt_le (x:=z) (y:=y) (z:=x) (by omega) (by omega)
  omega
end
theorem gv:Ord3 cT:=⟨un,fun x y z h k=>by unfold cT at *;split at h<;>split at k<;>(try split at h)<;>(try split at k)<;>split<;>(try split)<;>omega⟩
theorem cmpS_le {x y:List UInt8}:cX x y≤0↔x≤y:=by
 have h:=nM x y
 have k:=@xe y x
 rw [show (cX x y≤0)↔¬(cX y x<0) by omega,k]
 exact List.not_lt
theorem jU:Ord3 cX:=⟨nM,fun x y z h k=>by rw [cmpS_le] at *;exact List.le_trans h k⟩
theorem xP {x y z:Int}:or3 x y z=0↔x=0∧y=0∧z=0:=by
 unfold or3;split<;>(try split)<;>omega
def jr {α:Type} (c d:α→α→Int) (x y:α):Int:=if c x y=0 then d x y else c x y
theorem Ord3.andThen {α:Type} {c d:α→α→Int} (hc:Ord3 c) (hd:Ord3 d):Ord3 (jr c d):=by
 refine ⟨fun x y=>?_,fun x y z h k=>?_⟩
 ·unfold jr
  have h1:=hc.anti x y
  have h2:=hd.anti x y
  split<;>split<;>omega
 ·unfold jr at *
  by_cases h1:c x y=0
  ·rw [if_pos h1] at h
   by_cases h2:c y z=0
   ·rw [if_pos h2] at k
    have e:c x z=0:=by rcases hc.zero_l (z:=z) h1 with e | e | e<;>omega
    rw [if_pos e]
    exact hd.trans x y z h k
   ·rw [if_neg h2] at k
    have e:c x z<0:=by rcases hc.zero_l (z:=z) h1 with e | e | e<;>omega
    rw [if_neg (by omega)];omega
  ·rw [if_neg h1] at h
   have h':c x y<0:=by omega
   by_cases h2:c y z=0
   ·have e:=hc.lt_le h' (by omega:c y z≤0)
    rw [if_neg (by omega)];omega
   ·rw [if_neg h2] at k
    have e:=hc.lt_le h' k
    rw [if_neg (by omega)];omega
theorem Ord3.by {α β:Type} {c:β→β→Int} (hc:Ord3 c) (f:α→β):Ord3 (fun x y=>c (f x) (f y)):=⟨fun _ _=>hc.anti _ _,fun _ _ _=>hc.trans _ _ _⟩
theorem qX:Ord3 iq:=by
 have h:iq=jr (fun a b=>cT a.kind b.kind) (jr (fun a b=>cT a.n b.n) (fun a b=>cX (bs a.s) (bs b.s))):=by
  funext a b;rfl
 rw [h]
 exact (gv.by Tm.kind).andThen ((gv.by Tm.n).andThen (jU.by fun t:Tm=>bs t.s))
theorem mS {f:Tm→Tm→Int} (hf:Ord3 f):Ord3 (cI f):=by
 refine ⟨?_,?_⟩
 ·intro x
  induction x with
  | nil=>intro y;cases y<;>simp [cI]
  | cons a x ih=>
    intro y
    cases y with
    | nil=>simp [cI]
    | cons b y=>
      have h:=hf.anti a b
      have:=ih y
      simp only [cI]
      split<;>split<;>omega
 ·intro x
  induction x with
  | nil=>intro y z _ _;cases z<;>simp [cI]
  | cons a x ih=>
    intro y z h k
    cases y with
    | nil=>simp [cI] at h
    | cons b y=>
      cases z with
      | nil=>simp [cI] at k
      | cons d z=>
        have key:=(hf.andThen (c:=f) (d:=fun _ _=>0) ⟨fun _ _=>rfl,fun _ _ _ _ _=>by simp⟩)
        simp only [cI] at *
        by_cases h1:f a b=0
        ·rw [if_pos h1] at h
         by_cases h2:f b d=0
         ·rw [if_pos h2] at k
          have e:f a d=0:=by rcases hf.zero_l (z:=d) h1 with e | e | e<;>omega
          rw [if_pos e]
          exact ih y z h k
         ·rw [if_neg h2] at k
          have e:f a d<0:=by rcases hf.zero_l (z:=d) h1 with e | e | e<;>omega
          rw [if_neg (by omega)];omega
        ·rw [if_neg h1] at h
         have e:f a d<0:=by
          by_cases h2:f b d=0
          ·exact hf.lt_le (y:=b) (by omega) (by omega)
          ·rw [if_neg h2] at k;exact hf.lt_le (y:=b) (by omega) k
         rw [if_neg (by omega)];omega
theorem eX:∀d,Ord3 (aV d)
 | 0=>by
   have h:aV 0=iq:=by funext a b;rfl
   rw [h];exact qX
 | d+1=>by
   have h:aV (d+1)=jr iq (fun a b=>cI (aV d) a.l b.l):=by funext a b;rfl
   rw [h]
   exact qX.andThen ((mS (eX d)).by Tm.l)
theorem tX {a b:ByteArray} (h:bs a=bs b):a=b:=by
 have:a.data.toList=b.data.toList:=h
 cases a;cases b
 simp only [ByteArray.mk.injEq]
 exact Array.toList_inj.1 this
theorem ul {a b:Tm}:iq a b=0↔a.kind=b.kind∧a.n=b.n∧a.s=b.s:=by
 unfold iq
 rw [xP,iv,iv,nO]
 exact ⟨fun ⟨h,k,l⟩=>⟨h,k,tX l⟩,fun ⟨h,k,l⟩=>⟨h,k,by rw [l]⟩⟩
def lY (t:Tm):Prop:=t.l=[]
def Two (t:Tm):Prop:=∀x∈t.l,lY x
theorem vk {d:Nat} {a b:Tm} (ha:lY a) (hb:lY b) (h:aV d a b=0):a=b:=by
 have h0:iq a b=0:=by
  cases d with
  | zero=>exact h
  | succ d=>
    unfold aV at h
    by_cases k:iq a b=0
    ·exact k
    ·rw [if_neg k] at h;exact absurd h k
 obtain ⟨h1,h2,h3⟩:=ul.1 h0
 clear h0 h
 cases a;cases b
 unfold lY at ha hb
 simp only at *
 subst h1 h2 h3 ha hb
 rfl
theorem fO {t:Tm} (h:dP t=true):lY t:=by
 unfold dP at h
 rw [Bool.and_eq_true,decide_eq_true_eq] at h
 exact List.eq_nil_of_length_eq_zero h.1
open Go.ChangeShapes Go.WideShapes Go.ChangeAt Go.RowKit
theorem ar {w W:World} {o:Obj} (h:w.alloc o=W):Below w.heap.size w W:=(al1 h).1
theorem kK {t:Tm} (h:ae t=true):if t.kind=7 then t.n=0∧t.s.size=0∧cP t.l=true else t.l=[]:=by
 unfold ae fz at h
 rw [Bool.and_eq_true] at h
 by_cases h7:t.kind=7
 ·rw [if_pos h7] at h ⊢
  have h2:=h.2
  simp only [Bool.and_eq_true,decide_eq_true_eq] at h2
  exact ⟨h2.1.1,h2.1.2,h2.2⟩
 ·rw [if_neg h7] at h ⊢
  exact fO h.2
theorem dn {l:List Tm} (h:cP l=true):l.length≤16∧∀x∈l,lY x:=by
 unfold cP at h
 rw [Bool.and_eq_true,List.all_eq_true,decide_eq_true_eq] at h
 refine ⟨h.2,fun x hx=>?_⟩
 obtain ⟨i,hi,rfl⟩:=List.getElem_of_mem hx
 have:=h.1 i (List.mem_range.2 hi)
 unfold eP at this
 rw [List.getElem?_eq_getElem hi,List.getElem?_eq_getElem (show 0<l.length by omega),List.getElem?_eq_getElem (show i-1<l.length by omega)] at this
 simp only [Bool.and_eq_true] at this
 exact fO this.1.1.1
end Go.Proofs.YtdphibjibnffeaaGreat
