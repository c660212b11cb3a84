/- XBS, behind op's first part. -/
import Derived.Test.YtjpndglegpcdnaaGreatOwn
import Derived.Test.YtjpndglegpcdnaaGreatBS
import Derived.Laws.Bits64b
set_option linter.unusedVariables false
set_option linter.unusedSimpArgs false
set_option maxRecDepth 100000
set_option maxHeartbeats 8000000
namespace Go.Proofs.YtjpndglegpcdnaaGreat
open Go.ChangeShapes Go.WideShapes Go.ChangeAt Go.RowKit
theorem mF {fn:Func} {tmps:Array Value} {p:Tmp} {g:Nat} {w:World} {cs:Array Value} (h:fn.results=#[.cell p 29]) (hp:tmps.getD p undef=.pointer (some ⟨g,0,none⟩)) (hb:Blk w g cs) (hn:cs.size=4) :
 (results fn tmps).run Tryz.prog w=.ok (.agg cs) w:=by
 obtain ⟨T,hb⟩:=hb
 exact results_cell_row h tmps w g T cs (0,0) _ hp hb Tryz.underlying29 rfl (by rw [hn];kernel_rfl)
theorem al {fn:Func} {tmps:Array Value} {p u:Tmp} {g:Nat} {w:World} {cs:Array Value} (h:fn.results=#[.cell p 29,.tmp u]) (hp:tmps.getD p undef=.pointer (some ⟨g,0,none⟩)) (hb:Blk w g cs) (hn:cs.size=4) :
 (results fn tmps).run Tryz.prog w=.ok (.tuple #[.agg cs,tmps.getD u undef]) w:=by
 obtain ⟨T,hb⟩:=hb
 rw [results_cell_tmp h]
 have e:tmps[p]?.getD undef=.pointer (some ⟨g,0,none⟩):=by simpa using hp
 have e1:((asAddr (tmps.getD p undef)).run Tryz.prog w)=.ok ⟨g,0,none⟩ w:=by simp [e,asAddr]
 rw [e1,Result.andThen_ok,run_loadVar_row w g T 29 cs (0,0) _ hb Tryz.underlying29 rfl (by rw [hn];kernel_rfl),Result.andThen_ok]
theorem bp (n:Int) (w:World) :
 Calls Tryz.prog 195 #[.int .i64 n] w fun e w'=>e=.returned (.agg #[.int .i64 2,.int .i64 n,.string ⟨#[]⟩,.slice none 0 0])∧Below w.heap.size w w':=by
 go_enter Tryz.func195,Tryz.ntmps195
 go_wp2_with fail
 refine bodyPost_ret (mF rfl rfl (n11 rfl) rfl) rfl ?_
 exact ⟨rfl,(yq _ _).alloc (yo _) _⟩
def bit (b:Bool):Int:=if b then 1 else 0
theorem dY (b:Bool) (w:World) :
 Calls Tryz.prog 193 #[.bool b] w fun e w'=>e=.returned (.agg #[.int .i64 6,.int .i64 (bit b),.string ⟨#[]⟩,.slice none 0 0])∧Below w.heap.size w w':=by
 cases b
 all_goals
  go_enter Tryz.func193,Tryz.ntmps193
  go_wp2_with fail
  refine bodyPost_ret (mF rfl rfl (n11 rfl) rfl) rfl ?_
  exact ⟨rfl,(yq _ _).alloc (yo _) _⟩
def dD (ks:List Int) (a b:Int):Bool:=ks.any fun k=>decide (a=k)&&decide (b=k)
theorem bf (ks:List Int) (a b:Int) (g c:Nat) (w:World) (hks:Blk w g (ks.map (Value.int .i64)).toArray) (hn:ks.length≤1000000) :
 Calls Tryz.prog 205 #[.agg #[.int .i64 a,.int .i64 b],.slice (some ⟨g,0,none⟩) ks.length c] w fun e w'=>e=.returned (.bool (dD ks a b))∧Below w.heap.size w w':=by
 have hc:∀i (h:i<ks.length),w.cell? ⟨g,i,none⟩=some (.int .i64 ks[i]):=fun i h=>by
  have:=hks.cell i
  rw [this]
  simp [h]
 have hg:=hks.lt
 clear hks
 go_enter Tryz.func205,Tryz.ntmps205
 go_wp2_with fail
 generalize hW:World.alloc _ _=w1
 obtain ⟨hb,hz⟩:=al1 hW
 have b_p:=n11 hW
 have HB:=ym hb
 have HC:=ym (fun i (h:i<ks.length)=>(hb.cell (p:=⟨g,i,none⟩) hg).trans (hc i h))
 have hg1:g<w1.heap.size:=by omega
 clear hW hb hc hg
 go_loop [9] (fun i=>∃k:Nat,k≤ks.length∧i=.int .i64 k∧∀i,i<k→∀h:i<ks.length,(decide (a=ks[i])&&decide (b=ks[i]))=false) (fun i=>ks.length-(intOf i).toNat)
 case atStart=>exact ⟨0,yp _,rfl,fun i h=>absurd h (by omega)⟩
 case round=>
  obtain ⟨k,hk,rfl,hall⟩:=hrel
  have HA:=ym hall
  clear hall
  by_cases hlt:k<ks.length
  ·have hck:=HC.out k hlt
   have k_p:=b_p.cell
   have l_p:=b_p.lt
   generalize hx:ks[k]=x at hck
   have HX:=ym hx
   clear hx
   have h3:(a==x)=false∨(a==x)=true∧(b==x)=false∨(a==x)=true∧(b==x)=true:=by cases (a==x)<;>cases (b==x)<;>simp
   rcases h3 with h1 | ⟨h1,h2⟩ | ⟨h1,h2⟩
   ·go_wp2_with fail
    go_round
    case rel=>exact ⟨k+1,by omega,by go_num,fun i hi h=>by
     rcases Nat.lt_or_ge i k with h4 | h4
     ·exact HA.out i h4 h
     ·obtain rfl:i=k:=by omega
      rw [HX.out];simp only [beq_eq_false_iff_ne] at h1;simp [h1]⟩
    case measure=>simp [intOf];omega
   ·go_wp2_with fail
    go_round
    case rel=>exact ⟨k+1,by omega,by go_num,fun i hi h=>by
     rcases Nat.lt_or_ge i k with h4 | h4
     ·exact HA.out i h4 h
     ·obtain rfl:i=k:=by omega
      rw [HX.out];simp only [beq_eq_false_iff_ne] at h2;simp [h2]⟩
    case measure=>simp [intOf];omega
   ·go_wp2_with fail
    go_ret
    refine ⟨ae ?_,HB.out⟩
    rw [eq_comm,dD,List.any_eq_true]
    exact ⟨x,by rw [←HX.out];exact List.getElem_mem _,by simp only [beq_iff_eq] at h1 h2;simp [h1,h2]⟩
  ·go_wp2_with fail
   go_ret
   refine ⟨ae ?_,HB.out⟩
   rw [eq_comm,dD,List.any_eq_false]
   intro x hx
   obtain ⟨i,hi,rfl⟩:=List.getElem_of_mem hx
   rw [HA.out i (by omega) hi]
   simp
def aG (code a b:Int):Bool:=
 if code=1∨code=2∨code=3∨code=4 then dD [2,4] a b
 else if code=5∨code=6 then decide (a=b)&&decide (2≤a)&&decide (a≤7)
 else if code=7 then dD [2,3] a b
 else if code=8∨code=9∨code=10∨code=17∨code=18∨code=19 then dD [2] a b
 else if code=11 then (decide (a=7)&&decide (2≤b)&&decide (b≤7))||dD [3] a b
 else if code=12∨code=13 then dD [3,5] a b
 else if code=14 then dD [3] a b
 else if code=15∨code=16 then dD [7] a b
 else false
theorem c11 {a b:Int} (h:¬(a=7∧2≤b∧b≤7)):dD [3] a b=aG 11 a b:=by
 show _=((decide (a=7)&&decide (2≤b)&&decide (b≤7))||dD [3] a b)
 have hf:(decide (a=7)&&decide (2≤b)&&decide (b≤7))=false:=by
  rw [Bool.eq_false_iff]
  simp only [ne_eq,yx,yC]
  omega
 rw [hf,Bool.false_or]
theorem aU (code a b:Int) (w:World) :
 Calls Tryz.prog 196 #[.int .i64 code,.int .i64 a,.int .i64 b] w fun e w'=>e=.returned (.bool (aG code a b))∧Below w.heap.size w w':=by
 have hc:code<1∨code > 19∨code=1∨code=2∨code=3∨code=4∨code=5∨code=6∨code=7∨code=8∨code=9∨code=10∨code=11∨code=12∨code=13∨code=14∨code=15∨code=16∨code=17∨code=18∨code=19:=by omega
 rcases hc with h | h | rfl | rfl | rfl | rfl | rfl | rfl | rfl | rfl | rfl | rfl | rfl | rfl | rfl | rfl | rfl | rfl | rfl | rfl | rfl
 ·have e:aG code a b=false:=by unfold aG;(repeat rw [if_neg (by omega)])
  rw [e]
  go_enter Tryz.func196,Tryz.ntmps196
  go_wp2_with fail
  go_ret
  exact ⟨rfl,(yq _ _).alloc (yo _) _⟩
 ·have e:aG code a b=false:=by unfold aG;(repeat rw [if_neg (by omega)])
  rw [e]
  go_enter Tryz.func196,Tryz.ntmps196
  go_wp2_with fail
  go_ret
  exact ⟨rfl,(yq _ _).alloc (yo _) _⟩
 ·go_enter Tryz.func196,Tryz.ntmps196
  go_wp2_with fail
  generalize hW:World.alloc _ _=w1
  obtain ⟨hb,hz⟩:=al2 hW
  refine (bf [2,4] a b (w.heap.size+1) 2 w1 (n22 hW) (by simp)).mono ?_
  rintro e w2 ⟨rfl,hb2⟩
  have HB2:=ym (ac hb hb2)
  clear hW hb hb2
  go_wp2_with fail
  go_ret
  exact ⟨ae (rfl),HB2.out⟩
 ·go_enter Tryz.func196,Tryz.ntmps196
  go_wp2_with fail
  generalize hW:World.alloc _ _=w1
  obtain ⟨hb,hz⟩:=al2 hW
  refine (bf [2,4] a b (w.heap.size+1) 2 w1 (n22 hW) (by simp)).mono ?_
  rintro e w2 ⟨rfl,hb2⟩
  have HB2:=ym (ac hb hb2)
  clear hW hb hb2
  go_wp2_with fail
  go_ret
  exact ⟨ae (rfl),HB2.out⟩
 ·go_enter Tryz.func196,Tryz.ntmps196
  go_wp2_with fail
  generalize hW:World.alloc _ _=w1
  obtain ⟨hb,hz⟩:=al2 hW
  refine (bf [2,4] a b (w.heap.size+1) 2 w1 (n22 hW) (by simp)).mono ?_
  rintro e w2 ⟨rfl,hb2⟩
  have HB2:=ym (ac hb hb2)
  clear hW hb hb2
  go_wp2_with fail
  go_ret
  exact ⟨ae (rfl),HB2.out⟩
 ·go_enter Tryz.func196,Tryz.ntmps196
  go_wp2_with fail
  generalize hW:World.alloc _ _=w1
  obtain ⟨hb,hz⟩:=al2 hW
  refine (bf [2,4] a b (w.heap.size+1) 2 w1 (n22 hW) (by simp)).mono ?_
  rintro e w2 ⟨rfl,hb2⟩
  have HB2:=ym (ac hb hb2)
  clear hW hb hb2
  go_wp2_with fail
  go_ret
  exact ⟨ae (rfl),HB2.out⟩
 ·have h3:(a==b)=false∨(a==b)=true∧decide (a≥2)=false∨(a==b)=true∧decide (a≥2)=true∧decide (a≤7)=false∨(a==b)=true∧decide (a≥2)=true∧decide (a≤7)=true:=by cases (a==b)<;>cases decide (a≥2)<;>cases decide (a≤7)<;>simp
  rcases h3 with h1 | ⟨h1,h2⟩ | ⟨h1,h2,h3⟩ | ⟨h1,h2,h3⟩
  all_goals
   have H1:=ym h1
   go_enter Tryz.func196,Tryz.ntmps196
   go_wp2_with fail
   go_ret
   exact ⟨ae (by simp only [beq_iff_eq,beq_eq_false_iff_ne,yC,decide_eq_false_iff_not] at *;simp [aG];try omega),(yq _ _).alloc (yo _) _⟩
 ·have h3:(a==b)=false∨(a==b)=true∧decide (a≥2)=false∨(a==b)=true∧decide (a≥2)=true∧decide (a≤7)=false∨(a==b)=true∧decide (a≥2)=true∧decide (a≤7)=true:=by cases (a==b)<;>cases decide (a≥2)<;>cases decide (a≤7)<;>simp
  rcases h3 with h1 | ⟨h1,h2⟩ | ⟨h1,h2,h3⟩ | ⟨h1,h2,h3⟩
  all_goals
   have H1:=ym h1
   go_enter Tryz.func196,Tryz.ntmps196
   go_wp2_with fail
   go_ret
   exact ⟨ae (by simp only [beq_iff_eq,beq_eq_false_iff_ne,yC,decide_eq_false_iff_not] at *;simp [aG];try omega),(yq _ _).alloc (yo _) _⟩
 ·go_enter Tryz.func196,Tryz.ntmps196
  go_wp2_with fail
  generalize hW:World.alloc _ _=w1
  obtain ⟨hb,hz⟩:=al2 hW
  refine (bf [2,3] a b (w.heap.size+1) 2 w1 (n22 hW) (by simp)).mono ?_
  rintro e w2 ⟨rfl,hb2⟩
  have HB2:=ym (ac hb hb2)
  clear hW hb hb2
  go_wp2_with fail
  go_ret
  exact ⟨ae (rfl),HB2.out⟩
 ·go_enter Tryz.func196,Tryz.ntmps196
  go_wp2_with fail
  generalize hW:World.alloc _ _=w1
  obtain ⟨hb,hz⟩:=al2 hW
  refine (bf [2] a b (w.heap.size+1) 1 w1 (n22 hW) (by simp)).mono ?_
  rintro e w2 ⟨rfl,hb2⟩
  have HB2:=ym (ac hb hb2)
  clear hW hb hb2
  go_wp2_with fail
  go_ret
  exact ⟨ae (rfl),HB2.out⟩
 ·go_enter Tryz.func196,Tryz.ntmps196
  go_wp2_with fail
  generalize hW:World.alloc _ _=w1
  obtain ⟨hb,hz⟩:=al2 hW
  refine (bf [2] a b (w.heap.size+1) 1 w1 (n22 hW) (by simp)).mono ?_
  rintro e w2 ⟨rfl,hb2⟩
  have HB2:=ym (ac hb hb2)
  clear hW hb hb2
  go_wp2_with fail
  go_ret
  exact ⟨ae (rfl),HB2.out⟩
 ·go_enter Tryz.func196,Tryz.ntmps196
  go_wp2_with fail
  generalize hW:World.alloc _ _=w1
  obtain ⟨hb,hz⟩:=al2 hW
  refine (bf [2] a b (w.heap.size+1) 1 w1 (n22 hW) (by simp)).mono ?_
  rintro e w2 ⟨rfl,hb2⟩
  have HB2:=ym (ac hb hb2)
  clear hW hb hb2
  go_wp2_with fail
  go_ret
  exact ⟨ae (rfl),HB2.out⟩
 ·go_enter Tryz.func196,Tryz.ntmps196
  go_wp2_with fail
  all_goals first
   | (go_ret
      exact ⟨ae (by simp [aG];try omega),(yq _ _).alloc (yo _) _⟩)
   | (generalize hW:World.alloc _ _=w1
      obtain ⟨hb,hz⟩:=al2 hW
      refine (bf [3] _ b (w.heap.size+1) 1 w1 (n22 hW) (by simp)).mono ?_
      rintro e w2 ⟨rfl,hb2⟩
      have HB2:=ym (ac hb hb2)
      clear hW hb hb2
      go_wp2_with fail
      go_ret
      refine ⟨ae ?_,HB2.out⟩
      have hc11:=c11 (a:=a) (b:=b) (by omega)
      first
       | exact hc11
       | (have ha:a=7:=by assumption
          exact (congrArg (fun x=>dD [3] x b) ha.symm).trans hc11)
       | (have ha:a=7:=by assumption
          have hb7:¬b≤7:=by omega
          rw [decide_eq_false hb7,Bool.false_or]
          exact (congrArg (fun x=>dD [3] x b) ha.symm).trans hc11))
 ·go_enter Tryz.func196,Tryz.ntmps196
  go_wp2_with fail
  generalize hW:World.alloc _ _=w1
  obtain ⟨hb,hz⟩:=al2 hW
  refine (bf [3,5] a b (w.heap.size+1) 2 w1 (n22 hW) (by simp)).mono ?_
  rintro e w2 ⟨rfl,hb2⟩
  have HB2:=ym (ac hb hb2)
  clear hW hb hb2
  go_wp2_with fail
  go_ret
  exact ⟨ae (rfl),HB2.out⟩
 ·go_enter Tryz.func196,Tryz.ntmps196
  go_wp2_with fail
  generalize hW:World.alloc _ _=w1
  obtain ⟨hb,hz⟩:=al2 hW
  refine (bf [3,5] a b (w.heap.size+1) 2 w1 (n22 hW) (by simp)).mono ?_
  rintro e w2 ⟨rfl,hb2⟩
  have HB2:=ym (ac hb hb2)
  clear hW hb hb2
  go_wp2_with fail
  go_ret
  exact ⟨ae (rfl),HB2.out⟩
 ·go_enter Tryz.func196,Tryz.ntmps196
  go_wp2_with fail
  generalize hW:World.alloc _ _=w1
  obtain ⟨hb,hz⟩:=al2 hW
  refine (bf [3] a b (w.heap.size+1) 1 w1 (n22 hW) (by simp)).mono ?_
  rintro e w2 ⟨rfl,hb2⟩
  have HB2:=ym (ac hb hb2)
  clear hW hb hb2
  go_wp2_with fail
  go_ret
  exact ⟨ae (rfl),HB2.out⟩
 ·go_enter Tryz.func196,Tryz.ntmps196
  go_wp2_with fail
  generalize hW:World.alloc _ _=w1
  obtain ⟨hb,hz⟩:=al2 hW
  refine (bf [7] a b (w.heap.size+1) 1 w1 (n22 hW) (by simp)).mono ?_
  rintro e w2 ⟨rfl,hb2⟩
  have HB2:=ym (ac hb hb2)
  clear hW hb hb2
  go_wp2_with fail
  go_ret
  exact ⟨ae (rfl),HB2.out⟩
 ·go_enter Tryz.func196,Tryz.ntmps196
  go_wp2_with fail
  generalize hW:World.alloc _ _=w1
  obtain ⟨hb,hz⟩:=al2 hW
  refine (bf [7] a b (w.heap.size+1) 1 w1 (n22 hW) (by simp)).mono ?_
  rintro e w2 ⟨rfl,hb2⟩
  have HB2:=ym (ac hb hb2)
  clear hW hb hb2
  go_wp2_with fail
  go_ret
  exact ⟨ae (rfl),HB2.out⟩
 ·go_enter Tryz.func196,Tryz.ntmps196
  go_wp2_with fail
  generalize hW:World.alloc _ _=w1
  obtain ⟨hb,hz⟩:=al2 hW
  refine (bf [2] a b (w.heap.size+1) 1 w1 (n22 hW) (by simp)).mono ?_
  rintro e w2 ⟨rfl,hb2⟩
  have HB2:=ym (ac hb hb2)
  clear hW hb hb2
  go_wp2_with fail
  go_ret
  exact ⟨ae (rfl),HB2.out⟩
 ·go_enter Tryz.func196,Tryz.ntmps196
  go_wp2_with fail
  generalize hW:World.alloc _ _=w1
  obtain ⟨hb,hz⟩:=al2 hW
  refine (bf [2] a b (w.heap.size+1) 1 w1 (n22 hW) (by simp)).mono ?_
  rintro e w2 ⟨rfl,hb2⟩
  have HB2:=ym (ac hb hb2)
  clear hW hb hb2
  go_wp2_with fail
  go_ret
  exact ⟨ae (rfl),HB2.out⟩
 ·go_enter Tryz.func196,Tryz.ntmps196
  go_wp2_with fail
  generalize hW:World.alloc _ _=w1
  obtain ⟨hb,hz⟩:=al2 hW
  refine (bf [2] a b (w.heap.size+1) 1 w1 (n22 hW) (by simp)).mono ?_
  rintro e w2 ⟨rfl,hb2⟩
  have HB2:=ym (ac hb hb2)
  clear hW hb hb2
  go_wp2_with fail
  go_ret
  exact ⟨ae (rfl),HB2.out⟩
theorem yg (n:Int):IntKind.u64.wrap n=n % 18446744073709551616:=IntKind.wrap_u64 n
theorem lF (n:Int):wrap64 n=if n % 18446744073709551616<9223372036854775808 then n % 18446744073709551616 else n % 18446744073709551616-18446744073709551616:=by
 unfold wrap64;omega
theorem ret_u {k:IntKind} {a b:Int} (h:a=b):Ending.returned (.int k a)=.returned (.int k b):=by rw [h]
theorem jB {k:IntKind} {a b:Int} {x y:Bool} (h:a=b) (h':x=y):Ending.returned (.tuple #[.int k a,.bool x])=.returned (.tuple #[.int k b,.bool y]):=by rw [h,h']
theorem wL (n:Int) (hn:I64 n) (w:World) :
 Calls Tryz.prog 211 #[.int .i64 n] w fun e w'=>e=.returned (.int .u64 (n.natAbs:Int))∧w=w':=by
 obtain ⟨h0,h1⟩:=hn
 rcases Int.lt_or_le n 0 with hlt | hge
 ·go_enter Tryz.func211,Tryz.ntmps211
  go_wp2_with fail
  go_ret
  exact ⟨ret_u (by rw [yg,yg];omega),rfl⟩
 ·go_enter Tryz.func211,Tryz.ntmps211
  go_wp2_with fail
  go_ret
  exact ⟨ret_u (by omega),rfl⟩
def dw (n:Int):Bool:=decide (-9223372036854775808≤n)&&decide (n≤9223372036854775807)
theorem ci (n:Int):dw n=true↔I64 n:=by simp [dw,I64]
theorem kJ (n:Int):dw n=false↔¬I64 n:=by rw [←ci];simp
theorem mag_mul (a b:Int):0≤(a.natAbs:Int)*(b.natAbs:Int):=Int.mul_nonneg (by omega) (by omega)
theorem rp {a b:Int} (h:(!decide (a<0)==decide (b<0))=true):a*b=-((a.natAbs:Int)*(b.natAbs:Int)):=by
 have h:¬(a<0↔b<0):=by simpa using h
 by_cases h1:a<0
 ·have e1:(a.natAbs:Int)=-a:=by omega
  have e2:(b.natAbs:Int)=b:=by omega
  rw [e1,e2,Int.neg_mul,Int.neg_neg]
 ·have e1:(a.natAbs:Int)=a:=by omega
  have e2:(b.natAbs:Int)=-b:=by omega
  rw [e1,e2,Int.mul_neg,Int.neg_neg]
theorem rq {a b:Int} (h:(!decide (a<0)==decide (b<0))=false):a*b=(a.natAbs:Int)*(b.natAbs:Int):=by
 have h:(a<0↔b<0):=by simpa using h
 by_cases h1:a<0
 ·have e1:(a.natAbs:Int)=-a:=by omega
  have e2:(b.natAbs:Int)=-b:=by omega
  rw [e1,e2,Int.neg_mul,Int.mul_neg,Int.neg_neg]
 ·have e1:(a.natAbs:Int)=a:=by omega
  have e2:(b.natAbs:Int)=b:=by omega
  rw [e1,e2]
theorem tN {a b P:Int} (h:a*b=-P) (hP:0≤P) (h0:P / 18446744073709551616=0):decide (P % 18446744073709551616≤9223372036854775808)=dw (a*b)∧(dw (a*b)=true→wrap64 (IntKind.u64.wrap (-(P % 18446744073709551616)))=a*b):=by
 rw [h]
 refine ⟨?_,fun hf=>?_⟩
 ·rw [Bool.eq_iff_iff,ci,yC];unfold I64;omega
 ·rw [ci] at hf;unfold I64 at hf;rw [yg,lF];split<;>omega
theorem tO {a b P:Int} (h:a*b=P) (hP:0≤P) (h0:P / 18446744073709551616=0):decide (P % 18446744073709551616<9223372036854775808)=dw (a*b)∧(dw (a*b)=true→wrap64 (P % 18446744073709551616)=a*b):=by
 rw [h]
 refine ⟨?_,fun hf=>?_⟩
 ·rw [Bool.eq_iff_iff,ci,yC];unfold I64;omega
 ·rw [ci] at hf;unfold I64 at hf;rw [lF];split<;>omega
theorem qQ {a b P:Int} (h:a*b=-P∨a*b=P) (hP:0≤P) (h0:¬P / 18446744073709551616=0):false=dw (a*b):=by
 rw [eq_comm,kJ];unfold I64
 rcases h with h | h<;>rw [h]<;>omega
theorem xP {a:Int} (h:I64 a):a.natAbs<18446744073709551616:=by unfold I64 at h;omega
theorem lp (a b:Int) (ha:I64 a) (hb:I64 b) (w:World) :
 Calls Tryz.prog 204 #[.int .i64 a,.int .i64 b] w fun e w'=>(∃m:Int,e=.returned (.tuple #[.int .i64 m,.bool (dw (a*b))])∧(dw (a*b)=true→m=a*b))∧w=w':=by
 have HP:=ym (mag_mul a b)
 generalize hf:dw (a*b)=F
 have HF:=ym hf
 clear hf
 go_enter Tryz.func204,Tryz.ntmps204
 go_wp2_with (first
  | (go_at_call 211;refine (wL _ (by assumption) _).mono ?_;rintro e w' ⟨rfl,rfl⟩)
  | (go_at_call 212;refine (Tryz.bits_Mul64 a.natAbs b.natAbs (xP ha) (xP hb) _).mono ?_;rintro e w' ⟨rfl,rfl⟩))
 ·have h:=tN (rp ‹_›) HP.out ‹_›
  go_ret2
  rw [HF.out] at h
  exact ⟨⟨_,jB rfl h.1,h.2⟩,rfl⟩
 ·have h:=qQ (.inl (rp ‹_›)) HP.out ‹_›
  go_ret2
  rw [HF.out] at h
  exact ⟨⟨_,jB rfl h,fun hh=>absurd (h.trans hh) (by simp)⟩,rfl⟩
 ·have h:=tO (rq ‹_›) HP.out ‹_›
  go_ret2
  rw [HF.out] at h
  exact ⟨⟨_,jB rfl h.1,h.2⟩,rfl⟩
 ·have h:=qQ (.inr (rq ‹_›)) HP.out ‹_›
  go_ret2
  rw [HF.out] at h
  exact ⟨⟨_,jB rfl h,fun hh=>absurd (h.trans hh) (by simp)⟩,rfl⟩
def sY (code a b:Int):Int:=if code=7 then a+b else if code=8 then a-b else if code=9 then a*b else a.tdiv b
def nG (code a b:Int):Int:=if code=10∧b=0 then 6 else if dw (sY code a b) then 0 else 5
def mD (code a b:Int):Int × Int × Int:=if nG code a b=0 then (2,sY code a b,0) else (0,0,nG code a b)
theorem ls {code a b k n e e':Int} (h:nG code a b=e') (he:e'≠0) (hr:mD code a b=(k,n,e)) :
 Ending.returned (.tuple #[.agg #[.int .i64 0,.int .i64 0,.string ⟨#[]⟩,.slice none 0 0],.int .i64 e'])=.returned (.tuple #[.agg #[.int .i64 k,.int .i64 n,.string ⟨#[]⟩,.slice none 0 0],.int .i64 e]):=by
 subst h
 unfold mD at hr
 rw [if_neg he] at hr
 simp only [Prod.mk.injEq] at hr
 obtain ⟨rfl,rfl,rfl⟩:=hr
 rfl
theorem iG {code a b k n e v:Int} (h:nG code a b=0) (hv:v=sY code a b) (hr:mD code a b=(k,n,e)) :
 Ending.returned (.tuple #[.agg #[.int .i64 2,.int .i64 v,.string ⟨#[]⟩,.slice none 0 0],.int .i64 0])=.returned (.tuple #[.agg #[.int .i64 k,.int .i64 n,.string ⟨#[]⟩,.slice none 0 0],.int .i64 e]):=by
 subst hv
 unfold mD at hr
 rw [if_pos h] at hr
 simp only [Prod.mk.injEq] at hr
 obtain ⟨rfl,rfl,rfl⟩:=hr
 rfl
theorem vM {a b:Int} (ha:I64 a) (hb:I64 b) (h:(!decide (a<wrap64 (a+b))==decide (0<b))=true):nG 7 a b=5:=by
 have h:¬(a<wrap64 (a+b)↔0<b):=by simpa using h
 have hf:dw (a+b)=false:=by
  rw [kJ];unfold I64 at *;rw [lF] at h;split at h<;>omega
 show (if (7:Int)=10∧b=0 then 6 else if dw (a+b)=true then 0 else 5)=(5:Int)
 rw [if_neg (by omega),hf];rfl
theorem vK {a b:Int} (ha:I64 a) (hb:I64 b) (h:(!decide (a<wrap64 (a+b))==decide (0<b))=false):nG 7 a b=0∧wrap64 (a+b)=sY 7 a b:=by
 have h:(a<wrap64 (a+b)↔0<b):=by simpa using h
 have hf:I64 (a+b):=by
  unfold I64 at *;rw [lF] at h;split at h<;>omega
 constructor
 ·show (if (7:Int)=10∧b=0 then 6 else if dw (a+b)=true then 0 else 5)=(0:Int)
  rw [if_neg (by omega),(ci _).2 hf];rfl
 ·show wrap64 (a+b)=a+b
  unfold I64 at hf;rw [lF];split<;>omega
theorem xo {a b:Int} (ha:I64 a) (hb:I64 b) (h:(!decide (wrap64 (a-b)<a)==decide (0<b))=true):nG 8 a b=5:=by
 have h:¬(wrap64 (a-b)<a↔0<b):=by simpa using h
 have hf:dw (a-b)=false:=by
  rw [kJ];unfold I64 at *;rw [lF] at h;split at h<;>omega
 show (if (8:Int)=10∧b=0 then 6 else if dw (a-b)=true then 0 else 5)=(5:Int)
 rw [if_neg (by omega),hf];rfl
theorem xn {a b:Int} (ha:I64 a) (hb:I64 b) (h:(!decide (wrap64 (a-b)<a)==decide (0<b))=false):nG 8 a b=0∧wrap64 (a-b)=sY 8 a b:=by
 have h:(wrap64 (a-b)<a↔0<b):=by simpa using h
 have hf:I64 (a-b):=by
  unfold I64 at *;rw [lF] at h;split at h<;>omega
 constructor
 ·show (if (8:Int)=10∧b=0 then 6 else if dw (a-b)=true then 0 else 5)=(0:Int)
  rw [if_neg (by omega),(ci _).2 hf];rfl
 ·show wrap64 (a-b)=a-b
  unfold I64 at hf;rw [lF];split<;>omega
theorem wT {a b:Int} (h:dw (a*b)=false):nG 9 a b=5:=by
 show (if (9:Int)=10∧b=0 then 6 else if dw (a*b)=true then 0 else 5)=(5:Int)
 rw [if_neg (by omega),h];rfl
theorem wR {a b:Int} (h:dw (a*b)=true):nG 9 a b=0:=by
 show (if (9:Int)=10∧b=0 then 6 else if dw (a*b)=true then 0 else 5)=(0:Int)
 rw [if_neg (by omega),h];rfl
theorem lY (w:World):Blk (w.alloc (.cells #[.int .i64 0,.int .i64 0,.string ⟨#[]⟩,.slice none 0 0] 29)) w.heap.size #[.int .i64 0,.int .i64 0,.string ⟨#[]⟩,.slice none 0 0]:=n11 rfl
theorem rO {a b:Int} (ha:I64 a) (h0:¬b=0) (h1:¬b=-1):I64 (a.tdiv b):=by
 by_cases hb:b=1
 ·subst hb;rw [Int.tdiv_one];exact ha
 ·have e:=Int.natAbs_tdiv a b
  have l:a.natAbs / b.natAbs≤a.natAbs / 2:=Nat.div_le_div_left (by omega) (by omega)
  unfold I64 at *
  have e2:(a.tdiv b).natAbs=a.natAbs / b.natAbs:=e
  omega
theorem pL {a b:Int} (h1:b=-1) (h:(!a !=-9223372036854775808)=true):nG 10 a b=5:=by
 subst h1
 have h:a=-9223372036854775808:=by simpa using h
 subst h
 decide
theorem div_m1 {a b:Int} (ha:I64 a) (h1:b=-1) (h:(!a !=-9223372036854775808)=false):nG 10 a b=0∧wrap64 (-a)=sY 10 a b:=by
 subst h1
 have h:¬a=-9223372036854775808:=by simpa using h
 have e:sY 10 a (-1)=-a:=by show a.tdiv (-1)=-a;rw [Int.tdiv_neg,Int.tdiv_one]
 unfold I64 at ha
 refine ⟨?_,?_⟩
 ·unfold nG;rw [if_neg (by omega),e,(ci _).2 (by unfold I64;omega)];rfl
 ·rw [e,lF];split<;>omega
theorem div_ok {a b:Int} (ha:I64 a) (h0:¬b=0) (h1:¬b=-1):nG 10 a b=0∧wrap64 (a.tdiv b)=sY 10 a b:=by
 have h:=rO ha h0 h1
 refine ⟨?_,?_⟩
 ·unfold nG;rw [if_neg (by omega)]
  show (if dw (a.tdiv b)=true then 0 else 5)=(0:Int)
  rw [(ci _).2 h];rfl
 ·show wrap64 (a.tdiv b)=a.tdiv b
  unfold I64 at h;rw [lF];split<;>omega
theorem put4 {w w2:World} {g:Nat} {a0 a1 a2 a3 v0 v1 v2 v3:Value} (h:Blk w2 g #[a0,a1,a2,a3]) (hb:Below w.heap.size w w2) (hg:w.heap.size≤g) :
 Blk ((((w2.setCell ⟨g,0,none⟩ v0).setCell ⟨g,1,none⟩ v1).setCell ⟨g,2,none⟩ v2).setCell ⟨g,3,none⟩ v3) g #[v0,v1,v2,v3] ∧
 Below w.heap.size w ((((w2.setCell ⟨g,0,none⟩ v0).setCell ⟨g,1,none⟩ v1).setCell ⟨g,2,none⟩ v2).setCell ⟨g,3,none⟩ v3):=
 ⟨(((h.set_ 0 v0).set_ 1 v1).set_ 2 v2).set_ 3 v3,(((hb.setCell (p:=⟨g,0,none⟩) hg v0).setCell (p:=⟨g,1,none⟩) hg v1).setCell (p:=⟨g,2,none⟩) hg v2).setCell (p:=⟨g,3,none⟩) hg v3⟩
theorem mE (code a b k n e:Int) (hc:code=7∨code=8∨code=9∨code=10) (ha:I64 a) (hb:I64 b) (hr:mD code a b=(k,n,e)) (w:World) :
 Calls Tryz.prog 194 #[.int .i64 code,.int .i64 a,.int .i64 b] w fun x w'=>x=.returned (.tuple #[.agg #[.int .i64 k,.int .i64 n,.string ⟨#[]⟩,.slice none 0 0],.int .i64 e])∧Below w.heap.size w w':=by
 have HR:=ym hr
 clear hr
 rcases hc with rfl | rfl | rfl | rfl
 ·go_enter Tryz.func194,Tryz.ntmps194
  go_wp2_with fail
  ·have h:=vM ha hb ‹_›
   refine bodyPost_ret (al rfl rfl (lY w) rfl) rfl ?_
   exact ⟨ls h (by omega) HR.out,(yq _ _).alloc (yo _) _⟩
  ·have h:=vK ha hb ‹_›
   have HH:=ym h.1
   have HB:=ym ((yq w.heap.size w).alloc (yo _) (.cells #[.int .i64 0,.int .i64 0,.string ⟨#[]⟩,.slice none 0 0] 29))
   have hz:=lY w
   rw [h.2]
   generalize hW:World.alloc _ _=w1 at *
   refine (bp _ _).mono ?_
   rintro x w2 ⟨rfl,hb2⟩
   have b_z:=hz.later hb2
   have HB2:=ym (ac HB.out hb2)
   have k_z:=b_z.cell
   have f_z:=b_z.free
   have l_z:=b_z.lt
   clear hz h hb2
   go_wp2_with fail
   refine bodyPost_ret (al rfl rfl (put4 b_z HB2.out (yo _)).1 rfl) rfl ?_
   exact ⟨iG HH.out rfl HR.out,(put4 b_z HB2.out (yo _)).2⟩
 ·go_enter Tryz.func194,Tryz.ntmps194
  go_wp2_with fail
  ·have h:=xo ha hb ‹_›
   refine bodyPost_ret (al rfl rfl (lY w) rfl) rfl ?_
   exact ⟨ls h (by omega) HR.out,(yq _ _).alloc (yo _) _⟩
  ·have h:=xn ha hb ‹_›
   have HH:=ym h.1
   have HB:=ym ((yq w.heap.size w).alloc (yo _) (.cells #[.int .i64 0,.int .i64 0,.string ⟨#[]⟩,.slice none 0 0] 29))
   have hz:=lY w
   rw [h.2]
   generalize hW:World.alloc _ _=w1 at *
   refine (bp _ _).mono ?_
   rintro x w2 ⟨rfl,hb2⟩
   have b_z:=hz.later hb2
   have HB2:=ym (ac HB.out hb2)
   have k_z:=b_z.cell
   have f_z:=b_z.free
   have l_z:=b_z.lt
   clear hz h hb2
   go_wp2_with fail
   refine bodyPost_ret (al rfl rfl (put4 b_z HB2.out (yo _)).1 rfl) rfl ?_
   exact ⟨iG HH.out rfl HR.out,(put4 b_z HB2.out (yo _)).2⟩
 ·cases hf:dw (a*b)
  ·have HF:=ym hf
   go_enter Tryz.func194,Tryz.ntmps194
   go_wp2_with fail
   refine (lp a b ha hb _).mono ?_
   rintro x w1_ ⟨⟨m,rfl,hm⟩,rfl⟩
   rw [hf]
   clear hf hm
   go_wp2_with fail
   ·have h:=wT HF.out
    refine bodyPost_ret (al rfl rfl (lY w) rfl) rfl ?_
    exact ⟨ls h (by omega) HR.out,(yq _ _).alloc (yo _) _⟩
  ·have HF:=ym hf
   go_enter Tryz.func194,Tryz.ntmps194
   go_wp2_with fail
   refine (lp a b ha hb _).mono ?_
   rintro x w1_ ⟨⟨m,rfl,hm⟩,rfl⟩
   rw [hf]
   rw [hf] at hm
   obtain rfl:=hm rfl
   clear hf
   go_wp2_with fail
   ·have h:=(show nG 9 a b=0∧a*b=sY 9 a b from ⟨wR HF.out,rfl⟩)
    have HH:=ym h.1
    have HB:=ym ((yq w.heap.size w).alloc (yo _) (.cells #[.int .i64 0,.int .i64 0,.string ⟨#[]⟩,.slice none 0 0] 29))
    have hz:=lY w
    rw [h.2]
    generalize hW:World.alloc _ _=w1 at *
    refine (bp _ _).mono ?_
    rintro x w2 ⟨rfl,hb2⟩
    have b_z:=hz.later hb2
    have HB2:=ym (ac HB.out hb2)
    have k_z:=b_z.cell
    have f_z:=b_z.free
    have l_z:=b_z.lt
    clear hz h hb2
    go_wp2_with fail
    refine bodyPost_ret (al rfl rfl (put4 b_z HB2.out (yo _)).1 rfl) rfl ?_
    exact ⟨iG HH.out rfl HR.out,(put4 b_z HB2.out (yo _)).2⟩
 ·rcases Decidable.em (b=0) with hb0 | hb0
  ·subst hb0
   go_enter Tryz.func194,Tryz.ntmps194
   go_wp2_with fail
   have h:nG 10 a 0=6:=rfl
   refine bodyPost_ret (al rfl rfl (lY w) rfl) rfl ?_
   exact ⟨ls h (by omega) HR.out,(yq _ _).alloc (yo _) _⟩
  ·go_enter Tryz.func194,Tryz.ntmps194
   go_wp2_with fail
   ·have h:=pL ‹_› ‹_›
    refine bodyPost_ret (al rfl rfl (lY w) rfl) rfl ?_
    exact ⟨ls h (by omega) HR.out,(yq _ _).alloc (yo _) _⟩
   ·have hm1:b=-1:=‹_›
    subst hm1
    have h:=div_m1 ha rfl ‹_›
    have HH:=ym h.1
    have HB:=ym ((yq w.heap.size w).alloc (yo _) (.cells #[.int .i64 0,.int .i64 0,.string ⟨#[]⟩,.slice none 0 0] 29))
    have hz:=lY w
    rw [h.2]
    generalize hW:World.alloc _ _=w1 at *
    refine (bp _ _).mono ?_
    rintro x w2 ⟨rfl,hb2⟩
    have b_z:=hz.later hb2
    have HB2:=ym (ac HB.out hb2)
    have k_z:=b_z.cell
    have f_z:=b_z.free
    have l_z:=b_z.lt
    clear hz h hb2
    go_wp2_with fail
    refine bodyPost_ret (al rfl rfl (put4 b_z HB2.out (yo _)).1 rfl) rfl ?_
    exact ⟨iG HH.out rfl HR.out,(put4 b_z HB2.out (yo _)).2⟩
   ·have h:=div_ok ha hb0 ‹_›
    have HH:=ym h.1
    have HB:=ym ((yq w.heap.size w).alloc (yo _) (.cells #[.int .i64 0,.int .i64 0,.string ⟨#[]⟩,.slice none 0 0] 29))
    have hz:=lY w
    rw [h.2]
    generalize hW:World.alloc _ _=w1 at *
    refine (bp _ _).mono ?_
    rintro x w2 ⟨rfl,hb2⟩
    have b_z:=hz.later hb2
    have HB2:=ym (ac HB.out hb2)
    have k_z:=b_z.cell
    have f_z:=b_z.free
    have l_z:=b_z.lt
    clear hz h hb2
    go_wp2_with fail
    refine bodyPost_ret (al rfl rfl (put4 b_z HB2.out (yo _)).1 rfl) rfl ?_
    exact ⟨iG HH.out rfl HR.out,(put4 b_z HB2.out (yo _)).2⟩
end Go.Proofs.YtjpndglegpcdnaaGreat
