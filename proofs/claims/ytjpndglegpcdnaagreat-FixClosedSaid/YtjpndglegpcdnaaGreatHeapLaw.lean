/- A heap in a list: sinking, the least one; a set made of a list. Plain. -/
import Derived.Test.YtjpndglegpcdnaaGreatOp1
import Derived.Laws.Bits64b
import Derived.Test.YtjpndglegpcdnaaGreatRead2
import Derived.Test.YtjpndglegpcdnaaGreatRule1
import Derived.Laws.Cover3
set_option linter.unusedVariables false
set_option linter.unusedSimpArgs false
set_option maxRecDepth 100000
set_option maxHeartbeats 8000000
namespace Go.Proofs.YtjpndglegpcdnaaGreat
open Go.ChangeShapes Go.WideShapes Go.ChangeAt Go.RowKit
theorem AJ {a b c:Nat}(h:a<b)(k:b≤c):a<c:=Nat.lt_of_lt_of_le h k
theorem AV {α:Type _}{a:α}{l:List α}:(a::l).length=l.length+1:=List.length_cons
theorem AA (n:Int):IntKind.u64.wrap n=n % 18446744073709551616:=IntKind.wrap_u64 n
theorem ms (n:Int):wrap64 n=if n % 18446744073709551616<9223372036854775808 then n % 18446744073709551616 else n % 18446744073709551616-18446744073709551616:=by
 unfold wrap64;omega
theorem ret_u {k:IntKind} {a b:Int} (h:a=b):Ending.returned (.int k a)=.returned (.int k b):=by rw [h]
theorem km {k:IntKind} {a b:Int} {x y:Bool} (h:a=b) (h':x=y):Ending.returned (.tuple #[.int k a,.bool x])=.returned (.tuple #[.int k b,.bool y]):=by rw [h,h']
theorem yM (n:Int) (hn:I64 n) (w:World) :
 Calls Tryz.prog 211 #[.int .i64 n] w fun e w'=>e=.returned (.int .u64 (n.natAbs:Int))∧w=w':=by
 obtain ⟨h0,h1⟩:=hn
 rcases Int.lt_or_le n 0 with hlt | hge
 ·go_enter Tryz.func211,Tryz.ntmps211
  go_wp2_with fail
  go_ret
  exact ⟨ret_u (by rw [AA,AA];omega),rfl⟩
 ·go_enter Tryz.func211,Tryz.ntmps211
  go_wp2_with fail
  go_ret
  exact ⟨ret_u (by omega),rfl⟩
def dI (n:Int):Bool:=decide (-9223372036854775808≤n)&&decide (n≤9223372036854775807)
theorem cj (n:Int):dI n=true↔I64 n:=by simp [dI,I64]
theorem ly (n:Int):dI n=false↔¬I64 n:=by rw [←cj];simp
theorem mag_mul (a b:Int):0≤(a.natAbs:Int)*(b.natAbs:Int):=Int.mul_nonneg (by omega) (by omega)
theorem sM {a b:Int} (h:(!decide (a<0)==decide (b<0))=true):a*b=-((a.natAbs:Int)*(b.natAbs:Int)):=by
 have h:¬(a<0↔b<0):=by simpa using h
 by_cases h1:a<0
 ·have e1:(a.natAbs:Int)=-a:=by omega
  have e2:(b.natAbs:Int)=b:=by omega
  rw [e1,e2,Int.neg_mul,Int.neg_neg]
 ·have e1:(a.natAbs:Int)=a:=by omega
  have e2:(b.natAbs:Int)=-b:=by omega
  rw [e1,e2,Int.mul_neg,Int.neg_neg]
theorem sN {a b:Int} (h:(!decide (a<0)==decide (b<0))=false):a*b=(a.natAbs:Int)*(b.natAbs:Int):=by
 have h:(a<0↔b<0):=by simpa using h
 by_cases h1:a<0
 ·have e1:(a.natAbs:Int)=-a:=by omega
  have e2:(b.natAbs:Int)=-b:=by omega
  rw [e1,e2,Int.neg_mul,Int.mul_neg,Int.neg_neg]
 ·have e1:(a.natAbs:Int)=a:=by omega
  have e2:(b.natAbs:Int)=b:=by omega
  rw [e1,e2]
theorem vL {a b P:Int} (h:a*b=-P) (hP:0≤P) (h0:P / 18446744073709551616=0):decide (P % 18446744073709551616≤9223372036854775808)=dI (a*b)∧(dI (a*b)=true→wrap64 (IntKind.u64.wrap (-(P % 18446744073709551616)))=a*b):=by
 rw [h]
 refine ⟨?_,fun hf=>?_⟩
 ·rw [Bool.eq_iff_iff,cj,AT];unfold I64;omega
 ·rw [cj] at hf;unfold I64 at hf;rw [AA,ms];split<;>omega
theorem vM {a b P:Int} (h:a*b=P) (hP:0≤P) (h0:P / 18446744073709551616=0):decide (P % 18446744073709551616<9223372036854775808)=dI (a*b)∧(dI (a*b)=true→wrap64 (P % 18446744073709551616)=a*b):=by
 rw [h]
 refine ⟨?_,fun hf=>?_⟩
 ·rw [Bool.eq_iff_iff,cj,AT];unfold I64;omega
 ·rw [cj] at hf;unfold I64 at hf;rw [ms];split<;>omega
theorem sk {a b P:Int} (h:a*b=-P∨a*b=P) (hP:0≤P) (h0:¬P / 18446744073709551616=0):false=dI (a*b):=by
 rw [eq_comm,ly];unfold I64
 rcases h with h | h<;>rw [h]<;>omega
theorem zQ {a:Int} (h:I64 a):a.natAbs<18446744073709551616:=by unfold I64 at h;omega
theorem lZ (a b:Int) (ha:I64 a) (hb:I64 b) (w:World) :
 Calls Tryz.prog 204 #[.int .i64 a,.int .i64 b] w fun e w'=>(∃m:Int,e=.returned (.tuple #[.int .i64 m,.bool (dI (a*b))])∧(dI (a*b)=true→m=a*b))∧w=w':=by
 have HP:=AE (mag_mul a b)
 generalize hf:dI (a*b)=F
 have HF:=AE hf
 clear hf
 go_enter Tryz.func204,Tryz.ntmps204
 go_wp2_with (first
  | (go_at_call 211;refine (yM _ (by assumption) _).mono ?_;rintro e w' ⟨rfl,rfl⟩)
  | (go_at_call 212;refine (Tryz.bits_Mul64 a.natAbs b.natAbs (zQ ha) (zQ hb) _).mono ?_;rintro e w' ⟨rfl,rfl⟩))
 ·have h:=vL (sM ‹_›) HP.out ‹_›
  go_ret2
  rw [HF.out] at h
  exact ⟨⟨_,km rfl h.1,h.2⟩,rfl⟩
 ·have h:=sk (.inl (sM ‹_›)) HP.out ‹_›
  go_ret2
  rw [HF.out] at h
  exact ⟨⟨_,km rfl h,fun hh=>absurd (h.trans hh) (by simp)⟩,rfl⟩
 ·have h:=vM (sN ‹_›) HP.out ‹_›
  go_ret2
  rw [HF.out] at h
  exact ⟨⟨_,km rfl h.1,h.2⟩,rfl⟩
 ·have h:=sk (.inr (sN ‹_›)) HP.out ‹_›
  go_ret2
  rw [HF.out] at h
  exact ⟨⟨_,km rfl h,fun hh=>absurd (h.trans hh) (by simp)⟩,rfl⟩
def uF (code a b:Int):Int:=if code=7 then a+b else if code=8 then a-b else if code=9 then a*b else a.tdiv b
def oF (code a b:Int):Int:=if code=10∧b=0 then 6 else if dI (uF code a b) then 0 else 5
def ns (code a b:Int):Int × Int × Int:=if oF code a b=0 then (2,uF code a b,0) else (0,0,oF code a b)
theorem mb {code a b k n e e':Int} (h:oF code a b=e') (he:e'≠0) (hr:ns code a b=(k,n,e)) :
 Ending.returned (.tuple #[.agg #[.int .i64 0,.int .i64 0,.string ⟨#[]⟩,.slice none 0 0],.int .i64 e'])=.returned (.tuple #[.agg #[.int .i64 k,.int .i64 n,.string ⟨#[]⟩,.slice none 0 0],.int .i64 e]):=by
 subst h
 unfold ns at hr
 rw [if_neg he] at hr
 simp only [Prod.mk.injEq] at hr
 obtain ⟨rfl,rfl,rfl⟩:=hr
 rfl
theorem jk {code a b k n e v:Int} (h:oF code a b=0) (hv:v=uF code a b) (hr:ns code a b=(k,n,e)) :
 Ending.returned (.tuple #[.agg #[.int .i64 2,.int .i64 v,.string ⟨#[]⟩,.slice none 0 0],.int .i64 0])=.returned (.tuple #[.agg #[.int .i64 k,.int .i64 n,.string ⟨#[]⟩,.slice none 0 0],.int .i64 e]):=by
 subst hv
 unfold ns at hr
 rw [if_pos h] at hr
 simp only [Prod.mk.injEq] at hr
 obtain ⟨rfl,rfl,rfl⟩:=hr
 rfl
theorem xX {a b:Int} (ha:I64 a) (hb:I64 b) (h:(!decide (a<wrap64 (a+b))==decide (0<b))=true):oF 7 a b=5:=by
 have h:¬(a<wrap64 (a+b)↔0<b):=by simpa using h
 have hf:dI (a+b)=false:=by
  rw [ly];unfold I64 at *;rw [ms] at h;split at h<;>omega
 show (if (7:Int)=10∧b=0 then 6 else if dI (a+b)=true then 0 else 5)=(5:Int)
 rw [if_neg (by omega),hf];rfl
theorem xV {a b:Int} (ha:I64 a) (hb:I64 b) (h:(!decide (a<wrap64 (a+b))==decide (0<b))=false):oF 7 a b=0∧wrap64 (a+b)=uF 7 a b:=by
 have h:(a<wrap64 (a+b)↔0<b):=by simpa using h
 have hf:I64 (a+b):=by
  unfold I64 at *;rw [ms] at h;split at h<;>omega
 constructor
 ·show (if (7:Int)=10∧b=0 then 6 else if dI (a+b)=true then 0 else 5)=(0:Int)
  rw [if_neg (by omega),(cj _).2 hf];rfl
 ·show wrap64 (a+b)=a+b
  unfold I64 at hf;rw [ms];split<;>omega
theorem zo {a b:Int} (ha:I64 a) (hb:I64 b) (h:(!decide (wrap64 (a-b)<a)==decide (0<b))=true):oF 8 a b=5:=by
 have h:¬(wrap64 (a-b)<a↔0<b):=by simpa using h
 have hf:dI (a-b)=false:=by
  rw [ly];unfold I64 at *;rw [ms] at h;split at h<;>omega
 show (if (8:Int)=10∧b=0 then 6 else if dI (a-b)=true then 0 else 5)=(5:Int)
 rw [if_neg (by omega),hf];rfl
theorem zn {a b:Int} (ha:I64 a) (hb:I64 b) (h:(!decide (wrap64 (a-b)<a)==decide (0<b))=false):oF 8 a b=0∧wrap64 (a-b)=uF 8 a b:=by
 have h:(wrap64 (a-b)<a↔0<b):=by simpa using h
 have hf:I64 (a-b):=by
  unfold I64 at *;rw [ms] at h;split at h<;>omega
 constructor
 ·show (if (8:Int)=10∧b=0 then 6 else if dI (a-b)=true then 0 else 5)=(0:Int)
  rw [if_neg (by omega),(cj _).2 hf];rfl
 ·show wrap64 (a-b)=a-b
  unfold I64 at hf;rw [ms];split<;>omega
theorem yT {a b:Int} (h:dI (a*b)=false):oF 9 a b=5:=by
 show (if (9:Int)=10∧b=0 then 6 else if dI (a*b)=true then 0 else 5)=(5:Int)
 rw [if_neg (by omega),h];rfl
theorem yS {a b:Int} (h:dI (a*b)=true):oF 9 a b=0:=by
 show (if (9:Int)=10∧b=0 then 6 else if dI (a*b)=true then 0 else 5)=(0:Int)
 rw [if_neg (by omega),h];rfl
theorem mN (w:World):Blk (w.alloc (.cells #[.int .i64 0,.int .i64 0,.string ⟨#[]⟩,.slice none 0 0] 29)) w.heap.size #[.int .i64 0,.int .i64 0,.string ⟨#[]⟩,.slice none 0 0]:=n11 rfl
theorem tn {a b:Int} (ha:I64 a) (h0:¬b=0) (h1:¬b=-1):I64 (a.tdiv b):=by
 by_cases hb:b=1
 ·subst hb;rw [Int.tdiv_one];exact ha
 ·have e:=Int.natAbs_tdiv a b
  have l:a.natAbs / b.natAbs≤a.natAbs / 2:=Nat.div_le_div_left (by omega) (by omega)
  unfold I64 at *
  have e2:(a.tdiv b).natAbs=a.natAbs / b.natAbs:=e
  omega
theorem qV {a b:Int} (h1:b=-1) (h:(!a !=-9223372036854775808)=true):oF 10 a b=5:=by
 subst h1
 have h:a=-9223372036854775808:=by simpa using h
 subst h
 decide
theorem div_m1 {a b:Int} (ha:I64 a) (h1:b=-1) (h:(!a !=-9223372036854775808)=false):oF 10 a b=0∧wrap64 (-a)=uF 10 a b:=by
 subst h1
 have h:¬a=-9223372036854775808:=by simpa using h
 have e:uF 10 a (-1)=-a:=by show a.tdiv (-1)=-a;rw [Int.tdiv_neg,Int.tdiv_one]
 unfold I64 at ha
 refine ⟨?_,?_⟩
 ·unfold oF;rw [if_neg (by omega),e,(cj _).2 (by unfold I64;omega)];rfl
 ·rw [e,ms];split<;>omega
theorem div_ok {a b:Int} (ha:I64 a) (h0:¬b=0) (h1:¬b=-1):oF 10 a b=0∧wrap64 (a.tdiv b)=uF 10 a b:=by
 have h:=tn ha h0 h1
 refine ⟨?_,?_⟩
 ·unfold oF;rw [if_neg (by omega)]
  show (if dI (a.tdiv b)=true then 0 else 5)=(0:Int)
  rw [(cj _).2 h];rfl
 ·show wrap64 (a.tdiv b)=a.tdiv b
  unfold I64 at h;rw [ms];split<;>omega
theorem put4 {w w2:World} {g:Nat} {a0 a1 a2 a3 v0 v1 v2 v3:Value} (h:Blk w2 g #[a0,a1,a2,a3]) (hb:Below w.heap.size w w2) (hg:w.heap.size≤g) :
 Blk ((((w2.setCell ⟨g,0,none⟩ v0).setCell ⟨g,1,none⟩ v1).setCell ⟨g,2,none⟩ v2).setCell ⟨g,3,none⟩ v3) g #[v0,v1,v2,v3] ∧
 Below w.heap.size w ((((w2.setCell ⟨g,0,none⟩ v0).setCell ⟨g,1,none⟩ v1).setCell ⟨g,2,none⟩ v2).setCell ⟨g,3,none⟩ v3):=
 ⟨(((h.set_ 0 v0).set_ 1 v1).set_ 2 v2).set_ 3 v3,(((hb.setCell (p:=⟨g,0,none⟩) hg v0).setCell (p:=⟨g,1,none⟩) hg v1).setCell (p:=⟨g,2,none⟩) hg v2).setCell (p:=⟨g,3,none⟩) hg v3⟩
theorem nu (code a b k n e:Int) (hc:code=7∨code=8∨code=9∨code=10) (ha:I64 a) (hb:I64 b) (hr:ns code a b=(k,n,e)) (w:World) :
 Calls Tryz.prog 194 #[.int .i64 code,.int .i64 a,.int .i64 b] w fun x w'=>x=.returned (.tuple #[.agg #[.int .i64 k,.int .i64 n,.string ⟨#[]⟩,.slice none 0 0],.int .i64 e])∧Below w.heap.size w w':=by
 have HR:=AE hr
 clear hr
 rcases hc with rfl | rfl | rfl | rfl
 ·go_enter Tryz.func194,Tryz.ntmps194
  go_wp2_with fail
  ·have h:=xX ha hb ‹_›
   refine bodyPost_ret (am rfl rfl (mN w) rfl) rfl ?_
   exact ⟨mb h (by omega) HR.out,(AI _ _).alloc (AG _) _⟩
  ·have h:=xV ha hb ‹_›
   have HH:=AE h.1
   have HB:=AE ((AI w.heap.size w).alloc (AG _) (.cells #[.int .i64 0,.int .i64 0,.string ⟨#[]⟩,.slice none 0 0] 29))
   have hz:=mN w
   rw [h.2]
   generalize hW:World.alloc _ _=w1 at *
   refine (bB _ _).mono ?_
   rintro x w2 ⟨rfl,hb2⟩
   have b_z:=hz.later hb2
   have HB2:=AE (aa HB.out hb2)
   have k_z:=b_z.cell
   have f_z:=b_z.free
   have l_z:=b_z.lt
   clear hz h hb2
   go_wp2_with fail
   refine bodyPost_ret (am rfl rfl (put4 b_z HB2.out (AG _)).1 rfl) rfl ?_
   exact ⟨jk HH.out rfl HR.out,(put4 b_z HB2.out (AG _)).2⟩
 ·go_enter Tryz.func194,Tryz.ntmps194
  go_wp2_with fail
  ·have h:=zo ha hb ‹_›
   refine bodyPost_ret (am rfl rfl (mN w) rfl) rfl ?_
   exact ⟨mb h (by omega) HR.out,(AI _ _).alloc (AG _) _⟩
  ·have h:=zn ha hb ‹_›
   have HH:=AE h.1
   have HB:=AE ((AI w.heap.size w).alloc (AG _) (.cells #[.int .i64 0,.int .i64 0,.string ⟨#[]⟩,.slice none 0 0] 29))
   have hz:=mN w
   rw [h.2]
   generalize hW:World.alloc _ _=w1 at *
   refine (bB _ _).mono ?_
   rintro x w2 ⟨rfl,hb2⟩
   have b_z:=hz.later hb2
   have HB2:=AE (aa HB.out hb2)
   have k_z:=b_z.cell
   have f_z:=b_z.free
   have l_z:=b_z.lt
   clear hz h hb2
   go_wp2_with fail
   refine bodyPost_ret (am rfl rfl (put4 b_z HB2.out (AG _)).1 rfl) rfl ?_
   exact ⟨jk HH.out rfl HR.out,(put4 b_z HB2.out (AG _)).2⟩
 ·cases hf:dI (a*b)
  ·have HF:=AE hf
   go_enter Tryz.func194,Tryz.ntmps194
   go_wp2_with fail
   refine (lZ a b ha hb _).mono ?_
   rintro x w1_ ⟨⟨m,rfl,hm⟩,rfl⟩
   rw [hf]
   clear hf hm
   go_wp2_with fail
   ·have h:=yT HF.out
    refine bodyPost_ret (am rfl rfl (mN w) rfl) rfl ?_
    exact ⟨mb h (by omega) HR.out,(AI _ _).alloc (AG _) _⟩
  ·have HF:=AE hf
   go_enter Tryz.func194,Tryz.ntmps194
   go_wp2_with fail
   refine (lZ a b ha hb _).mono ?_
   rintro x w1_ ⟨⟨m,rfl,hm⟩,rfl⟩
   rw [hf]
   rw [hf] at hm
   obtain rfl:=hm rfl
   clear hf
   go_wp2_with fail
   ·have h:=(show oF 9 a b=0∧a*b=uF 9 a b from ⟨yS HF.out,rfl⟩)
    have HH:=AE h.1
    have HB:=AE ((AI w.heap.size w).alloc (AG _) (.cells #[.int .i64 0,.int .i64 0,.string ⟨#[]⟩,.slice none 0 0] 29))
    have hz:=mN w
    rw [h.2]
    generalize hW:World.alloc _ _=w1 at *
    refine (bB _ _).mono ?_
    rintro x w2 ⟨rfl,hb2⟩
    have b_z:=hz.later hb2
    have HB2:=AE (aa HB.out hb2)
    have k_z:=b_z.cell
    have f_z:=b_z.free
    have l_z:=b_z.lt
    clear hz h hb2
    go_wp2_with fail
    refine bodyPost_ret (am rfl rfl (put4 b_z HB2.out (AG _)).1 rfl) rfl ?_
    exact ⟨jk HH.out rfl HR.out,(put4 b_z HB2.out (AG _)).2⟩
 ·rcases Decidable.em (b=0) with hb0 | hb0
  ·subst hb0
   go_enter Tryz.func194,Tryz.ntmps194
   go_wp2_with fail
   have h:oF 10 a 0=6:=rfl
   refine bodyPost_ret (am rfl rfl (mN w) rfl) rfl ?_
   exact ⟨mb h (by omega) HR.out,(AI _ _).alloc (AG _) _⟩
  ·go_enter Tryz.func194,Tryz.ntmps194
   go_wp2_with fail
   ·have h:=qV ‹_› ‹_›
    refine bodyPost_ret (am rfl rfl (mN w) rfl) rfl ?_
    exact ⟨mb h (by omega) HR.out,(AI _ _).alloc (AG _) _⟩
   ·have hm1:b=-1:=‹_›
    subst hm1
    have h:=div_m1 ha rfl ‹_›
    have HH:=AE h.1
    have HB:=AE ((AI w.heap.size w).alloc (AG _) (.cells #[.int .i64 0,.int .i64 0,.string ⟨#[]⟩,.slice none 0 0] 29))
    have hz:=mN w
    rw [h.2]
    generalize hW:World.alloc _ _=w1 at *
    refine (bB _ _).mono ?_
    rintro x w2 ⟨rfl,hb2⟩
    have b_z:=hz.later hb2
    have HB2:=AE (aa HB.out hb2)
    have k_z:=b_z.cell
    have f_z:=b_z.free
    have l_z:=b_z.lt
    clear hz h hb2
    go_wp2_with fail
    refine bodyPost_ret (am rfl rfl (put4 b_z HB2.out (AG _)).1 rfl) rfl ?_
    exact ⟨jk HH.out rfl HR.out,(put4 b_z HB2.out (AG _)).2⟩
   ·have h:=div_ok ha hb0 ‹_›
    have HH:=AE h.1
    have HB:=AE ((AI w.heap.size w).alloc (AG _) (.cells #[.int .i64 0,.int .i64 0,.string ⟨#[]⟩,.slice none 0 0] 29))
    have hz:=mN w
    rw [h.2]
    generalize hW:World.alloc _ _=w1 at *
    refine (bB _ _).mono ?_
    rintro x w2 ⟨rfl,hb2⟩
    have b_z:=hz.later hb2
    have HB2:=AE (aa HB.out hb2)
    have k_z:=b_z.cell
    have f_z:=b_z.free
    have l_z:=b_z.lt
    clear hz h hb2
    go_wp2_with fail
    refine bodyPost_ret (am rfl rfl (put4 b_z HB2.out (AG _)).1 rfl) rfl ?_
    exact ⟨jk HH.out rfl HR.out,(put4 b_z HB2.out (AG _)).2⟩
end Go.Proofs.YtjpndglegpcdnaaGreat
namespace Go.Proofs.YtjpndglegpcdnaaGreat
theorem vm (x y:Int):cW x y=-cW y x:=by unfold cW;split<;>split<;>omega
theorem eb {x y:Int}:cW x y=0↔x=y:=by unfold cW;split<;>(try split)<;>omega
theorem oW (x y:List UInt8):dh x y=-dh y x:=by
 unfold dh
 by_cases h1:x<y
 ·rw [if_pos h1,if_neg (List.lt_asymm h1),if_pos h1]
 ·by_cases h2:y<x
  ·rw [if_neg h1,if_pos h2,if_pos h2];rfl
  ·rw [if_neg h1,if_neg h2,if_neg h2,if_neg h1];rfl
theorem fT {x y:List UInt8}:dh x y=0↔x=y:=by
 constructor
 ·intro h
  unfold dh at h
  by_cases h1:x<y
  ·rw [if_pos h1] at h;omega
  ·by_cases h2:y<x
   ·rw [if_neg h1,if_pos h2] at h;omega
   ·exact List.le_antisymm (List.not_lt.1 h2) (List.not_lt.1 h1)
 ·rintro rfl
  unfold dh
  rw [if_neg (List.lt_irrefl _),if_neg (List.lt_irrefl _)]
theorem ym {x y:List UInt8}:dh x y<0↔x<y:=by
 unfold dh
 by_cases h1:x<y
 ·simp [h1]
 ·by_cases h2:y<x
  ·rw [if_neg h1,if_pos h2];simp [h1]
  ·rw [if_neg h1,if_neg h2];simp [h1]
structure Ord3 {α:Type} (c:α→α→Int):Prop where
 anti:∀x y,c x y=-c y x
 trans:∀x y z,c x y≤0→c y z≤0→c x z≤0
section
variable {α:Type} {c:α→α→Int}
theorem Ord3.self (h:Ord3 c) (x:α):c x x=0:=by have:=h.anti x x;omega
theorem Ord3.lt_le (h:Ord3 c) {x y z:α} (h1:c x y<0) (h2:c y z≤0):c x z<0:=by
 have t:=h.trans x y z (by omega) h2
 rcases Int.lt_or_eq_of_le t with t | t
 ·exact t
 ·have a:=h.anti x z
  have b:=h.trans y z x h2 (by omega)
  have d:=h.anti x y
  omega
theorem Ord3.le_lt (h:Ord3 c) {x y z:α} (h1:c x y≤0) (h2:c y z<0):c x z<0:=by
 have t:=h.trans x y z h1 (by omega)
 rcases Int.lt_or_eq_of_le t with t | t
 ·exact t
 ·have a:=h.anti x z
  have b:=h.trans z x y (by omega) h1
  have d:=h.anti y z
  omega
theorem Ord3.zero_l (h:Ord3 c) {x y z:α} (h1:c x y=0):c x z=c y z∨(c x z<0∧c y z<0)∨(0<c x z∧0<c y z):=by
 have h1':=h.anti x y
 rcases Int.lt_trichotomy (c y z) 0 with k | k | k
 ·exact .inr (.inl ⟨h.le_lt (by omega) k,k⟩)
 ·left
  have a:=h.trans x y z (by omega) (by omega)
  have b:=h.trans z y x (by have:=h.anti z y;omega) (by omega)
  have d:=h.anti x z
  omega
 ·right;right
  have a:=h.anti y z
  have b:=h.anti x z
  have d:=h.lt_le (x:=z) (y:=y) (z:=x) (by omega) (by omega)
  omega
end
theorem gJ:Ord3 cW:=⟨vm,fun x y z h k=>by unfold cW at *;split at h<;>split at k<;>(try split at h)<;>(try split at k)<;>split<;>(try split)<;>omega⟩
theorem cmpS_le {x y:List UInt8}:dh x y≤0↔x≤y:=by
 have h:=oW x y
 have k:=@ym y x
 rw [show (dh x y≤0)↔¬(dh y x<0) by omega,k]
 exact List.not_lt
theorem kH:Ord3 dh:=⟨oW,fun x y z h k=>by rw [cmpS_le] at *;exact List.le_trans h k⟩
theorem yW {x y z:Int}:or3 x y z=0↔x=0∧y=0∧z=0:=by
 unfold or3;split<;>(try split)<;>omega
def jR {α:Type} (c d:α→α→Int) (x y:α):Int:=if c x y=0 then d x y else c x y
theorem Ord3.andThen {α:Type} {c d:α→α→Int} (hc:Ord3 c) (hd:Ord3 d):Ord3 (jR c d):=by
 refine ⟨fun x y=>?_,fun x y z h k=>?_⟩
 ·unfold jR
  have h1:=hc.anti x y
  have h2:=hd.anti x y
  split<;>split<;>omega
 ·unfold jR at *
  by_cases h1:c x y=0
  ·rw [if_pos h1] at h
   by_cases h2:c y z=0
   ·rw [if_pos h2] at k
    have e:c x z=0:=by rcases hc.zero_l (z:=z) h1 with e | e | e<;>omega
    rw [if_pos e]
    exact hd.trans x y z h k
   ·rw [if_neg h2] at k
    have e:c x z<0:=by rcases hc.zero_l (z:=z) h1 with e | e | e<;>omega
    rw [if_neg (by omega)];omega
  ·rw [if_neg h1] at h
   have h':c x y<0:=by omega
   by_cases h2:c y z=0
   ·have e:=hc.lt_le h' (by omega:c y z≤0)
    rw [if_neg (by omega)];omega
   ·rw [if_neg h2] at k
    have e:=hc.lt_le h' k
    rw [if_neg (by omega)];omega
theorem Ord3.by {α β:Type} {c:β→β→Int} (hc:Ord3 c) (f:α→β):Ord3 (fun x y=>c (f x) (f y)):=⟨fun _ _=>hc.anti _ _,fun _ _ _=>hc.trans _ _ _⟩
theorem rX:Ord3 iE:=by
 have h:iE=jR (fun a b=>cW a.kind b.kind) (jR (fun a b=>cW a.n b.n) (fun a b=>dh (bs a.s) (bs b.s))):=by
  funext a b;rfl
 rw [h]
 exact (gJ.by Tm.kind).andThen ((gJ.by Tm.n).andThen (kH.by fun t:Tm=>bs t.s))
theorem nK {f:Tm→Tm→Int} (hf:Ord3 f):Ord3 (bM f):=by
 refine ⟨?_,?_⟩
 ·intro x
  induction x with
  | nil=>intro y;cases y<;>simp [bM]
  | cons a x ih=>
    intro y
    cases y with
    | nil=>simp [bM]
    | cons b y=>
      have h:=hf.anti a b
      have:=ih y
      simp only [bM]
      split<;>split<;>omega
 ·intro x
  induction x with
  | nil=>intro y z _ _;cases z<;>simp [bM]
  | cons a x ih=>
    intro y z h k
    cases y with
    | nil=>simp [bM] at h
    | cons b y=>
      cases z with
      | nil=>simp [bM] at k
      | cons d z=>
        have key:=(hf.andThen (c:=f) (d:=fun _ _=>0) ⟨fun _ _=>rfl,fun _ _ _ _ _=>by simp⟩)
        simp only [bM] at *
        by_cases h1:f a b=0
        ·rw [if_pos h1] at h
         by_cases h2:f b d=0
         ·rw [if_pos h2] at k
          have e:f a d=0:=by rcases hf.zero_l (z:=d) h1 with e | e | e<;>omega
          rw [if_pos e]
          exact ih y z h k
         ·rw [if_neg h2] at k
          have e:f a d<0:=by rcases hf.zero_l (z:=d) h1 with e | e | e<;>omega
          rw [if_neg (by omega)];omega
        ·rw [if_neg h1] at h
         have e:f a d<0:=by
          by_cases h2:f b d=0
          ·exact hf.lt_le (y:=b) (by omega) (by omega)
          ·rw [if_neg h2] at k;exact hf.lt_le (y:=b) (by omega) k
         rw [if_neg (by omega)];omega
theorem ff:∀d,Ord3 (aV d)
 | 0=>by
   have h:aV 0=iE:=by funext a b;rfl
   rw [h];exact rX
 | d+1=>by
   have h:aV (d+1)=jR iE (fun a b=>bM (aV d) a.l b.l):=by funext a b;rfl
   rw [h]
   exact rX.andThen ((nK (ff d)).by Tm.l)
theorem oO {a b:ByteArray} (h:bs a=bs b):a=b:=by
 have:a.data.toList=b.data.toList:=h
 cases a;cases b
 simp only [ByteArray.mk.injEq]
 exact Array.toList_inj.1 this
theorem oV {a b:Tm}:iE a b=0↔a.kind=b.kind∧a.n=b.n∧a.s=b.s:=by
 unfold iE
 rw [yW,eb,eb,fT]
 exact ⟨fun ⟨h,k,l⟩=>⟨h,k,oO l⟩,fun ⟨h,k,l⟩=>⟨h,k,by rw [l]⟩⟩
def jv (t:Tm):Prop:=t.l=[]
def Two (t:Tm):Prop:=∀x∈t.l,jv x
theorem rj {d:Nat} {a b:Tm} (ha:jv a) (hb:jv b) (h:aV d a b=0):a=b:=by
 have h0:iE a b=0:=by
  cases d with
  | zero=>exact h
  | succ d=>
    unfold aV at h
    by_cases k:iE a b=0
    ·exact k
    ·rw [if_neg k] at h;exact absurd h k
 obtain ⟨h1,h2,h3⟩:=oV.1 h0
 clear h0 h
 cases a;cases b
 unfold jv at ha hb
 simp only at *
 subst h1 h2 h3 ha hb
 rfl
theorem sx {d:Nat}:∀{a b:List Tm},(∀x∈a,jv x)→(∀x∈b,jv x)→bM (aV d) a b=0→a=b
 | [],[],_,_,_=>rfl
 | [],_::_,_,_,h=>by simp [bM] at h
 | _::_,[],_,_,h=>by simp [bM] at h
 | x::a,y::b,ha,hb,h=>by
   simp only [bM] at h
   by_cases k:aV d x y=0
   ·rw [if_pos k] at h
    rw [rj (ha x (by simp)) (hb y (by simp)) k,sx (fun z hz=>ha z (by simp [hz])) (fun z hz=>hb z (by simp [hz])) h]
   ·rw [if_neg k] at h;exact absurd h k
theorem two_eq {d:Nat} {a b:Tm} (ha:Two a) (hb:Two b) (h:aV (d+1) a b=0):a=b:=by
 unfold aV at h
 by_cases k:iE a b=0
 ·rw [if_pos k] at h
  obtain ⟨h1,h2,h3⟩:=oV.1 k
  have h4:=sx ha hb h
  clear h k ha hb
  cases a;cases b
  simp only at *
  subst h1 h2 h3 h4
  rfl
 ·rw [if_neg k] at h;exact absurd h k
theorem fY {t:Tm} (h:ef t=true):jv t:=by
 unfold ef at h
 rw [AN,AT] at h
 exact List.eq_nil_of_length_eq_zero h.1
open Go.ChangeShapes Go.WideShapes Go.ChangeAt Go.RowKit
theorem au {w W:World} {o:Obj} (h:w.alloc o=W):Below w.heap.size w W:=(al1 h).1
theorem lz {t:Tm} (h:af t=true):if t.kind=7 then t.n=0∧t.s.size=0∧cR t.l=true else t.l=[]:=by
 unfold af fD at h
 rw [AN] at h
 by_cases h7:t.kind=7
 ·rw [if_pos h7] at h ⊢
  have h2:=h.2
  simp only [AN,AT] at h2
  exact ⟨h2.1.1,h2.1.2,h2.2⟩
 ·rw [if_neg h7] at h ⊢
  exact fY h.2
theorem dC {l:List Tm} (h:cR l=true):l.length≤16∧∀x∈l,jv x:=by
 unfold cR at h
 rw [AN,List.all_eq_true,AT] at h
 refine ⟨h.2,fun x hx=>?_⟩
 obtain ⟨i,hi,rfl⟩:=List.getElem_of_mem hx
 have:=h.1 i (List.mem_range.2 hi)
 unfold eV at this
 rw [AO hi,AO (show 0<l.length by omega),AO (show i-1<l.length by omega)] at this
 simp only [AN] at this
 exact fY this.1.1.1
theorem ep (d:Nat):dL (TmR d):=fun h u hu=>by
 obtain ⟨_,_,rfl,_⟩:=RTm.cells h
 simp only [List.mem_cons,List.not_mem_nil,or_false] at hu
 rcases hu with rfl | rfl | rfl | rfl<;>rfl
theorem hJ:(Tryz.prog.info? 29).map (fun i=>(i.zero,i.size,i.bytes))=some (some (.agg #[.int .i64 0,.int .i64 0,.string ⟨#[]⟩,.slice none 0 0]),4,56):=by kernel_rfl
def Exc (g:Nat) (w w':World):Prop:=Below g w w'∧∀b,b<w.heap.size→b≠g→w'.heap[b]? = w.heap[b]?
section
variable {g:Nat} {a b c:World}
theorem Exc.refl (g:Nat) (w:World):Exc g w w:=⟨AI _ _,fun _ _ _=>rfl⟩
theorem Exc.trans (h:Exc g a b) (k:Exc g b c):Exc g a c:=
 ⟨h.1.trans k.1,fun i hi hg=>(k.2 i (AJ hi h.1.size) hg).trans (h.2 i hi hg)⟩
theorem Exc.of (hg:g≤a.heap.size) (h:Below a.heap.size a b):Exc g a b:=⟨h.mono hg,fun i hi _=>h.block i hi⟩
theorem Exc.then (h:Exc g a b) (hg:g≤a.heap.size) (k:Below b.heap.size b c):Exc g a c:=h.trans (Exc.of (AF hg h.1.size) k)
theorem Exc.set (h:Exc g a b) (i:Nat) (v:Value):Exc g a (b.setCell ⟨g,i,none⟩ v):=
 ⟨h.1.setCell (p:=⟨g,i,none⟩) (AG _) v,fun k hk hg=>(Below.heap_setCell b ⟨g,i,none⟩ v k hg).trans (h.2 k hk hg)⟩
theorem Exc.drew (h:Exc g a b):Exc g a b.drew:=⟨h.1.drew,h.2⟩
theorem Exc.blk {x:Nat} {vs:Array Value} (h:Exc g a b) (hx:x≠g) (hb:Blk a x vs):Blk b x vs:=by
 have hl:=hb.lt
 obtain ⟨T,hb⟩:=hb
 exact ⟨T,(h.2 x hl hx).trans hb⟩
end
theorem aq.exc {α:Type} {R:Reader α} {e:TypeId} {w w':World} {base g:Nat} {v:Value} {xs:List α} (h:aq R e w base 0 v xs) (he:Exc g w w') (hg:g<base):aq R e w' base 0 v xs:=by
 obtain ⟨cells,h,hf⟩:=h
 refine ⟨cells,⟨h.1,?_⟩,hf.keep (he.1.mono (AH _)) (AG _)⟩
 rcases h.2 with h2 | ⟨g',cap,cur,hv,hg',hh,r⟩
 ·exact .inl h2
 ·refine .inr ⟨g',cap,cur,hv,hg',?_,r⟩
  have hlt:g'<w.heap.size:=by
   rcases Nat.lt_or_ge g' w.heap.size with h' | h'
   ·exact h'
   ·rw [Array.getElem?_eq_none h'] at hh;cases hh
  rw [he.2 g' hlt (by omega)];exact hh
theorem Exc.own {g base:Nat} {a b c:World} (h:Exc g a b) (k:Below base b c) (hb:a.heap.size≤base) (hg:g<base):Exc g a c:=
 ⟨h.1.trans (k.mono (by omega)),fun i hi hne=>(k.block i (by omega)).trans (h.2 i hi hne)⟩
def gE (g h:Nat) (w w':World):Prop:=Below (min g h) w w'∧∀b,b<w.heap.size→b≠g→b≠h→w'.heap[b]? = w.heap[b]?
section
variable {g h:Nat} {a b c:World}
theorem gE.refl (g h:Nat) (w:World):gE g h w w:=⟨AI _ _,fun _ _ _ _=>rfl⟩
theorem gE.trans (k:gE g h a b) (l:gE g h b c):gE g h a c:=
 ⟨k.1.trans l.1,fun i hi h1 h2=>(l.2 i (AJ hi k.1.size) h1 h2).trans (k.2 i hi h1 h2)⟩
theorem Exc.left (k:Exc g a b) (h:Nat):gE g h a b:=⟨k.1.mono (Nat.min_le_left _ _),fun i hi h1 _=>k.2 i hi h1⟩
theorem Exc.right (k:Exc h a b) (g:Nat):gE g h a b:=⟨k.1.mono (Nat.min_le_right _ _),fun i hi _ h2=>k.2 i hi h2⟩
theorem gE.of (hg:min g h≤a.heap.size) (k:Below a.heap.size a b):gE g h a b:=⟨k.mono hg,fun i hi _ _=>k.block i hi⟩
theorem gE.then (k:gE g h a b) (hg:min g h≤a.heap.size) (l:Below b.heap.size b c):gE g h a c:=k.trans (gE.of (AF hg k.1.size) l)
theorem gE.blk {x:Nat} {vs:Array Value} (k:gE g h a b) (h1:x≠g) (h2:x≠h) (hb:Blk a x vs):Blk b x vs:=by
 have hl:=hb.lt
 obtain ⟨T,hb⟩:=hb
 exact ⟨T,(k.2 x hl h1 h2).trans hb⟩
end
theorem aq.exc2 {α:Type} {R:Reader α} {e:TypeId} {w w':World} {base B g h:Nat} {v:Value} {xs:List α} (k:aq R e w base B v xs) (he:gE g h w w') (hg:g<base) (hh:h<base) (hB:B≤min g h):aq R e w' base B v xs:=by
 obtain ⟨cells,k,hf⟩:=k
 refine ⟨cells,⟨k.1,?_⟩,hf.keep he.1 hB⟩
 rcases k.2 with h2 | ⟨g',cap,cur,hv,hg',hh',r⟩
 ·exact .inl h2
 ·refine .inr ⟨g',cap,cur,hv,hg',?_,r⟩
  have hlt:g'<w.heap.size:=by
   rcases Nat.lt_or_ge g' w.heap.size with h' | h'
   ·exact h'
   ·rw [Array.getElem?_eq_none h'] at hh';cases hh'
  rw [he.2 g' hlt (by omega) (by omega)];exact hh'
theorem iQ {P:Program} (t e:TypeId) (a:Addr) (l c:Nat) (h:P.underlying t=some (.slice e)) (w:World):(binOp .eql t (.slice (some a) l c) (.slice none 0 0)).run P w=.ok (.bool false) w:=by
 simp only [binOp]
 simp [run_equal_slice_nil w t e (some a) l c h]
theorem kf {P:Program} (t e:TypeId) (l c:Nat) (h:P.underlying t=some (.slice e)) (w:World):(binOp .eql t (.slice none l c) (.slice none 0 0)).run P w=.ok (.bool true) w:=by
 simp only [binOp]
 simp [run_equal_slice_nil w t e none l c h]
def iD (a b:Tm):Bool:=decide (aV 3 a b=0)
def kx (s t:Tm):Bool:=decide (s.kind=7)&&s.l.any fun x=>iD x t
theorem ft {d d' B:Nat} {a b:Tm} {vs ws:List Value} {w:World} (ha:RTm w B d a vs) (hb:RTm w B d' b ws) (hB:B≤w.heap.size) :
 Calls Tryz.prog 124 #[.agg vs.toArray,.agg ws.toArray] w fun e w'=>e=.returned (.bool (iD a b))∧Below w.heap.size w w':=by
 have HA:=AE ha
 have HB_:=AE hb
 obtain ⟨A,c,rfl,_⟩:=ha.cells
 obtain ⟨A',c',rfl,_⟩:=hb.cells
 clear ha hb
 go_enter Tryz.func124,Tryz.ntmps124
 go_wp2_with fail
 generalize hW:World.alloc _ _=w1
 obtain ⟨hb,hz⟩:=al2 hW
 have HB1:=AE hb
 clear hW hz hb
 refine (dj d d' a b [_,_,_,_] [_,_,_,_] B w1 (HA.out.below HB1.out hB) (HB_.out.below HB1.out hB) (AF hB HB1.out.size)).mono ?_
 rintro e w2 ⟨rfl,hb⟩
 have HB2:=AE (aa HB1.out hb)
 clear hb
 go_wp2_with fail
 go_ret
 exact ⟨rfl,HB2.out⟩
theorem tE {d d' B G:Nat} {t:Tm} {ws:List Value} {w:World} (hG:Blk w G ws.toArray) (ht:RTm w B d' t ws) (hB:B≤w.heap.size) :
 bW Tryz.prog (TmR d) cY B w 214 #[.pointer (some ⟨G,0,none⟩)] (fun x=>iD x t):=by
 intro x vs w1 hb hr
 have HR:Hid (RTm w1 B d x vs):=AE hr
 obtain ⟨A,c,rfl,_⟩:=RTm.cells (show RTm w1 B d x vs from hr)
 have HT:=AE (ht.below hb hB)
 have hG1:=hG.later hb
 have hB1:=AF hB hb.size
 obtain ⟨A',c',rfl,_⟩:=ht.cells
 clear hr ht hb hG
 show Calls Tryz.prog 214 #[.agg #[_,_,_,_],.pointer (some ⟨G,0,none⟩)] w1 _
 have kG:=hG1.cell
 have lG:=hG1.lt
 go_enter Tryz.func214,Tryz.ntmps214
 go_wp2_with fail
 generalize hW:World.alloc _ _=w2
 obtain ⟨hb,hz⟩:=al1 hW
 have HB1:=AE hb
 clear hW hz hb kG lG
 refine (ft (d:=d) (d':=d') (a:=x) (b:=t) (vs:=[_,_,_,_]) (ws:=[_,_,_,_]) (B:=B) (HR.out.below HB1.out hB1) (HT.out.below HB1.out hB1) (AF hB1 HB1.out.size)).mono ?_
 rintro e w3 ⟨rfl,hb⟩
 have HB2:=AE (aa HB1.out hb)
 clear hb
 go_wp2_with fail
 go_ret
 exact ⟨rfl,HB2.out⟩
theorem lD {d d' B:Nat} {s t:Tm} {vs ws:List Value} {w:World} (hs:RTm w B (d+1) s vs) (ht:RTm w B d' t ws) (hB:B≤w.heap.size) :
 Calls Tryz.prog 207 #[.agg vs.toArray,.agg ws.toArray] w fun e w'=>e=.returned (.bool (kx s t))∧Below w.heap.size w w':=by
 obtain ⟨A,c,rfl,q1,q2,q3,q4,q5,hl⟩:=hs
 have HT:=AE ht
 obtain ⟨A',c',rfl,_⟩:=ht.cells
 have HL:Hid (RL (TmR d) w B s.l A):=AE hl
 clear hl ht
 by_cases h7:s.kind=7
 ·go_enter Tryz.func207,Tryz.ntmps207
  go_wp2_with fail
  generalize hW:World.alloc _ _=w1
  obtain ⟨hb,hz⟩:=al2 hW
  have bt:=n22 hW
  have HB1:=AE hb
  clear hW hz hb
  refine (bA d 214 _ _ s.l A _ B w1 (ent Tryz.func214 (by kernel_rfl) rfl) (HL.out.keep HB1.out hB) (AF hB HB1.out.size) (by omega) (tE (d':=d') (ws:=[_,_,_,_]) bt (HT.out.below HB1.out hB) (AF hB HB1.out.size))).mono ?_
  rintro e w2 ⟨rfl,hb⟩
  have HB2:=AE (aa HB1.out hb)
  clear hb
  go_wp2_with fail
  go_ret
  exact ⟨ac (by simp [kx,h7]),HB2.out⟩
 ·go_enter Tryz.func207,Tryz.ntmps207
  go_wp2_with fail
  go_ret
  exact ⟨ac (by simp [kx,h7]),((AI _ _).alloc (AG _) _).alloc (by simp) _⟩
theorem bU {d B c:Nat} {xs:List Tm} {A:Option Addr} {w:World} (hl:RL (TmR d) w B xs A) (hB:B≤w.heap.size) (hn:xs.length*56≤140737488351232) :
 Calls Tryz.prog 71 #[.slice A xs.length c] w fun e w'=>(∃v,e=.returned v∧aq (TmR d) 29 w' w.heap.size B v xs)∧Below w.heap.size w w':=by
 obtain ⟨i0,hi0,hz0,hz1,hz2⟩:=info_parts hJ
 have hsrc:=AE (hl.keep ((AI w.heap.size w).alloc (AG _) (.cells #[] 29)) hB).src
 have hown:=AE (aq.empty (base:=w.heap.size) (TmR d) 29 (w:=w.alloc (.cells #[] 29)) (b:=w.heap.size) (heap_alloc_new w _) (AG _) B)
 have HA:=AE ((AI w.heap.size w).alloc (AG _) (.cells #[] 29))
 rcases A with _ | a
 ·have h0:xs=[]:=by
   rcases xs with _ | ⟨x,xs⟩
   ·rfl
   ·obtain ⟨_,_,e,_⟩:=hl (by simp)
    cases e
  subst h0
  clear hl
  have he:∀wx:World,(binOp BinOp.eql 24 (.slice none 0 c) (.slice none 0 0)).run Tryz.prog wx=.ok (.bool true) wx:=fun wx=>kf 24 29 0 c Tryz.underlying24 wx
  go_enter Tryz.func71,Tryz.ntmps71
  go_wp2_with fail
  go_ret
  exact ⟨⟨_,rfl,aq.nil _ _ _ _ _⟩,AI _ _⟩
 ·clear hl
  have he:∀wx:World,(binOp BinOp.eql 24 (.slice (some a) xs.length c) (.slice none 0 0)).run Tryz.prog wx=.ok (.bool false) wx:=fun wx=>iQ 24 29 a xs.length c Tryz.underlying24 wx
  go_enter Tryz.func71,Tryz.ntmps71
  go_wp2_with ((
   at_builtin
   refine ar (R:=TmR d) (e:=29) rfl (.tmp 5) (.tmp 6) 24 rfl (bytes:=56) Tryz.underlying24 hi0 hz0 hz1 hz2 rfl (show 0<4 by omega) (ep d) rfl hown.out rfl hsrc.out rfl hB (by simp only [List.length_nil];omega) (by omega) HA.out.size ?_
   intro v1 w1 hown1 hb1
   have HO:=AE hown1
   have HB1:=AE (HA.out.trans hb1)
   clear hown1 hb1))
  go_ret
  exact ⟨⟨_,rfl,HO.out⟩,HB1.out⟩
section
variable {α:Type} (z:α)
def atL (xs:List α) (k:Nat):α:=xs.getD k z
def sw (xs:List α) (i j:Nat):List α:=(xs.set i (atL z xs j)).set j (atL z xs i)
variable {z} {xs ys:List α} {i j k n:Nat}
theorem bO (h:k<xs.length):atL z xs k=xs[k]:=by simp [atL,h]
theorem cw:(sw z xs i j).length=xs.length:=by simp [sw]
theorem mB (hi:i<xs.length) (hj:j<xs.length):atL z (sw z xs i j) k=if k=j then atL z xs i else if k=i then atL z xs j else atL z xs k:=by
 by_cases hk:k<xs.length
 ·rw [bO (by rw [cw];exact hk)]
  simp only [sw,List.getElem_set]
  by_cases h1:j=k
  ·rw [if_pos h1,if_pos h1.symm]
  ·rw [if_neg h1,if_neg (Ne.symm h1)]
   by_cases h2:i=k
   ·rw [if_pos h2,if_pos h2.symm]
   ·rw [if_neg h2,if_neg (Ne.symm h2),bO hk]
 ·rw [if_neg (by omega),if_neg (by omega)]
  unfold atL
  rw [List.getD_eq_getElem?_getD,List.getD_eq_getElem?_getD,List.getElem?_eq_none (by rw [cw];omega),List.getElem?_eq_none (by omega)]
theorem oy (hi:i<xs.length) (hj:j<xs.length):(sw z xs i j).Perm xs:=by
 unfold sw
 rw [bO hi,bO hj]
 exact List.set_set_perm hi hj
end
section
variable {α:Type} {c:α→α→Int} {z:α}
def gT (c:α→α→Int) (g:Nat→α) (i0 n:Nat):Prop:=∀k,0<k→k<n→i0≤(k-1) / 2→c (g ((k-1) / 2)) (g k)≤0
theorem gT.least (hc:Ord3 c) {g:Nat→α} {n:Nat} (h:gT c g 0 n):∀k,k<n→c (g 0) (g k)≤0:=by
 intro k
 induction k using Nat.strongRecOn with
 | ind k ih=>
   intro hk
   rcases Nat.eq_zero_or_pos k with h0 | h0
   ·subst h0;have:=hc.self (g 0);omega
   ·exact hc.trans _ _ _ (ih ((k-1) / 2) (by omega) (by omega)) (h k h0 hk (AH _))
structure Sunk (c:α→α→Int) (z:α) (xs0 xs:List α) (i0 i n:Nat):Prop where
 perm:xs.Perm xs0
 out:∀k,n≤k→atL z xs k=atL z xs0 k
 ge:i0≤i
 path:i0<i→i0≤(i-1) / 2
 heap:∀k,0<k→k<n→i0≤(k-1) / 2→(k-1) / 2≠i→c (atL z xs ((k-1) / 2)) (atL z xs k)≤0
 up:∀k,0<k→k<n→(k-1) / 2=i→i0<i→c (atL z xs ((i-1) / 2)) (atL z xs k)≤0
theorem Sunk.start {xs:List α} {i0 n:Nat} (h:gT c (atL z xs) (i0+1) n):Sunk c z xs xs i0 i0 n:=
 ⟨List.Perm.refl _,fun _ _=>rfl,AG _,fun h=>by omega,fun k h0 h1 h2 h3=>h k h0 h1 (by omega),fun _ _ _ _ h=>by omega⟩
theorem Sunk.step (hc:Ord3 c) {xs0 xs:List α} {i0 i n j:Nat} (h:Sunk c z xs0 xs i0 i n) (hn:n≤xs.length) (hj:j<n) (hij:j=2*i+1∨j=2*i+2)
 (hmin:∀k,k<n→(k=2*i+1∨k=2*i+2)→c (atL z xs j) (atL z xs k)≤0) (hlt:c (atL z xs j) (atL z xs i)<0):Sunk c z xs0 (sw z xs i j) i0 j n:=by
 have hil:i<xs.length:=by omega
 have hjl:j<xs.length:=by omega
 have hpj:(j-1) / 2=i:=by omega
 have hge:=h.ge
 refine ⟨(oy hil hjl).trans h.perm,fun k hk=>?_,by omega,fun _=>by omega,fun k h0 h1 h2 h3=>?_,fun k h0 h1 h2 h3=>?_⟩
 ·rw [mB hil hjl,if_neg (by omega),if_neg (by omega),h.out k hk]
 ·rw [mB hil hjl,mB hil hjl,if_neg h3]
  by_cases hp:(k-1) / 2=i
  ·rw [if_pos hp]
   by_cases hk:k=j
   ·rw [if_pos hk];omega
   ·rw [if_neg hk,if_neg (by omega)]
    exact hmin k h1 (by omega)
  ·rw [if_neg hp,if_neg (by intro e;subst e;exact hp hpj)]
   by_cases hk:k=i
   ·rw [if_pos hk]
    subst hk
    exact h.up j (by omega) hj hpj (by omega)
   ·rw [if_neg hk]
    exact h.heap k h0 h1 h2 hp
 ·rw [mB hil hjl,mB hil hjl,hpj,if_neg (by omega),if_pos rfl,if_neg (by omega),if_neg (by omega)]
  have:=h.heap k h0 h1 (by omega) (by omega)
  rw [h2] at this
  exact this
theorem Sunk.stop {xs0 xs:List α} {i0 i n:Nat} (h:Sunk c z xs0 xs i0 i n) (hmin:∀k,k<n→(k=2*i+1∨k=2*i+2)→c (atL z xs i) (atL z xs k)≤0):gT c (atL z xs) i0 n:=by
 intro k h0 h1 h2
 by_cases hp:(k-1) / 2=i
 ·rw [hp];exact hmin k h1 (by omega)
 ·exact h.heap k h0 h1 h2 hp
structure Sank (c:α→α→Int) (z:α) (xs0 xs:List α) (i0 n:Nat):Prop where
 perm:xs.Perm xs0
 out:∀k,n≤k→atL z xs k=atL z xs0 k
 heap:gT c (atL z xs) i0 n
theorem Sunk.sank {xs0 xs:List α} {i0 i n:Nat} (h:Sunk c z xs0 xs i0 i n) (hmin:∀k,k<n→(k=2*i+1∨k=2*i+2)→c (atL z xs i) (atL z xs k)≤0):Sank c z xs0 xs i0 n:=⟨h.perm,h.out,h.stop hmin⟩
theorem gT.swapped {xs:List α} {n:Nat} (h:gT c (atL z xs) 0 (n+1)) (hn:n<xs.length):gT c (atL z (sw z xs 0 n)) 1 n:=by
 intro k h0 h1 h2
 rw [mB (by omega) hn,mB (by omega) hn,if_neg (by omega),if_neg (by omega),if_neg (by omega),if_neg (by omega)]
 exact h k h0 (by omega) (AH _)
theorem popped (hc:Ord3 c) {xs zs:List α} {n:Nat} (hx:xs.length=n+1) (h:gT c (atL z xs) 0 (n+1)) (hs:Sank c z (sw z xs 0 n) zs 0 n) :
 zs.length=n+1∧atL z zs n=atL z xs 0∧xs.Perm (atL z zs n::zs.take n)∧gT c (atL z (zs.take n)) 0 n∧∀b∈zs.take n,c (atL z zs n) b≤0:=by
 have hl:zs.length=n+1:=by rw [hs.perm.length_eq,cw,hx]
 have h1:atL z zs n=atL z xs 0:=by
  rw [hs.out n (AG _),mB (by omega) (by omega),if_pos rfl]
 have h2:xs.Perm (atL z zs n::zs.take n):=by
  have e:zs=zs.take n++[atL z zs n]:=by
   rw [bO (by omega),←List.take_succ_eq_append_getElem (by omega:n<zs.length),List.take_of_length_le (by omega)]
  have p:xs.Perm zs:=((oy (z:=z) (xs:=xs) (by omega) (by omega)).symm).trans hs.perm.symm
  refine p.trans ?_
  conv=>lhs;rw [e]
  exact List.perm_append_singleton _ _
 refine ⟨hl,h1,h2,?_,?_⟩
 ·intro k h0 h1 h2
  have e:∀m,m<n→atL z (zs.take n) m=atL z zs m:=fun m hm=>by
   rw [bO (by rw [AW];omega),bO (by omega),List.getElem_take]
  rw [e _ (by omega),e _ h1]
  exact hs.heap k h0 h1 h2
 ·intro b hb
  rw [h1]
  have hb':b∈xs:=h2.symm.subset (List.mem_cons_of_mem _ hb)
  obtain ⟨k,hk,rfl⟩:=List.getElem_of_mem hb'
  rw [←bO hk]
  exact h.least hc k (by omega)
structure Piled (c:α→α→Int) (z:α) (l out xs:List α):Prop where
 heap:gT c (atL z xs) 0 xs.length
 sorted:out.Pairwise (fun a b=>c a b<0)
 le:∀a∈out,∀b∈xs,c a b≤0
 mem:∀t,(t∈out∨t∈xs)↔t∈l
 len:out.length+xs.length≤l.length
theorem Piled.more (hc:Ord3 c) {l out xs rest:List α} {x:α} (h:Piled c z l out xs) (hp:xs.Perm (x::rest)) (hh:gT c (atL z rest) 0 rest.length) (hm:∀b∈rest,c x b≤0)
 (hlast:∀y,out.getLast? = some y→c y x≠0):Piled c z l (out++[x]) rest:=by
 have hx:x∈xs:=hp.symm.subset (by simp)
 refine ⟨hh,?_,?_,fun t=>?_,?_⟩
 ·rw [List.pairwise_append]
  refine ⟨h.sorted,by simp,fun a ha b hb=>?_⟩
  obtain rfl:b=x:=by simpa using hb
  rcases List.eq_nil_or_concat out with e | ⟨o,y,e⟩
  ·subst e;simp at ha
  ·rw [List.concat_eq_append] at e
   subst e
   have hy:c y b<0:=by
    have:=h.le y (by simp) b hx
    have:=hlast y (by simp)
    omega
   rcases List.mem_append.1 ha with ha | ha
   ·have:=(List.pairwise_append.1 h.sorted).2.2 a ha y (by simp)
    exact hc.lt_le this (by omega)
   ·obtain rfl:a=y:=by simpa using ha
    exact hy
 ·intro a ha b hb
  rcases List.mem_append.1 ha with ha | ha
  ·exact h.le a ha b (hp.symm.subset (List.mem_cons_of_mem _ hb))
  ·obtain rfl:a=x:=by simpa using ha
   exact hm b hb
 ·rw [←h.mem t,hp.mem_iff,List.mem_append,List.mem_singleton,List.mem_cons,or_assoc]
 ·have:=h.len;have:=hp.length_eq
  simp only [AK,AV,List.length_nil] at *;omega
theorem Piled.skip {l out xs rest:List α} {x y:α} (h:Piled c z l out xs) (hp:xs.Perm (x::rest)) (hh:gT c (atL z rest) 0 rest.length) (hlast:out.getLast? = some y) (he:y=x):Piled c z l out rest:=by
 subst he
 have hy:y∈out:=List.mem_of_getLast? hlast
 refine ⟨hh,h.sorted,fun a ha b hb=>h.le a ha b (hp.symm.subset (List.mem_cons_of_mem _ hb)),fun t=>?_,?_⟩
 ·rw [←h.mem t,hp.mem_iff,List.mem_cons]
  constructor
  ·rintro (k | k)
   ·exact .inl k
   ·exact .inr (.inr k)
  ·rintro (k | k | k)
   ·exact .inl k
   ·subst k;exact .inl hy
   ·exact .inr k
 ·have:=h.len;have:=hp.length_eq
  simp only [AV] at *;omega
def qv (c:α→α→Int) (t:α):List α→List α
 | []=>[t]
 | x::xs=>if c x t<0 then x::qv c t xs else if c x t=0 then x::xs else t::x::xs
def setL (c:α→α→Int) (l:List α):List α:=l.foldl (fun out t=>qv c t out) []
theorem nW {t:α}:∀{xs:List α},(∀x∈xs,c x t=0→x=t)→∀u,u∈qv c t xs↔u=t∨u∈xs
 | [],_,u=>by simp [qv]
 | x::xs,h,u=>by
   unfold qv
   split
   ·rw [List.mem_cons,nW (fun y hy=>h y (by simp [hy])),List.mem_cons]
    constructor
    ·rintro (k | k | k)
     ·exact .inr (.inl k)
     ·exact .inl k
     ·exact .inr (.inr k)
    ·rintro (k | k | k)
     ·exact .inr (.inl k)
     ·exact .inl k
     ·exact .inr (.inr k)
   ·split
    ·rename_i h0
     have:=h x (by simp) h0
     subst this
     simp
    ·simp
theorem lH (hc:Ord3 c) {t:α}:∀{xs:List α},xs.Pairwise (fun a b=>c a b<0)→(∀x∈xs,c x t=0→x=t)→(qv c t xs).Pairwise (fun a b=>c a b<0)
 | [],_,_=>by simp [qv]
 | x::xs,h,he=>by
   obtain ⟨h1,h2⟩:=List.pairwise_cons.1 h
   unfold qv
   split
   ·rename_i hlt
    rw [List.pairwise_cons]
    refine ⟨fun a ha=>?_,lH hc h2 (fun y hy=>he y (by simp [hy]))⟩
    rcases (nW (fun y hy=>he y (by simp [hy])) a).1 ha with e | e
    ·rw [e];exact hlt
    ·exact h1 a e
   ·split
    ·exact h
    ·rename_i h3 h4
     rw [List.pairwise_cons]
     refine ⟨fun a ha=>?_,h⟩
     have ht:c t x<0:=by have:=hc.anti x t;omega
     rcases List.mem_cons.1 ha with e | e
     ·rw [e];exact ht
     ·exact hc.lt_le ht (by have:=h1 a e;omega)
theorem ox (hc:Ord3 c):∀(l out:List α),(∀a,(a∈out∨a∈l)→∀b,(b∈out∨b∈l)→c a b=0→a=b)→out.Pairwise (fun a b=>c a b<0) →
 (l.foldl (fun out t=>qv c t out) out).Pairwise (fun a b=>c a b<0)∧∀t,t∈l.foldl (fun out t=>qv c t out) out↔t∈out∨t∈l
 | [],out,_,h=>⟨h,fun t=>by simp⟩
 | x::l,out,he,h=>by
   have hx:∀y∈out,c y x=0→y=x:=fun y hy=>he y (.inl hy) x (.inr (by simp))
   have hm:=nW (c:=c) hx
   obtain ⟨h1,h2⟩:=ox hc l (qv c x out) (fun a ha b hb=>by
    refine he a ?_ b ?_
    ·rw [hm] at ha
     rcases ha with (k | k) | k
     ·exact .inr (by simp [k])
     ·exact .inl k
     ·exact .inr (by simp [k])
    ·rw [hm] at hb
     rcases hb with (k | k) | k
     ·exact .inr (by simp [k])
     ·exact .inl k
     ·exact .inr (by simp [k])) (lH hc h hx)
   refine ⟨h1,fun t=>?_⟩
   rw [List.foldl_cons,h2,hm,List.mem_cons]
   constructor
   ·rintro ((k | k) | k)
    ·exact .inr (.inl k)
    ·exact .inl k
    ·exact .inr (.inr k)
   ·rintro (k | k | k)
    ·exact .inl (.inr k)
    ·exact .inl (.inl k)
    ·exact .inr k
theorem me (hc:Ord3 c) {l:List α} (he:∀a∈l,∀b∈l,c a b=0→a=b):(setL c l).Pairwise (fun a b=>c a b<0):=
 (ox hc l [] (fun a ha b hb=>he a (by simpa using ha) b (by simpa using hb)) (by simp)).1
theorem sL (hc:Ord3 c) {l:List α} (he:∀a∈l,∀b∈l,c a b=0→a=b) (t:α):t∈setL c l↔t∈l:=by
 have:=(ox hc l [] (fun a ha b hb=>he a (by simpa using ha) b (by simpa using hb)) (by simp)).2 t
 simpa [setL] using this
theorem mg (hc:Ord3 c):∀{xs ys:List α},xs.Pairwise (fun a b=>c a b<0)→ys.Pairwise (fun a b=>c a b<0)→(∀t,t∈xs↔t∈ys)→xs=ys
 | [],[],_,_,_=>rfl
 | [],y::ys,_,_,h=>absurd ((h y).2 (by simp)) (by simp)
 | x::xs,[],_,_,h=>absurd ((h x).1 (by simp)) (by simp)
 | x::xs,y::ys,hx,hy,h=>by
   obtain ⟨x1,x2⟩:=List.pairwise_cons.1 hx
   obtain ⟨y1,y2⟩:=List.pairwise_cons.1 hy
   have e:x=y:=by
    rcases List.mem_cons.1 ((h x).1 (by simp)) with e | e
    ·exact e
    ·rcases List.mem_cons.1 ((h y).2 (by simp)) with e' | e'
     ·exact e'.symm
     ·have a:=y1 x e
      have b:=x1 y e'
      have:=hc.anti x y
      omega
   subst e
   rw [mg hc x2 y2 fun t=>?_]
   have hn:∀{zs:List α},(∀a∈zs,c x a<0)→x∉zs:=fun hz hm=>by
    have:=hz x hm
    have:=hc.self x
    omega
   constructor
   ·intro k
    rcases List.mem_cons.1 ((h t).1 (by simp [k])) with e | e
    ·subst e;exact absurd k (hn x1)
    ·exact e
   ·intro k
    rcases List.mem_cons.1 ((h t).2 (by simp [k])) with e | e
    ·subst e;exact absurd k (hn y1)
    ·exact e
theorem Piled.done (hc:Ord3 c) {l out:List α} (he:∀a∈l,∀b∈l,c a b=0→a=b) (h:Piled c z l out []):out=setL c l:=
 mg hc h.sorted (me hc he) fun t=>by
  rw [sL hc he,←h.mem t];simp
theorem rL (hc:Ord3 c) {l:List α} (he:∀a∈l,∀b∈l,c a b=0→a=b):(setL c l).length≤l.length:=by
 have key:∀(l out:List α),(l.foldl (fun out t=>qv c t out) out).length≤out.length+l.length:=by
  have one:∀(t:α) (xs:List α),(qv c t xs).length≤xs.length+1:=by
   intro t xs
   induction xs with
   | nil=>simp [qv]
   | cons x xs ih=>unfold qv;split<;>(try split)<;>simp<;>omega
  intro l
  induction l with
  | nil=>simp
  | cons x l ih=>intro out;have:=ih (qv c x out);have:=one x out;simp only [List.foldl_cons,AV];omega
 simpa [setL] using key l []
end
end Go.Proofs.YtjpndglegpcdnaaGreat
