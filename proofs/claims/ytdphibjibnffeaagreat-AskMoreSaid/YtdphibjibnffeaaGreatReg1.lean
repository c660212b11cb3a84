/- regex's parser: its small steps. -/
import Derived.Test.YtdphibjibnffeaaGreatOp1
import Derived.Test.YtdphibjibnffeaaGreatShelf
import Derived.Laws.Bits64b
import Derived.BigQuiet
set_option linter.unusedVariables false
set_option linter.unusedSimpArgs false
set_option maxRecDepth 100000
set_option maxHeartbeats 8000000
namespace Go.Proofs.YtdphibjibnffeaaGreat
open Go.ChangeShapes Go.WideShapes Go.ChangeAt Go.RowKit
theorem yS (n:Int):IntKind.u64.wrap n=n % 18446744073709551616:=IntKind.wrap_u64 n
theorem lC (n:Int):wrap64 n=if n % 18446744073709551616<9223372036854775808 then n % 18446744073709551616 else n % 18446744073709551616-18446744073709551616:=by
 unfold wrap64;omega
theorem ret_u {k:IntKind} {a b:Int} (h:a=b):Ending.returned (.int k a)=.returned (.int k b):=by rw [h]
theorem jF {k:IntKind} {a b:Int} {x y:Bool} (h:a=b) (h':x=y):Ending.returned (.tuple #[.int k a,.bool x])=.returned (.tuple #[.int k b,.bool y]):=by rw [h,h']
theorem xp (n:Int) (hn:I64 n) (w:World) :
 Calls Tryz.prog 307 #[.int .i64 n] w fun e w'=>e=.returned (.int .u64 (n.natAbs:Int))∧w=w':=by
 obtain ⟨h0,h1⟩:=hn
 rcases Int.lt_or_le n 0 with hlt | hge
 ·go_enter Tryz.func307,Tryz.ntmps307
  go_wp2_with fail
  go_ret
  exact ⟨ret_u (by rw [yS,yS];omega),rfl⟩
 ·go_enter Tryz.func307,Tryz.ntmps307
  go_wp2_with fail
  go_ret
  exact ⟨ret_u (by omega),rfl⟩
def dz (n:Int):Bool:=decide (-9223372036854775808≤n)&&decide (n≤9223372036854775807)
theorem bZ (n:Int):dz n=true↔I64 n:=by simp [dz,I64]
theorem kH (n:Int):dz n=false↔¬I64 n:=by rw [←bZ];simp
theorem mag_mul (a b:Int):0≤(a.natAbs:Int)*(b.natAbs:Int):=Int.mul_nonneg (by omega) (by omega)
theorem rq {a b:Int} (h:(!decide (a<0)==decide (b<0))=true):a*b=-((a.natAbs:Int)*(b.natAbs:Int)):=by
 have h:¬(a<0↔b<0):=by simpa using h
 by_cases h1:a<0
 ·have e1:(a.natAbs:Int)=-a:=by omega
  have e2:(b.natAbs:Int)=b:=by omega
  rw [e1,e2,Int.neg_mul,Int.neg_neg]
 ·have e1:(a.natAbs:Int)=a:=by omega
  have e2:(b.natAbs:Int)=-b:=by omega
  rw [e1,e2,Int.mul_neg,Int.neg_neg]
theorem rr {a b:Int} (h:(!decide (a<0)==decide (b<0))=false):a*b=(a.natAbs:Int)*(b.natAbs:Int):=by
 have h:(a<0↔b<0):=by simpa using h
 by_cases h1:a<0
 ·have e1:(a.natAbs:Int)=-a:=by omega
  have e2:(b.natAbs:Int)=-b:=by omega
  rw [e1,e2,Int.neg_mul,Int.mul_neg,Int.neg_neg]
 ·have e1:(a.natAbs:Int)=a:=by omega
  have e2:(b.natAbs:Int)=b:=by omega
  rw [e1,e2]
theorem uy {a b P:Int} (h:a*b=-P) (hP:0≤P) (h0:P / 18446744073709551616=0):decide (P % 18446744073709551616≤9223372036854775808)=dz (a*b)∧(dz (a*b)=true→wrap64 (IntKind.u64.wrap (-(P % 18446744073709551616)))=a*b):=by
 rw [h]
 refine ⟨?_,fun hf=>?_⟩
 ·rw [Bool.eq_iff_iff,bZ,decide_eq_true_eq];unfold I64;omega
 ·rw [bZ] at hf;unfold I64 at hf;rw [yS,lC];split<;>omega
theorem uz {a b P:Int} (h:a*b=P) (hP:0≤P) (h0:P / 18446744073709551616=0):decide (P % 18446744073709551616<9223372036854775808)=dz (a*b)∧(dz (a*b)=true→wrap64 (P % 18446744073709551616)=a*b):=by
 rw [h]
 refine ⟨?_,fun hf=>?_⟩
 ·rw [Bool.eq_iff_iff,bZ,decide_eq_true_eq];unfold I64;omega
 ·rw [bZ] at hf;unfold I64 at hf;rw [lC];split<;>omega
theorem qZ {a b P:Int} (h:a*b=-P∨a*b=P) (hP:0≤P) (h0:¬P / 18446744073709551616=0):false=dz (a*b):=by
 rw [eq_comm,kH];unfold I64
 rcases h with h | h<;>rw [h]<;>omega
theorem yy {a:Int} (h:I64 a):a.natAbs<18446744073709551616:=by unfold I64 at h;omega
theorem lp (a b:Int) (ha:I64 a) (hb:I64 b) (w:World) :
 Calls Tryz.prog 296 #[.int .i64 a,.int .i64 b] w fun e w'=>(∃m:Int,e=.returned (.tuple #[.int .i64 m,.bool (dz (a*b))])∧(dz (a*b)=true→m=a*b))∧w=w':=by
 have HP:=yW (mag_mul a b)
 generalize hf:dz (a*b)=F
 have HF:=yW hf
 clear hf
 go_enter Tryz.func296,Tryz.ntmps296
 go_wp2_with (first
  | (go_at_call 307;refine (xp _ (by assumption) _).mono ?_;rintro e w' ⟨rfl,rfl⟩)
  | (go_at_call 308;refine (Tryz.bits_Mul64 a.natAbs b.natAbs (yy ha) (yy hb) _).mono ?_;rintro e w' ⟨rfl,rfl⟩))
 ·have h:=uy (rq ‹_›) HP.out ‹_›
  go_ret2
  rw [HF.out] at h
  exact ⟨⟨_,jF rfl h.1,h.2⟩,rfl⟩
 ·have h:=qZ (.inl (rq ‹_›)) HP.out ‹_›
  go_ret2
  rw [HF.out] at h
  exact ⟨⟨_,jF rfl h,fun hh=>absurd (h.trans hh) (by simp)⟩,rfl⟩
 ·have h:=uz (rr ‹_›) HP.out ‹_›
  go_ret2
  rw [HF.out] at h
  exact ⟨⟨_,jF rfl h.1,h.2⟩,rfl⟩
 ·have h:=qZ (.inr (rr ‹_›)) HP.out ‹_›
  go_ret2
  rw [HF.out] at h
  exact ⟨⟨_,jF rfl h,fun hh=>absurd (h.trans hh) (by simp)⟩,rfl⟩
def tp (code a b:Int):Int:=if code=7 then a+b else if code=8 then a-b else if code=9 then a*b else a.tdiv b
def nr (code a b:Int):Int:=if code=10∧b=0 then 6 else if dz (tp code a b) then 0 else 5
def mu (code a b:Int):Int × Int × Int:=if nr code a b=0 then (2,tp code a b,0) else (0,0,nr code a b)
theorem lr {code a b k n e e':Int} (h:nr code a b=e') (he:e'≠0) (hr:mu code a b=(k,n,e)) :
 Ending.returned (.tuple #[.agg #[.int .i64 0,.int .i64 0,.string ⟨#[]⟩,.slice none 0 0],.int .i64 e'])=.returned (.tuple #[.agg #[.int .i64 k,.int .i64 n,.string ⟨#[]⟩,.slice none 0 0],.int .i64 e]):=by
 subst h
 unfold mu at hr
 rw [if_neg he] at hr
 simp only [Prod.mk.injEq] at hr
 obtain ⟨rfl,rfl,rfl⟩:=hr
 rfl
theorem iO {code a b k n e v:Int} (h:nr code a b=0) (hv:v=tp code a b) (hr:mu code a b=(k,n,e)) :
 Ending.returned (.tuple #[.agg #[.int .i64 2,.int .i64 v,.string ⟨#[]⟩,.slice none 0 0],.int .i64 0])=.returned (.tuple #[.agg #[.int .i64 k,.int .i64 n,.string ⟨#[]⟩,.slice none 0 0],.int .i64 e]):=by
 subst hv
 unfold mu at hr
 rw [if_pos h] at hr
 simp only [Prod.mk.injEq] at hr
 obtain ⟨rfl,rfl,rfl⟩:=hr
 rfl
theorem wy {a b:Int} (ha:I64 a) (hb:I64 b) (h:(!decide (a<wrap64 (a+b))==decide (0<b))=true):nr 7 a b=5:=by
 have h:¬(a<wrap64 (a+b)↔0<b):=by simpa using h
 have hf:dz (a+b)=false:=by
  rw [kH];unfold I64 at *;rw [lC] at h;split at h<;>omega
 show (if (7:Int)=10∧b=0 then 6 else if dz (a+b)=true then 0 else 5)=(5:Int)
 rw [if_neg (by omega),hf];rfl
theorem wv {a b:Int} (ha:I64 a) (hb:I64 b) (h:(!decide (a<wrap64 (a+b))==decide (0<b))=false):nr 7 a b=0∧wrap64 (a+b)=tp 7 a b:=by
 have h:(a<wrap64 (a+b)↔0<b):=by simpa using h
 have hf:I64 (a+b):=by
  unfold I64 at *;rw [lC] at h;split at h<;>omega
 constructor
 ·show (if (7:Int)=10∧b=0 then 6 else if dz (a+b)=true then 0 else 5)=(0:Int)
  rw [if_neg (by omega),(bZ _).2 hf];rfl
 ·show wrap64 (a+b)=a+b
  unfold I64 at hf;rw [lC];split<;>omega
theorem xU {a b:Int} (ha:I64 a) (hb:I64 b) (h:(!decide (wrap64 (a-b)<a)==decide (0<b))=true):nr 8 a b=5:=by
 have h:¬(wrap64 (a-b)<a↔0<b):=by simpa using h
 have hf:dz (a-b)=false:=by
  rw [kH];unfold I64 at *;rw [lC] at h;split at h<;>omega
 show (if (8:Int)=10∧b=0 then 6 else if dz (a-b)=true then 0 else 5)=(5:Int)
 rw [if_neg (by omega),hf];rfl
theorem xS {a b:Int} (ha:I64 a) (hb:I64 b) (h:(!decide (wrap64 (a-b)<a)==decide (0<b))=false):nr 8 a b=0∧wrap64 (a-b)=tp 8 a b:=by
 have h:(wrap64 (a-b)<a↔0<b):=by simpa using h
 have hf:I64 (a-b):=by
  unfold I64 at *;rw [lC] at h;split at h<;>omega
 constructor
 ·show (if (8:Int)=10∧b=0 then 6 else if dz (a-b)=true then 0 else 5)=(0:Int)
  rw [if_neg (by omega),(bZ _).2 hf];rfl
 ·show wrap64 (a-b)=a-b
  unfold I64 at hf;rw [lC];split<;>omega
theorem xz {a b:Int} (h:dz (a*b)=false):nr 9 a b=5:=by
 show (if (9:Int)=10∧b=0 then 6 else if dz (a*b)=true then 0 else 5)=(5:Int)
 rw [if_neg (by omega),h];rfl
theorem xy {a b:Int} (h:dz (a*b)=true):nr 9 a b=0:=by
 show (if (9:Int)=10∧b=0 then 6 else if dz (a*b)=true then 0 else 5)=(0:Int)
 rw [if_neg (by omega),h];rfl
theorem lT (w:World):Blk (w.alloc (.cells #[.int .i64 0,.int .i64 0,.string ⟨#[]⟩,.slice none 0 0] 79)) w.heap.size #[.int .i64 0,.int .i64 0,.string ⟨#[]⟩,.slice none 0 0]:=n11 rfl
theorem rT {a b:Int} (ha:I64 a) (h0:¬b=0) (h1:¬b=-1):I64 (a.tdiv b):=by
 by_cases hb:b=1
 ·subst hb;rw [Int.tdiv_one];exact ha
 ·have e:=Int.natAbs_tdiv a b
  have l:a.natAbs / b.natAbs≤a.natAbs / 2:=Nat.div_le_div_left (by omega) (by omega)
  unfold I64 at *
  have e2:(a.tdiv b).natAbs=a.natAbs / b.natAbs:=e
  omega
theorem pN {a b:Int} (h1:b=-1) (h:(!a !=-9223372036854775808)=true):nr 10 a b=5:=by
 subst h1
 have h:a=-9223372036854775808:=by simpa using h
 subst h
 decide
theorem div_m1 {a b:Int} (ha:I64 a) (h1:b=-1) (h:(!a !=-9223372036854775808)=false):nr 10 a b=0∧wrap64 (-a)=tp 10 a b:=by
 subst h1
 have h:¬a=-9223372036854775808:=by simpa using h
 have e:tp 10 a (-1)=-a:=by show a.tdiv (-1)=-a;rw [Int.tdiv_neg,Int.tdiv_one]
 unfold I64 at ha
 refine ⟨?_,?_⟩
 ·unfold nr;rw [if_neg (by omega),e,(bZ _).2 (by unfold I64;omega)];rfl
 ·rw [e,lC];split<;>omega
theorem div_ok {a b:Int} (ha:I64 a) (h0:¬b=0) (h1:¬b=-1):nr 10 a b=0∧wrap64 (a.tdiv b)=tp 10 a b:=by
 have h:=rT ha h0 h1
 refine ⟨?_,?_⟩
 ·unfold nr;rw [if_neg (by omega)]
  show (if dz (a.tdiv b)=true then 0 else 5)=(0:Int)
  rw [(bZ _).2 h];rfl
 ·show wrap64 (a.tdiv b)=a.tdiv b
  unfold I64 at h;rw [lC];split<;>omega
theorem put4 {w w2:World} {g:Nat} {a0 a1 a2 a3 v0 v1 v2 v3:Value} (h:Blk w2 g #[a0,a1,a2,a3]) (hb:Below w.heap.size w w2) (hg:w.heap.size≤g) :
 Blk ((((w2.setCell ⟨g,0,none⟩ v0).setCell ⟨g,1,none⟩ v1).setCell ⟨g,2,none⟩ v2).setCell ⟨g,3,none⟩ v3) g #[v0,v1,v2,v3] ∧
 Below w.heap.size w ((((w2.setCell ⟨g,0,none⟩ v0).setCell ⟨g,1,none⟩ v1).setCell ⟨g,2,none⟩ v2).setCell ⟨g,3,none⟩ v3):=
 ⟨(((h.set_ 0 v0).set_ 1 v1).set_ 2 v2).set_ 3 v3,(((hb.setCell (p:=⟨g,0,none⟩) hg v0).setCell (p:=⟨g,1,none⟩) hg v1).setCell (p:=⟨g,2,none⟩) hg v2).setCell (p:=⟨g,3,none⟩) hg v3⟩
theorem mv (code a b k n e:Int) (hc:code=7∨code=8∨code=9∨code=10) (ha:I64 a) (hb:I64 b) (hr:mu code a b=(k,n,e)) (w:World) :
 Calls Tryz.prog 277 #[.int .i64 code,.int .i64 a,.int .i64 b] w fun x w'=>x=.returned (.tuple #[.agg #[.int .i64 k,.int .i64 n,.string ⟨#[]⟩,.slice none 0 0],.int .i64 e])∧Below w.heap.size w w':=by
 have HR:=yW hr
 clear hr
 rcases hc with rfl | rfl | rfl | rfl
 ·go_enter Tryz.func277,Tryz.ntmps277
  go_wp2_with fail
  ·have h:=wy ha hb ‹_›
   refine bodyPost_ret (ao rfl rfl (lT w) rfl) rfl ?_
   exact ⟨lr h (by omega) HR.out,(za _ _).alloc (yY _) _⟩
  ·have h:=wv ha hb ‹_›
   have HH:=yW h.1
   have HB:=yW ((za w.heap.size w).alloc (yY _) (.cells #[.int .i64 0,.int .i64 0,.string ⟨#[]⟩,.slice none 0 0] 79))
   have hz:=lT w
   rw [h.2]
   generalize hW:World.alloc _ _=w1 at *
   refine (bp _ _).mono ?_
   rintro x w2 ⟨rfl,hb2⟩
   have b_z:=hz.later hb2
   have HB2:=yW (ab HB.out hb2)
   have k_z:=b_z.cell
   have f_z:=b_z.free
   have l_z:=b_z.lt
   clear hz h hb2
   go_wp2_with fail
   refine bodyPost_ret (ao rfl rfl (put4 b_z HB2.out (yY _)).1 rfl) rfl ?_
   exact ⟨iO HH.out rfl HR.out,(put4 b_z HB2.out (yY _)).2⟩
 ·go_enter Tryz.func277,Tryz.ntmps277
  go_wp2_with fail
  ·have h:=xU ha hb ‹_›
   refine bodyPost_ret (ao rfl rfl (lT w) rfl) rfl ?_
   exact ⟨lr h (by omega) HR.out,(za _ _).alloc (yY _) _⟩
  ·have h:=xS ha hb ‹_›
   have HH:=yW h.1
   have HB:=yW ((za w.heap.size w).alloc (yY _) (.cells #[.int .i64 0,.int .i64 0,.string ⟨#[]⟩,.slice none 0 0] 79))
   have hz:=lT w
   rw [h.2]
   generalize hW:World.alloc _ _=w1 at *
   refine (bp _ _).mono ?_
   rintro x w2 ⟨rfl,hb2⟩
   have b_z:=hz.later hb2
   have HB2:=yW (ab HB.out hb2)
   have k_z:=b_z.cell
   have f_z:=b_z.free
   have l_z:=b_z.lt
   clear hz h hb2
   go_wp2_with fail
   refine bodyPost_ret (ao rfl rfl (put4 b_z HB2.out (yY _)).1 rfl) rfl ?_
   exact ⟨iO HH.out rfl HR.out,(put4 b_z HB2.out (yY _)).2⟩
 ·cases hf:dz (a*b)
  ·have HF:=yW hf
   go_enter Tryz.func277,Tryz.ntmps277
   go_wp2_with fail
   refine (lp a b ha hb _).mono ?_
   rintro x w1_ ⟨⟨m,rfl,hm⟩,rfl⟩
   rw [hf]
   clear hf hm
   go_wp2_with fail
   ·have h:=xz HF.out
    refine bodyPost_ret (ao rfl rfl (lT w) rfl) rfl ?_
    exact ⟨lr h (by omega) HR.out,(za _ _).alloc (yY _) _⟩
  ·have HF:=yW hf
   go_enter Tryz.func277,Tryz.ntmps277
   go_wp2_with fail
   refine (lp a b ha hb _).mono ?_
   rintro x w1_ ⟨⟨m,rfl,hm⟩,rfl⟩
   rw [hf]
   rw [hf] at hm
   obtain rfl:=hm rfl
   clear hf
   go_wp2_with fail
   ·have h:=(show nr 9 a b=0∧a*b=tp 9 a b from ⟨xy HF.out,rfl⟩)
    have HH:=yW h.1
    have HB:=yW ((za w.heap.size w).alloc (yY _) (.cells #[.int .i64 0,.int .i64 0,.string ⟨#[]⟩,.slice none 0 0] 79))
    have hz:=lT w
    rw [h.2]
    generalize hW:World.alloc _ _=w1 at *
    refine (bp _ _).mono ?_
    rintro x w2 ⟨rfl,hb2⟩
    have b_z:=hz.later hb2
    have HB2:=yW (ab HB.out hb2)
    have k_z:=b_z.cell
    have f_z:=b_z.free
    have l_z:=b_z.lt
    clear hz h hb2
    go_wp2_with fail
    refine bodyPost_ret (ao rfl rfl (put4 b_z HB2.out (yY _)).1 rfl) rfl ?_
    exact ⟨iO HH.out rfl HR.out,(put4 b_z HB2.out (yY _)).2⟩
 ·rcases Decidable.em (b=0) with hb0 | hb0
  ·subst hb0
   go_enter Tryz.func277,Tryz.ntmps277
   go_wp2_with fail
   have h:nr 10 a 0=6:=rfl
   refine bodyPost_ret (ao rfl rfl (lT w) rfl) rfl ?_
   exact ⟨lr h (by omega) HR.out,(za _ _).alloc (yY _) _⟩
  ·go_enter Tryz.func277,Tryz.ntmps277
   go_wp2_with fail
   ·have h:=pN ‹_› ‹_›
    refine bodyPost_ret (ao rfl rfl (lT w) rfl) rfl ?_
    exact ⟨lr h (by omega) HR.out,(za _ _).alloc (yY _) _⟩
   ·have hm1:b=-1:=‹_›
    subst hm1
    have h:=div_m1 ha rfl ‹_›
    have HH:=yW h.1
    have HB:=yW ((za w.heap.size w).alloc (yY _) (.cells #[.int .i64 0,.int .i64 0,.string ⟨#[]⟩,.slice none 0 0] 79))
    have hz:=lT w
    rw [h.2]
    generalize hW:World.alloc _ _=w1 at *
    refine (bp _ _).mono ?_
    rintro x w2 ⟨rfl,hb2⟩
    have b_z:=hz.later hb2
    have HB2:=yW (ab HB.out hb2)
    have k_z:=b_z.cell
    have f_z:=b_z.free
    have l_z:=b_z.lt
    clear hz h hb2
    go_wp2_with fail
    refine bodyPost_ret (ao rfl rfl (put4 b_z HB2.out (yY _)).1 rfl) rfl ?_
    exact ⟨iO HH.out rfl HR.out,(put4 b_z HB2.out (yY _)).2⟩
   ·have h:=div_ok ha hb0 ‹_›
    have HH:=yW h.1
    have HB:=yW ((za w.heap.size w).alloc (yY _) (.cells #[.int .i64 0,.int .i64 0,.string ⟨#[]⟩,.slice none 0 0] 79))
    have hz:=lT w
    rw [h.2]
    generalize hW:World.alloc _ _=w1 at *
    refine (bp _ _).mono ?_
    rintro x w2 ⟨rfl,hb2⟩
    have b_z:=hz.later hb2
    have HB2:=yW (ab HB.out hb2)
    have k_z:=b_z.cell
    have f_z:=b_z.free
    have l_z:=b_z.lt
    clear hz h hb2
    go_wp2_with fail
    refine bodyPost_ret (ao rfl rfl (put4 b_z HB2.out (yY _)).1 rfl) rfl ?_
    exact ⟨iO HH.out rfl HR.out,(put4 b_z HB2.out (yY _)).2⟩
structure Ins where
 kind:Int
 a:Int
 b:Int
 c:Int
 d:Int
 x:Int
 y:Int
def Ins.word (i:Ins) (j:Nat):Int:=if j=0 then i.a else if j=1 then i.b else if j=2 then i.c else i.d
def Ins.put (i:Ins) (j:Nat) (v:Int):Ins:=if j=0 then { i with a:=v } else if j=1 then { i with b:=v } else if j=2 then { i with c:=v } else { i with d:=v }
def lD (i:Ins) (c:Nat):Ins:=i.put (c / 64) (bits .or .u64 (i.word (c / 64)) (IntKind.u64.wrap (1*2 ^ (c % 64))))
def bY:Ins:=⟨1,0,0,0,0,0,0⟩
def mF:Int:=18446744073709551615
def anyI:Ins:=⟨1,mF,mF,mF,mF,0,0⟩
def gN (k:Int) (i:Ins):Ins:=if i.kind=2 then { i with x:=wrap64 (i.x+k),y:=wrap64 (i.y+k) } else if i.kind=3 then { i with x:=wrap64 (i.x+k) } else i
def bu (x y:Int):Ins:=⟨2,0,0,0,0,x,y⟩
def iA (x:Int):Ins:=⟨3,0,0,0,0,x,0⟩
def pO:Ins:=⟨6,0,0,0,0,0,0⟩
def aF (l:List Ins) (k:Int):List Ins:=l.map (gN k)
def gV (a b:List Ins):List Ins:=[bu 1 (a.length+2)]++aF a 1++[iA (a.length+2+b.length)]++aF b (a.length+2)
structure PS where
 at_:Nat
 deep:Nat
 e:Int
def bW (s:ByteArray) (k:Nat):Nat:=((bs s)[k]?.map UInt8.toNat).getD 0
def bI (s:ByteArray) (p:PS):Bool:=decide (p.e≠0)||decide (s.size≤p.at_)
def isP (s:ByteArray) (p:PS) (c:Nat):Bool:=!bI s p&&decide (bW s p.at_=c)
def aX (p:PS) (e:Int):PS:=if p.e=0 then { p with e:=e } else p
def PS.step (p:PS):PS:={ p with at_:=p.at_+1 }
def aD (s:ByteArray) (p:PS):Nat × PS:=if bI s p then (0,aX p 3) else (bW s p.at_,p.step)
def aN (s:ByteArray) (p:PS):Nat × PS:=
 let r:=aD s p
 if r.1=92 then aD s r.2 else r
def eb (i:Ins) (f t:Nat):Ins:=(List.range (t+1-f)).foldl (fun i k=>lD i (f+k)) i
def eO (s:ByteArray) (p:PS):(Nat × Nat) × PS:=
 let r:=aN s p
 if isP s r.2 45&&(decide (r.2.at_+1<s.size)&&decide (bW s (r.2.at_+1)≠93)) then
  let q:=aN s r.2.step
  ((r.1,q.1),q.2)
 else ((r.1,r.1),r.2)
def be (s:ByteArray):Nat→PS→Ins→Ins × PS
 | 0,p,i=>(i,p)
 | n+1,p,i=>
   if !bI s p&&!isP s p 93 then
    let r:=eO s p
    be s n (if r.1.2<r.1.1 then aX r.2 3 else r.2) (eb i r.1.1 r.1.2)
   else (i,p)
def nJ (v:Int):Int:=bits .xor .u64 (if IntKind.u64.signed=true then -1 else IntKind.u64.max) v
def qR (i:Ins):Ins:=⟨i.kind,nJ i.a,nJ i.b,nJ i.c,nJ i.d,i.x,i.y⟩
def dN (s:ByteArray) (p:PS):Ins × PS:=
 let not_:=isP s p 94
 let p1:=if not_ then p.step else p
 let p2:=if isP s p1 93 then aX p1 3 else p1
 let r:=be s (s.size+1-p2.at_) p2 bY
 let q:=aD s r.2
 (if not_ then qR r.1 else r.1,q.2)
def kn (c:Nat):Bool:=decide (c=41)||decide (c=42)||decide (c=43)||decide (c=63)||decide (c=124)
mutual
def qi (s:ByteArray):Nat→PS→List Ins × PS
 | 0,p=>([],p)
 | n+1,p=>
   let r:=jm s n p []
   if isP s r.2 124 then
    let q:=qi s n r.2.step
    (gV r.1 q.1,q.2)
   else r
def jm (s:ByteArray):Nat→PS→List Ins→List Ins × PS
 | 0,p,out=>(out,p)
 | n+1,p,out=>
   if !bI s p&&(!isP s p 124&&!isP s p 41) then
    let r:=eL s n p
    jm s n r.2 (out++aF r.1 out.length)
   else (out,p)
def eL (s:ByteArray):Nat→PS→List Ins × PS
 | 0,p=>([],p)
 | n+1,p=>
   let r:=fB s n p
   if isP s r.2 42 then ([bu 1 (r.1.length+2)]++aF r.1 1++[iA 0],r.2.step)
   else if isP s r.2 43 then (r.1++[bu 0 (r.1.length+1)],r.2.step)
   else if isP s r.2 63 then ([bu 1 (r.1.length+1)]++aF r.1 1,r.2.step)
   else r
def fB (s:ByteArray):Nat→PS→List Ins × PS
 | 0,p=>([],p)
 | n+1,p=>
   let r:=aD s p
   if r.1=40∧r.2.e=0 then
    if r.2.deep=20 then ([],aX r.2 4)
    else
     let q:=qi s n ⟨r.2.at_,r.2.deep+1,r.2.e⟩
     let z:=aD s q.2
     let f:=if z.1≠41 then aX z.2 3 else z.2
     (q.1,⟨f.at_,f.deep-1,f.e⟩)
   else if r.1=91 then
    let q:=dN s r.2
    ([q.1],q.2)
   else if r.1=46 then ([anyI],r.2)
   else if r.1=94 then ([⟨4,0,0,0,0,0,0⟩],r.2)
   else if r.1=36 then ([⟨5,0,0,0,0,0,0⟩],r.2)
   else if r.1=92 then
    let q:=aD s r.2
    ([lD bY q.1],q.2)
   else if kn r.1 then ([bY],aX r.2 3)
   else ([lD bY r.1],r.2)
end
def fp (rem:Nat):Nat:=4*rem+4
def yu (s:ByteArray) (p:PS):PS:=if bI s p then p else aX p 3
def dP (s:ByteArray):List Ins × Int:=
 if 256<s.size then ([],4)
 else
  let r:=qi s (fp s.size) ⟨0,0,0⟩
  if (yu s r.2).e=0 then (r.1++[pO],0) else ([],(yu s r.2).e)
def psA (s:ByteArray) (p:PS):Array Value:=#[.string s,.int .i64 p.at_,.int .i64 p.deep,.int .i64 p.e]
theorem jr {n:Int} (h0:-9223372036854775808≤n) (h1:n<9223372036854775808):wrap64 n=n:=by rw [lC];split<;>omega
theorem gp {s:ByteArray} {k:Nat} (h:k<s.size):bW s k=s[k].toNat:=by
 have hl:k<(bs s).length:=by rw [ij];exact h
 unfold bW
 rw [List.getElem?_eq_getElem hl]
 rfl
theorem tR (s:ByteArray) (k:Nat):bW s k<256:=by
 unfold bW
 rcases (bs s)[k]? with _ | b
 ·simp
 ·simp;exact b.toNat_lt
theorem dm {w:World} {P:Nat} {s:ByteArray} {p:PS} (hb:Blk w P (psA s p)) (hs:s.size≤1000000) (ha:p.at_≤1000000) :
 Calls Tryz.prog 322 #[.pointer (some ⟨P,0,none⟩)] w fun e w'=>e=.returned (.bool (bI s p))∧Below w.heap.size w w':=by
 obtain ⟨at_,deep,e⟩:=p
 have hb:Blk w P #[.string s,.int .i64 at_,.int .i64 deep,.int .i64 e]:=hb
 have q_p:=hb.regrown
 simp only at ha
 rcases Bool.eq_false_or_eq_true (e !=0) with he | he
 all_goals
  go_enter Tryz.func322,Tryz.ntmps322
  go_wp2_with fail
  refine wp_region_quiet_below (by kernel_rfl) (by kernel_rfl) ?_
  repeat (go_big_quiet_step (fail))
  refine wpQuiet_nil ?_
  intro w3 hw3
  have hb1:Below w.heap.size w w3:=by obtain ⟨p,rfl⟩:=hw3;exact below_regrown _ _ _
  clear hw3 q_p
  go_wp2_with fail
  go_ret
  refine ⟨ac ?_,hb1⟩
  simp only [bne_iff_ne,ne_eq,bne_eq_false_iff_eq] at he
  simp [bI,he]
theorem cC {w:World} {P:Nat} {s:ByteArray} {p:PS} {c:Nat} (hb:Blk w P (psA s p)) (hs:s.size≤1000000) (ha:p.at_≤1000000) :
 Calls Tryz.prog 327 #[.pointer (some ⟨P,0,none⟩),.int .u8 c] w fun e w'=>e=.returned (.bool (isP s p c))∧Below w.heap.size w w':=by
 have hb0:=hb
 have HB0:=yW hb
 rcases Bool.eq_false_or_eq_true (bI s p) with he | he
 ·have HE:=yW he
  clear he
  go_enter Tryz.func327,Tryz.ntmps327
  go_wp2_with fail
  refine wp_region_quiet_below (by kernel_rfl) (by kernel_rfl) ?_
  repeat (go_big_quiet_step ((go_at_call 322;exact Calls.regrown_of (cY HE.out (dm (HB0.out.later (below_regrown _ _ _)) hs ha)))))
  refine wpQuiet_nil ?_
  intro w3 hw3
  have hb1:Below w.heap.size w w3:=by obtain ⟨p,rfl⟩:=hw3;exact below_regrown _ _ _
  clear hw3
  go_wp2_with fail
  go_ret
  exact ⟨ac (by unfold isP;rw [HE.out];rfl),hb1⟩
 ·have HE:=yW he
  have hlt:p.at_<s.size:=by
   unfold bI at he
   simp only [Bool.or_eq_false_iff,decide_eq_false_iff_not] at he
   omega
  have HX:Hid (bW s p.at_=s[p.at_].toNat):=yW (gp hlt)
  obtain ⟨at_,deep,e⟩:=p
  have hb:Blk w P #[.string s,.int .i64 at_,.int .i64 deep,.int .i64 e]:=hb
  have q_p:=hb.regrown
  simp only at ha hlt HX
  clear he hb0
  go_enter Tryz.func327,Tryz.ntmps327
  go_wp2_with fail
  refine wp_region_quiet_below (by kernel_rfl) (by kernel_rfl) ?_
  repeat (go_big_quiet_step ((go_at_call 322;exact Calls.regrown_of (cY HE.out (dm (HB0.out.later (below_regrown _ _ _)) hs ha)))))
  refine wpQuiet_nil ?_
  intro w3 hw3
  have hb1:Below w.heap.size w w3:=by obtain ⟨p,rfl⟩:=hw3;exact below_regrown _ _ _
  clear hw3 q_p
  go_wp2_with fail
  go_ret
  refine ⟨ac ?_,hb1⟩
  unfold isP
  rw [HE.out]
  simp only [Bool.not_false,Bool.true_and]
  rw [HX.out,Bool.eq_iff_iff]
  simp
  try omega
theorem dR {w:World} {P:Nat} {s:ByteArray} {p:PS} {n:Int} (hb:Blk w P (psA s p)) :
 Calls Tryz.prog 323 #[.pointer (some ⟨P,0,none⟩),.int .i64 n] w fun e w'=>e=.returned (.tuple #[])∧Exc P w w'∧Blk w' P (psA s (aX p n)):=by
 obtain ⟨at_,deep,e⟩:=p
 have hb:Blk w P #[.string s,.int .i64 at_,.int .i64 deep,.int .i64 e]:=hb
 have k_p:=hb.cell
 have f_p:=hb.free
 have HB:=yW hb
 clear hb
 by_cases he:e=0
 ·subst he
  go_enter Tryz.func323,Tryz.ntmps323
  go_wp2_with fail
  go_end0
  exact ⟨rfl,(Exc.refl P w).set 3 _,HB.out.set_ 3 _⟩
 ·have HE:=yW he
  go_enter Tryz.func323,Tryz.ntmps323
  go_wp2_with fail
  go_end0
  refine ⟨rfl,Exc.refl P w,?_⟩
  unfold aX
  rw [if_neg HE.out]
  exact HB.out
theorem next_le {s:ByteArray} {p:PS}:(aD s p).2.at_≤p.at_+1:=by
 unfold aD aX PS.step
 split<;>(try split)<;>simp
theorem qg {s:ByteArray} {p:PS} (h:bI s p=false):p.e=0∧p.at_<s.size:=by
 unfold bI at h
 simp only [Bool.or_eq_false_iff,decide_eq_false_iff_not,ne_eq,Classical.not_not] at h
 omega
theorem fd {w:World} {P:Nat} {s:ByteArray} {p:PS} (hb:Blk w P (psA s p)) (hs:s.size≤1000000) (ha:p.at_≤1000000) :
 Calls Tryz.prog 332 #[.pointer (some ⟨P,0,none⟩)] w fun e w'=>e=.returned (.int .u8 (aD s p).1)∧Exc P w w'∧Blk w' P (psA s (aD s p).2):=by
 have HB:=yW hb
 have hlt:=hb.lt
 clear hb
 rcases Bool.eq_false_or_eq_true (bI s p) with he | he
 ·have HN:Hid (aD s p=(0,aX p 3)):=yW (by unfold aD;rw [if_pos he])
  have HE:=yW he
  clear he
  go_enter Tryz.func332,Tryz.ntmps332
  go_wp2_with fail
  refine (dm HB.out hs ha).mono ?_
  rintro x w1 ⟨rfl,hb1⟩
  rw [HE.out]
  have HB1:=yW (HB.out.later hb1)
  have HX1:=yW (Exc.of (Nat.le_of_lt hlt) hb1)
  clear hb1
  go_wp2_with fail
  refine (dR HB1.out).mono ?_
  rintro x w2 ⟨rfl,hx,hb2⟩
  have HB2:=yW hb2
  have HX2:=yW (HX1.out.trans hx)
  clear hx hb2
  go_wp2_with fail
  go_ret
  rw [HN.out]
  exact ⟨rfl,HX2.out,HB2.out⟩
 ·have HN:Hid (aD s p=(bW s p.at_,p.step)):=yW (by unfold aD;rw [if_neg (by rw [he];simp)])
  have HE:=yW he
  obtain ⟨h0,h1⟩:=qg he
  have HG:Hid (bW s p.at_=s[p.at_].toNat):=yW (gp h1)
  clear he
  go_enter Tryz.func332,Tryz.ntmps332
  go_wp2_with fail
  refine (dm HB.out hs ha).mono ?_
  rintro x w1 ⟨rfl,hb1⟩
  rw [HE.out]
  have hbb:Blk w1 P (psA s p):=HB.out.later hb1
  have HX1:=yW (Exc.of (Nat.le_of_lt hlt) hb1)
  obtain ⟨at_,deep,e⟩:=p
  have hbb:Blk w1 P #[.string s,.int .i64 at_,.int .i64 deep,.int .i64 e]:=hbb
  simp only at ha h0 h1 HG HN
  subst h0
  have hw1:wrap64 ((at_:Int)+1)=(at_:Int)+1:=jr (by omega) (by omega)
  have hw2:wrap64 ((at_:Int)+1-1)=(at_:Int):=(congrArg wrap64 (by omega)).trans (jr (n:=(at_:Int)) (by omega) (by omega))
  have k_p:=hbb.cell
  have f_p:=hbb.free
  have HBB:=yW (show Blk (w1.setCell ⟨P,1,none⟩ (.int .i64 ((at_:Int)+1))) P #[.string s,.int .i64 ((at_:Int)+1),.int .i64 deep,.int .i64 0] from hbb.set_ 1 _)
  have HX2:=yW (HX1.out.set 1 (.int .i64 ((at_:Int)+1)))
  clear hb1 hbb
  go_wp2_with fail
  generalize w1.setCell _ _=w2 at *
  have q_p:=HBB.out.regrown
  refine wp_region_quiet_below (by kernel_rfl) (by kernel_rfl) ?_
  repeat (go_big_quiet_step (fail))
  refine wpQuiet_nil ?_
  intro w3 hw3
  have hb3:Below w2.heap.size w2 w3:=by obtain ⟨p,rfl⟩:=hw3;exact below_regrown _ _ _
  clear hw3 q_p
  have HX3:=yW (HX2.out.then (Nat.le_of_lt hlt) hb3)
  have HB3:=yW (HBB.out.later hb3)
  clear hb3 k_p f_p
  go_wp2_with fail
  go_ret
  rw [HN.out]
  refine ⟨?_,HX3.out,?_⟩
  ·rw [HG.out];rfl
  ·have:=HB3.out
   unfold psA PS.step
   simpa using this
theorem mo {w:World} {P:Nat} {s:ByteArray} {p:PS} (hb:Blk w P (psA s p)) (hs:s.size≤1000000) (ha:p.at_<1000000) :
 Calls Tryz.prog 337 #[.pointer (some ⟨P,0,none⟩)] w fun e w'=>e=.returned (.int .u8 (aN s p).1)∧Exc P w w'∧Blk w' P (psA s (aN s p).2):=by
 have HB:=yW hb
 clear hb
 go_enter Tryz.func337,Tryz.ntmps337
 go_wp2_with fail
 refine (fd HB.out hs (by omega)).mono ?_
 rintro x w1 ⟨rfl,hx,hb1⟩
 have HB1:=yW hb1
 have HX1:=yW hx
 have hat:=next_le (s:=s) (p:=p)
 clear hx hb1
 by_cases h92:(aD s p).1=92
 ·have HM:Hid (aN s p=aD s (aD s p).2):=yW (by unfold aN;simp only;rw [if_pos h92])
  rw [h92]
  clear h92
  go_wp2_with fail
  refine (fd HB1.out hs (by omega)).mono ?_
  rintro x w2 ⟨rfl,hx,hb2⟩
  have HB2:=yW hb2
  have HX2:=yW (HX1.out.trans hx)
  clear hx hb2
  go_wp2_with fail
  go_ret
  rw [HM.out]
  exact ⟨rfl,HX2.out,HB2.out⟩
 ·have HM:Hid (aN s p=aD s p):=yW (by unfold aN;simp only;rw [if_neg h92])
  have h92':¬((aD s p).1:Int)=92:=by omega
  clear h92
  go_wp2_with fail
  go_ret
  rw [HM.out]
  exact ⟨rfl,HX1.out,HB1.out⟩
def inA (i:Ins):Array Value:=#[.int .i64 i.kind,.int .u64 i.a,.int .u64 i.b,.int .u64 i.c,.int .u64 i.d,.int .i64 i.x,.int .i64 i.y]
theorem jd {w:World} {G:Nat} {i:Ins} {c:Nat} (hb:Blk w G (inA i)) (hc:c<256) :
 Calls Tryz.prog 335 #[.pointer (some ⟨G,0,none⟩),.int .u8 c] w fun e w'=>e=.returned (.tuple #[])∧Exc G w w'∧Blk w' G (inA (lD i c)):=by
 obtain ⟨kind,a,b,c0,d,x,y⟩:=i
 have hb:Blk w G #[.int .i64 kind,.int .u64 a,.int .u64 b,.int .u64 c0,.int .u64 d,.int .i64 x,.int .i64 y]:=hb
 have k_p:=hb.cell
 have f_p:=hb.free
 have hj:c / 64=0∨c / 64=1∨c / 64=2∨c / 64=3:=by omega
 have hr:(c:Int).tmod 64=((c % 64:Nat):Int):=rfl
 have hr2:((c % 64:Nat):Int)<64:=by omega
 have hr3:(0:Int)≤((c % 64:Nat):Int):=by omega
 rcases hj with hj | hj | hj | hj
 ·have hq:(c:Int).tdiv 64=((c / 64:Nat):Int):=rfl
  rw [hj] at hq
  go_enter Tryz.func335,Tryz.ntmps335
  go_wp2_with fail
  go_region
  go_wp2_with fail
  go_end0
  refine ⟨rfl,((Exc.refl G w).set _ _).drew,?_⟩
  have h9:=(hb.set_ 1 (.int .u64 (bits BinOp.or IntKind.u64 a (IntKind.u64.wrap (2 ^ (c % 64)))))).drew
  have e9:inA (lD ⟨kind,a,b,c0,d,x,y⟩ c)=(#[.int .i64 kind,.int .u64 a,.int .u64 b,.int .u64 c0,.int .u64 d,.int .i64 x,.int .i64 y]:Array Value).setIfInBounds 1 (.int .u64 (bits BinOp.or IntKind.u64 a (IntKind.u64.wrap (2 ^ (c % 64))))):=by
   unfold inA lD Ins.put Ins.word
   rw [hj]
   simp
  rw [e9]
  exact h9
 ·have hq:(c:Int).tdiv 64=((c / 64:Nat):Int):=rfl
  rw [hj] at hq
  go_enter Tryz.func335,Tryz.ntmps335
  go_wp2_with fail
  go_region
  go_wp2_with fail
  go_end0
  refine ⟨rfl,((Exc.refl G w).set _ _).drew,?_⟩
  have h9:=(hb.set_ 2 (.int .u64 (bits BinOp.or IntKind.u64 b (IntKind.u64.wrap (2 ^ (c % 64)))))).drew
  have e9:inA (lD ⟨kind,a,b,c0,d,x,y⟩ c)=(#[.int .i64 kind,.int .u64 a,.int .u64 b,.int .u64 c0,.int .u64 d,.int .i64 x,.int .i64 y]:Array Value).setIfInBounds 2 (.int .u64 (bits BinOp.or IntKind.u64 b (IntKind.u64.wrap (2 ^ (c % 64))))):=by
   unfold inA lD Ins.put Ins.word
   rw [hj]
   simp
  rw [e9]
  exact h9
 ·have hq:(c:Int).tdiv 64=((c / 64:Nat):Int):=rfl
  rw [hj] at hq
  go_enter Tryz.func335,Tryz.ntmps335
  go_wp2_with fail
  go_region
  go_wp2_with fail
  go_end0
  refine ⟨rfl,((Exc.refl G w).set _ _).drew,?_⟩
  have h9:=(hb.set_ 3 (.int .u64 (bits BinOp.or IntKind.u64 c0 (IntKind.u64.wrap (2 ^ (c % 64)))))).drew
  have e9:inA (lD ⟨kind,a,b,c0,d,x,y⟩ c)=(#[.int .i64 kind,.int .u64 a,.int .u64 b,.int .u64 c0,.int .u64 d,.int .i64 x,.int .i64 y]:Array Value).setIfInBounds 3 (.int .u64 (bits BinOp.or IntKind.u64 c0 (IntKind.u64.wrap (2 ^ (c % 64))))):=by
   unfold inA lD Ins.put Ins.word
   rw [hj]
   simp
  rw [e9]
  exact h9
 ·have hq:(c:Int).tdiv 64=((c / 64:Nat):Int):=rfl
  rw [hj] at hq
  go_enter Tryz.func335,Tryz.ntmps335
  go_wp2_with fail
  go_region
  go_wp2_with fail
  go_end0
  refine ⟨rfl,((Exc.refl G w).set _ _).drew,?_⟩
  have h9:=(hb.set_ 4 (.int .u64 (bits BinOp.or IntKind.u64 d (IntKind.u64.wrap (2 ^ (c % 64)))))).drew
  have e9:inA (lD ⟨kind,a,b,c0,d,x,y⟩ c)=(#[.int .i64 kind,.int .u64 a,.int .u64 b,.int .u64 c0,.int .u64 d,.int .i64 x,.int .i64 y]:Array Value).setIfInBounds 4 (.int .u64 (bits BinOp.or IntKind.u64 d (IntKind.u64.wrap (2 ^ (c % 64))))):=by
   unfold inA lD Ins.put Ins.word
   rw [hj]
   simp
  rw [e9]
  exact h9
end Go.Proofs.YtdphibjibnffeaaGreat
