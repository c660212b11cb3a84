/- What is in both sets, what is in either: the plain law. -/
import Derived.Test.YtdphibjibnffeaaGreatReg1
import Derived.Test.YtdphibjibnffeaaGreatSet2
set_option linter.unusedVariables false
set_option linter.unusedSimpArgs false
set_option maxRecDepth 100000
set_option maxHeartbeats 8000000
namespace Go.Proofs.YtdphibjibnffeaaGreat
open Go.ChangeShapes Go.WideShapes Go.ChangeAt Go.RowKit
abbrev bK (k n:Int) (s:ByteArray) (e:Int):Ending:=.returned (.tuple #[.agg #[.int .i64 k,.int .i64 n,.string s,.slice none 0 0],.int .i64 e])
abbrev emp:ByteArray:=⟨#[]⟩
theorem rI {code x y k n e:Int} {d d' B:Nat} {s s':ByteArray} {l l':List Tm} {vs ws:List Value} {w:World} (ha:RTm w B d ⟨2,x,s,l⟩ vs) (hb:RTm w B d' ⟨2,y,s',l'⟩ ws) (hB:B≤w.heap.size) (fa:af ⟨2,x,s,l⟩=true) (fb:af ⟨2,y,s',l'⟩=true) (hc:code=7∨code=8∨code=9∨code=10) (hr:mu code x y=(k,n,e)) :
 Calls Tryz.prog 247 #[.int .i64 code,.agg vs.toArray,.agg ws.toArray] w fun z w'=>z=bK k n emp e∧Below w.heap.size w w':=by
 obtain ⟨A,c,rfl,q1,q2,q3,q4,q5,_⟩:=ha.cells
 obtain ⟨A',c',rfl,r1,r2,r3,r4,r5,_⟩:=hb.cells
 have HA:=yW ha
 have HB_:=yW hb
 have FA:=yW fa
 have FB:=yW fb
 simp only at q2 q3 q4 q5 r2 r3 r4 r5
 clear ha hb fa fb
 have HR:=yW hr
 have HK:Hid (aE code 2 2=true):=yW (by rcases hc with rfl | rfl | rfl | rfl<;>decide)
 clear hr
 rcases hc with rfl | rfl | rfl | rfl
 all_goals
  go_enter Tryz.func247,Tryz.ntmps247
  go_wp2_with fail
  generalize hW:World.alloc _ _=w1
  obtain ⟨hb,hz⟩:=al3 hW
  have b_a_1:=n31 hW
  have b_b_1:=n32 hW
  have b_r_1:=n33 hW
  have HB1:=yW hb
  clear hW hz hb
  refine (aj (t:=⟨2,x,s,l⟩) (vs:=[_,_,_,_]) (HA.out.below HB1.out hB) (yX hB HB1.out.size)).mono ?_
  rintro x w2 ⟨rfl,hb⟩
  have b_a_2:=b_a_1.later hb
  have b_b_2:=b_b_1.later hb
  have b_r_2:=b_r_1.later hb
  have HB2:=yW (ab HB1.out hb)
  clear b_a_1 b_b_1 b_r_1
  clear hb
  rw [FA.out]
  have k_a:=b_a_2.cell
  have k_b:=b_b_2.cell
  have k_r:=b_r_2.cell
  go_wp2_with fail
  clear k_a k_b k_r
  refine (aj (t:=⟨2,y,s',l'⟩) (vs:=[_,_,_,_]) (HB_.out.below HB2.out hB) (yX hB HB2.out.size)).mono ?_
  rintro x w3 ⟨rfl,hb⟩
  have b_a_3:=b_a_2.later hb
  have b_b_3:=b_b_2.later hb
  have b_r_3:=b_r_2.later hb
  have HB3:=yW (ab HB2.out hb)
  clear b_a_2 b_b_2 b_r_2
  clear hb
  rw [FB.out]
  have k_a:=b_a_3.cell
  have k_b:=b_b_3.cell
  have k_r:=b_r_3.cell
  go_wp2_with fail
  clear k_a k_b k_r
  refine (aP _ 2 2 _).mono ?_
  rintro x w4 ⟨rfl,hb⟩
  have b_a_4:=b_a_3.later hb
  have b_b_4:=b_b_3.later hb
  have b_r_4:=b_r_3.later hb
  have HB4:=yW (ab HB3.out hb)
  clear b_a_3 b_b_3 b_r_3
  clear hb
  rw [HK.out]
  have k_a:=b_a_4.cell
  have k_b:=b_b_4.cell
  have k_r:=b_r_4.cell
  go_wp2_with fail
  clear k_a k_b k_r
  refine (mv _ x y k n e (by omega) q5 r5 HR.out _).mono ?_
  rintro x w5 ⟨rfl,hb⟩
  have b_a_5:=b_a_4.later hb
  have b_b_5:=b_b_4.later hb
  have b_r_5:=b_r_4.later hb
  have HB5:=yW (ab HB4.out hb)
  clear b_a_4 b_b_4 b_r_4
  clear hb
  have k_a:=b_a_5.cell
  have k_b:=b_b_5.cell
  have k_r:=b_r_5.cell
  have f_r:=b_r_5.free
  go_wp2_with fail
  refine bodyPost_ret (ao rfl rfl (put4 b_r_5 HB5.out (by omega)).1 rfl) rfl ?_
  exact ⟨rfl,(put4 b_r_5 HB5.out (by omega)).2⟩
theorem bin_and {x y:Int} {d d' B:Nat} {s s':ByteArray} {l l':List Tm} {vs ws:List Value} {w:World} (ha:RTm w B d ⟨2,x,s,l⟩ vs) (hb:RTm w B d' ⟨2,y,s',l'⟩ ws) (hB:B≤w.heap.size) (fa:af ⟨2,x,s,l⟩=true) (fb:af ⟨2,y,s',l'⟩=true)  :
 Calls Tryz.prog 247 #[.int .i64 17,.agg vs.toArray,.agg ws.toArray] w fun z w'=>z=bK 2 (bits .and .i64 x y) emp 0∧Below w.heap.size w w':=by
 obtain ⟨A,c,rfl,q1,q2,q3,q4,q5,_⟩:=ha.cells
 obtain ⟨A',c',rfl,r1,r2,r3,r4,r5,_⟩:=hb.cells
 have HA:=yW ha
 have HB_:=yW hb
 have FA:=yW fa
 have FB:=yW fb
 simp only at q2 q3 q4 q5 r2 r3 r4 r5
 clear ha hb fa fb
 have HK:Hid (aE 17 2 2=true):=yW (by decide)
 go_enter Tryz.func247,Tryz.ntmps247
 go_wp2_with fail
 generalize hW:World.alloc _ _=w1
 obtain ⟨hb,hz⟩:=al3 hW
 have b_a_1:=n31 hW
 have b_b_1:=n32 hW
 have b_r_1:=n33 hW
 have HB1:=yW hb
 clear hW hz hb
 refine (aj (t:=⟨2,x,s,l⟩) (vs:=[_,_,_,_]) (HA.out.below HB1.out hB) (yX hB HB1.out.size)).mono ?_
 rintro x w2 ⟨rfl,hb⟩
 have b_a_2:=b_a_1.later hb
 have b_b_2:=b_b_1.later hb
 have b_r_2:=b_r_1.later hb
 have HB2:=yW (ab HB1.out hb)
 clear b_a_1 b_b_1 b_r_1
 clear hb
 rw [FA.out]
 have k_a:=b_a_2.cell
 have k_b:=b_b_2.cell
 have k_r:=b_r_2.cell
 go_wp2_with fail
 clear k_a k_b k_r
 refine (aj (t:=⟨2,y,s',l'⟩) (vs:=[_,_,_,_]) (HB_.out.below HB2.out hB) (yX hB HB2.out.size)).mono ?_
 rintro x w3 ⟨rfl,hb⟩
 have b_a_3:=b_a_2.later hb
 have b_b_3:=b_b_2.later hb
 have b_r_3:=b_r_2.later hb
 have HB3:=yW (ab HB2.out hb)
 clear b_a_2 b_b_2 b_r_2
 clear hb
 rw [FB.out]
 have k_a:=b_a_3.cell
 have k_b:=b_b_3.cell
 have k_r:=b_r_3.cell
 go_wp2_with fail
 clear k_a k_b k_r
 refine (aP 17 2 2 _).mono ?_
 rintro x w4 ⟨rfl,hb⟩
 have b_a_4:=b_a_3.later hb
 have b_b_4:=b_b_3.later hb
 have b_r_4:=b_r_3.later hb
 have HB4:=yW (ab HB3.out hb)
 clear b_a_3 b_b_3 b_r_3
 clear hb
 rw [HK.out]
 have k_a:=b_a_4.cell
 have k_b:=b_b_4.cell
 have k_r:=b_r_4.cell
 go_wp2_with fail
 clear k_a k_b k_r
 refine (bp _ _).mono ?_
 rintro x w5 ⟨rfl,hb⟩
 have b_a_5:=b_a_4.later hb
 have b_b_5:=b_b_4.later hb
 have b_r_5:=b_r_4.later hb
 have HB5:=yW (ab HB4.out hb)
 clear b_a_4 b_b_4 b_r_4
 clear hb
 have k_a:=b_a_5.cell
 have k_b:=b_b_5.cell
 have k_r:=b_r_5.cell
 have f_r:=b_r_5.free
 go_wp2_with fail
 refine bodyPost_ret (ao rfl rfl (put4 b_r_5 HB5.out (by omega)).1 rfl) rfl ?_
 exact ⟨rfl,(put4 b_r_5 HB5.out (by omega)).2⟩
theorem bin_or {x y:Int} {d d' B:Nat} {s s':ByteArray} {l l':List Tm} {vs ws:List Value} {w:World} (ha:RTm w B d ⟨2,x,s,l⟩ vs) (hb:RTm w B d' ⟨2,y,s',l'⟩ ws) (hB:B≤w.heap.size) (fa:af ⟨2,x,s,l⟩=true) (fb:af ⟨2,y,s',l'⟩=true)  :
 Calls Tryz.prog 247 #[.int .i64 18,.agg vs.toArray,.agg ws.toArray] w fun z w'=>z=bK 2 (bits .or .i64 x y) emp 0∧Below w.heap.size w w':=by
 obtain ⟨A,c,rfl,q1,q2,q3,q4,q5,_⟩:=ha.cells
 obtain ⟨A',c',rfl,r1,r2,r3,r4,r5,_⟩:=hb.cells
 have HA:=yW ha
 have HB_:=yW hb
 have FA:=yW fa
 have FB:=yW fb
 simp only at q2 q3 q4 q5 r2 r3 r4 r5
 clear ha hb fa fb
 have HK:Hid (aE 18 2 2=true):=yW (by decide)
 go_enter Tryz.func247,Tryz.ntmps247
 go_wp2_with fail
 generalize hW:World.alloc _ _=w1
 obtain ⟨hb,hz⟩:=al3 hW
 have b_a_1:=n31 hW
 have b_b_1:=n32 hW
 have b_r_1:=n33 hW
 have HB1:=yW hb
 clear hW hz hb
 refine (aj (t:=⟨2,x,s,l⟩) (vs:=[_,_,_,_]) (HA.out.below HB1.out hB) (yX hB HB1.out.size)).mono ?_
 rintro x w2 ⟨rfl,hb⟩
 have b_a_2:=b_a_1.later hb
 have b_b_2:=b_b_1.later hb
 have b_r_2:=b_r_1.later hb
 have HB2:=yW (ab HB1.out hb)
 clear b_a_1 b_b_1 b_r_1
 clear hb
 rw [FA.out]
 have k_a:=b_a_2.cell
 have k_b:=b_b_2.cell
 have k_r:=b_r_2.cell
 go_wp2_with fail
 clear k_a k_b k_r
 refine (aj (t:=⟨2,y,s',l'⟩) (vs:=[_,_,_,_]) (HB_.out.below HB2.out hB) (yX hB HB2.out.size)).mono ?_
 rintro x w3 ⟨rfl,hb⟩
 have b_a_3:=b_a_2.later hb
 have b_b_3:=b_b_2.later hb
 have b_r_3:=b_r_2.later hb
 have HB3:=yW (ab HB2.out hb)
 clear b_a_2 b_b_2 b_r_2
 clear hb
 rw [FB.out]
 have k_a:=b_a_3.cell
 have k_b:=b_b_3.cell
 have k_r:=b_r_3.cell
 go_wp2_with fail
 clear k_a k_b k_r
 refine (aP 18 2 2 _).mono ?_
 rintro x w4 ⟨rfl,hb⟩
 have b_a_4:=b_a_3.later hb
 have b_b_4:=b_b_3.later hb
 have b_r_4:=b_r_3.later hb
 have HB4:=yW (ab HB3.out hb)
 clear b_a_3 b_b_3 b_r_3
 clear hb
 rw [HK.out]
 have k_a:=b_a_4.cell
 have k_b:=b_b_4.cell
 have k_r:=b_r_4.cell
 go_wp2_with fail
 clear k_a k_b k_r
 refine (bp _ _).mono ?_
 rintro x w5 ⟨rfl,hb⟩
 have b_a_5:=b_a_4.later hb
 have b_b_5:=b_b_4.later hb
 have b_r_5:=b_r_4.later hb
 have HB5:=yW (ab HB4.out hb)
 clear b_a_4 b_b_4 b_r_4
 clear hb
 have k_a:=b_a_5.cell
 have k_b:=b_b_5.cell
 have k_r:=b_r_5.cell
 have f_r:=b_r_5.free
 go_wp2_with fail
 refine bodyPost_ret (ao rfl rfl (put4 b_r_5 HB5.out (by omega)).1 rfl) rfl ?_
 exact ⟨rfl,(put4 b_r_5 HB5.out (by omega)).2⟩
theorem bin_xor {x y:Int} {d d' B:Nat} {s s':ByteArray} {l l':List Tm} {vs ws:List Value} {w:World} (ha:RTm w B d ⟨2,x,s,l⟩ vs) (hb:RTm w B d' ⟨2,y,s',l'⟩ ws) (hB:B≤w.heap.size) (fa:af ⟨2,x,s,l⟩=true) (fb:af ⟨2,y,s',l'⟩=true)  :
 Calls Tryz.prog 247 #[.int .i64 19,.agg vs.toArray,.agg ws.toArray] w fun z w'=>z=bK 2 (bits .xor .i64 x y) emp 0∧Below w.heap.size w w':=by
 obtain ⟨A,c,rfl,q1,q2,q3,q4,q5,_⟩:=ha.cells
 obtain ⟨A',c',rfl,r1,r2,r3,r4,r5,_⟩:=hb.cells
 have HA:=yW ha
 have HB_:=yW hb
 have FA:=yW fa
 have FB:=yW fb
 simp only at q2 q3 q4 q5 r2 r3 r4 r5
 clear ha hb fa fb
 have HK:Hid (aE 19 2 2=true):=yW (by decide)
 go_enter Tryz.func247,Tryz.ntmps247
 go_wp2_with fail
 generalize hW:World.alloc _ _=w1
 obtain ⟨hb,hz⟩:=al3 hW
 have b_a_1:=n31 hW
 have b_b_1:=n32 hW
 have b_r_1:=n33 hW
 have HB1:=yW hb
 clear hW hz hb
 refine (aj (t:=⟨2,x,s,l⟩) (vs:=[_,_,_,_]) (HA.out.below HB1.out hB) (yX hB HB1.out.size)).mono ?_
 rintro x w2 ⟨rfl,hb⟩
 have b_a_2:=b_a_1.later hb
 have b_b_2:=b_b_1.later hb
 have b_r_2:=b_r_1.later hb
 have HB2:=yW (ab HB1.out hb)
 clear b_a_1 b_b_1 b_r_1
 clear hb
 rw [FA.out]
 have k_a:=b_a_2.cell
 have k_b:=b_b_2.cell
 have k_r:=b_r_2.cell
 go_wp2_with fail
 clear k_a k_b k_r
 refine (aj (t:=⟨2,y,s',l'⟩) (vs:=[_,_,_,_]) (HB_.out.below HB2.out hB) (yX hB HB2.out.size)).mono ?_
 rintro x w3 ⟨rfl,hb⟩
 have b_a_3:=b_a_2.later hb
 have b_b_3:=b_b_2.later hb
 have b_r_3:=b_r_2.later hb
 have HB3:=yW (ab HB2.out hb)
 clear b_a_2 b_b_2 b_r_2
 clear hb
 rw [FB.out]
 have k_a:=b_a_3.cell
 have k_b:=b_b_3.cell
 have k_r:=b_r_3.cell
 go_wp2_with fail
 clear k_a k_b k_r
 refine (aP 19 2 2 _).mono ?_
 rintro x w4 ⟨rfl,hb⟩
 have b_a_4:=b_a_3.later hb
 have b_b_4:=b_b_3.later hb
 have b_r_4:=b_r_3.later hb
 have HB4:=yW (ab HB3.out hb)
 clear b_a_3 b_b_3 b_r_3
 clear hb
 rw [HK.out]
 have k_a:=b_a_4.cell
 have k_b:=b_b_4.cell
 have k_r:=b_r_4.cell
 go_wp2_with fail
 clear k_a k_b k_r
 refine (bp _ _).mono ?_
 rintro x w5 ⟨rfl,hb⟩
 have b_a_5:=b_a_4.later hb
 have b_b_5:=b_b_4.later hb
 have b_r_5:=b_r_4.later hb
 have HB5:=yW (ab HB4.out hb)
 clear b_a_4 b_b_4 b_r_4
 clear hb
 have k_a:=b_a_5.cell
 have k_b:=b_b_5.cell
 have k_r:=b_r_5.cell
 have f_r:=b_r_5.free
 go_wp2_with fail
 refine bodyPost_ret (ao rfl rfl (put4 b_r_5 HB5.out (by omega)).1 rfl) rfl ?_
 exact ⟨rfl,(put4 b_r_5 HB5.out (by omega)).2⟩
def wR (code c:Int):Bool:=
 if code=1 then decide (c<0) else if code=2 then decide (0<c) else if code=3 then decide (c≤0) else if code=4 then decide (0≤c) else if code=5 then decide (c=0) else decide (c≠0)
theorem nM (code c:Int) (hc:code=1∨code=2∨code=3∨code=4∨code=5∨code=6) (w:World) :
 Calls Tryz.prog 285 #[.int .i64 code,.int .i64 c] w fun e w'=>e=.returned (.bool (wR code c))∧w=w':=by
 rcases hc with rfl | rfl | rfl | rfl | rfl | rfl
 all_goals
  go_enter Tryz.func285,Tryz.ntmps285
  go_wp2_with fail
  go_ret
  refine ⟨ac ?_,rfl⟩
  rw [Bool.eq_iff_iff]
  simp [wR]
theorem pv {code x y ka kb:Int} {d d' B:Nat} {s s':ByteArray} {l l':List Tm} {vs ws:List Value} {w:World} (ha:RTm w B d ⟨ka,x,s,l⟩ vs) (hb:RTm w B d' ⟨kb,y,s',l'⟩ ws) (hB:B≤w.heap.size) (fa:af ⟨ka,x,s,l⟩=true) (fb:af ⟨kb,y,s',l'⟩=true) (hc:code=1∨code=2∨code=3∨code=4∨code=5∨code=6) (hk:aE code ka kb=true) :
 Calls Tryz.prog 247 #[.int .i64 code,.agg vs.toArray,.agg ws.toArray] w fun z w'=>z=bK 6 (bit (wR code (aU 3 ⟨ka,x,s,l⟩ ⟨kb,y,s',l'⟩))) emp 0∧Below w.heap.size w w':=by
 obtain ⟨A,c,rfl,q1,q2,q3,q4,q5,_⟩:=ha.cells
 obtain ⟨A',c',rfl,r1,r2,r3,r4,r5,_⟩:=hb.cells
 have HA:=yW ha
 have HB_:=yW hb
 have FA:=yW fa
 have FB:=yW fb
 simp only at q2 q3 q4 q5 r2 r3 r4 r5
 clear ha hb fa fb
 have HK:=yW hk
 clear hk
 rcases hc with rfl | rfl | rfl | rfl | rfl | rfl
 all_goals
  go_enter Tryz.func247,Tryz.ntmps247
  go_wp2_with fail
  generalize hW:World.alloc _ _=w1
  obtain ⟨hb,hz⟩:=al3 hW
  have b_a_1:=n31 hW
  have b_b_1:=n32 hW
  have b_r_1:=n33 hW
  have HB1:=yW hb
  clear hW hz hb
  refine (aj (t:=⟨ka,x,s,l⟩) (vs:=[_,_,_,_]) (HA.out.below HB1.out hB) (yX hB HB1.out.size)).mono ?_
  rintro x w2 ⟨rfl,hb⟩
  have b_a_2:=b_a_1.later hb
  have b_b_2:=b_b_1.later hb
  have b_r_2:=b_r_1.later hb
  have HB2:=yW (ab HB1.out hb)
  clear b_a_1 b_b_1 b_r_1
  clear hb
  rw [FA.out]
  have k_a:=b_a_2.cell
  have k_b:=b_b_2.cell
  have k_r:=b_r_2.cell
  go_wp2_with fail
  clear k_a k_b k_r
  refine (aj (t:=⟨kb,y,s',l'⟩) (vs:=[_,_,_,_]) (HB_.out.below HB2.out hB) (yX hB HB2.out.size)).mono ?_
  rintro x w3 ⟨rfl,hb⟩
  have b_a_3:=b_a_2.later hb
  have b_b_3:=b_b_2.later hb
  have b_r_3:=b_r_2.later hb
  have HB3:=yW (ab HB2.out hb)
  clear b_a_2 b_b_2 b_r_2
  clear hb
  rw [FB.out]
  have k_a:=b_a_3.cell
  have k_b:=b_b_3.cell
  have k_r:=b_r_3.cell
  go_wp2_with fail
  clear k_a k_b k_r
  refine (aP _ ka kb _).mono ?_
  rintro x w4 ⟨rfl,hb⟩
  have b_a_4:=b_a_3.later hb
  have b_b_4:=b_b_3.later hb
  have b_r_4:=b_r_3.later hb
  have HB4:=yW (ab HB3.out hb)
  clear b_a_3 b_b_3 b_r_3
  clear hb
  rw [HK.out]
  have k_a:=b_a_4.cell
  have k_b:=b_b_4.cell
  have k_r:=b_r_4.cell
  go_wp2_with fail
  clear k_a k_b k_r
  refine (df d d' ⟨ka,x,s,l⟩ ⟨kb,y,s',l'⟩ [_,_,_,_] [_,_,_,_] B _ (HA.out.below HB4.out hB) (HB_.out.below HB4.out hB) (yX hB HB4.out.size)).mono ?_
  rintro x w5 ⟨rfl,hb⟩
  have b_a_5:=b_a_4.later hb
  have b_b_5:=b_b_4.later hb
  have b_r_5:=b_r_4.later hb
  have HB5:=yW (ab HB4.out hb)
  clear b_a_4 b_b_4 b_r_4
  clear hb
  have k_a:=b_a_5.cell
  have k_b:=b_b_5.cell
  have k_r:=b_r_5.cell
  go_wp2_with fail
  clear k_a k_b k_r
  refine (nM _ (aU 3 ⟨ka,x,s,l⟩ ⟨kb,y,s',l'⟩) (by omega) _).mono ?_
  rintro z0 wz ⟨rfl,rfl⟩
  have k_a:=b_a_5.cell
  have k_b:=b_b_5.cell
  have k_r:=b_r_5.cell
  go_wp2_with fail
  clear k_a k_b k_r
  refine (eh _ _).mono ?_
  rintro x w6 ⟨rfl,hb⟩
  have b_a_6:=b_a_5.later hb
  have b_b_6:=b_b_5.later hb
  have b_r_6:=b_r_5.later hb
  have HB6:=yW (ab HB5.out hb)
  clear b_a_5 b_b_5 b_r_5
  clear hb
  have k_a:=b_a_6.cell
  have k_b:=b_b_6.cell
  have k_r:=b_r_6.cell
  have f_r:=b_r_6.free
  go_wp2_with fail
  refine bodyPost_ret (ao rfl rfl (put4 b_r_6 HB6.out (by omega)).1 rfl) rfl ?_
  exact ⟨rfl,(put4 b_r_6 HB6.out (by omega)).2⟩
theorem add_any {x y:Int} {s s':ByteArray} {A A':Option Addr} {n n' c c':Nat} {w:World} (hs:s.size≤140737488351232) (hs':s'.size≤140737488351232) (h:s.size+s'.size≤256) :
 Calls Tryz.prog 280 #[.agg #[.int .i64 3,.int .i64 x,.string s,.slice A n c],.agg #[.int .i64 3,.int .i64 y,.string s',.slice A' n' c']] w fun z w'=>z=bK 3 0 (s++s') 0∧Below w.heap.size w w':=by
 have h1:(s.size:Int)+s'.size≤256:=by omega
 go_enter Tryz.func280,Tryz.ntmps280
 go_wp2_with fail
 generalize hW:World.alloc _ _=W
 obtain ⟨hb,hz⟩:=al3 hW
 have br:=n33 hW
 refine bodyPost_ret (ao rfl rfl br rfl) rfl ?_
 exact ⟨rfl,hb⟩
theorem ww {x y:Int} {s s':ByteArray} {A A':Option Addr} {n n' c c':Nat} {w:World} (hs:s.size≤140737488351232) (hs':s'.size≤140737488351232) (h:¬s.size+s'.size≤256) :
 Calls Tryz.prog 280 #[.agg #[.int .i64 3,.int .i64 x,.string s,.slice A n c],.agg #[.int .i64 3,.int .i64 y,.string s',.slice A' n' c']] w fun z w'=>z=bK 0 0 emp 4∧Below w.heap.size w w':=by
 have h1:¬(s.size:Int)+s'.size≤256:=by omega
 go_enter Tryz.func280,Tryz.ntmps280
 go_wp2_with fail
 generalize hW:World.alloc _ _=W
 obtain ⟨hb,hz⟩:=al3 hW
 have br:=n33 hW
 refine bodyPost_ret (ao rfl rfl br rfl) rfl ?_
 exact ⟨rfl,hb⟩
theorem bin_add {x y:Int} {d d' B:Nat} {s s':ByteArray} {l l':List Tm} {vs ws:List Value} {w:World} (ha:RTm w B d ⟨3,x,s,l⟩ vs) (hb:RTm w B d' ⟨3,y,s',l'⟩ ws) (hB:B≤w.heap.size) (fa:af ⟨3,x,s,l⟩=true) (fb:af ⟨3,y,s',l'⟩=true) (hlen:s.size+s'.size≤256) :
 Calls Tryz.prog 247 #[.int .i64 7,.agg vs.toArray,.agg ws.toArray] w fun z w'=>z=bK 3 0 (s++s') 0∧Below w.heap.size w w':=by
 obtain ⟨A,c,rfl,q1,q2,q3,q4,q5,_⟩:=ha.cells
 obtain ⟨A',c',rfl,r1,r2,r3,r4,r5,_⟩:=hb.cells
 have HA:=yW ha
 have HB_:=yW hb
 have FA:=yW fa
 have FB:=yW fb
 simp only at q2 q3 q4 q5 r2 r3 r4 r5
 clear ha hb fa fb
 have HK:Hid (aE 7 3 3=true):=yW (by decide)
 have HLEN:=yW hlen
 clear hlen
 go_enter Tryz.func247,Tryz.ntmps247
 go_wp2_with fail
 generalize hW:World.alloc _ _=w1
 obtain ⟨hb,hz⟩:=al3 hW
 have b_a_1:=n31 hW
 have b_b_1:=n32 hW
 have b_r_1:=n33 hW
 have HB1:=yW hb
 clear hW hz hb
 refine (aj (t:=⟨3,x,s,l⟩) (vs:=[_,_,_,_]) (HA.out.below HB1.out hB) (yX hB HB1.out.size)).mono ?_
 rintro x w2 ⟨rfl,hb⟩
 have b_a_2:=b_a_1.later hb
 have b_b_2:=b_b_1.later hb
 have b_r_2:=b_r_1.later hb
 have HB2:=yW (ab HB1.out hb)
 clear b_a_1 b_b_1 b_r_1
 clear hb
 rw [FA.out]
 have k_a:=b_a_2.cell
 have k_b:=b_b_2.cell
 have k_r:=b_r_2.cell
 go_wp2_with fail
 clear k_a k_b k_r
 refine (aj (t:=⟨3,y,s',l'⟩) (vs:=[_,_,_,_]) (HB_.out.below HB2.out hB) (yX hB HB2.out.size)).mono ?_
 rintro x w3 ⟨rfl,hb⟩
 have b_a_3:=b_a_2.later hb
 have b_b_3:=b_b_2.later hb
 have b_r_3:=b_r_2.later hb
 have HB3:=yW (ab HB2.out hb)
 clear b_a_2 b_b_2 b_r_2
 clear hb
 rw [FB.out]
 have k_a:=b_a_3.cell
 have k_b:=b_b_3.cell
 have k_r:=b_r_3.cell
 go_wp2_with fail
 clear k_a k_b k_r
 refine (aP 7 3 3 _).mono ?_
 rintro x w4 ⟨rfl,hb⟩
 have b_a_4:=b_a_3.later hb
 have b_b_4:=b_b_3.later hb
 have b_r_4:=b_r_3.later hb
 have HB4:=yW (ab HB3.out hb)
 clear b_a_3 b_b_3 b_r_3
 clear hb
 rw [HK.out]
 have k_a:=b_a_4.cell
 have k_b:=b_b_4.cell
 have k_r:=b_r_4.cell
 go_wp2_with fail
 clear k_a k_b k_r
 refine (add_any q3 r3 HLEN.out).mono ?_
 rintro x w5 ⟨rfl,hb⟩
 have b_a_5:=b_a_4.later hb
 have b_b_5:=b_b_4.later hb
 have b_r_5:=b_r_4.later hb
 have HB5:=yW (ab HB4.out hb)
 clear b_a_4 b_b_4 b_r_4
 clear hb
 have k_a:=b_a_5.cell
 have k_b:=b_b_5.cell
 have k_r:=b_r_5.cell
 have f_r:=b_r_5.free
 go_wp2_with fail
 refine bodyPost_ret (ao rfl rfl (put4 b_r_5 HB5.out (by omega)).1 rfl) rfl ?_
 exact ⟨rfl,(put4 b_r_5 HB5.out (by omega)).2⟩
theorem wK {x y:Int} {d d' B:Nat} {s s':ByteArray} {l l':List Tm} {vs ws:List Value} {w:World} (ha:RTm w B d ⟨3,x,s,l⟩ vs) (hb:RTm w B d' ⟨3,y,s',l'⟩ ws) (hB:B≤w.heap.size) (fa:af ⟨3,x,s,l⟩=true) (fb:af ⟨3,y,s',l'⟩=true) (hlen:¬s.size+s'.size≤256) :
 Calls Tryz.prog 247 #[.int .i64 7,.agg vs.toArray,.agg ws.toArray] w fun z w'=>z=bK 0 0 emp 4∧Below w.heap.size w w':=by
 obtain ⟨A,c,rfl,q1,q2,q3,q4,q5,_⟩:=ha.cells
 obtain ⟨A',c',rfl,r1,r2,r3,r4,r5,_⟩:=hb.cells
 have HA:=yW ha
 have HB_:=yW hb
 have FA:=yW fa
 have FB:=yW fb
 simp only at q2 q3 q4 q5 r2 r3 r4 r5
 clear ha hb fa fb
 have HK:Hid (aE 7 3 3=true):=yW (by decide)
 have HLEN:=yW hlen
 clear hlen
 go_enter Tryz.func247,Tryz.ntmps247
 go_wp2_with fail
 generalize hW:World.alloc _ _=w1
 obtain ⟨hb,hz⟩:=al3 hW
 have b_a_1:=n31 hW
 have b_b_1:=n32 hW
 have b_r_1:=n33 hW
 have HB1:=yW hb
 clear hW hz hb
 refine (aj (t:=⟨3,x,s,l⟩) (vs:=[_,_,_,_]) (HA.out.below HB1.out hB) (yX hB HB1.out.size)).mono ?_
 rintro x w2 ⟨rfl,hb⟩
 have b_a_2:=b_a_1.later hb
 have b_b_2:=b_b_1.later hb
 have b_r_2:=b_r_1.later hb
 have HB2:=yW (ab HB1.out hb)
 clear b_a_1 b_b_1 b_r_1
 clear hb
 rw [FA.out]
 have k_a:=b_a_2.cell
 have k_b:=b_b_2.cell
 have k_r:=b_r_2.cell
 go_wp2_with fail
 clear k_a k_b k_r
 refine (aj (t:=⟨3,y,s',l'⟩) (vs:=[_,_,_,_]) (HB_.out.below HB2.out hB) (yX hB HB2.out.size)).mono ?_
 rintro x w3 ⟨rfl,hb⟩
 have b_a_3:=b_a_2.later hb
 have b_b_3:=b_b_2.later hb
 have b_r_3:=b_r_2.later hb
 have HB3:=yW (ab HB2.out hb)
 clear b_a_2 b_b_2 b_r_2
 clear hb
 rw [FB.out]
 have k_a:=b_a_3.cell
 have k_b:=b_b_3.cell
 have k_r:=b_r_3.cell
 go_wp2_with fail
 clear k_a k_b k_r
 refine (aP 7 3 3 _).mono ?_
 rintro x w4 ⟨rfl,hb⟩
 have b_a_4:=b_a_3.later hb
 have b_b_4:=b_b_3.later hb
 have b_r_4:=b_r_3.later hb
 have HB4:=yW (ab HB3.out hb)
 clear b_a_3 b_b_3 b_r_3
 clear hb
 rw [HK.out]
 have k_a:=b_a_4.cell
 have k_b:=b_b_4.cell
 have k_r:=b_r_4.cell
 go_wp2_with fail
 clear k_a k_b k_r
 refine (ww q3 r3 HLEN.out).mono ?_
 rintro x w5 ⟨rfl,hb⟩
 have b_a_5:=b_a_4.later hb
 have b_b_5:=b_b_4.later hb
 have b_r_5:=b_r_4.later hb
 have HB5:=yW (ab HB4.out hb)
 clear b_a_4 b_b_4 b_r_4
 clear hb
 have k_a:=b_a_5.cell
 have k_b:=b_b_5.cell
 have k_r:=b_r_5.cell
 have f_r:=b_r_5.free
 go_wp2_with fail
 refine bodyPost_ret (ao rfl rfl (put4 b_r_5 HB5.out (by omega)).1 rfl) rfl ?_
 exact ⟨rfl,(put4 b_r_5 HB5.out (by omega)).2⟩
theorem rJ {x y ka kb:Int} {d d' B:Nat} {s s':ByteArray} {l l':List Tm} {vs ws:List Value} {w:World} (ha:RTm w B d ⟨ka,x,s,l⟩ vs) (hb:RTm w B d' ⟨kb,y,s',l'⟩ ws) (hB:B≤w.heap.size) (fa:af ⟨ka,x,s,l⟩=true) (fb:af ⟨kb,y,s',l'⟩=true) (hk:aE 12 ka kb=true) :
 Calls Tryz.prog 247 #[.int .i64 12,.agg vs.toArray,.agg ws.toArray] w fun z w'=>z=bK 6 (bit (Lib.hasPrefix (bs s) (bs s'))) emp 0∧Below w.heap.size w w':=by
 obtain ⟨A,c,rfl,q1,q2,q3,q4,q5,_⟩:=ha.cells
 obtain ⟨A',c',rfl,r1,r2,r3,r4,r5,_⟩:=hb.cells
 have HA:=yW ha
 have HB_:=yW hb
 have FA:=yW fa
 have FB:=yW fb
 simp only at q2 q3 q4 q5 r2 r3 r4 r5
 clear ha hb fa fb
 have HK:=yW hk
 clear hk
 go_enter Tryz.func247,Tryz.ntmps247
 go_wp2_with fail
 generalize hW:World.alloc _ _=w1
 obtain ⟨hb,hz⟩:=al3 hW
 have b_a_1:=n31 hW
 have b_b_1:=n32 hW
 have b_r_1:=n33 hW
 have HB1:=yW hb
 clear hW hz hb
 refine (aj (t:=⟨ka,x,s,l⟩) (vs:=[_,_,_,_]) (HA.out.below HB1.out hB) (yX hB HB1.out.size)).mono ?_
 rintro x w2 ⟨rfl,hb⟩
 have b_a_2:=b_a_1.later hb
 have b_b_2:=b_b_1.later hb
 have b_r_2:=b_r_1.later hb
 have HB2:=yW (ab HB1.out hb)
 clear b_a_1 b_b_1 b_r_1
 clear hb
 rw [FA.out]
 have k_a:=b_a_2.cell
 have k_b:=b_b_2.cell
 have k_r:=b_r_2.cell
 go_wp2_with fail
 clear k_a k_b k_r
 refine (aj (t:=⟨kb,y,s',l'⟩) (vs:=[_,_,_,_]) (HB_.out.below HB2.out hB) (yX hB HB2.out.size)).mono ?_
 rintro x w3 ⟨rfl,hb⟩
 have b_a_3:=b_a_2.later hb
 have b_b_3:=b_b_2.later hb
 have b_r_3:=b_r_2.later hb
 have HB3:=yW (ab HB2.out hb)
 clear b_a_2 b_b_2 b_r_2
 clear hb
 rw [FB.out]
 have k_a:=b_a_3.cell
 have k_b:=b_b_3.cell
 have k_r:=b_r_3.cell
 go_wp2_with fail
 clear k_a k_b k_r
 refine (aP 12 ka kb _).mono ?_
 rintro x w4 ⟨rfl,hb⟩
 have b_a_4:=b_a_3.later hb
 have b_b_4:=b_b_3.later hb
 have b_r_4:=b_r_3.later hb
 have HB4:=yW (ab HB3.out hb)
 clear b_a_3 b_b_3 b_r_3
 clear hb
 rw [HK.out]
 have k_a:=b_a_4.cell
 have k_b:=b_b_4.cell
 have k_r:=b_r_4.cell
 go_wp2_with fail
 clear k_a k_b k_r
 refine (Tryz.strings_HasPrefix s s' _).mono ?_
 rintro z0 wz ⟨rfl,rfl⟩
 have k_a:=b_a_4.cell
 have k_b:=b_b_4.cell
 have k_r:=b_r_4.cell
 go_wp2_with fail
 clear k_a k_b k_r
 refine (eh _ _).mono ?_
 rintro x w5 ⟨rfl,hb⟩
 have b_a_5:=b_a_4.later hb
 have b_b_5:=b_b_4.later hb
 have b_r_5:=b_r_4.later hb
 have HB5:=yW (ab HB4.out hb)
 clear b_a_4 b_b_4 b_r_4
 clear hb
 have k_a:=b_a_5.cell
 have k_b:=b_b_5.cell
 have k_r:=b_r_5.cell
 have f_r:=b_r_5.free
 go_wp2_with fail
 refine bodyPost_ret (ao rfl rfl (put4 b_r_5 HB5.out (by omega)).1 rfl) rfl ?_
 exact ⟨rfl,(put4 b_r_5 HB5.out (by omega)).2⟩
theorem wI {x y ka kb:Int} {d d' B:Nat} {s s':ByteArray} {l l':List Tm} {vs ws:List Value} {w:World} (ha:RTm w B d ⟨ka,x,s,l⟩ vs) (hb:RTm w B d' ⟨kb,y,s',l'⟩ ws) (hB:B≤w.heap.size) (fa:af ⟨ka,x,s,l⟩=true) (fb:af ⟨kb,y,s',l'⟩=true) (hk:aE 13 ka kb=true) :
 Calls Tryz.prog 247 #[.int .i64 13,.agg vs.toArray,.agg ws.toArray] w fun z w'=>z=bK 6 (bit (Lib.hasSuffix (bs s) (bs s'))) emp 0∧Below w.heap.size w w':=by
 obtain ⟨A,c,rfl,q1,q2,q3,q4,q5,_⟩:=ha.cells
 obtain ⟨A',c',rfl,r1,r2,r3,r4,r5,_⟩:=hb.cells
 have HA:=yW ha
 have HB_:=yW hb
 have FA:=yW fa
 have FB:=yW fb
 simp only at q2 q3 q4 q5 r2 r3 r4 r5
 clear ha hb fa fb
 have HK:=yW hk
 clear hk
 go_enter Tryz.func247,Tryz.ntmps247
 go_wp2_with fail
 generalize hW:World.alloc _ _=w1
 obtain ⟨hb,hz⟩:=al3 hW
 have b_a_1:=n31 hW
 have b_b_1:=n32 hW
 have b_r_1:=n33 hW
 have HB1:=yW hb
 clear hW hz hb
 refine (aj (t:=⟨ka,x,s,l⟩) (vs:=[_,_,_,_]) (HA.out.below HB1.out hB) (yX hB HB1.out.size)).mono ?_
 rintro x w2 ⟨rfl,hb⟩
 have b_a_2:=b_a_1.later hb
 have b_b_2:=b_b_1.later hb
 have b_r_2:=b_r_1.later hb
 have HB2:=yW (ab HB1.out hb)
 clear b_a_1 b_b_1 b_r_1
 clear hb
 rw [FA.out]
 have k_a:=b_a_2.cell
 have k_b:=b_b_2.cell
 have k_r:=b_r_2.cell
 go_wp2_with fail
 clear k_a k_b k_r
 refine (aj (t:=⟨kb,y,s',l'⟩) (vs:=[_,_,_,_]) (HB_.out.below HB2.out hB) (yX hB HB2.out.size)).mono ?_
 rintro x w3 ⟨rfl,hb⟩
 have b_a_3:=b_a_2.later hb
 have b_b_3:=b_b_2.later hb
 have b_r_3:=b_r_2.later hb
 have HB3:=yW (ab HB2.out hb)
 clear b_a_2 b_b_2 b_r_2
 clear hb
 rw [FB.out]
 have k_a:=b_a_3.cell
 have k_b:=b_b_3.cell
 have k_r:=b_r_3.cell
 go_wp2_with fail
 clear k_a k_b k_r
 refine (aP 13 ka kb _).mono ?_
 rintro x w4 ⟨rfl,hb⟩
 have b_a_4:=b_a_3.later hb
 have b_b_4:=b_b_3.later hb
 have b_r_4:=b_r_3.later hb
 have HB4:=yW (ab HB3.out hb)
 clear b_a_3 b_b_3 b_r_3
 clear hb
 rw [HK.out]
 have k_a:=b_a_4.cell
 have k_b:=b_b_4.cell
 have k_r:=b_r_4.cell
 go_wp2_with fail
 clear k_a k_b k_r
 refine (Tryz.strings_HasSuffix s s' _ (by omega)).mono ?_
 rintro z0 wz ⟨rfl,rfl⟩
 have k_a:=b_a_4.cell
 have k_b:=b_b_4.cell
 have k_r:=b_r_4.cell
 go_wp2_with fail
 clear k_a k_b k_r
 refine (eh _ _).mono ?_
 rintro x w5 ⟨rfl,hb⟩
 have b_a_5:=b_a_4.later hb
 have b_b_5:=b_b_4.later hb
 have b_r_5:=b_r_4.later hb
 have HB5:=yW (ab HB4.out hb)
 clear b_a_4 b_b_4 b_r_4
 clear hb
 have k_a:=b_a_5.cell
 have k_b:=b_b_5.cell
 have k_r:=b_r_5.cell
 have f_r:=b_r_5.free
 go_wp2_with fail
 refine bodyPost_ret (ao rfl rfl (put4 b_r_5 HB5.out (by omega)).1 rfl) rfl ?_
 exact ⟨rfl,(put4 b_r_5 HB5.out (by omega)).2⟩
theorem jM {x y kb:Int} {s s':ByteArray} {A A':Option Addr} {n n' c c':Nat} {w:World} {m:Int} (hs:s.size≤256) (hm:w.cell? ⟨0,0,none⟩=some (.int .i64 m)) (h0:0<w.heap.size) :
 Calls Tryz.prog 281 #[.agg #[.int .i64 3,.int .i64 x,.string s,.slice A n c],.agg #[.int .i64 kb,.int .i64 y,.string s',.slice A' n' c']] w fun z w'=>z=.returned (.bool (Lib.contains (bs s) (bs s')))∧Below w.heap.size w w':=by
 have HM:=yW hm
 clear hm
 go_enter Tryz.func281,Tryz.ntmps281
 go_wp2_with fail
 generalize hW:World.alloc _ _=W
 obtain ⟨hb,hz⟩:=al2 hW
 have HB:=yW hb
 have HM2:=yW ((hb.cell (p:=⟨0,0,none⟩) h0).trans HM.out)
 clear hW hb
 refine (Tryz.strings_Contains s s' m _ (by omega) HM2.out).mono ?_
 rintro z0 wz ⟨rfl,rfl⟩
 go_wp2_with fail
 go_ret
 exact ⟨rfl,HB.out⟩
theorem nB {x y:Int} {d d' B:Nat} {s s':ByteArray} {l l':List Tm} {vs ws:List Value} {w:World} (ha:RTm w B d ⟨3,x,s,l⟩ vs) (hb:RTm w B d' ⟨3,y,s',l'⟩ ws) (hB:B≤w.heap.size) (fa:af ⟨3,x,s,l⟩=true) (fb:af ⟨3,y,s',l'⟩=true) {m:Int} (hm:w.cell? ⟨0,0,none⟩=some (.int .i64 m)) (h0:0<w.heap.size) (hs:s.size≤256) :
 Calls Tryz.prog 247 #[.int .i64 11,.agg vs.toArray,.agg ws.toArray] w fun z w'=>z=bK 6 (bit (Lib.contains (bs s) (bs s'))) emp 0∧Below w.heap.size w w':=by
 obtain ⟨A,c,rfl,q1,q2,q3,q4,q5,_⟩:=ha.cells
 obtain ⟨A',c',rfl,r1,r2,r3,r4,r5,_⟩:=hb.cells
 have HA:=yW ha
 have HB_:=yW hb
 have FA:=yW fa
 have FB:=yW fb
 simp only at q2 q3 q4 q5 r2 r3 r4 r5
 clear ha hb fa fb
 have HK:Hid (aE 11 3 3=true):=yW (by decide)
 have HM:=yW hm
 clear hm
 go_enter Tryz.func247,Tryz.ntmps247
 go_wp2_with fail
 generalize hW:World.alloc _ _=w1
 obtain ⟨hb,hz⟩:=al3 hW
 have b_a_1:=n31 hW
 have b_b_1:=n32 hW
 have b_r_1:=n33 hW
 have HB1:=yW hb
 clear hW hz hb
 refine (aj (t:=⟨3,x,s,l⟩) (vs:=[_,_,_,_]) (HA.out.below HB1.out hB) (yX hB HB1.out.size)).mono ?_
 rintro x w2 ⟨rfl,hb⟩
 have b_a_2:=b_a_1.later hb
 have b_b_2:=b_b_1.later hb
 have b_r_2:=b_r_1.later hb
 have HB2:=yW (ab HB1.out hb)
 clear b_a_1 b_b_1 b_r_1
 clear hb
 rw [FA.out]
 have k_a:=b_a_2.cell
 have k_b:=b_b_2.cell
 have k_r:=b_r_2.cell
 go_wp2_with fail
 clear k_a k_b k_r
 refine (aj (t:=⟨3,y,s',l'⟩) (vs:=[_,_,_,_]) (HB_.out.below HB2.out hB) (yX hB HB2.out.size)).mono ?_
 rintro x w3 ⟨rfl,hb⟩
 have b_a_3:=b_a_2.later hb
 have b_b_3:=b_b_2.later hb
 have b_r_3:=b_r_2.later hb
 have HB3:=yW (ab HB2.out hb)
 clear b_a_2 b_b_2 b_r_2
 clear hb
 rw [FB.out]
 have k_a:=b_a_3.cell
 have k_b:=b_b_3.cell
 have k_r:=b_r_3.cell
 go_wp2_with fail
 clear k_a k_b k_r
 refine (aP 11 3 3 _).mono ?_
 rintro x w4 ⟨rfl,hb⟩
 have b_a_4:=b_a_3.later hb
 have b_b_4:=b_b_3.later hb
 have b_r_4:=b_r_3.later hb
 have HB4:=yW (ab HB3.out hb)
 clear b_a_3 b_b_3 b_r_3
 clear hb
 rw [HK.out]
 have k_a:=b_a_4.cell
 have k_b:=b_b_4.cell
 have k_r:=b_r_4.cell
 go_wp2_with fail
 clear k_a k_b k_r
 refine (jM (m:=m) (kb:=3) hs ((HB4.out.cell (p:=⟨0,0,none⟩) h0).trans HM.out) (zb h0 HB4.out.size)).mono ?_
 rintro x w5 ⟨rfl,hb⟩
 have b_a_5:=b_a_4.later hb
 have b_b_5:=b_b_4.later hb
 have b_r_5:=b_r_4.later hb
 have HB5:=yW (ab HB4.out hb)
 clear b_a_4 b_b_4 b_r_4
 clear hb
 have k_a:=b_a_5.cell
 have k_b:=b_b_5.cell
 have k_r:=b_r_5.cell
 go_wp2_with fail
 clear k_a k_b k_r
 refine (eh _ _).mono ?_
 rintro x w6 ⟨rfl,hb⟩
 have b_a_6:=b_a_5.later hb
 have b_b_6:=b_b_5.later hb
 have b_r_6:=b_r_5.later hb
 have HB6:=yW (ab HB5.out hb)
 clear b_a_5 b_b_5 b_r_5
 clear hb
 have k_a:=b_a_6.cell
 have k_b:=b_b_6.cell
 have k_r:=b_r_6.cell
 have f_r:=b_r_6.free
 go_wp2_with fail
 refine bodyPost_ret (ao rfl rfl (put4 b_r_6 HB6.out (by omega)).1 rfl) rfl ?_
 exact ⟨rfl,(put4 b_r_6 HB6.out (by omega)).2⟩
theorem vW {x:Int} {d B:Nat} {s:ByteArray} {l:List Tm} {vs:List Value} {w:World} (ha:RTm w B d ⟨3,x,s,l⟩ vs) (hB:B≤w.heap.size) (fa:af ⟨3,x,s,l⟩=true) :
 Calls Tryz.prog 246 #[.int .i64 3,.agg vs.toArray] w fun z w'=>z=bK 2 s.size emp 0∧Below w.heap.size w w':=by
 obtain ⟨A,c,rfl,q1,q2,q3,q4,q5,_⟩:=ha.cells
 have HA:=yW ha
 have FA:=yW fa
 simp only at q2 q3 q4 q5
 clear ha fa
 go_enter Tryz.func246,Tryz.ntmps246
 go_wp2_with fail
 generalize hW:World.alloc _ _=w1
 obtain ⟨hb,hz⟩:=al2 hW
 have b_a_1:=n21 hW
 have b_r_1:=n22 hW
 have HB1:=yW hb
 clear hW hz hb
 refine (aj (t:=⟨3,x,s,l⟩) (vs:=[_,_,_,_]) (HA.out.below HB1.out hB) (yX hB HB1.out.size)).mono ?_
 rintro x w2 ⟨rfl,hb⟩
 have b_a_2:=b_a_1.later hb
 have b_r_2:=b_r_1.later hb
 have HB2:=yW (ab HB1.out hb)
 clear b_a_1 b_r_1
 clear hb
 rw [FA.out]
 have k_a:=b_a_2.cell
 have k_r:=b_r_2.cell
 go_wp2_with fail
 clear k_a k_r
 refine (bp _ _).mono ?_
 rintro x w3 ⟨rfl,hb⟩
 have b_a_3:=b_a_2.later hb
 have b_r_3:=b_r_2.later hb
 have HB3:=yW (ab HB2.out hb)
 clear b_a_2 b_r_2
 clear hb
 have k_a:=b_a_3.cell
 have k_r:=b_r_3.cell
 have f_r:=b_r_3.free
 go_wp2_with fail
 refine bodyPost_ret (ao rfl rfl (put4 b_r_3 HB3.out (by omega)).1 rfl) rfl ?_
 exact ⟨rfl,(put4 b_r_3 HB3.out (by omega)).2⟩
section
variable {α:Type} {c:α→α→Int}
end
def nq (a b:Tm) (t:Tm):Bool:=decide (t.kind≠dA b.l)||(decide (0<a.l.length)&&decide (t.kind≠dA a.l))
def kY (a b:Tm):Tm:=⟨7,0,kx,a.l.filter (jO b)⟩
def fU (a b:Tm):List Tm:=a.l++b.l.filter fun t=>!jO a t
def jh (a b:Tm):Tm × Int:=if b.l.any (nq a b) then (noT,7) else if 16<(fU a b).length then (noT,4) else qB (fU a b)
def eD (a b:Tm):Bool:=if b.kind=7 then b.l.all (jO a) else jO a b
structure OkL (l:List Tm):Prop where
 rise:l.Pairwise (fun a b=>aU 3 a b<0)
 good:∀t∈l,ph (dA l) t=false
 few:l.length≤16
section
variable {A B:List Tm} (hA:OkL A) (hB:OkL B)
end
end Go.Proofs.YtdphibjibnffeaaGreat
