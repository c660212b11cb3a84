/- What is in both sets, what is in either: the plain law. -/
import Derived.Test.YtdphibjibnffeaaGreatBSearch
import Derived.Test.YtdphibjibnffeaaGreatSet
set_option linter.unusedVariables false
set_option linter.unusedSimpArgs false
set_option maxRecDepth 100000
set_option maxHeartbeats 8000000
namespace Go.Proofs.YtdphibjibnffeaaGreat
open Go.ChangeShapes Go.WideShapes Go.ChangeAt Go.RowKit
abbrev bJ (k n:Int) (s:ByteArray) (e:Int):Ending:=.returned (.tuple #[.agg #[.int .i64 k,.int .i64 n,.string s,.slice none 0 0],.int .i64 e])
abbrev emp:ByteArray:=⟨#[]⟩
theorem qN {code x y k n e:Int} {d d' B:Nat} {s s':ByteArray} {l l':List Tm} {vs ws:List Value} {w:World} (ha:RTm w B d ⟨2,x,s,l⟩ vs) (hb:RTm w B d' ⟨2,y,s',l'⟩ ws) (hB:B≤w.heap.size) (fa:af ⟨2,x,s,l⟩=true) (fb:af ⟨2,y,s',l'⟩=true) (hc:code=7∨code=8∨code=9∨code=10) (hr:lr code x y=(k,n,e)) :
 Calls Tryz.prog 247 #[.int .i64 code,.agg vs.toArray,.agg ws.toArray] w fun z w'=>z=bJ k n emp e∧Below w.heap.size w w':=by
 obtain ⟨A,c,rfl,q1,q2,q3,q4,q5,_⟩:=ha.cells
 obtain ⟨A',c',rfl,r1,r2,r3,r4,r5,_⟩:=hb.cells
 have HA:=Lib.hid ha
 have HB_:=Lib.hid hb
 have FA:=Lib.hid fa
 have FB:=Lib.hid fb
 simp only at q2 q3 q4 q5 r2 r3 r4 r5
 clear ha hb fa fb
 have HR:=Lib.hid hr
 have HK:Hid (aF code 2 2=true):=Lib.hid (by rcases hc with rfl | rfl | rfl | rfl<;>decide)
 clear hr
 rcases hc with rfl | rfl | rfl | rfl
 all_goals
  go_enter Tryz.func247,Tryz.ntmps247
  go_wp2_with fail
  generalize hW:World.alloc _ _=w1
  obtain ⟨hb,hz⟩:=al3 hW
  have b_a_1:=n31 hW
  have b_b_1:=n32 hW
  have b_r_1:=n33 hW
  have HB1:=Lib.hid hb
  clear hW hz hb
  refine (aj (t:=⟨2,x,s,l⟩) (vs:=[_,_,_,_]) (HA.out.below HB1.out hB) (Nat.le_trans hB HB1.out.size)).mono ?_
  rintro x w2 ⟨rfl,hb⟩
  have b_a_2:=b_a_1.later hb
  have b_b_2:=b_b_1.later hb
  have b_r_2:=b_r_1.later hb
  have HB2:=Lib.hid (ae HB1.out hb)
  clear b_a_1 b_b_1 b_r_1
  clear hb
  rw [FA.out]
  have k_a:=b_a_2.cell
  have k_b:=b_b_2.cell
  have k_r:=b_r_2.cell
  go_wp2_with fail
  clear k_a k_b k_r
  refine (aj (t:=⟨2,y,s',l'⟩) (vs:=[_,_,_,_]) (HB_.out.below HB2.out hB) (Nat.le_trans hB HB2.out.size)).mono ?_
  rintro x w3 ⟨rfl,hb⟩
  have b_a_3:=b_a_2.later hb
  have b_b_3:=b_b_2.later hb
  have b_r_3:=b_r_2.later hb
  have HB3:=Lib.hid (ae HB2.out hb)
  clear b_a_2 b_b_2 b_r_2
  clear hb
  rw [FB.out]
  have k_a:=b_a_3.cell
  have k_b:=b_b_3.cell
  have k_r:=b_r_3.cell
  go_wp2_with fail
  clear k_a k_b k_r
  refine (aP _ 2 2 _).mono ?_
  rintro x w4 ⟨rfl,hb⟩
  have b_a_4:=b_a_3.later hb
  have b_b_4:=b_b_3.later hb
  have b_r_4:=b_r_3.later hb
  have HB4:=Lib.hid (ae HB3.out hb)
  clear b_a_3 b_b_3 b_r_3
  clear hb
  rw [HK.out]
  have k_a:=b_a_4.cell
  have k_b:=b_b_4.cell
  have k_r:=b_r_4.cell
  go_wp2_with fail
  clear k_a k_b k_r
  refine (ls _ x y k n e (by omega) q5 r5 HR.out _).mono ?_
  rintro x w5 ⟨rfl,hb⟩
  have b_a_5:=b_a_4.later hb
  have b_b_5:=b_b_4.later hb
  have b_r_5:=b_r_4.later hb
  have HB5:=Lib.hid (ae HB4.out hb)
  clear b_a_4 b_b_4 b_r_4
  clear hb
  have k_a:=b_a_5.cell
  have k_b:=b_b_5.cell
  have k_r:=b_r_5.cell
  have f_r:=b_r_5.free
  go_wp2_with fail
  refine bodyPost_ret (am rfl rfl (put4 b_r_5 HB5.out (by omega)).1 rfl) rfl ?_
  exact ⟨rfl,(put4 b_r_5 HB5.out (by omega)).2⟩
theorem bin_and {x y:Int} {d d' B:Nat} {s s':ByteArray} {l l':List Tm} {vs ws:List Value} {w:World} (ha:RTm w B d ⟨2,x,s,l⟩ vs) (hb:RTm w B d' ⟨2,y,s',l'⟩ ws) (hB:B≤w.heap.size) (fa:af ⟨2,x,s,l⟩=true) (fb:af ⟨2,y,s',l'⟩=true)  :
 Calls Tryz.prog 247 #[.int .i64 17,.agg vs.toArray,.agg ws.toArray] w fun z w'=>z=bJ 2 (bits .and .i64 x y) emp 0∧Below w.heap.size w w':=by
 obtain ⟨A,c,rfl,q1,q2,q3,q4,q5,_⟩:=ha.cells
 obtain ⟨A',c',rfl,r1,r2,r3,r4,r5,_⟩:=hb.cells
 have HA:=Lib.hid ha
 have HB_:=Lib.hid hb
 have FA:=Lib.hid fa
 have FB:=Lib.hid fb
 simp only at q2 q3 q4 q5 r2 r3 r4 r5
 clear ha hb fa fb
 have HK:Hid (aF 17 2 2=true):=Lib.hid (by decide)
 go_enter Tryz.func247,Tryz.ntmps247
 go_wp2_with fail
 generalize hW:World.alloc _ _=w1
 obtain ⟨hb,hz⟩:=al3 hW
 have b_a_1:=n31 hW
 have b_b_1:=n32 hW
 have b_r_1:=n33 hW
 have HB1:=Lib.hid hb
 clear hW hz hb
 refine (aj (t:=⟨2,x,s,l⟩) (vs:=[_,_,_,_]) (HA.out.below HB1.out hB) (Nat.le_trans hB HB1.out.size)).mono ?_
 rintro x w2 ⟨rfl,hb⟩
 have b_a_2:=b_a_1.later hb
 have b_b_2:=b_b_1.later hb
 have b_r_2:=b_r_1.later hb
 have HB2:=Lib.hid (ae HB1.out hb)
 clear b_a_1 b_b_1 b_r_1
 clear hb
 rw [FA.out]
 have k_a:=b_a_2.cell
 have k_b:=b_b_2.cell
 have k_r:=b_r_2.cell
 go_wp2_with fail
 clear k_a k_b k_r
 refine (aj (t:=⟨2,y,s',l'⟩) (vs:=[_,_,_,_]) (HB_.out.below HB2.out hB) (Nat.le_trans hB HB2.out.size)).mono ?_
 rintro x w3 ⟨rfl,hb⟩
 have b_a_3:=b_a_2.later hb
 have b_b_3:=b_b_2.later hb
 have b_r_3:=b_r_2.later hb
 have HB3:=Lib.hid (ae HB2.out hb)
 clear b_a_2 b_b_2 b_r_2
 clear hb
 rw [FB.out]
 have k_a:=b_a_3.cell
 have k_b:=b_b_3.cell
 have k_r:=b_r_3.cell
 go_wp2_with fail
 clear k_a k_b k_r
 refine (aP 17 2 2 _).mono ?_
 rintro x w4 ⟨rfl,hb⟩
 have b_a_4:=b_a_3.later hb
 have b_b_4:=b_b_3.later hb
 have b_r_4:=b_r_3.later hb
 have HB4:=Lib.hid (ae HB3.out hb)
 clear b_a_3 b_b_3 b_r_3
 clear hb
 rw [HK.out]
 have k_a:=b_a_4.cell
 have k_b:=b_b_4.cell
 have k_r:=b_r_4.cell
 go_wp2_with fail
 clear k_a k_b k_r
 refine (bl _ _).mono ?_
 rintro x w5 ⟨rfl,hb⟩
 have b_a_5:=b_a_4.later hb
 have b_b_5:=b_b_4.later hb
 have b_r_5:=b_r_4.later hb
 have HB5:=Lib.hid (ae HB4.out hb)
 clear b_a_4 b_b_4 b_r_4
 clear hb
 have k_a:=b_a_5.cell
 have k_b:=b_b_5.cell
 have k_r:=b_r_5.cell
 have f_r:=b_r_5.free
 go_wp2_with fail
 refine bodyPost_ret (am rfl rfl (put4 b_r_5 HB5.out (by omega)).1 rfl) rfl ?_
 exact ⟨rfl,(put4 b_r_5 HB5.out (by omega)).2⟩
theorem bin_or {x y:Int} {d d' B:Nat} {s s':ByteArray} {l l':List Tm} {vs ws:List Value} {w:World} (ha:RTm w B d ⟨2,x,s,l⟩ vs) (hb:RTm w B d' ⟨2,y,s',l'⟩ ws) (hB:B≤w.heap.size) (fa:af ⟨2,x,s,l⟩=true) (fb:af ⟨2,y,s',l'⟩=true)  :
 Calls Tryz.prog 247 #[.int .i64 18,.agg vs.toArray,.agg ws.toArray] w fun z w'=>z=bJ 2 (bits .or .i64 x y) emp 0∧Below w.heap.size w w':=by
 obtain ⟨A,c,rfl,q1,q2,q3,q4,q5,_⟩:=ha.cells
 obtain ⟨A',c',rfl,r1,r2,r3,r4,r5,_⟩:=hb.cells
 have HA:=Lib.hid ha
 have HB_:=Lib.hid hb
 have FA:=Lib.hid fa
 have FB:=Lib.hid fb
 simp only at q2 q3 q4 q5 r2 r3 r4 r5
 clear ha hb fa fb
 have HK:Hid (aF 18 2 2=true):=Lib.hid (by decide)
 go_enter Tryz.func247,Tryz.ntmps247
 go_wp2_with fail
 generalize hW:World.alloc _ _=w1
 obtain ⟨hb,hz⟩:=al3 hW
 have b_a_1:=n31 hW
 have b_b_1:=n32 hW
 have b_r_1:=n33 hW
 have HB1:=Lib.hid hb
 clear hW hz hb
 refine (aj (t:=⟨2,x,s,l⟩) (vs:=[_,_,_,_]) (HA.out.below HB1.out hB) (Nat.le_trans hB HB1.out.size)).mono ?_
 rintro x w2 ⟨rfl,hb⟩
 have b_a_2:=b_a_1.later hb
 have b_b_2:=b_b_1.later hb
 have b_r_2:=b_r_1.later hb
 have HB2:=Lib.hid (ae HB1.out hb)
 clear b_a_1 b_b_1 b_r_1
 clear hb
 rw [FA.out]
 have k_a:=b_a_2.cell
 have k_b:=b_b_2.cell
 have k_r:=b_r_2.cell
 go_wp2_with fail
 clear k_a k_b k_r
 refine (aj (t:=⟨2,y,s',l'⟩) (vs:=[_,_,_,_]) (HB_.out.below HB2.out hB) (Nat.le_trans hB HB2.out.size)).mono ?_
 rintro x w3 ⟨rfl,hb⟩
 have b_a_3:=b_a_2.later hb
 have b_b_3:=b_b_2.later hb
 have b_r_3:=b_r_2.later hb
 have HB3:=Lib.hid (ae HB2.out hb)
 clear b_a_2 b_b_2 b_r_2
 clear hb
 rw [FB.out]
 have k_a:=b_a_3.cell
 have k_b:=b_b_3.cell
 have k_r:=b_r_3.cell
 go_wp2_with fail
 clear k_a k_b k_r
 refine (aP 18 2 2 _).mono ?_
 rintro x w4 ⟨rfl,hb⟩
 have b_a_4:=b_a_3.later hb
 have b_b_4:=b_b_3.later hb
 have b_r_4:=b_r_3.later hb
 have HB4:=Lib.hid (ae HB3.out hb)
 clear b_a_3 b_b_3 b_r_3
 clear hb
 rw [HK.out]
 have k_a:=b_a_4.cell
 have k_b:=b_b_4.cell
 have k_r:=b_r_4.cell
 go_wp2_with fail
 clear k_a k_b k_r
 refine (bl _ _).mono ?_
 rintro x w5 ⟨rfl,hb⟩
 have b_a_5:=b_a_4.later hb
 have b_b_5:=b_b_4.later hb
 have b_r_5:=b_r_4.later hb
 have HB5:=Lib.hid (ae HB4.out hb)
 clear b_a_4 b_b_4 b_r_4
 clear hb
 have k_a:=b_a_5.cell
 have k_b:=b_b_5.cell
 have k_r:=b_r_5.cell
 have f_r:=b_r_5.free
 go_wp2_with fail
 refine bodyPost_ret (am rfl rfl (put4 b_r_5 HB5.out (by omega)).1 rfl) rfl ?_
 exact ⟨rfl,(put4 b_r_5 HB5.out (by omega)).2⟩
theorem bin_xor {x y:Int} {d d' B:Nat} {s s':ByteArray} {l l':List Tm} {vs ws:List Value} {w:World} (ha:RTm w B d ⟨2,x,s,l⟩ vs) (hb:RTm w B d' ⟨2,y,s',l'⟩ ws) (hB:B≤w.heap.size) (fa:af ⟨2,x,s,l⟩=true) (fb:af ⟨2,y,s',l'⟩=true)  :
 Calls Tryz.prog 247 #[.int .i64 19,.agg vs.toArray,.agg ws.toArray] w fun z w'=>z=bJ 2 (bits .xor .i64 x y) emp 0∧Below w.heap.size w w':=by
 obtain ⟨A,c,rfl,q1,q2,q3,q4,q5,_⟩:=ha.cells
 obtain ⟨A',c',rfl,r1,r2,r3,r4,r5,_⟩:=hb.cells
 have HA:=Lib.hid ha
 have HB_:=Lib.hid hb
 have FA:=Lib.hid fa
 have FB:=Lib.hid fb
 simp only at q2 q3 q4 q5 r2 r3 r4 r5
 clear ha hb fa fb
 have HK:Hid (aF 19 2 2=true):=Lib.hid (by decide)
 go_enter Tryz.func247,Tryz.ntmps247
 go_wp2_with fail
 generalize hW:World.alloc _ _=w1
 obtain ⟨hb,hz⟩:=al3 hW
 have b_a_1:=n31 hW
 have b_b_1:=n32 hW
 have b_r_1:=n33 hW
 have HB1:=Lib.hid hb
 clear hW hz hb
 refine (aj (t:=⟨2,x,s,l⟩) (vs:=[_,_,_,_]) (HA.out.below HB1.out hB) (Nat.le_trans hB HB1.out.size)).mono ?_
 rintro x w2 ⟨rfl,hb⟩
 have b_a_2:=b_a_1.later hb
 have b_b_2:=b_b_1.later hb
 have b_r_2:=b_r_1.later hb
 have HB2:=Lib.hid (ae HB1.out hb)
 clear b_a_1 b_b_1 b_r_1
 clear hb
 rw [FA.out]
 have k_a:=b_a_2.cell
 have k_b:=b_b_2.cell
 have k_r:=b_r_2.cell
 go_wp2_with fail
 clear k_a k_b k_r
 refine (aj (t:=⟨2,y,s',l'⟩) (vs:=[_,_,_,_]) (HB_.out.below HB2.out hB) (Nat.le_trans hB HB2.out.size)).mono ?_
 rintro x w3 ⟨rfl,hb⟩
 have b_a_3:=b_a_2.later hb
 have b_b_3:=b_b_2.later hb
 have b_r_3:=b_r_2.later hb
 have HB3:=Lib.hid (ae HB2.out hb)
 clear b_a_2 b_b_2 b_r_2
 clear hb
 rw [FB.out]
 have k_a:=b_a_3.cell
 have k_b:=b_b_3.cell
 have k_r:=b_r_3.cell
 go_wp2_with fail
 clear k_a k_b k_r
 refine (aP 19 2 2 _).mono ?_
 rintro x w4 ⟨rfl,hb⟩
 have b_a_4:=b_a_3.later hb
 have b_b_4:=b_b_3.later hb
 have b_r_4:=b_r_3.later hb
 have HB4:=Lib.hid (ae HB3.out hb)
 clear b_a_3 b_b_3 b_r_3
 clear hb
 rw [HK.out]
 have k_a:=b_a_4.cell
 have k_b:=b_b_4.cell
 have k_r:=b_r_4.cell
 go_wp2_with fail
 clear k_a k_b k_r
 refine (bl _ _).mono ?_
 rintro x w5 ⟨rfl,hb⟩
 have b_a_5:=b_a_4.later hb
 have b_b_5:=b_b_4.later hb
 have b_r_5:=b_r_4.later hb
 have HB5:=Lib.hid (ae HB4.out hb)
 clear b_a_4 b_b_4 b_r_4
 clear hb
 have k_a:=b_a_5.cell
 have k_b:=b_b_5.cell
 have k_r:=b_r_5.cell
 have f_r:=b_r_5.free
 go_wp2_with fail
 refine bodyPost_ret (am rfl rfl (put4 b_r_5 HB5.out (by omega)).1 rfl) rfl ?_
 exact ⟨rfl,(put4 b_r_5 HB5.out (by omega)).2⟩
def vW (code c:Int):Bool:=
 if code=1 then decide (c<0) else if code=2 then decide (0<c) else if code=3 then decide (c≤0) else if code=4 then decide (0≤c) else if code=5 then decide (c=0) else decide (c≠0)
theorem nx (code c:Int) (hc:code=1∨code=2∨code=3∨code=4∨code=5∨code=6) (w:World) :
 Calls Tryz.prog 285 #[.int .i64 code,.int .i64 c] w fun e w'=>e=.returned (.bool (vW code c))∧w=w':=by
 rcases hc with rfl | rfl | rfl | rfl | rfl | rfl
 all_goals
  go_enter Tryz.func285,Tryz.ntmps285
  go_wp2_with fail
  go_ret
  refine ⟨ac ?_,rfl⟩
  rw [Bool.eq_iff_iff]
  simp [vW]
theorem ou {code x y ka kb:Int} {d d' B:Nat} {s s':ByteArray} {l l':List Tm} {vs ws:List Value} {w:World} (ha:RTm w B d ⟨ka,x,s,l⟩ vs) (hb:RTm w B d' ⟨kb,y,s',l'⟩ ws) (hB:B≤w.heap.size) (fa:af ⟨ka,x,s,l⟩=true) (fb:af ⟨kb,y,s',l'⟩=true) (hc:code=1∨code=2∨code=3∨code=4∨code=5∨code=6) (hk:aF code ka kb=true) :
 Calls Tryz.prog 247 #[.int .i64 code,.agg vs.toArray,.agg ws.toArray] w fun z w'=>z=bJ 6 (bit (vW code (aV 3 ⟨ka,x,s,l⟩ ⟨kb,y,s',l'⟩))) emp 0∧Below w.heap.size w w':=by
 obtain ⟨A,c,rfl,q1,q2,q3,q4,q5,_⟩:=ha.cells
 obtain ⟨A',c',rfl,r1,r2,r3,r4,r5,_⟩:=hb.cells
 have HA:=Lib.hid ha
 have HB_:=Lib.hid hb
 have FA:=Lib.hid fa
 have FB:=Lib.hid fb
 simp only at q2 q3 q4 q5 r2 r3 r4 r5
 clear ha hb fa fb
 have HK:=Lib.hid hk
 clear hk
 rcases hc with rfl | rfl | rfl | rfl | rfl | rfl
 all_goals
  go_enter Tryz.func247,Tryz.ntmps247
  go_wp2_with fail
  generalize hW:World.alloc _ _=w1
  obtain ⟨hb,hz⟩:=al3 hW
  have b_a_1:=n31 hW
  have b_b_1:=n32 hW
  have b_r_1:=n33 hW
  have HB1:=Lib.hid hb
  clear hW hz hb
  refine (aj (t:=⟨ka,x,s,l⟩) (vs:=[_,_,_,_]) (HA.out.below HB1.out hB) (Nat.le_trans hB HB1.out.size)).mono ?_
  rintro x w2 ⟨rfl,hb⟩
  have b_a_2:=b_a_1.later hb
  have b_b_2:=b_b_1.later hb
  have b_r_2:=b_r_1.later hb
  have HB2:=Lib.hid (ae HB1.out hb)
  clear b_a_1 b_b_1 b_r_1
  clear hb
  rw [FA.out]
  have k_a:=b_a_2.cell
  have k_b:=b_b_2.cell
  have k_r:=b_r_2.cell
  go_wp2_with fail
  clear k_a k_b k_r
  refine (aj (t:=⟨kb,y,s',l'⟩) (vs:=[_,_,_,_]) (HB_.out.below HB2.out hB) (Nat.le_trans hB HB2.out.size)).mono ?_
  rintro x w3 ⟨rfl,hb⟩
  have b_a_3:=b_a_2.later hb
  have b_b_3:=b_b_2.later hb
  have b_r_3:=b_r_2.later hb
  have HB3:=Lib.hid (ae HB2.out hb)
  clear b_a_2 b_b_2 b_r_2
  clear hb
  rw [FB.out]
  have k_a:=b_a_3.cell
  have k_b:=b_b_3.cell
  have k_r:=b_r_3.cell
  go_wp2_with fail
  clear k_a k_b k_r
  refine (aP _ ka kb _).mono ?_
  rintro x w4 ⟨rfl,hb⟩
  have b_a_4:=b_a_3.later hb
  have b_b_4:=b_b_3.later hb
  have b_r_4:=b_r_3.later hb
  have HB4:=Lib.hid (ae HB3.out hb)
  clear b_a_3 b_b_3 b_r_3
  clear hb
  rw [HK.out]
  have k_a:=b_a_4.cell
  have k_b:=b_b_4.cell
  have k_r:=b_r_4.cell
  go_wp2_with fail
  clear k_a k_b k_r
  refine (cS d d' ⟨ka,x,s,l⟩ ⟨kb,y,s',l'⟩ [_,_,_,_] [_,_,_,_] B _ (HA.out.below HB4.out hB) (HB_.out.below HB4.out hB) (Nat.le_trans hB HB4.out.size)).mono ?_
  rintro x w5 ⟨rfl,hb⟩
  have b_a_5:=b_a_4.later hb
  have b_b_5:=b_b_4.later hb
  have b_r_5:=b_r_4.later hb
  have HB5:=Lib.hid (ae HB4.out hb)
  clear b_a_4 b_b_4 b_r_4
  clear hb
  have k_a:=b_a_5.cell
  have k_b:=b_b_5.cell
  have k_r:=b_r_5.cell
  go_wp2_with fail
  clear k_a k_b k_r
  refine (nx _ (aV 3 ⟨ka,x,s,l⟩ ⟨kb,y,s',l'⟩) (by omega) _).mono ?_
  rintro z0 wz ⟨rfl,rfl⟩
  have k_a:=b_a_5.cell
  have k_b:=b_b_5.cell
  have k_r:=b_r_5.cell
  go_wp2_with fail
  clear k_a k_b k_r
  refine (dY _ _).mono ?_
  rintro x w6 ⟨rfl,hb⟩
  have b_a_6:=b_a_5.later hb
  have b_b_6:=b_b_5.later hb
  have b_r_6:=b_r_5.later hb
  have HB6:=Lib.hid (ae HB5.out hb)
  clear b_a_5 b_b_5 b_r_5
  clear hb
  have k_a:=b_a_6.cell
  have k_b:=b_b_6.cell
  have k_r:=b_r_6.cell
  have f_r:=b_r_6.free
  go_wp2_with fail
  refine bodyPost_ret (am rfl rfl (put4 b_r_6 HB6.out (by omega)).1 rfl) rfl ?_
  exact ⟨rfl,(put4 b_r_6 HB6.out (by omega)).2⟩
theorem add_any {x y:Int} {s s':ByteArray} {A A':Option Addr} {n n' c c':Nat} {w:World} (hs:s.size≤140737488351232) (hs':s'.size≤140737488351232) (h:s.size+s'.size≤256) :
 Calls Tryz.prog 280 #[.agg #[.int .i64 3,.int .i64 x,.string s,.slice A n c],.agg #[.int .i64 3,.int .i64 y,.string s',.slice A' n' c']] w fun z w'=>z=bJ 3 0 (s++s') 0∧Below w.heap.size w w':=by
 have h1:(s.size:Int)+s'.size≤256:=by omega
 go_enter Tryz.func280,Tryz.ntmps280
 go_wp2_with fail
 generalize hW:World.alloc _ _=W
 obtain ⟨hb,hz⟩:=al3 hW
 have br:=n33 hW
 refine bodyPost_ret (am rfl rfl br rfl) rfl ?_
 exact ⟨rfl,hb⟩
theorem vX {x y:Int} {s s':ByteArray} {A A':Option Addr} {n n' c c':Nat} {w:World} (hs:s.size≤140737488351232) (hs':s'.size≤140737488351232) (h:¬s.size+s'.size≤256) :
 Calls Tryz.prog 280 #[.agg #[.int .i64 3,.int .i64 x,.string s,.slice A n c],.agg #[.int .i64 3,.int .i64 y,.string s',.slice A' n' c']] w fun z w'=>z=bJ 0 0 emp 4∧Below w.heap.size w w':=by
 have h1:¬(s.size:Int)+s'.size≤256:=by omega
 go_enter Tryz.func280,Tryz.ntmps280
 go_wp2_with fail
 generalize hW:World.alloc _ _=W
 obtain ⟨hb,hz⟩:=al3 hW
 have br:=n33 hW
 refine bodyPost_ret (am rfl rfl br rfl) rfl ?_
 exact ⟨rfl,hb⟩
theorem bin_add {x y:Int} {d d' B:Nat} {s s':ByteArray} {l l':List Tm} {vs ws:List Value} {w:World} (ha:RTm w B d ⟨3,x,s,l⟩ vs) (hb:RTm w B d' ⟨3,y,s',l'⟩ ws) (hB:B≤w.heap.size) (fa:af ⟨3,x,s,l⟩=true) (fb:af ⟨3,y,s',l'⟩=true) (hlen:s.size+s'.size≤256) :
 Calls Tryz.prog 247 #[.int .i64 7,.agg vs.toArray,.agg ws.toArray] w fun z w'=>z=bJ 3 0 (s++s') 0∧Below w.heap.size w w':=by
 obtain ⟨A,c,rfl,q1,q2,q3,q4,q5,_⟩:=ha.cells
 obtain ⟨A',c',rfl,r1,r2,r3,r4,r5,_⟩:=hb.cells
 have HA:=Lib.hid ha
 have HB_:=Lib.hid hb
 have FA:=Lib.hid fa
 have FB:=Lib.hid fb
 simp only at q2 q3 q4 q5 r2 r3 r4 r5
 clear ha hb fa fb
 have HK:Hid (aF 7 3 3=true):=Lib.hid (by decide)
 have HLEN:=Lib.hid hlen
 clear hlen
 go_enter Tryz.func247,Tryz.ntmps247
 go_wp2_with fail
 generalize hW:World.alloc _ _=w1
 obtain ⟨hb,hz⟩:=al3 hW
 have b_a_1:=n31 hW
 have b_b_1:=n32 hW
 have b_r_1:=n33 hW
 have HB1:=Lib.hid hb
 clear hW hz hb
 refine (aj (t:=⟨3,x,s,l⟩) (vs:=[_,_,_,_]) (HA.out.below HB1.out hB) (Nat.le_trans hB HB1.out.size)).mono ?_
 rintro x w2 ⟨rfl,hb⟩
 have b_a_2:=b_a_1.later hb
 have b_b_2:=b_b_1.later hb
 have b_r_2:=b_r_1.later hb
 have HB2:=Lib.hid (ae HB1.out hb)
 clear b_a_1 b_b_1 b_r_1
 clear hb
 rw [FA.out]
 have k_a:=b_a_2.cell
 have k_b:=b_b_2.cell
 have k_r:=b_r_2.cell
 go_wp2_with fail
 clear k_a k_b k_r
 refine (aj (t:=⟨3,y,s',l'⟩) (vs:=[_,_,_,_]) (HB_.out.below HB2.out hB) (Nat.le_trans hB HB2.out.size)).mono ?_
 rintro x w3 ⟨rfl,hb⟩
 have b_a_3:=b_a_2.later hb
 have b_b_3:=b_b_2.later hb
 have b_r_3:=b_r_2.later hb
 have HB3:=Lib.hid (ae HB2.out hb)
 clear b_a_2 b_b_2 b_r_2
 clear hb
 rw [FB.out]
 have k_a:=b_a_3.cell
 have k_b:=b_b_3.cell
 have k_r:=b_r_3.cell
 go_wp2_with fail
 clear k_a k_b k_r
 refine (aP 7 3 3 _).mono ?_
 rintro x w4 ⟨rfl,hb⟩
 have b_a_4:=b_a_3.later hb
 have b_b_4:=b_b_3.later hb
 have b_r_4:=b_r_3.later hb
 have HB4:=Lib.hid (ae HB3.out hb)
 clear b_a_3 b_b_3 b_r_3
 clear hb
 rw [HK.out]
 have k_a:=b_a_4.cell
 have k_b:=b_b_4.cell
 have k_r:=b_r_4.cell
 go_wp2_with fail
 clear k_a k_b k_r
 refine (add_any q3 r3 HLEN.out).mono ?_
 rintro x w5 ⟨rfl,hb⟩
 have b_a_5:=b_a_4.later hb
 have b_b_5:=b_b_4.later hb
 have b_r_5:=b_r_4.later hb
 have HB5:=Lib.hid (ae HB4.out hb)
 clear b_a_4 b_b_4 b_r_4
 clear hb
 have k_a:=b_a_5.cell
 have k_b:=b_b_5.cell
 have k_r:=b_r_5.cell
 have f_r:=b_r_5.free
 go_wp2_with fail
 refine bodyPost_ret (am rfl rfl (put4 b_r_5 HB5.out (by omega)).1 rfl) rfl ?_
 exact ⟨rfl,(put4 b_r_5 HB5.out (by omega)).2⟩
theorem vB {x y:Int} {d d' B:Nat} {s s':ByteArray} {l l':List Tm} {vs ws:List Value} {w:World} (ha:RTm w B d ⟨3,x,s,l⟩ vs) (hb:RTm w B d' ⟨3,y,s',l'⟩ ws) (hB:B≤w.heap.size) (fa:af ⟨3,x,s,l⟩=true) (fb:af ⟨3,y,s',l'⟩=true) (hlen:¬s.size+s'.size≤256) :
 Calls Tryz.prog 247 #[.int .i64 7,.agg vs.toArray,.agg ws.toArray] w fun z w'=>z=bJ 0 0 emp 4∧Below w.heap.size w w':=by
 obtain ⟨A,c,rfl,q1,q2,q3,q4,q5,_⟩:=ha.cells
 obtain ⟨A',c',rfl,r1,r2,r3,r4,r5,_⟩:=hb.cells
 have HA:=Lib.hid ha
 have HB_:=Lib.hid hb
 have FA:=Lib.hid fa
 have FB:=Lib.hid fb
 simp only at q2 q3 q4 q5 r2 r3 r4 r5
 clear ha hb fa fb
 have HK:Hid (aF 7 3 3=true):=Lib.hid (by decide)
 have HLEN:=Lib.hid hlen
 clear hlen
 go_enter Tryz.func247,Tryz.ntmps247
 go_wp2_with fail
 generalize hW:World.alloc _ _=w1
 obtain ⟨hb,hz⟩:=al3 hW
 have b_a_1:=n31 hW
 have b_b_1:=n32 hW
 have b_r_1:=n33 hW
 have HB1:=Lib.hid hb
 clear hW hz hb
 refine (aj (t:=⟨3,x,s,l⟩) (vs:=[_,_,_,_]) (HA.out.below HB1.out hB) (Nat.le_trans hB HB1.out.size)).mono ?_
 rintro x w2 ⟨rfl,hb⟩
 have b_a_2:=b_a_1.later hb
 have b_b_2:=b_b_1.later hb
 have b_r_2:=b_r_1.later hb
 have HB2:=Lib.hid (ae HB1.out hb)
 clear b_a_1 b_b_1 b_r_1
 clear hb
 rw [FA.out]
 have k_a:=b_a_2.cell
 have k_b:=b_b_2.cell
 have k_r:=b_r_2.cell
 go_wp2_with fail
 clear k_a k_b k_r
 refine (aj (t:=⟨3,y,s',l'⟩) (vs:=[_,_,_,_]) (HB_.out.below HB2.out hB) (Nat.le_trans hB HB2.out.size)).mono ?_
 rintro x w3 ⟨rfl,hb⟩
 have b_a_3:=b_a_2.later hb
 have b_b_3:=b_b_2.later hb
 have b_r_3:=b_r_2.later hb
 have HB3:=Lib.hid (ae HB2.out hb)
 clear b_a_2 b_b_2 b_r_2
 clear hb
 rw [FB.out]
 have k_a:=b_a_3.cell
 have k_b:=b_b_3.cell
 have k_r:=b_r_3.cell
 go_wp2_with fail
 clear k_a k_b k_r
 refine (aP 7 3 3 _).mono ?_
 rintro x w4 ⟨rfl,hb⟩
 have b_a_4:=b_a_3.later hb
 have b_b_4:=b_b_3.later hb
 have b_r_4:=b_r_3.later hb
 have HB4:=Lib.hid (ae HB3.out hb)
 clear b_a_3 b_b_3 b_r_3
 clear hb
 rw [HK.out]
 have k_a:=b_a_4.cell
 have k_b:=b_b_4.cell
 have k_r:=b_r_4.cell
 go_wp2_with fail
 clear k_a k_b k_r
 refine (vX q3 r3 HLEN.out).mono ?_
 rintro x w5 ⟨rfl,hb⟩
 have b_a_5:=b_a_4.later hb
 have b_b_5:=b_b_4.later hb
 have b_r_5:=b_r_4.later hb
 have HB5:=Lib.hid (ae HB4.out hb)
 clear b_a_4 b_b_4 b_r_4
 clear hb
 have k_a:=b_a_5.cell
 have k_b:=b_b_5.cell
 have k_r:=b_r_5.cell
 have f_r:=b_r_5.free
 go_wp2_with fail
 refine bodyPost_ret (am rfl rfl (put4 b_r_5 HB5.out (by omega)).1 rfl) rfl ?_
 exact ⟨rfl,(put4 b_r_5 HB5.out (by omega)).2⟩
theorem qQ {x y ka kb:Int} {d d' B:Nat} {s s':ByteArray} {l l':List Tm} {vs ws:List Value} {w:World} (ha:RTm w B d ⟨ka,x,s,l⟩ vs) (hb:RTm w B d' ⟨kb,y,s',l'⟩ ws) (hB:B≤w.heap.size) (fa:af ⟨ka,x,s,l⟩=true) (fb:af ⟨kb,y,s',l'⟩=true) (hk:aF 12 ka kb=true) :
 Calls Tryz.prog 247 #[.int .i64 12,.agg vs.toArray,.agg ws.toArray] w fun z w'=>z=bJ 6 (bit (Lib.hasPrefix (bs s) (bs s'))) emp 0∧Below w.heap.size w w':=by
 obtain ⟨A,c,rfl,q1,q2,q3,q4,q5,_⟩:=ha.cells
 obtain ⟨A',c',rfl,r1,r2,r3,r4,r5,_⟩:=hb.cells
 have HA:=Lib.hid ha
 have HB_:=Lib.hid hb
 have FA:=Lib.hid fa
 have FB:=Lib.hid fb
 simp only at q2 q3 q4 q5 r2 r3 r4 r5
 clear ha hb fa fb
 have HK:=Lib.hid hk
 clear hk
 go_enter Tryz.func247,Tryz.ntmps247
 go_wp2_with fail
 generalize hW:World.alloc _ _=w1
 obtain ⟨hb,hz⟩:=al3 hW
 have b_a_1:=n31 hW
 have b_b_1:=n32 hW
 have b_r_1:=n33 hW
 have HB1:=Lib.hid hb
 clear hW hz hb
 refine (aj (t:=⟨ka,x,s,l⟩) (vs:=[_,_,_,_]) (HA.out.below HB1.out hB) (Nat.le_trans hB HB1.out.size)).mono ?_
 rintro x w2 ⟨rfl,hb⟩
 have b_a_2:=b_a_1.later hb
 have b_b_2:=b_b_1.later hb
 have b_r_2:=b_r_1.later hb
 have HB2:=Lib.hid (ae HB1.out hb)
 clear b_a_1 b_b_1 b_r_1
 clear hb
 rw [FA.out]
 have k_a:=b_a_2.cell
 have k_b:=b_b_2.cell
 have k_r:=b_r_2.cell
 go_wp2_with fail
 clear k_a k_b k_r
 refine (aj (t:=⟨kb,y,s',l'⟩) (vs:=[_,_,_,_]) (HB_.out.below HB2.out hB) (Nat.le_trans hB HB2.out.size)).mono ?_
 rintro x w3 ⟨rfl,hb⟩
 have b_a_3:=b_a_2.later hb
 have b_b_3:=b_b_2.later hb
 have b_r_3:=b_r_2.later hb
 have HB3:=Lib.hid (ae HB2.out hb)
 clear b_a_2 b_b_2 b_r_2
 clear hb
 rw [FB.out]
 have k_a:=b_a_3.cell
 have k_b:=b_b_3.cell
 have k_r:=b_r_3.cell
 go_wp2_with fail
 clear k_a k_b k_r
 refine (aP 12 ka kb _).mono ?_
 rintro x w4 ⟨rfl,hb⟩
 have b_a_4:=b_a_3.later hb
 have b_b_4:=b_b_3.later hb
 have b_r_4:=b_r_3.later hb
 have HB4:=Lib.hid (ae HB3.out hb)
 clear b_a_3 b_b_3 b_r_3
 clear hb
 rw [HK.out]
 have k_a:=b_a_4.cell
 have k_b:=b_b_4.cell
 have k_r:=b_r_4.cell
 go_wp2_with fail
 clear k_a k_b k_r
 refine (Tryz.strings_HasPrefix s s' _).mono ?_
 rintro z0 wz ⟨rfl,rfl⟩
 have k_a:=b_a_4.cell
 have k_b:=b_b_4.cell
 have k_r:=b_r_4.cell
 go_wp2_with fail
 clear k_a k_b k_r
 refine (dY _ _).mono ?_
 rintro x w5 ⟨rfl,hb⟩
 have b_a_5:=b_a_4.later hb
 have b_b_5:=b_b_4.later hb
 have b_r_5:=b_r_4.later hb
 have HB5:=Lib.hid (ae HB4.out hb)
 clear b_a_4 b_b_4 b_r_4
 clear hb
 have k_a:=b_a_5.cell
 have k_b:=b_b_5.cell
 have k_r:=b_r_5.cell
 have f_r:=b_r_5.free
 go_wp2_with fail
 refine bodyPost_ret (am rfl rfl (put4 b_r_5 HB5.out (by omega)).1 rfl) rfl ?_
 exact ⟨rfl,(put4 b_r_5 HB5.out (by omega)).2⟩
theorem vU {x y ka kb:Int} {d d' B:Nat} {s s':ByteArray} {l l':List Tm} {vs ws:List Value} {w:World} (ha:RTm w B d ⟨ka,x,s,l⟩ vs) (hb:RTm w B d' ⟨kb,y,s',l'⟩ ws) (hB:B≤w.heap.size) (fa:af ⟨ka,x,s,l⟩=true) (fb:af ⟨kb,y,s',l'⟩=true) (hk:aF 13 ka kb=true) :
 Calls Tryz.prog 247 #[.int .i64 13,.agg vs.toArray,.agg ws.toArray] w fun z w'=>z=bJ 6 (bit (Lib.hasSuffix (bs s) (bs s'))) emp 0∧Below w.heap.size w w':=by
 obtain ⟨A,c,rfl,q1,q2,q3,q4,q5,_⟩:=ha.cells
 obtain ⟨A',c',rfl,r1,r2,r3,r4,r5,_⟩:=hb.cells
 have HA:=Lib.hid ha
 have HB_:=Lib.hid hb
 have FA:=Lib.hid fa
 have FB:=Lib.hid fb
 simp only at q2 q3 q4 q5 r2 r3 r4 r5
 clear ha hb fa fb
 have HK:=Lib.hid hk
 clear hk
 go_enter Tryz.func247,Tryz.ntmps247
 go_wp2_with fail
 generalize hW:World.alloc _ _=w1
 obtain ⟨hb,hz⟩:=al3 hW
 have b_a_1:=n31 hW
 have b_b_1:=n32 hW
 have b_r_1:=n33 hW
 have HB1:=Lib.hid hb
 clear hW hz hb
 refine (aj (t:=⟨ka,x,s,l⟩) (vs:=[_,_,_,_]) (HA.out.below HB1.out hB) (Nat.le_trans hB HB1.out.size)).mono ?_
 rintro x w2 ⟨rfl,hb⟩
 have b_a_2:=b_a_1.later hb
 have b_b_2:=b_b_1.later hb
 have b_r_2:=b_r_1.later hb
 have HB2:=Lib.hid (ae HB1.out hb)
 clear b_a_1 b_b_1 b_r_1
 clear hb
 rw [FA.out]
 have k_a:=b_a_2.cell
 have k_b:=b_b_2.cell
 have k_r:=b_r_2.cell
 go_wp2_with fail
 clear k_a k_b k_r
 refine (aj (t:=⟨kb,y,s',l'⟩) (vs:=[_,_,_,_]) (HB_.out.below HB2.out hB) (Nat.le_trans hB HB2.out.size)).mono ?_
 rintro x w3 ⟨rfl,hb⟩
 have b_a_3:=b_a_2.later hb
 have b_b_3:=b_b_2.later hb
 have b_r_3:=b_r_2.later hb
 have HB3:=Lib.hid (ae HB2.out hb)
 clear b_a_2 b_b_2 b_r_2
 clear hb
 rw [FB.out]
 have k_a:=b_a_3.cell
 have k_b:=b_b_3.cell
 have k_r:=b_r_3.cell
 go_wp2_with fail
 clear k_a k_b k_r
 refine (aP 13 ka kb _).mono ?_
 rintro x w4 ⟨rfl,hb⟩
 have b_a_4:=b_a_3.later hb
 have b_b_4:=b_b_3.later hb
 have b_r_4:=b_r_3.later hb
 have HB4:=Lib.hid (ae HB3.out hb)
 clear b_a_3 b_b_3 b_r_3
 clear hb
 rw [HK.out]
 have k_a:=b_a_4.cell
 have k_b:=b_b_4.cell
 have k_r:=b_r_4.cell
 go_wp2_with fail
 clear k_a k_b k_r
 refine (Tryz.strings_HasSuffix s s' _ (by omega)).mono ?_
 rintro z0 wz ⟨rfl,rfl⟩
 have k_a:=b_a_4.cell
 have k_b:=b_b_4.cell
 have k_r:=b_r_4.cell
 go_wp2_with fail
 clear k_a k_b k_r
 refine (dY _ _).mono ?_
 rintro x w5 ⟨rfl,hb⟩
 have b_a_5:=b_a_4.later hb
 have b_b_5:=b_b_4.later hb
 have b_r_5:=b_r_4.later hb
 have HB5:=Lib.hid (ae HB4.out hb)
 clear b_a_4 b_b_4 b_r_4
 clear hb
 have k_a:=b_a_5.cell
 have k_b:=b_b_5.cell
 have k_r:=b_r_5.cell
 have f_r:=b_r_5.free
 go_wp2_with fail
 refine bodyPost_ret (am rfl rfl (put4 b_r_5 HB5.out (by omega)).1 rfl) rfl ?_
 exact ⟨rfl,(put4 b_r_5 HB5.out (by omega)).2⟩
theorem jp {x y kb:Int} {s s':ByteArray} {A A':Option Addr} {n n' c c':Nat} {w:World} {m:Int} (hs:s.size≤256) (hm:w.cell? ⟨0,0,none⟩=some (.int .i64 m)) (h0:0<w.heap.size) :
 Calls Tryz.prog 281 #[.agg #[.int .i64 3,.int .i64 x,.string s,.slice A n c],.agg #[.int .i64 kb,.int .i64 y,.string s',.slice A' n' c']] w fun z w'=>z=.returned (.bool (Lib.contains (bs s) (bs s')))∧Below w.heap.size w w':=by
 have HM:=Lib.hid hm
 clear hm
 go_enter Tryz.func281,Tryz.ntmps281
 go_wp2_with fail
 generalize hW:World.alloc _ _=W
 obtain ⟨hb,hz⟩:=al2 hW
 have HB:=Lib.hid hb
 have HM2:=Lib.hid ((hb.cell (p:=⟨0,0,none⟩) h0).trans HM.out)
 clear hW hb
 refine (Tryz.strings_Contains s s' m _ (by omega) HM2.out).mono ?_
 rintro z0 wz ⟨rfl,rfl⟩
 go_wp2_with fail
 go_ret
 exact ⟨rfl,HB.out⟩
theorem od {x y:Int} {d d' B:Nat} {s s':ByteArray} {l l':List Tm} {vs ws:List Value} {w:World} (ha:RTm w B d ⟨3,x,s,l⟩ vs) (hb:RTm w B d' ⟨3,y,s',l'⟩ ws) (hB:B≤w.heap.size) (fa:af ⟨3,x,s,l⟩=true) (fb:af ⟨3,y,s',l'⟩=true) {m:Int} (hm:w.cell? ⟨0,0,none⟩=some (.int .i64 m)) (h0:0<w.heap.size) (hs:s.size≤256) :
 Calls Tryz.prog 247 #[.int .i64 11,.agg vs.toArray,.agg ws.toArray] w fun z w'=>z=bJ 6 (bit (Lib.contains (bs s) (bs s'))) emp 0∧Below w.heap.size w w':=by
 obtain ⟨A,c,rfl,q1,q2,q3,q4,q5,_⟩:=ha.cells
 obtain ⟨A',c',rfl,r1,r2,r3,r4,r5,_⟩:=hb.cells
 have HA:=Lib.hid ha
 have HB_:=Lib.hid hb
 have FA:=Lib.hid fa
 have FB:=Lib.hid fb
 simp only at q2 q3 q4 q5 r2 r3 r4 r5
 clear ha hb fa fb
 have HK:Hid (aF 11 3 3=true):=Lib.hid (by decide)
 have HM:=Lib.hid hm
 clear hm
 go_enter Tryz.func247,Tryz.ntmps247
 go_wp2_with fail
 generalize hW:World.alloc _ _=w1
 obtain ⟨hb,hz⟩:=al3 hW
 have b_a_1:=n31 hW
 have b_b_1:=n32 hW
 have b_r_1:=n33 hW
 have HB1:=Lib.hid hb
 clear hW hz hb
 refine (aj (t:=⟨3,x,s,l⟩) (vs:=[_,_,_,_]) (HA.out.below HB1.out hB) (Nat.le_trans hB HB1.out.size)).mono ?_
 rintro x w2 ⟨rfl,hb⟩
 have b_a_2:=b_a_1.later hb
 have b_b_2:=b_b_1.later hb
 have b_r_2:=b_r_1.later hb
 have HB2:=Lib.hid (ae HB1.out hb)
 clear b_a_1 b_b_1 b_r_1
 clear hb
 rw [FA.out]
 have k_a:=b_a_2.cell
 have k_b:=b_b_2.cell
 have k_r:=b_r_2.cell
 go_wp2_with fail
 clear k_a k_b k_r
 refine (aj (t:=⟨3,y,s',l'⟩) (vs:=[_,_,_,_]) (HB_.out.below HB2.out hB) (Nat.le_trans hB HB2.out.size)).mono ?_
 rintro x w3 ⟨rfl,hb⟩
 have b_a_3:=b_a_2.later hb
 have b_b_3:=b_b_2.later hb
 have b_r_3:=b_r_2.later hb
 have HB3:=Lib.hid (ae HB2.out hb)
 clear b_a_2 b_b_2 b_r_2
 clear hb
 rw [FB.out]
 have k_a:=b_a_3.cell
 have k_b:=b_b_3.cell
 have k_r:=b_r_3.cell
 go_wp2_with fail
 clear k_a k_b k_r
 refine (aP 11 3 3 _).mono ?_
 rintro x w4 ⟨rfl,hb⟩
 have b_a_4:=b_a_3.later hb
 have b_b_4:=b_b_3.later hb
 have b_r_4:=b_r_3.later hb
 have HB4:=Lib.hid (ae HB3.out hb)
 clear b_a_3 b_b_3 b_r_3
 clear hb
 rw [HK.out]
 have k_a:=b_a_4.cell
 have k_b:=b_b_4.cell
 have k_r:=b_r_4.cell
 go_wp2_with fail
 clear k_a k_b k_r
 refine (jp (m:=m) (kb:=3) hs ((HB4.out.cell (p:=⟨0,0,none⟩) h0).trans HM.out) (Nat.lt_of_lt_of_le h0 HB4.out.size)).mono ?_
 rintro x w5 ⟨rfl,hb⟩
 have b_a_5:=b_a_4.later hb
 have b_b_5:=b_b_4.later hb
 have b_r_5:=b_r_4.later hb
 have HB5:=Lib.hid (ae HB4.out hb)
 clear b_a_4 b_b_4 b_r_4
 clear hb
 have k_a:=b_a_5.cell
 have k_b:=b_b_5.cell
 have k_r:=b_r_5.cell
 go_wp2_with fail
 clear k_a k_b k_r
 refine (dY _ _).mono ?_
 rintro x w6 ⟨rfl,hb⟩
 have b_a_6:=b_a_5.later hb
 have b_b_6:=b_b_5.later hb
 have b_r_6:=b_r_5.later hb
 have HB6:=Lib.hid (ae HB5.out hb)
 clear b_a_5 b_b_5 b_r_5
 clear hb
 have k_a:=b_a_6.cell
 have k_b:=b_b_6.cell
 have k_r:=b_r_6.cell
 have f_r:=b_r_6.free
 go_wp2_with fail
 refine bodyPost_ret (am rfl rfl (put4 b_r_6 HB6.out (by omega)).1 rfl) rfl ?_
 exact ⟨rfl,(put4 b_r_6 HB6.out (by omega)).2⟩
theorem tY {x:Int} {d B:Nat} {s:ByteArray} {l:List Tm} {vs:List Value} {w:World} (ha:RTm w B d ⟨3,x,s,l⟩ vs) (hB:B≤w.heap.size) (fa:af ⟨3,x,s,l⟩=true) :
 Calls Tryz.prog 246 #[.int .i64 3,.agg vs.toArray] w fun z w'=>z=bJ 2 s.size emp 0∧Below w.heap.size w w':=by
 obtain ⟨A,c,rfl,q1,q2,q3,q4,q5,_⟩:=ha.cells
 have HA:=Lib.hid ha
 have FA:=Lib.hid fa
 simp only at q2 q3 q4 q5
 clear ha fa
 go_enter Tryz.func246,Tryz.ntmps246
 go_wp2_with fail
 generalize hW:World.alloc _ _=w1
 obtain ⟨hb,hz⟩:=al2 hW
 have b_a_1:=n21 hW
 have b_r_1:=n22 hW
 have HB1:=Lib.hid hb
 clear hW hz hb
 refine (aj (t:=⟨3,x,s,l⟩) (vs:=[_,_,_,_]) (HA.out.below HB1.out hB) (Nat.le_trans hB HB1.out.size)).mono ?_
 rintro x w2 ⟨rfl,hb⟩
 have b_a_2:=b_a_1.later hb
 have b_r_2:=b_r_1.later hb
 have HB2:=Lib.hid (ae HB1.out hb)
 clear b_a_1 b_r_1
 clear hb
 rw [FA.out]
 have k_a:=b_a_2.cell
 have k_r:=b_r_2.cell
 go_wp2_with fail
 clear k_a k_r
 refine (bl _ _).mono ?_
 rintro x w3 ⟨rfl,hb⟩
 have b_a_3:=b_a_2.later hb
 have b_r_3:=b_r_2.later hb
 have HB3:=Lib.hid (ae HB2.out hb)
 clear b_a_2 b_r_2
 clear hb
 have k_a:=b_a_3.cell
 have k_r:=b_r_3.cell
 have f_r:=b_r_3.free
 go_wp2_with fail
 refine bodyPost_ret (am rfl rfl (put4 b_r_3 HB3.out (by omega)).1 rfl) rfl ?_
 exact ⟨rfl,(put4 b_r_3 HB3.out (by omega)).2⟩
section
variable {α:Type} {c:α→α→Int}
end
def mF (a b:Tm) (t:Tm):Bool:=decide (t.kind≠dr b.l)||(decide (0<a.l.length)&&decide (t.kind≠dr a.l))
def jU (a b:Tm):Tm:=⟨7,0,jI,a.l.filter (jo b)⟩
def ft (a b:Tm):List Tm:=a.l++b.l.filter fun t=>!jo a t
def iJ (a b:Tm):Tm × Int:=if b.l.any (mF a b) then (noT,7) else if 16<(ft a b).length then (noT,4) else oS (ft a b)
def ez (a b:Tm):Bool:=if b.kind=7 then b.l.all (jo a) else jo a b
structure OkL (l:List Tm):Prop where
 rise:l.Pairwise (fun a b=>aV 3 a b<0)
 good:∀t∈l,oh (dr l) t=false
 few:l.length≤16
section
variable {A B:List Tm} (hA:OkL A) (hB:OkL B)
end
end Go.Proofs.YtdphibjibnffeaaGreat
