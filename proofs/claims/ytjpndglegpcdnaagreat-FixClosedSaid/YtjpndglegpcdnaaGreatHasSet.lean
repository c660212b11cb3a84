/- op.contains on sets. -/
import Derived.Test.YtjpndglegpcdnaaGreatHeapLaw
import Derived.Test.YtjpndglegpcdnaaGreatSet
import Derived.Test.YtjpndglegpcdnaaGreatRead2
import Derived.Test.YtjpndglegpcdnaaGreatBind
set_option linter.unusedVariables false
set_option linter.unusedSimpArgs false
set_option maxRecDepth 100000
set_option maxHeartbeats 8000000
namespace Go.Proofs.YtjpndglegpcdnaaGreat
open Go.ChangeShapes Go.WideShapes Go.ChangeAt Go.RowKit
abbrev bR (k n:Int) (s:ByteArray) (e:Int):Ending:=.returned (.tuple #[.agg #[.int .i64 k,.int .i64 n,.string s,.slice none 0 0],.int .i64 e])
abbrev emp:ByteArray:=⟨#[]⟩
theorem tc {code x y k n e:Int} {d d' B:Nat} {s s':ByteArray} {l l':List Tm} {vs ws:List Value} {w:World} (ha:RTm w B d ⟨2,x,s,l⟩ vs) (hb:RTm w B d' ⟨2,y,s',l'⟩ ws) (hB:B≤w.heap.size) (fa:af ⟨2,x,s,l⟩=true) (fb:af ⟨2,y,s',l'⟩=true) (hc:code=7∨code=8∨code=9∨code=10) (hr:ns code x y=(k,n,e)) :
 Calls Tryz.prog 189 #[.int .i64 code,.agg vs.toArray,.agg ws.toArray] w fun z w'=>z=bR k n emp e∧Below w.heap.size w w':=by
 obtain ⟨A,c,rfl,q1,q2,q3,q4,q5,_⟩:=ha.cells
 obtain ⟨A',c',rfl,r1,r2,r3,r4,r5,_⟩:=hb.cells
 have HA:=AE ha
 have HB_:=AE hb
 have FA:=AE fa
 have FB:=AE fb
 simp only at q2 q3 q4 q5 r2 r3 r4 r5
 clear ha hb fa fb
 have HR:=AE hr
 have HK:Hid (aK code 2 2=true):=AE (by rcases hc with rfl | rfl | rfl | rfl<;>decide)
 clear hr
 rcases hc with rfl | rfl | rfl | rfl
 all_goals
  go_enter Tryz.func189,Tryz.ntmps189
  go_wp2_with fail
  generalize hW:World.alloc _ _=w1
  obtain ⟨hb,hz⟩:=al3 hW
  have b_a_1:=n31 hW
  have b_b_1:=n32 hW
  have b_r_1:=n33 hW
  have HB1:=AE hb
  clear hW hz hb
  refine (aj (t:=⟨2,x,s,l⟩) (vs:=[_,_,_,_]) (HA.out.below HB1.out hB) (AF hB HB1.out.size)).mono ?_
  rintro x w2 ⟨rfl,hb⟩
  have b_a_2:=b_a_1.later hb
  have b_b_2:=b_b_1.later hb
  have b_r_2:=b_r_1.later hb
  have HB2:=AE (aa HB1.out hb)
  clear b_a_1 b_b_1 b_r_1
  clear hb
  rw [FA.out]
  have k_a:=b_a_2.cell
  have k_b:=b_b_2.cell
  have k_r:=b_r_2.cell
  go_wp2_with fail
  clear k_a k_b k_r
  refine (aj (t:=⟨2,y,s',l'⟩) (vs:=[_,_,_,_]) (HB_.out.below HB2.out hB) (AF hB HB2.out.size)).mono ?_
  rintro x w3 ⟨rfl,hb⟩
  have b_a_3:=b_a_2.later hb
  have b_b_3:=b_b_2.later hb
  have b_r_3:=b_r_2.later hb
  have HB3:=AE (aa HB2.out hb)
  clear b_a_2 b_b_2 b_r_2
  clear hb
  rw [FB.out]
  have k_a:=b_a_3.cell
  have k_b:=b_b_3.cell
  have k_r:=b_r_3.cell
  go_wp2_with fail
  clear k_a k_b k_r
  refine (aX _ 2 2 _).mono ?_
  rintro x w4 ⟨rfl,hb⟩
  have b_a_4:=b_a_3.later hb
  have b_b_4:=b_b_3.later hb
  have b_r_4:=b_r_3.later hb
  have HB4:=AE (aa HB3.out hb)
  clear b_a_3 b_b_3 b_r_3
  clear hb
  rw [HK.out]
  have k_a:=b_a_4.cell
  have k_b:=b_b_4.cell
  have k_r:=b_r_4.cell
  go_wp2_with fail
  clear k_a k_b k_r
  refine (nu _ x y k n e (by omega) q5 r5 HR.out _).mono ?_
  rintro x w5 ⟨rfl,hb⟩
  have b_a_5:=b_a_4.later hb
  have b_b_5:=b_b_4.later hb
  have b_r_5:=b_r_4.later hb
  have HB5:=AE (aa HB4.out hb)
  clear b_a_4 b_b_4 b_r_4
  clear hb
  have k_a:=b_a_5.cell
  have k_b:=b_b_5.cell
  have k_r:=b_r_5.cell
  have f_r:=b_r_5.free
  go_wp2_with fail
  refine bodyPost_ret (am rfl rfl (put4 b_r_5 HB5.out (by omega)).1 rfl) rfl ?_
  exact ⟨rfl,(put4 b_r_5 HB5.out (by omega)).2⟩
theorem bin_and {x y:Int} {d d' B:Nat} {s s':ByteArray} {l l':List Tm} {vs ws:List Value} {w:World} (ha:RTm w B d ⟨2,x,s,l⟩ vs) (hb:RTm w B d' ⟨2,y,s',l'⟩ ws) (hB:B≤w.heap.size) (fa:af ⟨2,x,s,l⟩=true) (fb:af ⟨2,y,s',l'⟩=true)  :
 Calls Tryz.prog 189 #[.int .i64 17,.agg vs.toArray,.agg ws.toArray] w fun z w'=>z=bR 2 (bits .and .i64 x y) emp 0∧Below w.heap.size w w':=by
 obtain ⟨A,c,rfl,q1,q2,q3,q4,q5,_⟩:=ha.cells
 obtain ⟨A',c',rfl,r1,r2,r3,r4,r5,_⟩:=hb.cells
 have HA:=AE ha
 have HB_:=AE hb
 have FA:=AE fa
 have FB:=AE fb
 simp only at q2 q3 q4 q5 r2 r3 r4 r5
 clear ha hb fa fb
 have HK:Hid (aK 17 2 2=true):=AE (by decide)
 go_enter Tryz.func189,Tryz.ntmps189
 go_wp2_with fail
 generalize hW:World.alloc _ _=w1
 obtain ⟨hb,hz⟩:=al3 hW
 have b_a_1:=n31 hW
 have b_b_1:=n32 hW
 have b_r_1:=n33 hW
 have HB1:=AE hb
 clear hW hz hb
 refine (aj (t:=⟨2,x,s,l⟩) (vs:=[_,_,_,_]) (HA.out.below HB1.out hB) (AF hB HB1.out.size)).mono ?_
 rintro x w2 ⟨rfl,hb⟩
 have b_a_2:=b_a_1.later hb
 have b_b_2:=b_b_1.later hb
 have b_r_2:=b_r_1.later hb
 have HB2:=AE (aa HB1.out hb)
 clear b_a_1 b_b_1 b_r_1
 clear hb
 rw [FA.out]
 have k_a:=b_a_2.cell
 have k_b:=b_b_2.cell
 have k_r:=b_r_2.cell
 go_wp2_with fail
 clear k_a k_b k_r
 refine (aj (t:=⟨2,y,s',l'⟩) (vs:=[_,_,_,_]) (HB_.out.below HB2.out hB) (AF hB HB2.out.size)).mono ?_
 rintro x w3 ⟨rfl,hb⟩
 have b_a_3:=b_a_2.later hb
 have b_b_3:=b_b_2.later hb
 have b_r_3:=b_r_2.later hb
 have HB3:=AE (aa HB2.out hb)
 clear b_a_2 b_b_2 b_r_2
 clear hb
 rw [FB.out]
 have k_a:=b_a_3.cell
 have k_b:=b_b_3.cell
 have k_r:=b_r_3.cell
 go_wp2_with fail
 clear k_a k_b k_r
 refine (aX 17 2 2 _).mono ?_
 rintro x w4 ⟨rfl,hb⟩
 have b_a_4:=b_a_3.later hb
 have b_b_4:=b_b_3.later hb
 have b_r_4:=b_r_3.later hb
 have HB4:=AE (aa HB3.out hb)
 clear b_a_3 b_b_3 b_r_3
 clear hb
 rw [HK.out]
 have k_a:=b_a_4.cell
 have k_b:=b_b_4.cell
 have k_r:=b_r_4.cell
 go_wp2_with fail
 clear k_a k_b k_r
 refine (bB _ _).mono ?_
 rintro x w5 ⟨rfl,hb⟩
 have b_a_5:=b_a_4.later hb
 have b_b_5:=b_b_4.later hb
 have b_r_5:=b_r_4.later hb
 have HB5:=AE (aa HB4.out hb)
 clear b_a_4 b_b_4 b_r_4
 clear hb
 have k_a:=b_a_5.cell
 have k_b:=b_b_5.cell
 have k_r:=b_r_5.cell
 have f_r:=b_r_5.free
 go_wp2_with fail
 refine bodyPost_ret (am rfl rfl (put4 b_r_5 HB5.out (by omega)).1 rfl) rfl ?_
 exact ⟨rfl,(put4 b_r_5 HB5.out (by omega)).2⟩
theorem bin_or {x y:Int} {d d' B:Nat} {s s':ByteArray} {l l':List Tm} {vs ws:List Value} {w:World} (ha:RTm w B d ⟨2,x,s,l⟩ vs) (hb:RTm w B d' ⟨2,y,s',l'⟩ ws) (hB:B≤w.heap.size) (fa:af ⟨2,x,s,l⟩=true) (fb:af ⟨2,y,s',l'⟩=true)  :
 Calls Tryz.prog 189 #[.int .i64 18,.agg vs.toArray,.agg ws.toArray] w fun z w'=>z=bR 2 (bits .or .i64 x y) emp 0∧Below w.heap.size w w':=by
 obtain ⟨A,c,rfl,q1,q2,q3,q4,q5,_⟩:=ha.cells
 obtain ⟨A',c',rfl,r1,r2,r3,r4,r5,_⟩:=hb.cells
 have HA:=AE ha
 have HB_:=AE hb
 have FA:=AE fa
 have FB:=AE fb
 simp only at q2 q3 q4 q5 r2 r3 r4 r5
 clear ha hb fa fb
 have HK:Hid (aK 18 2 2=true):=AE (by decide)
 go_enter Tryz.func189,Tryz.ntmps189
 go_wp2_with fail
 generalize hW:World.alloc _ _=w1
 obtain ⟨hb,hz⟩:=al3 hW
 have b_a_1:=n31 hW
 have b_b_1:=n32 hW
 have b_r_1:=n33 hW
 have HB1:=AE hb
 clear hW hz hb
 refine (aj (t:=⟨2,x,s,l⟩) (vs:=[_,_,_,_]) (HA.out.below HB1.out hB) (AF hB HB1.out.size)).mono ?_
 rintro x w2 ⟨rfl,hb⟩
 have b_a_2:=b_a_1.later hb
 have b_b_2:=b_b_1.later hb
 have b_r_2:=b_r_1.later hb
 have HB2:=AE (aa HB1.out hb)
 clear b_a_1 b_b_1 b_r_1
 clear hb
 rw [FA.out]
 have k_a:=b_a_2.cell
 have k_b:=b_b_2.cell
 have k_r:=b_r_2.cell
 go_wp2_with fail
 clear k_a k_b k_r
 refine (aj (t:=⟨2,y,s',l'⟩) (vs:=[_,_,_,_]) (HB_.out.below HB2.out hB) (AF hB HB2.out.size)).mono ?_
 rintro x w3 ⟨rfl,hb⟩
 have b_a_3:=b_a_2.later hb
 have b_b_3:=b_b_2.later hb
 have b_r_3:=b_r_2.later hb
 have HB3:=AE (aa HB2.out hb)
 clear b_a_2 b_b_2 b_r_2
 clear hb
 rw [FB.out]
 have k_a:=b_a_3.cell
 have k_b:=b_b_3.cell
 have k_r:=b_r_3.cell
 go_wp2_with fail
 clear k_a k_b k_r
 refine (aX 18 2 2 _).mono ?_
 rintro x w4 ⟨rfl,hb⟩
 have b_a_4:=b_a_3.later hb
 have b_b_4:=b_b_3.later hb
 have b_r_4:=b_r_3.later hb
 have HB4:=AE (aa HB3.out hb)
 clear b_a_3 b_b_3 b_r_3
 clear hb
 rw [HK.out]
 have k_a:=b_a_4.cell
 have k_b:=b_b_4.cell
 have k_r:=b_r_4.cell
 go_wp2_with fail
 clear k_a k_b k_r
 refine (bB _ _).mono ?_
 rintro x w5 ⟨rfl,hb⟩
 have b_a_5:=b_a_4.later hb
 have b_b_5:=b_b_4.later hb
 have b_r_5:=b_r_4.later hb
 have HB5:=AE (aa HB4.out hb)
 clear b_a_4 b_b_4 b_r_4
 clear hb
 have k_a:=b_a_5.cell
 have k_b:=b_b_5.cell
 have k_r:=b_r_5.cell
 have f_r:=b_r_5.free
 go_wp2_with fail
 refine bodyPost_ret (am rfl rfl (put4 b_r_5 HB5.out (by omega)).1 rfl) rfl ?_
 exact ⟨rfl,(put4 b_r_5 HB5.out (by omega)).2⟩
theorem bin_xor {x y:Int} {d d' B:Nat} {s s':ByteArray} {l l':List Tm} {vs ws:List Value} {w:World} (ha:RTm w B d ⟨2,x,s,l⟩ vs) (hb:RTm w B d' ⟨2,y,s',l'⟩ ws) (hB:B≤w.heap.size) (fa:af ⟨2,x,s,l⟩=true) (fb:af ⟨2,y,s',l'⟩=true)  :
 Calls Tryz.prog 189 #[.int .i64 19,.agg vs.toArray,.agg ws.toArray] w fun z w'=>z=bR 2 (bits .xor .i64 x y) emp 0∧Below w.heap.size w w':=by
 obtain ⟨A,c,rfl,q1,q2,q3,q4,q5,_⟩:=ha.cells
 obtain ⟨A',c',rfl,r1,r2,r3,r4,r5,_⟩:=hb.cells
 have HA:=AE ha
 have HB_:=AE hb
 have FA:=AE fa
 have FB:=AE fb
 simp only at q2 q3 q4 q5 r2 r3 r4 r5
 clear ha hb fa fb
 have HK:Hid (aK 19 2 2=true):=AE (by decide)
 go_enter Tryz.func189,Tryz.ntmps189
 go_wp2_with fail
 generalize hW:World.alloc _ _=w1
 obtain ⟨hb,hz⟩:=al3 hW
 have b_a_1:=n31 hW
 have b_b_1:=n32 hW
 have b_r_1:=n33 hW
 have HB1:=AE hb
 clear hW hz hb
 refine (aj (t:=⟨2,x,s,l⟩) (vs:=[_,_,_,_]) (HA.out.below HB1.out hB) (AF hB HB1.out.size)).mono ?_
 rintro x w2 ⟨rfl,hb⟩
 have b_a_2:=b_a_1.later hb
 have b_b_2:=b_b_1.later hb
 have b_r_2:=b_r_1.later hb
 have HB2:=AE (aa HB1.out hb)
 clear b_a_1 b_b_1 b_r_1
 clear hb
 rw [FA.out]
 have k_a:=b_a_2.cell
 have k_b:=b_b_2.cell
 have k_r:=b_r_2.cell
 go_wp2_with fail
 clear k_a k_b k_r
 refine (aj (t:=⟨2,y,s',l'⟩) (vs:=[_,_,_,_]) (HB_.out.below HB2.out hB) (AF hB HB2.out.size)).mono ?_
 rintro x w3 ⟨rfl,hb⟩
 have b_a_3:=b_a_2.later hb
 have b_b_3:=b_b_2.later hb
 have b_r_3:=b_r_2.later hb
 have HB3:=AE (aa HB2.out hb)
 clear b_a_2 b_b_2 b_r_2
 clear hb
 rw [FB.out]
 have k_a:=b_a_3.cell
 have k_b:=b_b_3.cell
 have k_r:=b_r_3.cell
 go_wp2_with fail
 clear k_a k_b k_r
 refine (aX 19 2 2 _).mono ?_
 rintro x w4 ⟨rfl,hb⟩
 have b_a_4:=b_a_3.later hb
 have b_b_4:=b_b_3.later hb
 have b_r_4:=b_r_3.later hb
 have HB4:=AE (aa HB3.out hb)
 clear b_a_3 b_b_3 b_r_3
 clear hb
 rw [HK.out]
 have k_a:=b_a_4.cell
 have k_b:=b_b_4.cell
 have k_r:=b_r_4.cell
 go_wp2_with fail
 clear k_a k_b k_r
 refine (bB _ _).mono ?_
 rintro x w5 ⟨rfl,hb⟩
 have b_a_5:=b_a_4.later hb
 have b_b_5:=b_b_4.later hb
 have b_r_5:=b_r_4.later hb
 have HB5:=AE (aa HB4.out hb)
 clear b_a_4 b_b_4 b_r_4
 clear hb
 have k_a:=b_a_5.cell
 have k_b:=b_b_5.cell
 have k_r:=b_r_5.cell
 have f_r:=b_r_5.free
 go_wp2_with fail
 refine bodyPost_ret (am rfl rfl (put4 b_r_5 HB5.out (by omega)).1 rfl) rfl ?_
 exact ⟨rfl,(put4 b_r_5 HB5.out (by omega)).2⟩
def yn (code c:Int):Bool:=
 if code=1 then decide (c<0) else if code=2 then decide (0<c) else if code=3 then decide (c≤0) else if code=4 then decide (0≤c) else if code=5 then decide (c=0) else decide (c≠0)
theorem pc (code c:Int) (hc:code=1∨code=2∨code=3∨code=4∨code=5∨code=6) (w:World) :
 Calls Tryz.prog 203 #[.int .i64 code,.int .i64 c] w fun e w'=>e=.returned (.bool (yn code c))∧w=w':=by
 rcases hc with rfl | rfl | rfl | rfl | rfl | rfl
 all_goals
  go_enter Tryz.func203,Tryz.ntmps203
  go_wp2_with fail
  go_ret
  refine ⟨ac ?_,rfl⟩
  rw [Bool.eq_iff_iff]
  simp [yn]
theorem qH {code x y ka kb:Int} {d d' B:Nat} {s s':ByteArray} {l l':List Tm} {vs ws:List Value} {w:World} (ha:RTm w B d ⟨ka,x,s,l⟩ vs) (hb:RTm w B d' ⟨kb,y,s',l'⟩ ws) (hB:B≤w.heap.size) (fa:af ⟨ka,x,s,l⟩=true) (fb:af ⟨kb,y,s',l'⟩=true) (hc:code=1∨code=2∨code=3∨code=4∨code=5∨code=6) (hk:aK code ka kb=true) :
 Calls Tryz.prog 189 #[.int .i64 code,.agg vs.toArray,.agg ws.toArray] w fun z w'=>z=bR 6 (bit (yn code (aV 3 ⟨ka,x,s,l⟩ ⟨kb,y,s',l'⟩))) emp 0∧Below w.heap.size w w':=by
 obtain ⟨A,c,rfl,q1,q2,q3,q4,q5,_⟩:=ha.cells
 obtain ⟨A',c',rfl,r1,r2,r3,r4,r5,_⟩:=hb.cells
 have HA:=AE ha
 have HB_:=AE hb
 have FA:=AE fa
 have FB:=AE fb
 simp only at q2 q3 q4 q5 r2 r3 r4 r5
 clear ha hb fa fb
 have HK:=AE hk
 clear hk
 rcases hc with rfl | rfl | rfl | rfl | rfl | rfl
 all_goals
  go_enter Tryz.func189,Tryz.ntmps189
  go_wp2_with fail
  generalize hW:World.alloc _ _=w1
  obtain ⟨hb,hz⟩:=al3 hW
  have b_a_1:=n31 hW
  have b_b_1:=n32 hW
  have b_r_1:=n33 hW
  have HB1:=AE hb
  clear hW hz hb
  refine (aj (t:=⟨ka,x,s,l⟩) (vs:=[_,_,_,_]) (HA.out.below HB1.out hB) (AF hB HB1.out.size)).mono ?_
  rintro x w2 ⟨rfl,hb⟩
  have b_a_2:=b_a_1.later hb
  have b_b_2:=b_b_1.later hb
  have b_r_2:=b_r_1.later hb
  have HB2:=AE (aa HB1.out hb)
  clear b_a_1 b_b_1 b_r_1
  clear hb
  rw [FA.out]
  have k_a:=b_a_2.cell
  have k_b:=b_b_2.cell
  have k_r:=b_r_2.cell
  go_wp2_with fail
  clear k_a k_b k_r
  refine (aj (t:=⟨kb,y,s',l'⟩) (vs:=[_,_,_,_]) (HB_.out.below HB2.out hB) (AF hB HB2.out.size)).mono ?_
  rintro x w3 ⟨rfl,hb⟩
  have b_a_3:=b_a_2.later hb
  have b_b_3:=b_b_2.later hb
  have b_r_3:=b_r_2.later hb
  have HB3:=AE (aa HB2.out hb)
  clear b_a_2 b_b_2 b_r_2
  clear hb
  rw [FB.out]
  have k_a:=b_a_3.cell
  have k_b:=b_b_3.cell
  have k_r:=b_r_3.cell
  go_wp2_with fail
  clear k_a k_b k_r
  refine (aX _ ka kb _).mono ?_
  rintro x w4 ⟨rfl,hb⟩
  have b_a_4:=b_a_3.later hb
  have b_b_4:=b_b_3.later hb
  have b_r_4:=b_r_3.later hb
  have HB4:=AE (aa HB3.out hb)
  clear b_a_3 b_b_3 b_r_3
  clear hb
  rw [HK.out]
  have k_a:=b_a_4.cell
  have k_b:=b_b_4.cell
  have k_r:=b_r_4.cell
  go_wp2_with fail
  clear k_a k_b k_r
  refine (dj d d' ⟨ka,x,s,l⟩ ⟨kb,y,s',l'⟩ [_,_,_,_] [_,_,_,_] B _ (HA.out.below HB4.out hB) (HB_.out.below HB4.out hB) (AF hB HB4.out.size)).mono ?_
  rintro x w5 ⟨rfl,hb⟩
  have b_a_5:=b_a_4.later hb
  have b_b_5:=b_b_4.later hb
  have b_r_5:=b_r_4.later hb
  have HB5:=AE (aa HB4.out hb)
  clear b_a_4 b_b_4 b_r_4
  clear hb
  have k_a:=b_a_5.cell
  have k_b:=b_b_5.cell
  have k_r:=b_r_5.cell
  go_wp2_with fail
  clear k_a k_b k_r
  refine (pc _ (aV 3 ⟨ka,x,s,l⟩ ⟨kb,y,s',l'⟩) (by omega) _).mono ?_
  rintro z0 wz ⟨rfl,rfl⟩
  have k_a:=b_a_5.cell
  have k_b:=b_b_5.cell
  have k_r:=b_r_5.cell
  go_wp2_with fail
  clear k_a k_b k_r
  refine (er _ _).mono ?_
  rintro x w6 ⟨rfl,hb⟩
  have b_a_6:=b_a_5.later hb
  have b_b_6:=b_b_5.later hb
  have b_r_6:=b_r_5.later hb
  have HB6:=AE (aa HB5.out hb)
  clear b_a_5 b_b_5 b_r_5
  clear hb
  have k_a:=b_a_6.cell
  have k_b:=b_b_6.cell
  have k_r:=b_r_6.cell
  have f_r:=b_r_6.free
  go_wp2_with fail
  refine bodyPost_ret (am rfl rfl (put4 b_r_6 HB6.out (by omega)).1 rfl) rfl ?_
  exact ⟨rfl,(put4 b_r_6 HB6.out (by omega)).2⟩
theorem add_any {x y:Int} {s s':ByteArray} {A A':Option Addr} {n n' c c':Nat} {w:World} (hs:s.size≤140737488351232) (hs':s'.size≤140737488351232) (h:s.size+s'.size≤256) :
 Calls Tryz.prog 197 #[.agg #[.int .i64 3,.int .i64 x,.string s,.slice A n c],.agg #[.int .i64 3,.int .i64 y,.string s',.slice A' n' c']] w fun z w'=>z=bR 3 0 (s++s') 0∧Below w.heap.size w w':=by
 have h1:(s.size:Int)+s'.size≤256:=by omega
 go_enter Tryz.func197,Tryz.ntmps197
 go_wp2_with fail
 generalize hW:World.alloc _ _=W
 obtain ⟨hb,hz⟩:=al3 hW
 have br:=n33 hW
 refine bodyPost_ret (am rfl rfl br rfl) rfl ?_
 exact ⟨rfl,hb⟩
theorem xW {x y:Int} {s s':ByteArray} {A A':Option Addr} {n n' c c':Nat} {w:World} (hs:s.size≤140737488351232) (hs':s'.size≤140737488351232) (h:¬s.size+s'.size≤256) :
 Calls Tryz.prog 197 #[.agg #[.int .i64 3,.int .i64 x,.string s,.slice A n c],.agg #[.int .i64 3,.int .i64 y,.string s',.slice A' n' c']] w fun z w'=>z=bR 0 0 emp 4∧Below w.heap.size w w':=by
 have h1:¬(s.size:Int)+s'.size≤256:=by omega
 go_enter Tryz.func197,Tryz.ntmps197
 go_wp2_with fail
 generalize hW:World.alloc _ _=W
 obtain ⟨hb,hz⟩:=al3 hW
 have br:=n33 hW
 refine bodyPost_ret (am rfl rfl br rfl) rfl ?_
 exact ⟨rfl,hb⟩
theorem bin_add {x y:Int} {d d' B:Nat} {s s':ByteArray} {l l':List Tm} {vs ws:List Value} {w:World} (ha:RTm w B d ⟨3,x,s,l⟩ vs) (hb:RTm w B d' ⟨3,y,s',l'⟩ ws) (hB:B≤w.heap.size) (fa:af ⟨3,x,s,l⟩=true) (fb:af ⟨3,y,s',l'⟩=true) (hlen:s.size+s'.size≤256) :
 Calls Tryz.prog 189 #[.int .i64 7,.agg vs.toArray,.agg ws.toArray] w fun z w'=>z=bR 3 0 (s++s') 0∧Below w.heap.size w w':=by
 obtain ⟨A,c,rfl,q1,q2,q3,q4,q5,_⟩:=ha.cells
 obtain ⟨A',c',rfl,r1,r2,r3,r4,r5,_⟩:=hb.cells
 have HA:=AE ha
 have HB_:=AE hb
 have FA:=AE fa
 have FB:=AE fb
 simp only at q2 q3 q4 q5 r2 r3 r4 r5
 clear ha hb fa fb
 have HK:Hid (aK 7 3 3=true):=AE (by decide)
 have HLEN:=AE hlen
 clear hlen
 go_enter Tryz.func189,Tryz.ntmps189
 go_wp2_with fail
 generalize hW:World.alloc _ _=w1
 obtain ⟨hb,hz⟩:=al3 hW
 have b_a_1:=n31 hW
 have b_b_1:=n32 hW
 have b_r_1:=n33 hW
 have HB1:=AE hb
 clear hW hz hb
 refine (aj (t:=⟨3,x,s,l⟩) (vs:=[_,_,_,_]) (HA.out.below HB1.out hB) (AF hB HB1.out.size)).mono ?_
 rintro x w2 ⟨rfl,hb⟩
 have b_a_2:=b_a_1.later hb
 have b_b_2:=b_b_1.later hb
 have b_r_2:=b_r_1.later hb
 have HB2:=AE (aa HB1.out hb)
 clear b_a_1 b_b_1 b_r_1
 clear hb
 rw [FA.out]
 have k_a:=b_a_2.cell
 have k_b:=b_b_2.cell
 have k_r:=b_r_2.cell
 go_wp2_with fail
 clear k_a k_b k_r
 refine (aj (t:=⟨3,y,s',l'⟩) (vs:=[_,_,_,_]) (HB_.out.below HB2.out hB) (AF hB HB2.out.size)).mono ?_
 rintro x w3 ⟨rfl,hb⟩
 have b_a_3:=b_a_2.later hb
 have b_b_3:=b_b_2.later hb
 have b_r_3:=b_r_2.later hb
 have HB3:=AE (aa HB2.out hb)
 clear b_a_2 b_b_2 b_r_2
 clear hb
 rw [FB.out]
 have k_a:=b_a_3.cell
 have k_b:=b_b_3.cell
 have k_r:=b_r_3.cell
 go_wp2_with fail
 clear k_a k_b k_r
 refine (aX 7 3 3 _).mono ?_
 rintro x w4 ⟨rfl,hb⟩
 have b_a_4:=b_a_3.later hb
 have b_b_4:=b_b_3.later hb
 have b_r_4:=b_r_3.later hb
 have HB4:=AE (aa HB3.out hb)
 clear b_a_3 b_b_3 b_r_3
 clear hb
 rw [HK.out]
 have k_a:=b_a_4.cell
 have k_b:=b_b_4.cell
 have k_r:=b_r_4.cell
 go_wp2_with fail
 clear k_a k_b k_r
 refine (add_any q3 r3 HLEN.out).mono ?_
 rintro x w5 ⟨rfl,hb⟩
 have b_a_5:=b_a_4.later hb
 have b_b_5:=b_b_4.later hb
 have b_r_5:=b_r_4.later hb
 have HB5:=AE (aa HB4.out hb)
 clear b_a_4 b_b_4 b_r_4
 clear hb
 have k_a:=b_a_5.cell
 have k_b:=b_b_5.cell
 have k_r:=b_r_5.cell
 have f_r:=b_r_5.free
 go_wp2_with fail
 refine bodyPost_ret (am rfl rfl (put4 b_r_5 HB5.out (by omega)).1 rfl) rfl ?_
 exact ⟨rfl,(put4 b_r_5 HB5.out (by omega)).2⟩
theorem yg {x y:Int} {d d' B:Nat} {s s':ByteArray} {l l':List Tm} {vs ws:List Value} {w:World} (ha:RTm w B d ⟨3,x,s,l⟩ vs) (hb:RTm w B d' ⟨3,y,s',l'⟩ ws) (hB:B≤w.heap.size) (fa:af ⟨3,x,s,l⟩=true) (fb:af ⟨3,y,s',l'⟩=true) (hlen:¬s.size+s'.size≤256) :
 Calls Tryz.prog 189 #[.int .i64 7,.agg vs.toArray,.agg ws.toArray] w fun z w'=>z=bR 0 0 emp 4∧Below w.heap.size w w':=by
 obtain ⟨A,c,rfl,q1,q2,q3,q4,q5,_⟩:=ha.cells
 obtain ⟨A',c',rfl,r1,r2,r3,r4,r5,_⟩:=hb.cells
 have HA:=AE ha
 have HB_:=AE hb
 have FA:=AE fa
 have FB:=AE fb
 simp only at q2 q3 q4 q5 r2 r3 r4 r5
 clear ha hb fa fb
 have HK:Hid (aK 7 3 3=true):=AE (by decide)
 have HLEN:=AE hlen
 clear hlen
 go_enter Tryz.func189,Tryz.ntmps189
 go_wp2_with fail
 generalize hW:World.alloc _ _=w1
 obtain ⟨hb,hz⟩:=al3 hW
 have b_a_1:=n31 hW
 have b_b_1:=n32 hW
 have b_r_1:=n33 hW
 have HB1:=AE hb
 clear hW hz hb
 refine (aj (t:=⟨3,x,s,l⟩) (vs:=[_,_,_,_]) (HA.out.below HB1.out hB) (AF hB HB1.out.size)).mono ?_
 rintro x w2 ⟨rfl,hb⟩
 have b_a_2:=b_a_1.later hb
 have b_b_2:=b_b_1.later hb
 have b_r_2:=b_r_1.later hb
 have HB2:=AE (aa HB1.out hb)
 clear b_a_1 b_b_1 b_r_1
 clear hb
 rw [FA.out]
 have k_a:=b_a_2.cell
 have k_b:=b_b_2.cell
 have k_r:=b_r_2.cell
 go_wp2_with fail
 clear k_a k_b k_r
 refine (aj (t:=⟨3,y,s',l'⟩) (vs:=[_,_,_,_]) (HB_.out.below HB2.out hB) (AF hB HB2.out.size)).mono ?_
 rintro x w3 ⟨rfl,hb⟩
 have b_a_3:=b_a_2.later hb
 have b_b_3:=b_b_2.later hb
 have b_r_3:=b_r_2.later hb
 have HB3:=AE (aa HB2.out hb)
 clear b_a_2 b_b_2 b_r_2
 clear hb
 rw [FB.out]
 have k_a:=b_a_3.cell
 have k_b:=b_b_3.cell
 have k_r:=b_r_3.cell
 go_wp2_with fail
 clear k_a k_b k_r
 refine (aX 7 3 3 _).mono ?_
 rintro x w4 ⟨rfl,hb⟩
 have b_a_4:=b_a_3.later hb
 have b_b_4:=b_b_3.later hb
 have b_r_4:=b_r_3.later hb
 have HB4:=AE (aa HB3.out hb)
 clear b_a_3 b_b_3 b_r_3
 clear hb
 rw [HK.out]
 have k_a:=b_a_4.cell
 have k_b:=b_b_4.cell
 have k_r:=b_r_4.cell
 go_wp2_with fail
 clear k_a k_b k_r
 refine (xW q3 r3 HLEN.out).mono ?_
 rintro x w5 ⟨rfl,hb⟩
 have b_a_5:=b_a_4.later hb
 have b_b_5:=b_b_4.later hb
 have b_r_5:=b_r_4.later hb
 have HB5:=AE (aa HB4.out hb)
 clear b_a_4 b_b_4 b_r_4
 clear hb
 have k_a:=b_a_5.cell
 have k_b:=b_b_5.cell
 have k_r:=b_r_5.cell
 have f_r:=b_r_5.free
 go_wp2_with fail
 refine bodyPost_ret (am rfl rfl (put4 b_r_5 HB5.out (by omega)).1 rfl) rfl ?_
 exact ⟨rfl,(put4 b_r_5 HB5.out (by omega)).2⟩
theorem td {x y ka kb:Int} {d d' B:Nat} {s s':ByteArray} {l l':List Tm} {vs ws:List Value} {w:World} (ha:RTm w B d ⟨ka,x,s,l⟩ vs) (hb:RTm w B d' ⟨kb,y,s',l'⟩ ws) (hB:B≤w.heap.size) (fa:af ⟨ka,x,s,l⟩=true) (fb:af ⟨kb,y,s',l'⟩=true) (hk:aK 12 ka kb=true) :
 Calls Tryz.prog 189 #[.int .i64 12,.agg vs.toArray,.agg ws.toArray] w fun z w'=>z=bR 6 (bit (Lib.hasPrefix (bs s) (bs s'))) emp 0∧Below w.heap.size w w':=by
 obtain ⟨A,c,rfl,q1,q2,q3,q4,q5,_⟩:=ha.cells
 obtain ⟨A',c',rfl,r1,r2,r3,r4,r5,_⟩:=hb.cells
 have HA:=AE ha
 have HB_:=AE hb
 have FA:=AE fa
 have FB:=AE fb
 simp only at q2 q3 q4 q5 r2 r3 r4 r5
 clear ha hb fa fb
 have HK:=AE hk
 clear hk
 go_enter Tryz.func189,Tryz.ntmps189
 go_wp2_with fail
 generalize hW:World.alloc _ _=w1
 obtain ⟨hb,hz⟩:=al3 hW
 have b_a_1:=n31 hW
 have b_b_1:=n32 hW
 have b_r_1:=n33 hW
 have HB1:=AE hb
 clear hW hz hb
 refine (aj (t:=⟨ka,x,s,l⟩) (vs:=[_,_,_,_]) (HA.out.below HB1.out hB) (AF hB HB1.out.size)).mono ?_
 rintro x w2 ⟨rfl,hb⟩
 have b_a_2:=b_a_1.later hb
 have b_b_2:=b_b_1.later hb
 have b_r_2:=b_r_1.later hb
 have HB2:=AE (aa HB1.out hb)
 clear b_a_1 b_b_1 b_r_1
 clear hb
 rw [FA.out]
 have k_a:=b_a_2.cell
 have k_b:=b_b_2.cell
 have k_r:=b_r_2.cell
 go_wp2_with fail
 clear k_a k_b k_r
 refine (aj (t:=⟨kb,y,s',l'⟩) (vs:=[_,_,_,_]) (HB_.out.below HB2.out hB) (AF hB HB2.out.size)).mono ?_
 rintro x w3 ⟨rfl,hb⟩
 have b_a_3:=b_a_2.later hb
 have b_b_3:=b_b_2.later hb
 have b_r_3:=b_r_2.later hb
 have HB3:=AE (aa HB2.out hb)
 clear b_a_2 b_b_2 b_r_2
 clear hb
 rw [FB.out]
 have k_a:=b_a_3.cell
 have k_b:=b_b_3.cell
 have k_r:=b_r_3.cell
 go_wp2_with fail
 clear k_a k_b k_r
 refine (aX 12 ka kb _).mono ?_
 rintro x w4 ⟨rfl,hb⟩
 have b_a_4:=b_a_3.later hb
 have b_b_4:=b_b_3.later hb
 have b_r_4:=b_r_3.later hb
 have HB4:=AE (aa HB3.out hb)
 clear b_a_3 b_b_3 b_r_3
 clear hb
 rw [HK.out]
 have k_a:=b_a_4.cell
 have k_b:=b_b_4.cell
 have k_r:=b_r_4.cell
 go_wp2_with fail
 clear k_a k_b k_r
 refine (Tryz.strings_HasPrefix s s' _).mono ?_
 rintro z0 wz ⟨rfl,rfl⟩
 have k_a:=b_a_4.cell
 have k_b:=b_b_4.cell
 have k_r:=b_r_4.cell
 go_wp2_with fail
 clear k_a k_b k_r
 refine (er _ _).mono ?_
 rintro x w5 ⟨rfl,hb⟩
 have b_a_5:=b_a_4.later hb
 have b_b_5:=b_b_4.later hb
 have b_r_5:=b_r_4.later hb
 have HB5:=AE (aa HB4.out hb)
 clear b_a_4 b_b_4 b_r_4
 clear hb
 have k_a:=b_a_5.cell
 have k_b:=b_b_5.cell
 have k_r:=b_r_5.cell
 have f_r:=b_r_5.free
 go_wp2_with fail
 refine bodyPost_ret (am rfl rfl (put4 b_r_5 HB5.out (by omega)).1 rfl) rfl ?_
 exact ⟨rfl,(put4 b_r_5 HB5.out (by omega)).2⟩
theorem yd {x y ka kb:Int} {d d' B:Nat} {s s':ByteArray} {l l':List Tm} {vs ws:List Value} {w:World} (ha:RTm w B d ⟨ka,x,s,l⟩ vs) (hb:RTm w B d' ⟨kb,y,s',l'⟩ ws) (hB:B≤w.heap.size) (fa:af ⟨ka,x,s,l⟩=true) (fb:af ⟨kb,y,s',l'⟩=true) (hk:aK 13 ka kb=true) :
 Calls Tryz.prog 189 #[.int .i64 13,.agg vs.toArray,.agg ws.toArray] w fun z w'=>z=bR 6 (bit (Lib.hasSuffix (bs s) (bs s'))) emp 0∧Below w.heap.size w w':=by
 obtain ⟨A,c,rfl,q1,q2,q3,q4,q5,_⟩:=ha.cells
 obtain ⟨A',c',rfl,r1,r2,r3,r4,r5,_⟩:=hb.cells
 have HA:=AE ha
 have HB_:=AE hb
 have FA:=AE fa
 have FB:=AE fb
 simp only at q2 q3 q4 q5 r2 r3 r4 r5
 clear ha hb fa fb
 have HK:=AE hk
 clear hk
 go_enter Tryz.func189,Tryz.ntmps189
 go_wp2_with fail
 generalize hW:World.alloc _ _=w1
 obtain ⟨hb,hz⟩:=al3 hW
 have b_a_1:=n31 hW
 have b_b_1:=n32 hW
 have b_r_1:=n33 hW
 have HB1:=AE hb
 clear hW hz hb
 refine (aj (t:=⟨ka,x,s,l⟩) (vs:=[_,_,_,_]) (HA.out.below HB1.out hB) (AF hB HB1.out.size)).mono ?_
 rintro x w2 ⟨rfl,hb⟩
 have b_a_2:=b_a_1.later hb
 have b_b_2:=b_b_1.later hb
 have b_r_2:=b_r_1.later hb
 have HB2:=AE (aa HB1.out hb)
 clear b_a_1 b_b_1 b_r_1
 clear hb
 rw [FA.out]
 have k_a:=b_a_2.cell
 have k_b:=b_b_2.cell
 have k_r:=b_r_2.cell
 go_wp2_with fail
 clear k_a k_b k_r
 refine (aj (t:=⟨kb,y,s',l'⟩) (vs:=[_,_,_,_]) (HB_.out.below HB2.out hB) (AF hB HB2.out.size)).mono ?_
 rintro x w3 ⟨rfl,hb⟩
 have b_a_3:=b_a_2.later hb
 have b_b_3:=b_b_2.later hb
 have b_r_3:=b_r_2.later hb
 have HB3:=AE (aa HB2.out hb)
 clear b_a_2 b_b_2 b_r_2
 clear hb
 rw [FB.out]
 have k_a:=b_a_3.cell
 have k_b:=b_b_3.cell
 have k_r:=b_r_3.cell
 go_wp2_with fail
 clear k_a k_b k_r
 refine (aX 13 ka kb _).mono ?_
 rintro x w4 ⟨rfl,hb⟩
 have b_a_4:=b_a_3.later hb
 have b_b_4:=b_b_3.later hb
 have b_r_4:=b_r_3.later hb
 have HB4:=AE (aa HB3.out hb)
 clear b_a_3 b_b_3 b_r_3
 clear hb
 rw [HK.out]
 have k_a:=b_a_4.cell
 have k_b:=b_b_4.cell
 have k_r:=b_r_4.cell
 go_wp2_with fail
 clear k_a k_b k_r
 refine (Tryz.strings_HasSuffix s s' _ (by omega)).mono ?_
 rintro z0 wz ⟨rfl,rfl⟩
 have k_a:=b_a_4.cell
 have k_b:=b_b_4.cell
 have k_r:=b_r_4.cell
 go_wp2_with fail
 clear k_a k_b k_r
 refine (er _ _).mono ?_
 rintro x w5 ⟨rfl,hb⟩
 have b_a_5:=b_a_4.later hb
 have b_b_5:=b_b_4.later hb
 have b_r_5:=b_r_4.later hb
 have HB5:=AE (aa HB4.out hb)
 clear b_a_4 b_b_4 b_r_4
 clear hb
 have k_a:=b_a_5.cell
 have k_b:=b_b_5.cell
 have k_r:=b_r_5.cell
 have f_r:=b_r_5.free
 go_wp2_with fail
 refine bodyPost_ret (am rfl rfl (put4 b_r_5 HB5.out (by omega)).1 rfl) rfl ?_
 exact ⟨rfl,(put4 b_r_5 HB5.out (by omega)).2⟩
theorem ku {x y kb:Int} {s s':ByteArray} {A A':Option Addr} {n n' c c':Nat} {w:World} {m:Int} (hs:s.size≤256) (hm:w.cell? ⟨0,0,none⟩=some (.int .i64 m)) (h0:0<w.heap.size) :
 Calls Tryz.prog 198 #[.agg #[.int .i64 3,.int .i64 x,.string s,.slice A n c],.agg #[.int .i64 kb,.int .i64 y,.string s',.slice A' n' c']] w fun z w'=>z=.returned (.bool (Lib.contains (bs s) (bs s')))∧Below w.heap.size w w':=by
 have HM:=AE hm
 clear hm
 go_enter Tryz.func198,Tryz.ntmps198
 go_wp2_with fail
 generalize hW:World.alloc _ _=W
 obtain ⟨hb,hz⟩:=al2 hW
 have HB:=AE hb
 have HM2:=AE ((hb.cell (p:=⟨0,0,none⟩) h0).trans HM.out)
 clear hW hb
 refine (Tryz.strings_Contains s s' m _ (by omega) HM2.out).mono ?_
 rintro z0 wz ⟨rfl,rfl⟩
 go_wp2_with fail
 go_ret
 exact ⟨rfl,HB.out⟩
theorem oN {x y:Int} {d d' B:Nat} {s s':ByteArray} {l l':List Tm} {vs ws:List Value} {w:World} (ha:RTm w B d ⟨3,x,s,l⟩ vs) (hb:RTm w B d' ⟨3,y,s',l'⟩ ws) (hB:B≤w.heap.size) (fa:af ⟨3,x,s,l⟩=true) (fb:af ⟨3,y,s',l'⟩=true) {m:Int} (hm:w.cell? ⟨0,0,none⟩=some (.int .i64 m)) (h0:0<w.heap.size) (hs:s.size≤256) :
 Calls Tryz.prog 189 #[.int .i64 11,.agg vs.toArray,.agg ws.toArray] w fun z w'=>z=bR 6 (bit (Lib.contains (bs s) (bs s'))) emp 0∧Below w.heap.size w w':=by
 obtain ⟨A,c,rfl,q1,q2,q3,q4,q5,_⟩:=ha.cells
 obtain ⟨A',c',rfl,r1,r2,r3,r4,r5,_⟩:=hb.cells
 have HA:=AE ha
 have HB_:=AE hb
 have FA:=AE fa
 have FB:=AE fb
 simp only at q2 q3 q4 q5 r2 r3 r4 r5
 clear ha hb fa fb
 have HK:Hid (aK 11 3 3=true):=AE (by decide)
 have HM:=AE hm
 clear hm
 go_enter Tryz.func189,Tryz.ntmps189
 go_wp2_with fail
 generalize hW:World.alloc _ _=w1
 obtain ⟨hb,hz⟩:=al3 hW
 have b_a_1:=n31 hW
 have b_b_1:=n32 hW
 have b_r_1:=n33 hW
 have HB1:=AE hb
 clear hW hz hb
 refine (aj (t:=⟨3,x,s,l⟩) (vs:=[_,_,_,_]) (HA.out.below HB1.out hB) (AF hB HB1.out.size)).mono ?_
 rintro x w2 ⟨rfl,hb⟩
 have b_a_2:=b_a_1.later hb
 have b_b_2:=b_b_1.later hb
 have b_r_2:=b_r_1.later hb
 have HB2:=AE (aa HB1.out hb)
 clear b_a_1 b_b_1 b_r_1
 clear hb
 rw [FA.out]
 have k_a:=b_a_2.cell
 have k_b:=b_b_2.cell
 have k_r:=b_r_2.cell
 go_wp2_with fail
 clear k_a k_b k_r
 refine (aj (t:=⟨3,y,s',l'⟩) (vs:=[_,_,_,_]) (HB_.out.below HB2.out hB) (AF hB HB2.out.size)).mono ?_
 rintro x w3 ⟨rfl,hb⟩
 have b_a_3:=b_a_2.later hb
 have b_b_3:=b_b_2.later hb
 have b_r_3:=b_r_2.later hb
 have HB3:=AE (aa HB2.out hb)
 clear b_a_2 b_b_2 b_r_2
 clear hb
 rw [FB.out]
 have k_a:=b_a_3.cell
 have k_b:=b_b_3.cell
 have k_r:=b_r_3.cell
 go_wp2_with fail
 clear k_a k_b k_r
 refine (aX 11 3 3 _).mono ?_
 rintro x w4 ⟨rfl,hb⟩
 have b_a_4:=b_a_3.later hb
 have b_b_4:=b_b_3.later hb
 have b_r_4:=b_r_3.later hb
 have HB4:=AE (aa HB3.out hb)
 clear b_a_3 b_b_3 b_r_3
 clear hb
 rw [HK.out]
 have k_a:=b_a_4.cell
 have k_b:=b_b_4.cell
 have k_r:=b_r_4.cell
 go_wp2_with fail
 clear k_a k_b k_r
 refine (ku (m:=m) (kb:=3) hs ((HB4.out.cell (p:=⟨0,0,none⟩) h0).trans HM.out) (AJ h0 HB4.out.size)).mono ?_
 rintro x w5 ⟨rfl,hb⟩
 have b_a_5:=b_a_4.later hb
 have b_b_5:=b_b_4.later hb
 have b_r_5:=b_r_4.later hb
 have HB5:=AE (aa HB4.out hb)
 clear b_a_4 b_b_4 b_r_4
 clear hb
 have k_a:=b_a_5.cell
 have k_b:=b_b_5.cell
 have k_r:=b_r_5.cell
 go_wp2_with fail
 clear k_a k_b k_r
 refine (er _ _).mono ?_
 rintro x w6 ⟨rfl,hb⟩
 have b_a_6:=b_a_5.later hb
 have b_b_6:=b_b_5.later hb
 have b_r_6:=b_r_5.later hb
 have HB6:=AE (aa HB5.out hb)
 clear b_a_5 b_b_5 b_r_5
 clear hb
 have k_a:=b_a_6.cell
 have k_b:=b_b_6.cell
 have k_r:=b_r_6.cell
 have f_r:=b_r_6.free
 go_wp2_with fail
 refine bodyPost_ret (am rfl rfl (put4 b_r_6 HB6.out (by omega)).1 rfl) rfl ?_
 exact ⟨rfl,(put4 b_r_6 HB6.out (by omega)).2⟩
theorem xF {x:Int} {d B:Nat} {s:ByteArray} {l:List Tm} {vs:List Value} {w:World} (ha:RTm w B d ⟨3,x,s,l⟩ vs) (hB:B≤w.heap.size) (fa:af ⟨3,x,s,l⟩=true) :
 Calls Tryz.prog 188 #[.int .i64 3,.agg vs.toArray] w fun z w'=>z=bR 2 s.size emp 0∧Below w.heap.size w w':=by
 obtain ⟨A,c,rfl,q1,q2,q3,q4,q5,_⟩:=ha.cells
 have HA:=AE ha
 have FA:=AE fa
 simp only at q2 q3 q4 q5
 clear ha fa
 go_enter Tryz.func188,Tryz.ntmps188
 go_wp2_with fail
 generalize hW:World.alloc _ _=w1
 obtain ⟨hb,hz⟩:=al2 hW
 have b_a_1:=n21 hW
 have b_r_1:=n22 hW
 have HB1:=AE hb
 clear hW hz hb
 refine (aj (t:=⟨3,x,s,l⟩) (vs:=[_,_,_,_]) (HA.out.below HB1.out hB) (AF hB HB1.out.size)).mono ?_
 rintro x w2 ⟨rfl,hb⟩
 have b_a_2:=b_a_1.later hb
 have b_r_2:=b_r_1.later hb
 have HB2:=AE (aa HB1.out hb)
 clear b_a_1 b_r_1
 clear hb
 rw [FA.out]
 have k_a:=b_a_2.cell
 have k_r:=b_r_2.cell
 go_wp2_with fail
 clear k_a k_r
 refine (bB _ _).mono ?_
 rintro x w3 ⟨rfl,hb⟩
 have b_a_3:=b_a_2.later hb
 have b_r_3:=b_r_2.later hb
 have HB3:=AE (aa HB2.out hb)
 clear b_a_2 b_r_2
 clear hb
 have k_a:=b_a_3.cell
 have k_r:=b_r_3.cell
 have f_r:=b_r_3.free
 go_wp2_with fail
 refine bodyPost_ret (am rfl rfl (put4 b_r_3 HB3.out (by omega)).1 rfl) rfl ?_
 exact ⟨rfl,(put4 b_r_3 HB3.out (by omega)).2⟩
section
variable {α:Type} {c:α→α→Int}
end
def oE (a b:Tm) (t:Tm):Bool:=decide (t.kind≠dJ b.l)||(decide (0<a.l.length)&&decide (t.kind≠dJ a.l))
def lM (a b:Tm):Tm:=⟨7,0,lp,a.l.filter (kx b)⟩
def gh (a b:Tm):List Tm:=a.l++b.l.filter fun t=>!kx a t
def jK (a b:Tm):Tm × Int:=if b.l.any (oE a b) then (noT,7) else if 16<(gh a b).length then (noT,4) else rM (gh a b)
def eN (a b:Tm):Bool:=if b.kind=7 then b.l.all (kx a) else kx a b
structure OkL (l:List Tm):Prop where
 rise:l.Pairwise (fun a b=>aV 3 a b<0)
 good:∀t∈l,qu (dJ l) t=false
 few:l.length≤16
section
variable {A B:List Tm} (hA:OkL A) (hB:OkL B)
end
theorem RL.one {α:Type} {R:Reader α} {w:World} {B b:Nat} {x:α} {vs:List Value} (hb:b<B) (h:R.rd w B x vs) (hc:∀j v,vs[j]? = some v→w.cell? ⟨b,j,none⟩=some v):RL R w B [x] (some ⟨b,0,none⟩):=by
 intro _
 refine ⟨b,0,rfl,hb,fun i hi=>?_⟩
 have hi0:i=0:=by simp at hi;omega
 subst hi0
 refine ⟨vs,R.len h,⟨x,rfl,h⟩,fun j v hv=>?_⟩
 have e:0+0*R.k+j=j:=by omega
 rw [e]
 exact hc j v hv
structure MeetInv (d B R O S base:Nat) (bc:Array Value) (wr:World) (out:List Tm) (A:Option Addr) (c:Nat):Prop where
 res:Blk wr R xP
 side:Blk wr S bc
 set_:Blk wr O (set4 A out.length c)
 own:aq (TmR d) 29 wr base B (.slice A out.length c) out
theorem MeetInv.later {d B R O S base c:Nat} {bc:Array Value} {w w':World} {out:List Tm} {A:Option Addr} (h:MeetInv d B R O S base bc w out A c) (hb:Below w.heap.size w w') (hB:B≤w.heap.size):MeetInv d B R O S base bc w' out A c:=
 ⟨h.res.later hb,h.side.later hb,h.set_.later hb,h.own.later hb hB⟩
theorem fg {p:Tm→Bool} {l:List Tm} {k:Nat} {x:Tm} (h:l[k]? = some x):(l.take (k+1)).filter p=(l.take k).filter p++(if p x then [x] else []):=by
 obtain ⟨hk,e⟩:=List.getElem?_eq_some_iff.1 h
 rw [List.take_succ_eq_append_getElem hk,List.filter_append,e]
 cases hp:p x<;>simp [List.filter_cons,hp]
theorem yQ {d d' B:Nat} {a b:Tm} {vs ws:List Value} {w:World} (ha:RTm w B (d+1) a vs) (hb:RTm w B (d'+1) b ws) (hB:B≤w.heap.size) (hn:a.l.length≤16) (hlf:∀x∈a.l,jv x) :
 Calls Tryz.prog 201 #[.agg vs.toArray,.agg ws.toArray] w fun e w'=>jx d w w' (lM a b,0) e:=by
 obtain ⟨i0,hi0,hz0,hz1,hz2⟩:=info_parts hJ
 have HS:=AE hb
 obtain ⟨As,cs,rfl,_⟩:=hb.cells
 obtain ⟨A,c,rfl,q1,q2,q3,q4,q5,hl⟩:=ha
 have HL:Hid (RL (TmR d) w B a.l A):=AE hl
 have HN:=AE hn
 clear hl hb hn
 go_enter Tryz.func201,Tryz.ntmps201
 go_wp2_with fail
 generalize hW:World.alloc _ _=w1
 obtain ⟨hb,hz⟩:=al4 hW
 have b_s:=n42 hW
 have b_r:=n43 hW
 have b_o:=n44 hW
 have HB1:=AE hb
 have HZ1:=AE hz
 clear hW hz hb
 have hB1:=AF hB HB1.out.size
 have HINV:=AE (show MeetInv d B (w.heap.size+2) (w.heap.size+3) (w.heap.size+1) w1.heap.size _ w1 [] none 0 from ⟨b_r,b_s,b_o,aq.nil _ _ _ _ _⟩)
 clear b_s b_r b_o
 go_loopw [13] (fun i wr=>∃(k:Nat) (A2:Option Addr) (c2:Nat),k≤a.l.length∧i=.int .i64 k∧Hid (Below w.heap.size w wr)∧w1.heap.size≤wr.heap.size∧Hid (MeetInv d B (w.heap.size+2) (w.heap.size+3) (w.heap.size+1) w1.heap.size #[.int .i64 b.kind,.int .i64 b.n,.string b.s,.slice As b.l.length cs] wr ((a.l.take k).filter (kx b)) A2 c2)) (fun i _=>a.l.length-(intOf i).toNat)
 case atStart=>exact ⟨0,none,0,AH _,rfl,HB1,AG _,HINV⟩
 case round=>
  obtain ⟨k,A2,c2,hk,rfl,HBW,hsz,HI⟩:=hrel
  have hBr:=AF hB1 hsz
  have hzw:=HZ1.out
  by_cases hlt:k<a.l.length
  ·have HLr:=AE (HL.out.keep HBW.out hB)
   obtain ⟨b_,off,rfl,hob⟩:=HLr.out.base (AI _ _) hBr (by omega)
   obtain ⟨x,vs,hx,hlen,hcell,hr⟩:=HLr.out.at_ (AI _ _) hBr hlt
   obtain ⟨Ax,cx,rfl,g1,g2,g3,g4,g5,_⟩:=RTm.cells (show RTm wr B d x vs from hr)
   have c0:wr.cell? ⟨b_,off+k*4,none⟩=some (.int .i64 x.kind):=hcell 0 _ rfl
   have c1:wr.cell? ⟨b_,off+k*4+1,none⟩=some (.int .i64 x.n):=hcell 1 _ rfl
   have c2:wr.cell? ⟨b_,off+k*4+2,none⟩=some (.string x.s):=hcell 2 _ rfl
   have c3:wr.cell? ⟨b_,off+k*4+3,none⟩=some (.slice Ax x.l.length cx):=hcell 3 _ rfl
   have HX:=AE hx
   have HR:Hid (RTm wr B d x _):=AE hr
   have kt:=HI.out.side.cell
   have lt:=HI.out.side.lt
   clear hcell hlen hx hr
   go_wp2_with fail
   generalize hW:World.alloc _ _=W
   obtain ⟨hb1,hz⟩:=al1 hW
   have bx:=n11 hW
   have HBa:=AE hb1
   have HIa:=AE (HI.out.later hb1 hBr)
   have kt3:=HIa.out.side.cell
   have hBa:=AF hBr hb1.size
   have HRa:=AE (HR.out.below hb1 hBr)
   clear hW hb1 hz c0 c1 c2 c3 kt lt
   go_wp2_with fail
   refine (lD (d:=d') (d':=d) (s:=b) (t:=x) (B:=B) (vs:=[_,_,_,_]) (ws:=[_,_,_,_]) (HS.out.below (aa HBW.out HBa.out) hB) (HRa.out) hBa).mono ?_
   rintro e w3 ⟨rfl,hb3⟩
   have HI3:=AE (HIa.out.later hb3 hBa)
   have bx3:=bx.later hb3
   have HR3:=AE (HRa.out.below hb3 hBa)
   have HB3:=AE (aa HBW.out (aa HBa.out hb3))
   have hsz3:=AF hsz (AF HBa.out.size hb3.size)
   have hB3:=AF hBa hb3.size
   clear hb3 kt3 bx
   by_cases hm:kx b x=true
   ·have HT:Hid ((a.l.take (k+1)).filter (kx b)=(a.l.take k).filter (kx b)++[x]):=AE (by rw [fg HX.out,if_pos hm])
    rw [hm]
    clear hm
    generalize hout:(a.l.take k).filter (kx b)=out at *
    have HLN:Hid (out.length≤16):=AE (by rw [←hout];exact AF (List.length_filter_le _ _) (by rw [AW];have:=HN.out;omega))
    clear hout
    have k_o:=HI3.out.set_.cell
    have k_x:=bx3.cell
    have l_o:=HI3.out.set_.lt
    have l_x:=bx3.lt
    have HOW:=AE (And.intro (HI3.out.own.later ((AI _ w3).alloc (AG _) (.cells #[.int .i64 x.kind,.int .i64 x.n,.string x.s,.slice Ax x.l.length cx] 29)) hB3) (Blk.src (R:=TmR d) (B:=B) (x:=x) (Blk.new w3 #[.int .i64 x.kind,.int .i64 x.n,.string x.s,.slice Ax x.l.length cx] 29) ((HR3.out.below ((AI _ w3).alloc (AG _) (.cells #[.int .i64 x.kind,.int .i64 x.n,.string x.s,.slice Ax x.l.length cx] 29)) hB3))))
    go_wp2_with ((
     at_builtin
     refine ar (R:=TmR d) (e:=29) (base:=w1.heap.size) (B:=B) (xs:=out) (ys:=[x]) rfl (.tmp 21) (.tmp 23) 24 rfl (bytes:=56) Tryz.underlying24 hi0 hz0 hz1 hz2 rfl (show 0<4 by omega) (ep d) rfl HOW.out.1 rfl HOW.out.2 rfl (by omega) (by have:=HLN.out;simp only [AV,List.length_nil];omega) (by omega) (by rw [World.size_alloc];omega) ?_
     intro v2 w7 hown2 hb2
     obtain ⟨A3,c3,rfl⟩:=hown2.form
     have hb3:=((AI w1.heap.size w3).alloc hsz3 (.cells #[.int .i64 x.kind,.int .i64 x.n,.string x.s,.slice Ax x.l.length cx] 29)).trans hb2
     have b_o_7:=HI3.out.set_.keep hb3 (by omega)
     have H7:=AE (And.intro hown2 hb3)
     have B7:=AE b_o_7
     have f_7:=b_o_7.free
     have k_7:=b_o_7.cell
     clear hown2 hb2 hb3 b_o_7 k_o k_x l_o l_x bx3))
    go_roundw
    case rel=>
     have hb3:=H7.out.2
     have hle:=hb3.size
     have hw1:w.heap.size+3<w1.heap.size:=by omega
     refine ⟨k+1,A3,c3,by omega,by go_num,AE ((HB3.out.trans (hb3.mono (by omega))).setCell (by show w.heap.size≤w.heap.size+3;omega) _),by simp only [World.size_setCell];omega,AE ?_⟩
     rw [HT.out]
     refine ⟨(HI3.out.res.keep hb3 (by omega)).far (by omega) _ _,(HI3.out.side.keep hb3 (by omega)).far (by omega) _ _,?_,?_⟩
     ·rw [AK];exact B7.out.set_ 3 _
     ·have h9:=H7.out.1.far (c:=w.heap.size+3) (i:=3) hw1 (by omega) (.slice A3 (out++[x]).length c3)
      first
       | exact h9
       | (simp only [AK,AV,List.length_nil,Nat.zero_add] at h9 ⊢;exact h9)
    case measure=>simp [intOf];omega
   ·simp only [Bool.not_eq_true] at hm
    have HT:Hid ((a.l.take (k+1)).filter (kx b)=(a.l.take k).filter (kx b)):=AE (by rw [fg HX.out,hm];simp)
    rw [hm]
    clear hm
    go_wp2_with fail
    go_roundw
    case rel=>exact ⟨k+1,A2,_,by omega,by go_num,HB3,hsz3,AE (by rw [HT.out];exact HI3.out)⟩
    case measure=>simp [intOf];omega
  ·have HT:Hid ((a.l.take k).filter (kx b)=(lM a b).l):=AE (by rw [List.take_of_length_le (by omega)];rfl)
   have HLN:Hid ((lM a b).l.length≤16):=AE (AF (List.length_filter_le _ _) HN.out)
   rw [HT.out] at HI
   generalize hout:(lM a b).l=out at *
   have HO:=AE hout
   clear hout
   have kO:=HI.out.set_.cell
   have kR:=HI.out.res.cell
   have fR:=HI.out.res.free
   go_wp2_with fail
   have hbr:=dA HI.out.res (.int .i64 7) (.int .i64 0) (.string ⟨#[]⟩) (.slice A2 out.length c2)
   have how:=(((HI.out.own.far (c:=w.heap.size+2) (i:=0) (by omega) (by omega) (.int .i64 7)).far (c:=w.heap.size+2) (i:=1) (by omega) (by omega) (.int .i64 0)).far (c:=w.heap.size+2) (i:=2) (by omega) (by omega) (.string ⟨#[]⟩)).far (c:=w.heap.size+2) (i:=3) (by omega) (by omega) (.slice A2 out.length c2)
   refine bodyPost_ret (am rfl rfl hbr rfl) rfl ?_
   have hlm:(lM a b).l=out:=HO.out
   have hgl:∀t∈(lM a b).l,jv t:=fun t ht=>hlf t (List.mem_filter.1 ht).1
   refine ⟨⟨A2,c2,?_,?_,by simp [I64,lM],by simp [I64,lM],by show lp.size≤_;decide,by have:=HLN.out;rw [hlm];omega⟩,cC HBW.out (by omega) _ _ _ _⟩
   ·rw [hlm];rfl
   ·rw [hlm] at hgl ⊢;exact (how.leaves hgl).lower (by omega)
theorem uM {α:Type} {l:List α} {p:α→Bool} {k:Nat} (hk:l.length≤k) (h:∀i (hi:i<k) (hi':i<l.length),p l[i]=false):l.any p=false:=by
 rw [List.any_eq_false]
 intro x hx
 obtain ⟨i,hi,rfl⟩:=List.getElem_of_mem hx
 rw [h i (by omega) hi];simp
theorem xZ {α:Type} {l:List α} {p:α→Bool} {k:Nat} {x:α} (h:l[k]? = some x) (hp:p x=true):l.any p=true:=List.any_eq_true.2 ⟨x,List.mem_of_getElem? h,hp⟩
theorem all_no {α:Type} {l:List α} {p:α→Bool} {k:Nat} {x:α} (h:l[k]? = some x) (hp:p x=false):l.all p=false:=by
 rw [Bool.eq_false_iff]
 intro h2
 rw [List.all_eq_true] at h2
 have:=h2 x (List.mem_of_getElem? h)
 rw [hp] at this;simp at this
theorem all_yes {α:Type} {l:List α} {p:α→Bool} {k:Nat} (hk:l.length≤k) (h:∀i (hi:i<k) (hi':i<l.length),p l[i]=true):l.all p=true:=by
 rw [List.all_eq_true]
 intro x hx
 obtain ⟨i,hi,rfl⟩:=List.getElem_of_mem hx
 exact h i (by omega) hi
theorem lm {d d' B:Nat} {s t:Tm} {vs ws:List Value} {w:World} (hs:RTm w B (d+1) s vs) (ht:RTm w B (d'+1) t ws) (hB:B≤w.heap.size) (h3:s.kind≠3) :
 Calls Tryz.prog 198 #[.agg vs.toArray,.agg ws.toArray] w fun e w'=>e=.returned (.bool (eN s t))∧Below w.heap.size w w':=by
 have HS:=AE hs
 have HT:=AE ht
 obtain ⟨As,cs,rfl,_⟩:=hs.cells
 obtain ⟨A,c,rfl,q1,q2,q3,q4,q5,hl⟩:=ht
 have HL:Hid (RL (TmR d') w B t.l A):=AE hl
 have hg3:(s.kind==3)=false:=by simp [h3]
 clear hl hs
 by_cases h7:t.kind=7
 ·have H7:=AE h7
  have hg:(t.kind !=7)=false:=by simp [h7]
  clear h7 h3
  go_enter Tryz.func198,Tryz.ntmps198
  go_wp2_with fail
  generalize hW:World.alloc _ _=w1
  obtain ⟨hb,hz⟩:=al2 hW
  have bs_:=n21 hW
  have bt:=n22 hW
  have HB1:=AE hb
  clear hW hz hb
  have HL1:=AE (HL.out.keep HB1.out hB)
  have hB1:=AF hB HB1.out.size
  go_loopw [26] (fun i wr=>∃k:Nat,k≤t.l.length∧i=.int .i64 k∧Below w1.heap.size w1 wr∧∀j (hj:j<k) (hj':j<t.l.length),kx s t.l[j]=true) (fun i _=>t.l.length-(intOf i).toNat)
  case atStart=>exact ⟨0,AH _,rfl,AI _ _,fun j hj=>absurd hj (by omega)⟩
  case round=>
   obtain ⟨k,hk,rfl,hbw,hall⟩:=hrel
   have HALL:=AE hall
   clear hall
   by_cases hlt:k<t.l.length
   ·obtain ⟨b,off,rfl,hob⟩:=HL1.out.base hbw hB1 (by omega)
    obtain ⟨x,vs,hx,hlen,hcell,hr⟩:=HL1.out.at_ hbw hB1 hlt
    obtain ⟨Ax,cx,rfl,g1,g2,g3,g4,g5,_⟩:=RTm.cells (show RTm wr B d' x vs from hr)
    have c0:wr.cell? ⟨b,off+k*4,none⟩=some (.int .i64 x.kind):=hcell 0 _ rfl
    have c1:wr.cell? ⟨b,off+k*4+1,none⟩=some (.int .i64 x.n):=hcell 1 _ rfl
    have c2:wr.cell? ⟨b,off+k*4+2,none⟩=some (.string x.s):=hcell 2 _ rfl
    have c3:wr.cell? ⟨b,off+k*4+3,none⟩=some (.slice Ax x.l.length cx):=hcell 3 _ rfl
    have HX:=AE hx
    have HR:Hid (RTm wr B d' x _):=AE hr
    have HBW:=AE hbw
    have bt2:=bs_.later hbw
    have hBr:B≤wr.heap.size:=AF hB1 hbw.size
    have kt:=bt2.cell
    have lt:=bt2.lt
    clear hcell hlen hx hr hbw
    go_wp2_with fail
    generalize hW:World.alloc _ _=W
    obtain ⟨hb1,hz⟩:=al1 hW
    have HBa:=AE hb1
    have bt3:=bt2.later hb1
    have kt3:=bt3.cell
    clear hW hb1 hz c0 c1 c2 c3 kt lt
    go_wp2_with fail
    refine (lD (d:=d) (d':=d') (s:=s) (t:=x) (B:=B) (vs:=[_,_,_,_]) (ws:=[_,_,_,_]) (HS.out.below (aa HB1.out (aa HBW.out HBa.out)) hB) (HR.out.below HBa.out hBr) (AF hBr HBa.out.size)).mono ?_
    rintro e w3 ⟨rfl,hb3⟩
    have HB3:=AE (aa HBW.out (aa HBa.out hb3))
    clear hb3 kt3
    by_cases hm:kx s x=true
    ·have HM:=AE hm
     rw [hm]
     clear hm
     go_wp2_with fail
     go_roundw
     case rel=>exact ⟨k+1,by omega,by go_num,HB3.out,fun j hj hj'=>by
      rcases Nat.lt_or_ge j k with h1 | h1
      ·exact HALL.out j h1 hj'
      ·obtain rfl:j=k:=by omega
       rw [(List.getElem?_eq_some_iff.1 HX.out).2];exact HM.out⟩
     case measure=>simp [intOf];omega
    ·simp only [Bool.not_eq_true] at hm
     have HM:=AE hm
     rw [hm]
     clear hm
     go_wp2_with fail
     go_ret
     refine ⟨ac ?_,aa HB1.out HB3.out⟩
     unfold eN
     rw [if_pos H7.out,all_no (p:=kx s) HX.out HM.out]
   ·go_wp2_with fail
    go_ret
    refine ⟨ac ?_,aa HB1.out hbw⟩
    unfold eN
    rw [if_pos H7.out,all_yes (p:=kx s) (show t.l.length≤k by omega) HALL.out]
 ·have hg:(t.kind !=7)=true:=by simp [h7]
  have H7:=AE h7
  clear h7 h3
  go_enter Tryz.func198,Tryz.ntmps198
  go_wp2_with fail
  generalize hW:World.alloc _ _=w1
  obtain ⟨hb,hz⟩:=al2 hW
  have HB1:=AE hb
  clear hW hz hb
  refine (lD (d:=d) (d':=d'+1) (s:=s) (t:=t) (B:=B) (vs:=[_,_,_,_]) (ws:=[_,_,_,_]) (HS.out.below HB1.out hB) (HT.out.below HB1.out hB) (AF hB HB1.out.size)).mono ?_
  rintro e w3 ⟨rfl,hb3⟩
  have HB3:=AE (aa HB1.out hb3)
  clear hb3
  go_wp2_with fail
  go_ret
  exact ⟨ac (by unfold eN;rw [if_neg H7.out]),HB3.out⟩
end Go.Proofs.YtjpndglegpcdnaaGreat
