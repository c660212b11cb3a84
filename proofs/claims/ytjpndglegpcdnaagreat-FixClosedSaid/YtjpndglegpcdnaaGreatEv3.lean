/- expr.stack's decides. -/
import Derived.Test.YtjpndglegpcdnaaGreatHasSet
import Derived.Test.YtjpndglegpcdnaaGreatMat2
import Derived.Test.YtjpndglegpcdnaaGreatMat4
import Derived.Test.YtjpndglegpcdnaaGreatPush
import Derived.Deep.RegionWith
import Derived.Deep.Cut
set_option linter.unusedVariables false
set_option linter.unusedSimpArgs false
set_option maxRecDepth 100000
set_option maxHeartbeats 8000000
namespace Go.Proofs.YtjpndglegpcdnaaGreat
open Go.ChangeShapes Go.WideShapes Go.ChangeAt Go.RowKit
def qM (b:Bool):Tm:=⟨6,bit b,emp,[]⟩
def AB (n:Int):Tm:=⟨2,n,emp,[]⟩
def recT (r:Int × Int × Int):Tm × Int:=(⟨r.1,r.2.1,emp,[]⟩,r.2.2)
def wI (p t:ByteArray):Tm × Int:=if (fW p t false).2≠0 then (noT,(fW p t false).2) else (qM (fW p t false).1,0)
def zH (code:Int) (a b:Tm):Tm × Int:=
 if af a=false∨af b=false∨code<1∨19<code then (noT,1)
 else if aK code a.kind b.kind=false then (noT,7)
 else if code=7∧a.kind=3 then (if a.s.size+b.s.size≤256 then (⟨3,0,a.s++b.s,[]⟩,0) else (noT,4))
 else if code=7∨code=8∨code=9∨code=10 then recT (ns code a.n b.n)
 else if code=11 then (qM (if a.kind=3 then Lib.contains (bs a.s) (bs b.s) else eN a b),0)
 else if code=12 then (qM (Lib.hasPrefix (bs a.s) (bs b.s)),0)
 else if code=13 then (qM (Lib.hasSuffix (bs a.s) (bs b.s)),0)
 else if code=14 then wI b.s a.s
 else if code=15 then (lM a b,0)
 else if code=16 then jK a b
 else if code=17 then (AB (bits .and .i64 a.n b.n),0)
 else if code=18 then (AB (bits .or .i64 a.n b.n),0)
 else if code=19 then (AB (bits .xor .i64 a.n b.n),0)
 else (qM (yn code (aV 3 a b)),0)
def unR (code:Int) (a:Tm):Tm × Int:=
 if af a=false∨code<1∨3<code then (noT,1)
 else if code=1∧a.kind=6 then (qM (decide (a.n=0)),0)
 else if code=2∧a.kind=2 then recT (ns 8 0 a.n)
 else if code=3∧(a.kind=3∨a.kind=5) then (AB a.s.size,0)
 else if code=3∧a.kind=7 then (AB a.l.length,0)
 else (noT,7)
theorem yb {code x y ka kb:Int} {d d' B:Nat} {s s':ByteArray} {l l':List Tm} {vs ws:List Value} {w:World} (ha:RTm w B d ⟨ka,x,s,l⟩ vs) (hb:RTm w B d' ⟨kb,y,s',l'⟩ ws) (hB:B≤w.heap.size) (fa:af ⟨ka,x,s,l⟩=false) :
 Calls Tryz.prog 189 #[.int .i64 code,.agg vs.toArray,.agg ws.toArray] w fun z w'=>z=bR 0 0 emp 1∧Below w.heap.size w w':=by
 obtain ⟨A,c,rfl,q1,q2,q3,q4,q5,_⟩:=ha.cells
 obtain ⟨A',c',rfl,r1,r2,r3,r4,r5,_⟩:=hb.cells
 have HA:=AE ha
 have HB_:=AE hb
 simp only at q2 q3 q4 q5 r2 r3 r4 r5
 clear ha hb
 have FA:=AE fa
 clear fa
 go_enter Tryz.func189,Tryz.ntmps189
 go_wp2_with fail
 generalize hW:World.alloc _ _=w1
 obtain ⟨hb,hz⟩:=al3 hW
 have b_a_1:=n31 hW
 have b_b_1:=n32 hW
 have b_r_1:=n33 hW
 have HB1:=AE hb
 clear hW hz hb
 refine (aj (t:=⟨ka,x,s,l⟩) (vs:=[_,_,_,_]) (HA.out.below HB1.out hB) (AF hB HB1.out.size)).mono ?_
 rintro x w2 ⟨rfl,hb⟩
 have b_a_2:=b_a_1.later hb
 have b_b_2:=b_b_1.later hb
 have b_r_2:=b_r_1.later hb
 have HB2:=AE (aa HB1.out hb)
 clear b_a_1 b_b_1 b_r_1
 clear hb
 rw [FA.out]
 have k_a:=b_a_2.cell
 have k_b:=b_b_2.cell
 have k_r:=b_r_2.cell
 have f_r:=b_r_2.free
 go_wp2_with fail
 refine bodyPost_ret (am rfl rfl (put4 b_r_2 HB2.out (by omega)).1 rfl) rfl ?_
 exact ⟨rfl,(put4 b_r_2 HB2.out (by omega)).2⟩
theorem yc {code x y ka kb:Int} {d d' B:Nat} {s s':ByteArray} {l l':List Tm} {vs ws:List Value} {w:World} (ha:RTm w B d ⟨ka,x,s,l⟩ vs) (hb:RTm w B d' ⟨kb,y,s',l'⟩ ws) (hB:B≤w.heap.size) (fa:af ⟨ka,x,s,l⟩=true) (fb:af ⟨kb,y,s',l'⟩=false) :
 Calls Tryz.prog 189 #[.int .i64 code,.agg vs.toArray,.agg ws.toArray] w fun z w'=>z=bR 0 0 emp 1∧Below w.heap.size w w':=by
 obtain ⟨A,c,rfl,q1,q2,q3,q4,q5,_⟩:=ha.cells
 obtain ⟨A',c',rfl,r1,r2,r3,r4,r5,_⟩:=hb.cells
 have HA:=AE ha
 have HB_:=AE hb
 simp only at q2 q3 q4 q5 r2 r3 r4 r5
 clear ha hb
 have FA:=AE fa
 have FB:=AE fb
 clear fa fb
 go_enter Tryz.func189,Tryz.ntmps189
 go_wp2_with fail
 generalize hW:World.alloc _ _=w1
 obtain ⟨hb,hz⟩:=al3 hW
 have b_a_1:=n31 hW
 have b_b_1:=n32 hW
 have b_r_1:=n33 hW
 have HB1:=AE hb
 clear hW hz hb
 refine (aj (t:=⟨ka,x,s,l⟩) (vs:=[_,_,_,_]) (HA.out.below HB1.out hB) (AF hB HB1.out.size)).mono ?_
 rintro x w2 ⟨rfl,hb⟩
 have b_a_2:=b_a_1.later hb
 have b_b_2:=b_b_1.later hb
 have b_r_2:=b_r_1.later hb
 have HB2:=AE (aa HB1.out hb)
 clear b_a_1 b_b_1 b_r_1
 clear hb
 rw [FA.out]
 have k_a:=b_a_2.cell
 have k_b:=b_b_2.cell
 have k_r:=b_r_2.cell
 go_wp2_with fail
 clear k_a k_b k_r
 refine (aj (t:=⟨kb,y,s',l'⟩) (vs:=[_,_,_,_]) (HB_.out.below HB2.out hB) (AF hB HB2.out.size)).mono ?_
 rintro x w3 ⟨rfl,hb⟩
 have b_a_3:=b_a_2.later hb
 have b_b_3:=b_b_2.later hb
 have b_r_3:=b_r_2.later hb
 have HB3:=AE (aa HB2.out hb)
 clear b_a_2 b_b_2 b_r_2
 clear hb
 rw [FB.out]
 have k_a:=b_a_3.cell
 have k_b:=b_b_3.cell
 have k_r:=b_r_3.cell
 have f_r:=b_r_3.free
 go_wp2_with fail
 refine bodyPost_ret (am rfl rfl (put4 b_r_3 HB3.out (by omega)).1 rfl) rfl ?_
 exact ⟨rfl,(put4 b_r_3 HB3.out (by omega)).2⟩
theorem bin_lo {code x y ka kb:Int} {d d' B:Nat} {s s':ByteArray} {l l':List Tm} {vs ws:List Value} {w:World} (ha:RTm w B d ⟨ka,x,s,l⟩ vs) (hb:RTm w B d' ⟨kb,y,s',l'⟩ ws) (hB:B≤w.heap.size) (fa:af ⟨ka,x,s,l⟩=true) (fb:af ⟨kb,y,s',l'⟩=true) (hc:code<1) :
 Calls Tryz.prog 189 #[.int .i64 code,.agg vs.toArray,.agg ws.toArray] w fun z w'=>z=bR 0 0 emp 1∧Below w.heap.size w w':=by
 obtain ⟨A,c,rfl,q1,q2,q3,q4,q5,_⟩:=ha.cells
 obtain ⟨A',c',rfl,r1,r2,r3,r4,r5,_⟩:=hb.cells
 have HA:=AE ha
 have HB_:=AE hb
 simp only at q2 q3 q4 q5 r2 r3 r4 r5
 clear ha hb
 have FA:=AE fa
 have FB:=AE fb
 clear fa fb
 have hq0:decide (code<1)=true:=by simp;omega
 go_enter Tryz.func189,Tryz.ntmps189
 go_wp2_with fail
 generalize hW:World.alloc _ _=w1
 obtain ⟨hb,hz⟩:=al3 hW
 have b_a_1:=n31 hW
 have b_b_1:=n32 hW
 have b_r_1:=n33 hW
 have HB1:=AE hb
 clear hW hz hb
 refine (aj (t:=⟨ka,x,s,l⟩) (vs:=[_,_,_,_]) (HA.out.below HB1.out hB) (AF hB HB1.out.size)).mono ?_
 rintro x w2 ⟨rfl,hb⟩
 have b_a_2:=b_a_1.later hb
 have b_b_2:=b_b_1.later hb
 have b_r_2:=b_r_1.later hb
 have HB2:=AE (aa HB1.out hb)
 clear b_a_1 b_b_1 b_r_1
 clear hb
 rw [FA.out]
 have k_a:=b_a_2.cell
 have k_b:=b_b_2.cell
 have k_r:=b_r_2.cell
 go_wp2_with fail
 clear k_a k_b k_r
 refine (aj (t:=⟨kb,y,s',l'⟩) (vs:=[_,_,_,_]) (HB_.out.below HB2.out hB) (AF hB HB2.out.size)).mono ?_
 rintro x w3 ⟨rfl,hb⟩
 have b_a_3:=b_a_2.later hb
 have b_b_3:=b_b_2.later hb
 have b_r_3:=b_r_2.later hb
 have HB3:=AE (aa HB2.out hb)
 clear b_a_2 b_b_2 b_r_2
 clear hb
 rw [FB.out]
 have k_a:=b_a_3.cell
 have k_b:=b_b_3.cell
 have k_r:=b_r_3.cell
 have f_r:=b_r_3.free
 go_wp2_with fail
 refine bodyPost_ret (am rfl rfl (put4 b_r_3 HB3.out (by omega)).1 rfl) rfl ?_
 exact ⟨rfl,(put4 b_r_3 HB3.out (by omega)).2⟩
theorem bin_hi {code x y ka kb:Int} {d d' B:Nat} {s s':ByteArray} {l l':List Tm} {vs ws:List Value} {w:World} (ha:RTm w B d ⟨ka,x,s,l⟩ vs) (hb:RTm w B d' ⟨kb,y,s',l'⟩ ws) (hB:B≤w.heap.size) (fa:af ⟨ka,x,s,l⟩=true) (fb:af ⟨kb,y,s',l'⟩=true) (hc:19<code) :
 Calls Tryz.prog 189 #[.int .i64 code,.agg vs.toArray,.agg ws.toArray] w fun z w'=>z=bR 0 0 emp 1∧Below w.heap.size w w':=by
 obtain ⟨A,c,rfl,q1,q2,q3,q4,q5,_⟩:=ha.cells
 obtain ⟨A',c',rfl,r1,r2,r3,r4,r5,_⟩:=hb.cells
 have HA:=AE ha
 have HB_:=AE hb
 simp only at q2 q3 q4 q5 r2 r3 r4 r5
 clear ha hb
 have FA:=AE fa
 have FB:=AE fb
 clear fa fb
 have hq0:decide (code<1)=false:=by simp;omega
 have hq1:decide (19<code)=true:=by simp;omega
 go_enter Tryz.func189,Tryz.ntmps189
 go_wp2_with fail
 generalize hW:World.alloc _ _=w1
 obtain ⟨hb,hz⟩:=al3 hW
 have b_a_1:=n31 hW
 have b_b_1:=n32 hW
 have b_r_1:=n33 hW
 have HB1:=AE hb
 clear hW hz hb
 refine (aj (t:=⟨ka,x,s,l⟩) (vs:=[_,_,_,_]) (HA.out.below HB1.out hB) (AF hB HB1.out.size)).mono ?_
 rintro x w2 ⟨rfl,hb⟩
 have b_a_2:=b_a_1.later hb
 have b_b_2:=b_b_1.later hb
 have b_r_2:=b_r_1.later hb
 have HB2:=AE (aa HB1.out hb)
 clear b_a_1 b_b_1 b_r_1
 clear hb
 rw [FA.out]
 have k_a:=b_a_2.cell
 have k_b:=b_b_2.cell
 have k_r:=b_r_2.cell
 go_wp2_with fail
 clear k_a k_b k_r
 refine (aj (t:=⟨kb,y,s',l'⟩) (vs:=[_,_,_,_]) (HB_.out.below HB2.out hB) (AF hB HB2.out.size)).mono ?_
 rintro x w3 ⟨rfl,hb⟩
 have b_a_3:=b_a_2.later hb
 have b_b_3:=b_b_2.later hb
 have b_r_3:=b_r_2.later hb
 have HB3:=AE (aa HB2.out hb)
 clear b_a_2 b_b_2 b_r_2
 clear hb
 rw [FB.out]
 have k_a:=b_a_3.cell
 have k_b:=b_b_3.cell
 have k_r:=b_r_3.cell
 have f_r:=b_r_3.free
 go_wp2_with fail
 refine bodyPost_ret (am rfl rfl (put4 b_r_3 HB3.out (by omega)).1 rfl) rfl ?_
 exact ⟨rfl,(put4 b_r_3 HB3.out (by omega)).2⟩
theorem yi {code x y ka kb:Int} {d d' B:Nat} {s s':ByteArray} {l l':List Tm} {vs ws:List Value} {w:World} (ha:RTm w B d ⟨ka,x,s,l⟩ vs) (hb:RTm w B d' ⟨kb,y,s',l'⟩ ws) (hB:B≤w.heap.size) (fa:af ⟨ka,x,s,l⟩=true) (fb:af ⟨kb,y,s',l'⟩=true) (h1:1≤code) (h2:code≤19) (hk:aK code ka kb=false) :
 Calls Tryz.prog 189 #[.int .i64 code,.agg vs.toArray,.agg ws.toArray] w fun z w'=>z=bR 0 0 emp 7∧Below w.heap.size w w':=by
 obtain ⟨A,c,rfl,q1,q2,q3,q4,q5,_⟩:=ha.cells
 obtain ⟨A',c',rfl,r1,r2,r3,r4,r5,_⟩:=hb.cells
 have HA:=AE ha
 have HB_:=AE hb
 simp only at q2 q3 q4 q5 r2 r3 r4 r5
 clear ha hb
 have FA:=AE fa
 have FB:=AE fb
 have HK:=AE hk
 have hq0:decide (code<1)=false:=by simp;omega
 have hq1:decide (19<code)=false:=by simp;omega
 clear fa fb hk
 go_enter Tryz.func189,Tryz.ntmps189
 go_wp2_with fail
 generalize hW:World.alloc _ _=w1
 obtain ⟨hb,hz⟩:=al3 hW
 have b_a_1:=n31 hW
 have b_b_1:=n32 hW
 have b_r_1:=n33 hW
 have HB1:=AE hb
 clear hW hz hb
 refine (aj (t:=⟨ka,x,s,l⟩) (vs:=[_,_,_,_]) (HA.out.below HB1.out hB) (AF hB HB1.out.size)).mono ?_
 rintro x w2 ⟨rfl,hb⟩
 have b_a_2:=b_a_1.later hb
 have b_b_2:=b_b_1.later hb
 have b_r_2:=b_r_1.later hb
 have HB2:=AE (aa HB1.out hb)
 clear b_a_1 b_b_1 b_r_1
 clear hb
 rw [FA.out]
 have k_a:=b_a_2.cell
 have k_b:=b_b_2.cell
 have k_r:=b_r_2.cell
 go_wp2_with fail
 clear k_a k_b k_r
 refine (aj (t:=⟨kb,y,s',l'⟩) (vs:=[_,_,_,_]) (HB_.out.below HB2.out hB) (AF hB HB2.out.size)).mono ?_
 rintro x w3 ⟨rfl,hb⟩
 have b_a_3:=b_a_2.later hb
 have b_b_3:=b_b_2.later hb
 have b_r_3:=b_r_2.later hb
 have HB3:=AE (aa HB2.out hb)
 clear b_a_2 b_b_2 b_r_2
 clear hb
 rw [FB.out]
 have k_a:=b_a_3.cell
 have k_b:=b_b_3.cell
 have k_r:=b_r_3.cell
 go_wp2_with fail
 clear k_a k_b k_r
 refine (aX code ka kb _).mono ?_
 rintro x w4 ⟨rfl,hb⟩
 have b_a_4:=b_a_3.later hb
 have b_b_4:=b_b_3.later hb
 have b_r_4:=b_r_3.later hb
 have HB4:=AE (aa HB3.out hb)
 clear b_a_3 b_b_3 b_r_3
 clear hb
 rw [HK.out]
 have k_a:=b_a_4.cell
 have k_b:=b_b_4.cell
 have k_r:=b_r_4.cell
 have f_r:=b_r_4.free
 go_wp2_with fail
 refine bodyPost_ret (am rfl rfl (put4 b_r_4 HB4.out (by omega)).1 rfl) rfl ?_
 exact ⟨rfl,(put4 b_r_4 HB4.out (by omega)).2⟩
theorem uY {x y:Int} {d d' B:Nat} {s s':ByteArray} {l l':List Tm} {vs ws:List Value} {w:World} (ha:RTm w B d ⟨3,x,s,l⟩ vs) (hb:RTm w B d' ⟨3,y,s',l'⟩ ws) (hB:B≤w.heap.size) (fa:af ⟨3,x,s,l⟩=true) (fb:af ⟨3,y,s',l'⟩=true) (hz:(fW s' s false).2=0) :
 Calls Tryz.prog 189 #[.int .i64 14,.agg vs.toArray,.agg ws.toArray] w fun z w'=>z=bR 6 (bit (fW s' s false).1) emp 0∧Below w.heap.size w w':=by
 obtain ⟨A,c,rfl,q1,q2,q3,q4,q5,_⟩:=ha.cells
 obtain ⟨A',c',rfl,r1,r2,r3,r4,r5,_⟩:=hb.cells
 have HA:=AE ha
 have HB_:=AE hb
 simp only at q2 q3 q4 q5 r2 r3 r4 r5
 clear ha hb
 have FA:=AE fa
 have FB:=AE fb
 have HK:Hid (aK 14 3 3=true):=AE (by decide)
 clear fa fb
 go_enter Tryz.func189,Tryz.ntmps189
 go_wp2_with fail
 generalize hW:World.alloc _ _=w1
 obtain ⟨hb,hz⟩:=al3 hW
 have b_a_1:=n31 hW
 have b_b_1:=n32 hW
 have b_r_1:=n33 hW
 have HB1:=AE hb
 clear hW hz hb
 refine (aj (t:=⟨3,x,s,l⟩) (vs:=[_,_,_,_]) (HA.out.below HB1.out hB) (AF hB HB1.out.size)).mono ?_
 rintro x w2 ⟨rfl,hb⟩
 have b_a_2:=b_a_1.later hb
 have b_b_2:=b_b_1.later hb
 have b_r_2:=b_r_1.later hb
 have HB2:=AE (aa HB1.out hb)
 clear b_a_1 b_b_1 b_r_1
 clear hb
 rw [FA.out]
 have k_a:=b_a_2.cell
 have k_b:=b_b_2.cell
 have k_r:=b_r_2.cell
 go_wp2_with fail
 clear k_a k_b k_r
 refine (aj (t:=⟨3,y,s',l'⟩) (vs:=[_,_,_,_]) (HB_.out.below HB2.out hB) (AF hB HB2.out.size)).mono ?_
 rintro x w3 ⟨rfl,hb⟩
 have b_a_3:=b_a_2.later hb
 have b_b_3:=b_b_2.later hb
 have b_r_3:=b_r_2.later hb
 have HB3:=AE (aa HB2.out hb)
 clear b_a_2 b_b_2 b_r_2
 clear hb
 rw [FB.out]
 have k_a:=b_a_3.cell
 have k_b:=b_b_3.cell
 have k_r:=b_r_3.cell
 go_wp2_with fail
 clear k_a k_b k_r
 refine (aX 14 3 3 _).mono ?_
 rintro x w4 ⟨rfl,hb⟩
 have b_a_4:=b_a_3.later hb
 have b_b_4:=b_b_3.later hb
 have b_r_4:=b_r_3.later hb
 have HB4:=AE (aa HB3.out hb)
 clear b_a_3 b_b_3 b_r_3
 clear hb
 rw [HK.out]
 have k_a:=b_a_4.cell
 have k_b:=b_b_4.cell
 have k_r:=b_r_4.cell
 go_wp2_with fail
 clear k_a k_b k_r
 refine (sj (p:=s') (t:=s) (by omega) (by omega)).mono ?_
 rintro x w5 ⟨rfl,hb⟩
 have b_a_5:=b_a_4.later hb
 have b_b_5:=b_b_4.later hb
 have b_r_5:=b_r_4.later hb
 have HB5:=AE (aa HB4.out hb)
 clear b_a_4 b_b_4 b_r_4
 clear hb
 rw [hz]
 clear hz
 have k_a:=b_a_5.cell
 have k_b:=b_b_5.cell
 have k_r:=b_r_5.cell
 go_wp2_with fail
 clear k_a k_b k_r
 refine (er _ _).mono ?_
 rintro x w6 ⟨rfl,hb⟩
 have b_a_6:=b_a_5.later hb
 have b_b_6:=b_b_5.later hb
 have b_r_6:=b_r_5.later hb
 have HB6:=AE (aa HB5.out hb)
 clear b_a_5 b_b_5 b_r_5
 clear hb
 have k_a:=b_a_6.cell
 have k_b:=b_b_6.cell
 have k_r:=b_r_6.cell
 have f_r:=b_r_6.free
 go_wp2_with fail
 refine bodyPost_ret (am rfl rfl (put4 b_r_6 HB6.out (by omega)).1 rfl) rfl ?_
 exact ⟨rfl,(put4 b_r_6 HB6.out (by omega)).2⟩
theorem qJ {x y:Int} {d d' B:Nat} {s s':ByteArray} {l l':List Tm} {vs ws:List Value} {w:World} (ha:RTm w B d ⟨3,x,s,l⟩ vs) (hb:RTm w B d' ⟨3,y,s',l'⟩ ws) (hB:B≤w.heap.size) (fa:af ⟨3,x,s,l⟩=true) (fb:af ⟨3,y,s',l'⟩=true) (hz:(fW s' s false).2≠0) :
 Calls Tryz.prog 189 #[.int .i64 14,.agg vs.toArray,.agg ws.toArray] w fun z w'=>z=bR 0 0 emp (fW s' s false).2∧Below w.heap.size w w':=by
 obtain ⟨A,c,rfl,q1,q2,q3,q4,q5,_⟩:=ha.cells
 obtain ⟨A',c',rfl,r1,r2,r3,r4,r5,_⟩:=hb.cells
 have HA:=AE ha
 have HB_:=AE hb
 simp only at q2 q3 q4 q5 r2 r3 r4 r5
 clear ha hb
 have FA:=AE fa
 have FB:=AE fb
 have HK:Hid (aK 14 3 3=true):=AE (by decide)
 clear fa fb
 go_enter Tryz.func189,Tryz.ntmps189
 go_wp2_with fail
 generalize hW:World.alloc _ _=w1
 obtain ⟨hb,hz⟩:=al3 hW
 have b_a_1:=n31 hW
 have b_b_1:=n32 hW
 have b_r_1:=n33 hW
 have HB1:=AE hb
 clear hW hz hb
 refine (aj (t:=⟨3,x,s,l⟩) (vs:=[_,_,_,_]) (HA.out.below HB1.out hB) (AF hB HB1.out.size)).mono ?_
 rintro x w2 ⟨rfl,hb⟩
 have b_a_2:=b_a_1.later hb
 have b_b_2:=b_b_1.later hb
 have b_r_2:=b_r_1.later hb
 have HB2:=AE (aa HB1.out hb)
 clear b_a_1 b_b_1 b_r_1
 clear hb
 rw [FA.out]
 have k_a:=b_a_2.cell
 have k_b:=b_b_2.cell
 have k_r:=b_r_2.cell
 go_wp2_with fail
 clear k_a k_b k_r
 refine (aj (t:=⟨3,y,s',l'⟩) (vs:=[_,_,_,_]) (HB_.out.below HB2.out hB) (AF hB HB2.out.size)).mono ?_
 rintro x w3 ⟨rfl,hb⟩
 have b_a_3:=b_a_2.later hb
 have b_b_3:=b_b_2.later hb
 have b_r_3:=b_r_2.later hb
 have HB3:=AE (aa HB2.out hb)
 clear b_a_2 b_b_2 b_r_2
 clear hb
 rw [FB.out]
 have k_a:=b_a_3.cell
 have k_b:=b_b_3.cell
 have k_r:=b_r_3.cell
 go_wp2_with fail
 clear k_a k_b k_r
 refine (aX 14 3 3 _).mono ?_
 rintro x w4 ⟨rfl,hb⟩
 have b_a_4:=b_a_3.later hb
 have b_b_4:=b_b_3.later hb
 have b_r_4:=b_r_3.later hb
 have HB4:=AE (aa HB3.out hb)
 clear b_a_3 b_b_3 b_r_3
 clear hb
 rw [HK.out]
 have k_a:=b_a_4.cell
 have k_b:=b_b_4.cell
 have k_r:=b_r_4.cell
 go_wp2_with fail
 clear k_a k_b k_r
 refine (sj (p:=s') (t:=s) (by omega) (by omega)).mono ?_
 rintro x w5 ⟨rfl,hb⟩
 have b_a_5:=b_a_4.later hb
 have b_b_5:=b_b_4.later hb
 have b_r_5:=b_r_4.later hb
 have HB5:=AE (aa HB4.out hb)
 clear b_a_4 b_b_4 b_r_4
 clear hb
 have hq:(((fW s' s false).2:Int) !=0)=true:=by simpa using hz
 clear hz
 have k_a:=b_a_5.cell
 have k_b:=b_b_5.cell
 have k_r:=b_r_5.cell
 have f_r:=b_r_5.free
 go_wp2_with fail
 refine bodyPost_ret (am rfl rfl (put4 b_r_5 HB5.out (by omega)).1 rfl) rfl ?_
 exact ⟨rfl,(put4 b_r_5 HB5.out (by omega)).2⟩
theorem un_bad {code x ka:Int} {d B:Nat} {s:ByteArray} {l:List Tm} {vs:List Value} {w:World} (ha:RTm w B d ⟨ka,x,s,l⟩ vs) (hB:B≤w.heap.size) (fa:af ⟨ka,x,s,l⟩=false) :
 Calls Tryz.prog 188 #[.int .i64 code,.agg vs.toArray] w fun z w'=>z=bR 0 0 emp 1∧Below w.heap.size w w':=by
 obtain ⟨A,c,rfl,q1,q2,q3,q4,q5,_⟩:=ha.cells
 have HA:=AE ha
 simp only at q2 q3 q4 q5
 clear ha
 have FA:=AE fa
 clear fa
 go_enter Tryz.func188,Tryz.ntmps188
 go_wp2_with fail
 generalize hW:World.alloc _ _=w1
 obtain ⟨hb,hz⟩:=al2 hW
 have b_a_1:=n21 hW
 have b_r_1:=n22 hW
 have HB1:=AE hb
 clear hW hz hb
 refine (aj (t:=⟨ka,x,s,l⟩) (vs:=[_,_,_,_]) (HA.out.below HB1.out hB) (AF hB HB1.out.size)).mono ?_
 rintro x w2 ⟨rfl,hb⟩
 have b_a_2:=b_a_1.later hb
 have b_r_2:=b_r_1.later hb
 have HB2:=AE (aa HB1.out hb)
 clear b_a_1 b_r_1
 clear hb
 rw [FA.out]
 have k_a:=b_a_2.cell
 have k_r:=b_r_2.cell
 have f_r:=b_r_2.free
 go_wp2_with fail
 refine bodyPost_ret (am rfl rfl (put4 b_r_2 HB2.out (by omega)).1 rfl) rfl ?_
 exact ⟨rfl,(put4 b_r_2 HB2.out (by omega)).2⟩
theorem un_lo {code x ka:Int} {d B:Nat} {s:ByteArray} {l:List Tm} {vs:List Value} {w:World} (ha:RTm w B d ⟨ka,x,s,l⟩ vs) (hB:B≤w.heap.size) (fa:af ⟨ka,x,s,l⟩=true) (hc:code<1) :
 Calls Tryz.prog 188 #[.int .i64 code,.agg vs.toArray] w fun z w'=>z=bR 0 0 emp 1∧Below w.heap.size w w':=by
 obtain ⟨A,c,rfl,q1,q2,q3,q4,q5,_⟩:=ha.cells
 have HA:=AE ha
 simp only at q2 q3 q4 q5
 clear ha
 have FA:=AE fa
 clear fa
 have hq0:decide (code<1)=true:=by simp;omega
 go_enter Tryz.func188,Tryz.ntmps188
 go_wp2_with fail
 generalize hW:World.alloc _ _=w1
 obtain ⟨hb,hz⟩:=al2 hW
 have b_a_1:=n21 hW
 have b_r_1:=n22 hW
 have HB1:=AE hb
 clear hW hz hb
 refine (aj (t:=⟨ka,x,s,l⟩) (vs:=[_,_,_,_]) (HA.out.below HB1.out hB) (AF hB HB1.out.size)).mono ?_
 rintro x w2 ⟨rfl,hb⟩
 have b_a_2:=b_a_1.later hb
 have b_r_2:=b_r_1.later hb
 have HB2:=AE (aa HB1.out hb)
 clear b_a_1 b_r_1
 clear hb
 rw [FA.out]
 have k_a:=b_a_2.cell
 have k_r:=b_r_2.cell
 have f_r:=b_r_2.free
 go_wp2_with fail
 refine bodyPost_ret (am rfl rfl (put4 b_r_2 HB2.out (by omega)).1 rfl) rfl ?_
 exact ⟨rfl,(put4 b_r_2 HB2.out (by omega)).2⟩
theorem un_hi {code x ka:Int} {d B:Nat} {s:ByteArray} {l:List Tm} {vs:List Value} {w:World} (ha:RTm w B d ⟨ka,x,s,l⟩ vs) (hB:B≤w.heap.size) (fa:af ⟨ka,x,s,l⟩=true) (hc:3<code) :
 Calls Tryz.prog 188 #[.int .i64 code,.agg vs.toArray] w fun z w'=>z=bR 0 0 emp 1∧Below w.heap.size w w':=by
 obtain ⟨A,c,rfl,q1,q2,q3,q4,q5,_⟩:=ha.cells
 have HA:=AE ha
 simp only at q2 q3 q4 q5
 clear ha
 have FA:=AE fa
 clear fa
 have hq0:decide (code<1)=false:=by simp;omega
 have hq1:decide (3<code)=true:=by simp;omega
 go_enter Tryz.func188,Tryz.ntmps188
 go_wp2_with fail
 generalize hW:World.alloc _ _=w1
 obtain ⟨hb,hz⟩:=al2 hW
 have b_a_1:=n21 hW
 have b_r_1:=n22 hW
 have HB1:=AE hb
 clear hW hz hb
 refine (aj (t:=⟨ka,x,s,l⟩) (vs:=[_,_,_,_]) (HA.out.below HB1.out hB) (AF hB HB1.out.size)).mono ?_
 rintro x w2 ⟨rfl,hb⟩
 have b_a_2:=b_a_1.later hb
 have b_r_2:=b_r_1.later hb
 have HB2:=AE (aa HB1.out hb)
 clear b_a_1 b_r_1
 clear hb
 rw [FA.out]
 have k_a:=b_a_2.cell
 have k_r:=b_r_2.cell
 have f_r:=b_r_2.free
 go_wp2_with fail
 refine bodyPost_ret (am rfl rfl (put4 b_r_2 HB2.out (by omega)).1 rfl) rfl ?_
 exact ⟨rfl,(put4 b_r_2 HB2.out (by omega)).2⟩
theorem un_not {x:Int} {d B:Nat} {s:ByteArray} {l:List Tm} {vs:List Value} {w:World} (ha:RTm w B d ⟨6,x,s,l⟩ vs) (hB:B≤w.heap.size) (fa:af ⟨6,x,s,l⟩=true) :
 Calls Tryz.prog 188 #[.int .i64 1,.agg vs.toArray] w fun z w'=>z=bR 6 (bit (decide (x=0))) emp 0∧Below w.heap.size w w':=by
 obtain ⟨A,c,rfl,q1,q2,q3,q4,q5,_⟩:=ha.cells
 have HA:=AE ha
 simp only at q2 q3 q4 q5
 clear ha
 have FA:=AE fa
 have HD:Hid ((x==0)=decide (x=0)):=AE (by rw [Bool.eq_iff_iff];simp)
 clear fa
 go_enter Tryz.func188,Tryz.ntmps188
 go_wp2_with fail
 generalize hW:World.alloc _ _=w1
 obtain ⟨hb,hz⟩:=al2 hW
 have b_a_1:=n21 hW
 have b_r_1:=n22 hW
 have HB1:=AE hb
 clear hW hz hb
 refine (aj (t:=⟨6,x,s,l⟩) (vs:=[_,_,_,_]) (HA.out.below HB1.out hB) (AF hB HB1.out.size)).mono ?_
 rintro x w2 ⟨rfl,hb⟩
 have b_a_2:=b_a_1.later hb
 have b_r_2:=b_r_1.later hb
 have HB2:=AE (aa HB1.out hb)
 clear b_a_1 b_r_1
 clear hb
 rw [FA.out]
 have k_a:=b_a_2.cell
 have k_r:=b_r_2.cell
 go_wp2_with fail
 clear k_a k_r
 rw [HD.out]
 refine (er _ _).mono ?_
 rintro x w3 ⟨rfl,hb⟩
 have b_a_3:=b_a_2.later hb
 have b_r_3:=b_r_2.later hb
 have HB3:=AE (aa HB2.out hb)
 clear b_a_2 b_r_2
 clear hb
 have k_a:=b_a_3.cell
 have k_r:=b_r_3.cell
 have f_r:=b_r_3.free
 go_wp2_with fail
 refine bodyPost_ret (am rfl rfl (put4 b_r_3 HB3.out (by omega)).1 rfl) rfl ?_
 exact ⟨rfl,(put4 b_r_3 HB3.out (by omega)).2⟩
theorem un_neg {x:Int} {d B:Nat} {s:ByteArray} {l:List Tm} {vs:List Value} {w:World} (ha:RTm w B d ⟨2,x,s,l⟩ vs) (hB:B≤w.heap.size) (fa:af ⟨2,x,s,l⟩=true) {k n e:Int} (hr:ns 8 0 x=(k,n,e)) :
 Calls Tryz.prog 188 #[.int .i64 2,.agg vs.toArray] w fun z w'=>z=bR k n emp e∧Below w.heap.size w w':=by
 obtain ⟨A,c,rfl,q1,q2,q3,q4,q5,_⟩:=ha.cells
 have HA:=AE ha
 simp only at q2 q3 q4 q5
 clear ha
 have FA:=AE fa
 have HR:=AE hr
 clear fa hr
 go_enter Tryz.func188,Tryz.ntmps188
 go_wp2_with fail
 generalize hW:World.alloc _ _=w1
 obtain ⟨hb,hz⟩:=al2 hW
 have b_a_1:=n21 hW
 have b_r_1:=n22 hW
 have HB1:=AE hb
 clear hW hz hb
 refine (aj (t:=⟨2,x,s,l⟩) (vs:=[_,_,_,_]) (HA.out.below HB1.out hB) (AF hB HB1.out.size)).mono ?_
 rintro x w2 ⟨rfl,hb⟩
 have b_a_2:=b_a_1.later hb
 have b_r_2:=b_r_1.later hb
 have HB2:=AE (aa HB1.out hb)
 clear b_a_1 b_r_1
 clear hb
 rw [FA.out]
 have k_a:=b_a_2.cell
 have k_r:=b_r_2.cell
 go_wp2_with fail
 clear k_a k_r
 refine (nu 8 0 x k n e (by omega) (by unfold I64;omega) q5 HR.out _).mono ?_
 rintro x w3 ⟨rfl,hb⟩
 have b_a_3:=b_a_2.later hb
 have b_r_3:=b_r_2.later hb
 have HB3:=AE (aa HB2.out hb)
 clear b_a_2 b_r_2
 clear hb
 have k_a:=b_a_3.cell
 have k_r:=b_r_3.cell
 have f_r:=b_r_3.free
 go_wp2_with fail
 refine bodyPost_ret (am rfl rfl (put4 b_r_3 HB3.out (by omega)).1 rfl) rfl ?_
 exact ⟨rfl,(put4 b_r_3 HB3.out (by omega)).2⟩
theorem un_len5 {x:Int} {d B:Nat} {s:ByteArray} {l:List Tm} {vs:List Value} {w:World} (ha:RTm w B d ⟨5,x,s,l⟩ vs) (hB:B≤w.heap.size) (fa:af ⟨5,x,s,l⟩=true) :
 Calls Tryz.prog 188 #[.int .i64 3,.agg vs.toArray] w fun z w'=>z=bR 2 s.size emp 0∧Below w.heap.size w w':=by
 obtain ⟨A,c,rfl,q1,q2,q3,q4,q5,_⟩:=ha.cells
 have HA:=AE ha
 simp only at q2 q3 q4 q5
 clear ha
 have FA:=AE fa
 clear fa
 go_enter Tryz.func188,Tryz.ntmps188
 go_wp2_with fail
 generalize hW:World.alloc _ _=w1
 obtain ⟨hb,hz⟩:=al2 hW
 have b_a_1:=n21 hW
 have b_r_1:=n22 hW
 have HB1:=AE hb
 clear hW hz hb
 refine (aj (t:=⟨5,x,s,l⟩) (vs:=[_,_,_,_]) (HA.out.below HB1.out hB) (AF hB HB1.out.size)).mono ?_
 rintro x w2 ⟨rfl,hb⟩
 have b_a_2:=b_a_1.later hb
 have b_r_2:=b_r_1.later hb
 have HB2:=AE (aa HB1.out hb)
 clear b_a_1 b_r_1
 clear hb
 rw [FA.out]
 have k_a:=b_a_2.cell
 have k_r:=b_r_2.cell
 go_wp2_with fail
 clear k_a k_r
 refine (bB _ _).mono ?_
 rintro x w3 ⟨rfl,hb⟩
 have b_a_3:=b_a_2.later hb
 have b_r_3:=b_r_2.later hb
 have HB3:=AE (aa HB2.out hb)
 clear b_a_2 b_r_2
 clear hb
 have k_a:=b_a_3.cell
 have k_r:=b_r_3.cell
 have f_r:=b_r_3.free
 go_wp2_with fail
 refine bodyPost_ret (am rfl rfl (put4 b_r_3 HB3.out (by omega)).1 rfl) rfl ?_
 exact ⟨rfl,(put4 b_r_3 HB3.out (by omega)).2⟩
theorem un_len7 {x:Int} {d B:Nat} {s:ByteArray} {l:List Tm} {vs:List Value} {w:World} (ha:RTm w B d ⟨7,x,s,l⟩ vs) (hB:B≤w.heap.size) (fa:af ⟨7,x,s,l⟩=true) :
 Calls Tryz.prog 188 #[.int .i64 3,.agg vs.toArray] w fun z w'=>z=bR 2 l.length emp 0∧Below w.heap.size w w':=by
 obtain ⟨A,c,rfl,q1,q2,q3,q4,q5,_⟩:=ha.cells
 have HA:=AE ha
 simp only at q2 q3 q4 q5
 clear ha
 have FA:=AE fa
 clear fa
 go_enter Tryz.func188,Tryz.ntmps188
 go_wp2_with fail
 generalize hW:World.alloc _ _=w1
 obtain ⟨hb,hz⟩:=al2 hW
 have b_a_1:=n21 hW
 have b_r_1:=n22 hW
 have HB1:=AE hb
 clear hW hz hb
 refine (aj (t:=⟨7,x,s,l⟩) (vs:=[_,_,_,_]) (HA.out.below HB1.out hB) (AF hB HB1.out.size)).mono ?_
 rintro x w2 ⟨rfl,hb⟩
 have b_a_2:=b_a_1.later hb
 have b_r_2:=b_r_1.later hb
 have HB2:=AE (aa HB1.out hb)
 clear b_a_1 b_r_1
 clear hb
 rw [FA.out]
 have k_a:=b_a_2.cell
 have k_r:=b_r_2.cell
 go_wp2_with fail
 clear k_a k_r
 refine (bB _ _).mono ?_
 rintro x w3 ⟨rfl,hb⟩
 have b_a_3:=b_a_2.later hb
 have b_r_3:=b_r_2.later hb
 have HB3:=AE (aa HB2.out hb)
 clear b_a_2 b_r_2
 clear hb
 have k_a:=b_a_3.cell
 have k_r:=b_r_3.cell
 have f_r:=b_r_3.free
 go_wp2_with fail
 refine bodyPost_ret (am rfl rfl (put4 b_r_3 HB3.out (by omega)).1 rfl) rfl ?_
 exact ⟨rfl,(put4 b_r_3 HB3.out (by omega)).2⟩
theorem zy {x ka:Int} {d B:Nat} {s:ByteArray} {l:List Tm} {vs:List Value} {w:World} (ha:RTm w B d ⟨ka,x,s,l⟩ vs) (hB:B≤w.heap.size) (fa:af ⟨ka,x,s,l⟩=true) (h6:ka≠6) :
 Calls Tryz.prog 188 #[.int .i64 1,.agg vs.toArray] w fun z w'=>z=bR 0 0 emp 7∧Below w.heap.size w w':=by
 obtain ⟨A,c,rfl,q1,q2,q3,q4,q5,_⟩:=ha.cells
 have HA:=AE ha
 simp only at q2 q3 q4 q5
 clear ha
 have FA:=AE fa
 clear fa
 have hq6:(ka==6)=false:=by simpa using h6
 go_enter Tryz.func188,Tryz.ntmps188
 go_wp2_with fail
 generalize hW:World.alloc _ _=w1
 obtain ⟨hb,hz⟩:=al2 hW
 have b_a_1:=n21 hW
 have b_r_1:=n22 hW
 have HB1:=AE hb
 clear hW hz hb
 refine (aj (t:=⟨ka,x,s,l⟩) (vs:=[_,_,_,_]) (HA.out.below HB1.out hB) (AF hB HB1.out.size)).mono ?_
 rintro x w2 ⟨rfl,hb⟩
 have b_a_2:=b_a_1.later hb
 have b_r_2:=b_r_1.later hb
 have HB2:=AE (aa HB1.out hb)
 clear b_a_1 b_r_1
 clear hb
 rw [FA.out]
 have k_a:=b_a_2.cell
 have k_r:=b_r_2.cell
 have f_r:=b_r_2.free
 go_wp2_with fail
 refine bodyPost_ret (am rfl rfl (put4 b_r_2 HB2.out (by omega)).1 rfl) rfl ?_
 exact ⟨rfl,(put4 b_r_2 HB2.out (by omega)).2⟩
theorem zz {x ka:Int} {d B:Nat} {s:ByteArray} {l:List Tm} {vs:List Value} {w:World} (ha:RTm w B d ⟨ka,x,s,l⟩ vs) (hB:B≤w.heap.size) (fa:af ⟨ka,x,s,l⟩=true) (h2:ka≠2) :
 Calls Tryz.prog 188 #[.int .i64 2,.agg vs.toArray] w fun z w'=>z=bR 0 0 emp 7∧Below w.heap.size w w':=by
 obtain ⟨A,c,rfl,q1,q2,q3,q4,q5,_⟩:=ha.cells
 have HA:=AE ha
 simp only at q2 q3 q4 q5
 clear ha
 have FA:=AE fa
 clear fa
 have hq2:(ka==2)=false:=by simpa using h2
 go_enter Tryz.func188,Tryz.ntmps188
 go_wp2_with fail
 generalize hW:World.alloc _ _=w1
 obtain ⟨hb,hz⟩:=al2 hW
 have b_a_1:=n21 hW
 have b_r_1:=n22 hW
 have HB1:=AE hb
 clear hW hz hb
 refine (aj (t:=⟨ka,x,s,l⟩) (vs:=[_,_,_,_]) (HA.out.below HB1.out hB) (AF hB HB1.out.size)).mono ?_
 rintro x w2 ⟨rfl,hb⟩
 have b_a_2:=b_a_1.later hb
 have b_r_2:=b_r_1.later hb
 have HB2:=AE (aa HB1.out hb)
 clear b_a_1 b_r_1
 clear hb
 rw [FA.out]
 have k_a:=b_a_2.cell
 have k_r:=b_r_2.cell
 have f_r:=b_r_2.free
 go_wp2_with fail
 refine bodyPost_ret (am rfl rfl (put4 b_r_2 HB2.out (by omega)).1 rfl) rfl ?_
 exact ⟨rfl,(put4 b_r_2 HB2.out (by omega)).2⟩
theorem zA {x ka:Int} {d B:Nat} {s:ByteArray} {l:List Tm} {vs:List Value} {w:World} (ha:RTm w B d ⟨ka,x,s,l⟩ vs) (hB:B≤w.heap.size) (fa:af ⟨ka,x,s,l⟩=true) (h3:ka≠3) (h5:ka≠5) (h7:ka≠7) :
 Calls Tryz.prog 188 #[.int .i64 3,.agg vs.toArray] w fun z w'=>z=bR 0 0 emp 7∧Below w.heap.size w w':=by
 obtain ⟨A,c,rfl,q1,q2,q3,q4,q5,_⟩:=ha.cells
 have HA:=AE ha
 simp only at q2 q3 q4 q5
 clear ha
 have FA:=AE fa
 clear fa
 have hq3:(ka==3)=false:=by simpa using h3
 have hq5:(ka==5)=false:=by simpa using h5
 have hq7:(ka==7)=false:=by simpa using h7
 go_enter Tryz.func188,Tryz.ntmps188
 go_wp2_with fail
 generalize hW:World.alloc _ _=w1
 obtain ⟨hb,hz⟩:=al2 hW
 have b_a_1:=n21 hW
 have b_r_1:=n22 hW
 have HB1:=AE hb
 clear hW hz hb
 refine (aj (t:=⟨ka,x,s,l⟩) (vs:=[_,_,_,_]) (HA.out.below HB1.out hB) (AF hB HB1.out.size)).mono ?_
 rintro x w2 ⟨rfl,hb⟩
 have b_a_2:=b_a_1.later hb
 have b_r_2:=b_r_1.later hb
 have HB2:=AE (aa HB1.out hb)
 clear b_a_1 b_r_1
 clear hb
 rw [FA.out]
 have k_a:=b_a_2.cell
 have k_r:=b_r_2.cell
 have f_r:=b_r_2.free
 go_wp2_with fail
 refine bodyPost_ret (am rfl rfl (put4 b_r_2 HB2.out (by omega)).1 rfl) rfl ?_
 exact ⟨rfl,(put4 b_r_2 HB2.out (by omega)).2⟩
theorem vc (b:BitVec 64):I64 b.toInt:=by
 have h1:=BitVec.toInt_lt (x:=b)
 have h2:=BitVec.le_toInt (x:=b)
 unfold I64
 omega
theorem xO (v:BitVec 64):IntKind.i64.wrap (v.toNat:Int)=v.toInt:=by
 rw [IntKind.wrap_i64,BitVec.toInt_eq_toNat_cond]
 have:=v.isLt
 split<;>omega
theorem i64_and (a b:Int):I64 (bits .and .i64 a b):=by
 have h:bits .and .i64 a b=(BitVec.ofInt 64 a &&& BitVec.ofInt 64 b).toInt:=xO _
 rw [h];exact vc _
theorem i64_or (a b:Int):I64 (bits .or .i64 a b):=by
 have h:bits .or .i64 a b=(BitVec.ofInt 64 a ||| BitVec.ofInt 64 b).toInt:=xO _
 rw [h];exact vc _
theorem i64_xor (a b:Int):I64 (bits .xor .i64 a b):=by
 have h:bits .xor .i64 a b=(BitVec.ofInt 64 a ^^^ BitVec.ofInt 64 b).toInt:=xO _
 rw [h];exact vc _
theorem i64_bit (b:Bool):I64 (bit b):=by unfold bit I64;split<;>omega
theorem lF {n:Int} (h:-1000000000000000≤n) (h':n≤1000000000000000):I64 n:=by unfold I64;omega
theorem eY {d:Nat} {w w':World} {k n e:Int} {s:ByteArray} {z:Ending} (h:z=bR k n s e∧Below w.heap.size w w') (hk:I64 k) (hn:I64 n) (hs:s.size≤140737488351232):jx d w w' (⟨k,n,s,[]⟩,e) z:=⟨⟨none,0,h.1,TmOwn.flat hk hn hs⟩,h.2⟩
theorem bZ {d:Nat} {w w':World} {e:Int} {z:Ending} (h:z=bR 0 0 emp e∧Below w.heap.size w w'):jx d w w' (noT,e) z:=eY h (by simp [I64]) (by simp [I64]) (by decide)
theorem dr {d:Nat} {w w':World} {b:Bool} {z:Ending} (h:z=bR 6 (bit b) emp 0∧Below w.heap.size w w'):jx d w w' (qM b,0) z:=eY h (by simp [I64]) (i64_bit b) (by decide)
theorem eZ {d:Nat} {w w':World} {n:Int} {z:Ending} (h:z=bR 2 n emp 0∧Below w.heap.size w w') (hn:I64 n):jx d w w' (AB n,0) z:=eY h (by simp [I64]) hn (by decide)
theorem zR (code a b:Int):(ns code a b=(2,uF code a b,0)∧I64 (uF code a b))∨∃e,ns code a b=(0,0,e)∧(e=5∨e=6):=by
 unfold ns oF
 by_cases h:code=10∧b=0
 ·exact .inr ⟨6,by rw [if_pos h];simp,.inr rfl⟩
 ·rw [if_neg h]
  rcases Bool.eq_false_or_eq_true (dI (uF code a b)) with hf | hf
  ·exact .inl ⟨by rw [hf];simp,(cj _).1 hf⟩
  ·exact .inr ⟨5,by rw [hf];simp,.inl rfl⟩
theorem qk {d:Nat} {w w':World} {code a b k n e:Int} {z:Ending} (hr:ns code a b=(k,n,e)) (h:z=bR k n emp e∧Below w.heap.size w w'):jx d w w' (recT (ns code a b)) z:=by
 rw [hr]
 refine eY h ?_ ?_ (by decide)
 ·rcases zR code a b with ⟨h1,_⟩ | ⟨e2,h1,_⟩<;>(rw [hr] at h1;simp only [Prod.mk.injEq] at h1;rw [h1.1];simp [I64])
 ·rcases zR code a b with ⟨h1,h2⟩ | ⟨e2,h1,_⟩<;>(rw [hr] at h1;simp only [Prod.mk.injEq] at h1;rw [h1.2.1])
  ·exact h2
  ·simp [I64]
theorem iX {code ka kb:Int} (h:aK code ka kb=true) (hc:code=8∨code=9∨code=10∨code=17∨code=18∨code=19):ka=2∧kb=2:=by
 have h2:aK code ka kb=dP [2] ka kb:=by rcases hc with rfl | rfl | rfl | rfl | rfl | rfl<;>simp [aK]
 rw [h2] at h
 simpa [dP] using h
theorem pw {ka kb:Int} (h:aK 7 ka kb=true):ka=2∧kb=2∨ka=3∧kb=3:=by
 have h2:aK 7 ka kb=dP [2,3] ka kb:=by simp [aK]
 rw [h2] at h
 simpa [dP] using h
theorem wl {ka kb:Int} (h:aK 11 ka kb=true):ka=7∨ka=3∧kb=3:=by
 have h2:aK 11 ka kb=((decide (ka=7)&&decide (2≤kb)&&decide (kb≤7))||dP [3] ka kb):=by simp [aK]
 rw [h2] at h
 simp [dP] at h
 omega
theorem wm {ka kb:Int} (h:aK 14 ka kb=true):ka=3∧kb=3:=by
 have h2:aK 14 ka kb=dP [3] ka kb:=by simp [aK]
 rw [h2] at h
 simpa [dP] using h
theorem px {code ka kb:Int} (h:aK code ka kb=true) (hc:code=15∨code=16):ka=7∧kb=7:=by
 have h2:aK code ka kb=dP [7] ka kb:=by rcases hc with rfl | rfl<;>simp [aK]
 rw [h2] at h
 simpa [dP] using h
theorem gN {x:Int} {s:ByteArray} {l:List Tm} (h:af ⟨3,x,s,l⟩=true):s.size≤256:=by
 unfold af fD ef at h
 simp at h
 omega
theorem te {code:Int} {a b:Tm} {d B:Nat} {vs ws:List Value} {w:World} {m:Int} (ha:RTm w B (d+1) a vs) (hb:RTm w B (d+1) b ws) (hB:B≤w.heap.size) (hm:w.cell? ⟨0,0,none⟩=some (.int .i64 m)) (h0:0<w.heap.size) :
 Calls Tryz.prog 189 #[.int .i64 code,.agg vs.toArray,.agg ws.toArray] w fun z w'=>jx d w w' (zH code a b) z:=by
 obtain ⟨ka,x,s,l⟩:=a
 obtain ⟨kb,y,s',l'⟩:=b
 have hsz':s'.size≤140737488351232:=by obtain ⟨_,_,_,_,_,h,_⟩:=hb.cells;exact h
 unfold zH
 rcases Bool.eq_false_or_eq_true (af ⟨ka,x,s,l⟩) with fa | fa
 ·rcases Bool.eq_false_or_eq_true (af ⟨kb,y,s',l'⟩) with fb | fb
  ·by_cases hlo:code<1
   ·rw [if_pos (.inr (.inr (.inl hlo)))]
    exact (bin_lo ha hb hB fa fb hlo).mono fun _ _ h=>bZ h
   ·by_cases hhi:19<code
    ·rw [if_pos (.inr (.inr (.inr hhi)))]
     exact (bin_hi ha hb hB fa fb hhi).mono fun _ _ h=>bZ h
    ·rw [if_neg (by rw [fa,fb];simp;omega)]
     rcases Bool.eq_false_or_eq_true (aK code ka kb) with hk | hk
     ·rw [if_neg (by show ¬aK code ka kb=false;rw [hk];simp)]
      by_cases h7:code=7∧ka=3
      ·rw [if_pos h7]
       obtain ⟨rfl,rfl⟩:=h7
       obtain ⟨_,rfl⟩:(3:Int)=3∧kb=3:=by rcases pw hk with h | h<;>omega
       have:=gN fa
       have:=gN fb
       by_cases hl:s.size+s'.size≤256
       ·rw [if_pos hl]
        exact (bin_add ha hb hB fa fb hl).mono fun _ _ h=>eY h (by simp [I64]) (by simp [I64]) (by show (s++s').size≤_;rw [ByteArray.size_append];omega)
       ·rw [if_neg hl]
        exact (yg ha hb hB fa fb hl).mono fun _ _ h=>bZ h
      ·rw [if_neg h7]
       by_cases hr:code=7∨code=8∨code=9∨code=10
       ·rw [if_pos hr]
        obtain ⟨rfl,rfl⟩:ka=2∧kb=2:=by
         rcases hr with rfl | hr
         ·rcases pw hk with h | h
          ·exact h
          ·exact absurd ⟨rfl,h.1⟩ h7
         ·exact iX hk (by omega)
        exact (tc (k:=(ns code x y).1) (n:=(ns code x y).2.1) (e:=(ns code x y).2.2) ha hb hB fa fb hr rfl).mono fun _ _ h=>qk rfl h
       ·rw [if_neg hr]
        by_cases h11:code=11
        ·rw [if_pos h11]
         subst h11
         rcases wl hk with rfl | ⟨rfl,rfl⟩
         ·exact (qI ha hb hB fa fb hk).mono fun _ _ h=>dr h
         ·exact (oN ha hb hB fa fb hm h0 (gN fa)).mono fun _ _ h=>dr h
        ·rw [if_neg h11]
         by_cases h12:code=12
         ·rw [if_pos h12]
          subst h12
          exact (td ha hb hB fa fb hk).mono fun _ _ h=>dr h
         ·rw [if_neg h12]
          by_cases h13:code=13
          ·rw [if_pos h13]
           subst h13
           exact (yd ha hb hB fa fb hk).mono fun _ _ h=>dr h
          ·rw [if_neg h13]
           by_cases h14:code=14
           ·rw [if_pos h14]
            subst h14
            obtain ⟨rfl,rfl⟩:=wm hk
            show Calls _ _ _ _ fun z w'=>jx d w w' (wI s' s) z
            unfold wI
            by_cases hz:(fW s' s false).2=0
            ·rw [if_neg (by simp [hz])]
             exact (uY ha hb hB fa fb hz).mono fun _ _ h=>dr h
            ·rw [if_pos hz]
             exact (qJ ha hb hB fa fb hz).mono fun _ _ h=>bZ h
           ·rw [if_neg h14]
            by_cases h15:code=15
            ·rw [if_pos h15]
             subst h15
             obtain ⟨rfl,rfl⟩:=px hk (.inl rfl)
             exact yh ha hb hB fa fb
            ·rw [if_neg h15]
             by_cases h16:code=16
             ·rw [if_pos h16]
              subst h16
              obtain ⟨rfl,rfl⟩:=px hk (.inr rfl)
              exact yf ha hb hB fa fb
             ·rw [if_neg h16]
              by_cases h17:code=17
              ·rw [if_pos h17]
               subst h17
               obtain ⟨rfl,rfl⟩:=iX hk (by omega)
               exact (bin_and ha hb hB fa fb).mono fun _ _ h=>eZ h (i64_and _ _)
              ·rw [if_neg h17]
               by_cases h18:code=18
               ·rw [if_pos h18]
                subst h18
                obtain ⟨rfl,rfl⟩:=iX hk (by omega)
                exact (bin_or ha hb hB fa fb).mono fun _ _ h=>eZ h (i64_or _ _)
               ·rw [if_neg h18]
                by_cases h19:code=19
                ·rw [if_pos h19]
                 subst h19
                 obtain ⟨rfl,rfl⟩:=iX hk (by omega)
                 exact (bin_xor ha hb hB fa fb).mono fun _ _ h=>eZ h (i64_xor _ _)
                ·rw [if_neg h19]
                 exact (qH ha hb hB fa fb (by omega) hk).mono fun _ _ h=>dr h
     ·rw [if_pos hk]
      exact (yi ha hb hB fa fb (by omega) (by omega) hk).mono fun _ _ h=>bZ h
  ·rw [if_pos (.inr (.inl fb))]
   exact (yc ha hb hB fa fb).mono fun _ _ h=>bZ h
 ·rw [if_pos (.inl fa)]
  exact (yb ha hb hB fa).mono fun _ _ h=>bZ h
theorem xG {code:Int} {a:Tm} {d B:Nat} {vs:List Value} {w:World} (ha:RTm w B (d+1) a vs) (hB:B≤w.heap.size) :
 Calls Tryz.prog 188 #[.int .i64 code,.agg vs.toArray] w fun z w'=>jx d w w' (unR code a) z:=by
 obtain ⟨ka,x,s,l⟩:=a
 have hsz:s.size≤140737488351232:=by obtain ⟨_,_,_,_,_,h,_⟩:=ha.cells;exact h
 unfold unR
 rcases Bool.eq_false_or_eq_true (af ⟨ka,x,s,l⟩) with fa | fa
 ·by_cases hlo:code<1
  ·rw [if_pos (.inr (.inl hlo))]
   exact (un_lo ha hB fa hlo).mono fun _ _ h=>bZ h
  ·by_cases hhi:3<code
   ·rw [if_pos (.inr (.inr hhi))]
    exact (un_hi ha hB fa hhi).mono fun _ _ h=>bZ h
   ·rw [if_neg (by rw [fa];simp;omega)]
    have hc:code=1∨code=2∨code=3:=by omega
    simp only
    rcases hc with rfl | rfl | rfl
    ·by_cases h6:ka=6
     ·subst h6
      rw [if_pos ⟨rfl,rfl⟩]
      exact (un_not ha hB fa).mono fun _ _ h=>dr h
     ·rw [if_neg (fun h=>h6 h.2),if_neg (by omega),if_neg (by omega),if_neg (by omega)]
      exact (zy ha hB fa h6).mono fun _ _ h=>bZ h
    ·rw [if_neg (by omega)]
     by_cases h2:ka=2
     ·subst h2
      rw [if_pos ⟨rfl,rfl⟩]
      exact (un_neg (k:=(ns 8 0 x).1) (n:=(ns 8 0 x).2.1) (e:=(ns 8 0 x).2.2) ha hB fa rfl).mono fun _ _ h=>qk rfl h
     ·rw [if_neg (fun h=>h2 h.2),if_neg (by omega),if_neg (by omega)]
      exact (zz ha hB fa h2).mono fun _ _ h=>bZ h
    ·rw [if_neg (by omega),if_neg (by omega)]
     by_cases h3:ka=3
     ·subst h3
      rw [if_pos ⟨rfl,.inl rfl⟩]
      exact (xF ha hB fa).mono fun _ _ h=>eZ h (lF (by omega) (by have:=gN fa;omega))
     ·by_cases h5:ka=5
      ·subst h5
       rw [if_pos ⟨rfl,.inr rfl⟩]
       exact (un_len5 ha hB fa).mono fun _ _ h=>eZ h (lF (by omega) (by omega))
      ·rw [if_neg (by omega)]
       by_cases h7:ka=7
       ·subst h7
        rw [if_pos ⟨rfl,rfl⟩]
        exact (un_len7 ha hB fa).mono fun _ _ h=>eZ h (lF (by omega) (by have:=(fX fa).1;omega))
       ·rw [if_neg (by omega)]
        exact (zA ha hB fa h3 h5 h7).mono fun _ _ h=>bZ h
 ·rw [if_pos (.inl fa)]
  exact (un_bad ha hB fa).mono fun _ _ h=>bZ h
def EvS (S base D:Nat) (bn bt:Value) (w:World) (ts:List Tm) (next:Int):Prop:=∃xs A c,xs.map SV.t=ts∧StkE S base D bn bt w xs next A c
def EvE (S base D:Nat) (bn bt:Value) (w w':World) (e:Int) (ts:List Tm) (next:Int) (z:Ending):Prop:=
 z=.returned (.int .i64 e)∧BelX base S w w'∧(e=0→EvS S base D bn bt w' ts next)
theorem EvS.later {S base D:Nat} {bn bt:Value} {w w':World} {ts:List Tm} {next:Int} (h:EvS S base D bn bt w ts next) (hb:Below w.heap.size w w'):EvS S base D bn bt w' ts next:=by
 obtain ⟨xs,A,c,h1,h2⟩:=h
 exact ⟨xs,A,c,h1,h2.later hb⟩
theorem zY.ev {S base D:Nat} {bn bt:Value} {w:World} {xs:List SV} {x:SV} {next e:Int} {ts:List Tm} (h:zY S base D bn bt w xs x next e) (ht:xs.map SV.t=ts) (he:e=0):EvS S base D bn bt w (ts++[x.t]) next:=by
 rcases h with ⟨_,A,c,h⟩ | ⟨h,_⟩
 ·exact ⟨xs++[x],A,c,by rw [List.map_append,ht];rfl,h⟩
 ·exact absurd he h
theorem kF {S base D c:Nat} {bn bt:Value} {w:World} {xs:List SV} {next:Int} {A:Option Addr} (h:StkE S base D bn bt w xs next A c) {x:SV} {n:Nat} (hx:∀a,x.a=some a→n≤a.block) (hn:w.heap.size≤n):nB S A x:=by
 intro a ha
 have h1:=hx a ha
 have h2:=h.hd.blk.lt
 refine ⟨by omega,fun b hb=>?_⟩
 subst hb
 obtain ⟨cells,how,_⟩:=h.own
 have:=(how.lt b.block rfl).2
 omega
theorem tt {S base D B d c:Nat} {bn bt:Value} {w:World} {xs:List SV} {x:SV} {next:Int} {A:Option Addr} {o:OpD} {ovs:List Value} (h:StkE S base D bn bt w (xs++[x]) next A c) (ho:(OpR d).rd w B o ovs) (hb:base≤w.heap.size) (hn:xs.length≤100000) :
 Calls Tryz.prog 176 #[.pointer (some ⟨S,0,none⟩),.agg ovs.toArray] w fun e w'=>EvE S base D bn bt w w' (unR o.code x.t).2 (xs.map SV.t++[(unR o.code x.t).1]) next e:=by
 obtain ⟨ts,rfl,_,_,_,ht⟩:=ho
 obtain ⟨At,ct,rfl,_⟩:=RTm.cells ht
 have hSlt:=h.hd.blk.lt
 have HS:=AE h
 clear h ht
 go_enter Tryz.func176,Tryz.ntmps176
 go_wp2_with fail
 generalize hW:World.alloc _ _=w1
 obtain ⟨hb1,hz⟩:=al1 hW
 have b_o:=n11 hW
 have HS1:=AE (HS.out.later (hb1.drew))
 have HB1:=AE hb1
 have BO:=AE b_o
 have k_o:=b_o.cell
 clear hW hb1 b_o
 go_region_with (first
  | (go_at_call 179
     refine (lU HS1.out hn).mono ?_
     rintro e w2 ⟨rfl,he,hs,htm,hap,hlt⟩
     have k_o2:=(he.blk (by omega) BO.out.drew).cell
     have HS2:=AE (And.intro hs (And.intro htm he))
     clear he hs htm hap hlt)
  | (go_at_call 188
     refine (xG (code:=o.code) (a:=x.t) (d:=D) (vs:=[_,_,_,_]) HS2.out.2.1.1 (AG _)).mono ?_
     rintro e w3 ⟨⟨A3,c3,rfl,hown⟩,hb3⟩
     have HS3:=AE (And.intro (HS2.out.1.later hb3) (And.intro hown hb3))
     clear hown hb3)
  | (go_at_call 187
     have hsz1:=HS2.out.2.2.1.size
     have hsz2:=HS3.out.2.2.size
     have hszd:w1.drew.heap.size=w1.heap.size:=rfl
     refine (gt (x:=⟨(unR o.code x.t).1,A3,c3⟩) HS3.out.1 HS3.out.2.1.at_ (kF HS2.out.1 (fun a ha=>(HS3.out.2.1.blk a ha).1) (AG _)) (fun a ha=>⟨by have:=(HS3.out.2.1.blk a ha).1;omega,(HS3.out.2.1.blk a ha).2⟩) (by omega) hn).mono ?_
     rintro e w4 ⟨rfl,hb4,hps⟩
     have HS4:=AE (And.intro hb4 hps)
     clear hb4 hps))
 all_goals
  go_wp2_with fail
  go_ret
  refine ⟨rfl,?_,fun he=>HS4.out.2.ev rfl he⟩
  exact (((BelX.of (HB1.out.mono hb).drew).trans (.exc HS2.out.2.2 (AF hb HB1.out.size))).trans (.of (HS3.out.2.2.mono (by omega)))).trans HS4.out.1
theorem dt.exc {D S:Nat} {w w':World} {x:SV} {A:Option Addr} (h:dt D w x) (he:Exc S w w') (ha:nB S A x) (hlt:∀a,x.a=some a→a.block<w.heap.size):dt D w' x:=
 h.keep (he.1.mono (AH _)) fun a e=>he.2 a.block (hlt a e) (ha a e).1
theorem qX {S base D B d c:Nat} {bn bt:Value} {w:World} {xs:List SV} {xa xb:SV} {next:Int} {A:Option Addr} {o:OpD} {ovs:List Value} {m:Int} (h:StkE S base D bn bt w (xs++[xa]++[xb]) next A c) (ho:(OpR d).rd w B o ovs) (hb:base≤w.heap.size) (hS0:0<S) (hn:xs.length≤90000) (hm:w.cell? ⟨0,0,none⟩=some (.int .i64 m)) (h0:0<base) :
 Calls Tryz.prog 177 #[.pointer (some ⟨S,0,none⟩),.agg ovs.toArray] w fun e w'=>EvE S base D bn bt w w' (zH o.code xa.t xb.t).2 (xs.map SV.t++[(zH o.code xa.t xb.t).1]) next e:=by
 obtain ⟨ts,rfl,_,_,_,ht⟩:=ho
 obtain ⟨At,ct,rfl,_⟩:=RTm.cells ht
 have hSlt:=h.hd.blk.lt
 have HS:=AE h
 have HM:=AE hm
 clear h ht hm
 go_enter Tryz.func177,Tryz.ntmps177
 go_wp2_with fail
 generalize hW:World.alloc _ _=w1
 obtain ⟨hb1,hz⟩:=al1 hW
 have BO:=AE (n11 hW)
 have HS1:=AE (HS.out.later hb1)
 have HB1:=AE hb1
 clear hW hb1
 refine (lU HS1.out (by simp;omega)).mono ?_
 rintro e w2 ⟨rfl,he,hs,htm,hap,hlt⟩
 have BO2:=AE (he.blk (by omega) BO.out)
 have HS2:=AE hs
 have HX2:=AE (And.intro htm (And.intro hap (And.intro hlt he)))
 have hsz2:=he.1.size
 clear he hs htm hap hlt
 unfold SV.cs
 go_wp2_with fail
 generalize hW:World.alloc _ _=w3
 obtain ⟨hb3,hz3⟩:=al1 hW
 have BB:=AE (n11 hW)
 have BO3:=AE (BO2.out.later hb3)
 have HS3:=AE (HS2.out.later hb3.drew)
 have HB3:=AE hb3
 have HX3:=AE (HX2.out.1.later hb3.drew)
 have k_o:=BO3.out.cell
 have k_b:=BB.out.cell
 clear hW hb3
 go_region_with (first
  | (go_at_call 179
     refine (lU HS3.out (by omega)).mono ?_
     rintro e w4 ⟨rfl,he,hs,htm,hap,hlt⟩
     have k_o2:=(he.blk (by omega) BO3.out.drew).cell
     have k_b2:=(he.blk (by omega) BB.out.drew).cell
     have hxb:=HX3.out.exc he HX2.out.2.1 (fun a ha=>AJ (HX2.out.2.2.1 a ha).2 (by show w1.heap.size≤w3.heap.size;omega))
     have HS4:=AE (And.intro hs (And.intro htm (And.intro hxb he)))
     clear he hs htm hap hlt hxb)
  | (go_at_call 189
     have hb4:BelX base S w w4:=((((BelX.of (HB1.out.mono hb)).trans (.exc HX2.out.2.2.2 (by omega))).trans (.of (HB3.out.mono (by omega)))).drew).trans (.exc HS4.out.2.2.2 (show base≤w3.heap.size by omega))
     have hsz4:=hb4.size
     refine (te (code:=o.code) (a:=xa.t) (b:=xb.t) (d:=D) (vs:=[_,_,_,_]) (ws:=[_,_,_,_]) HS4.out.2.1.1 HS4.out.2.2.1.1 (AG _) ((((hb4.mono (show 1≤base from h0)).low hS0).cell (p:=⟨0,0,none⟩) (Nat.lt_succ_self 0)).trans HM.out) (by omega)).mono ?_
     rintro e w5 ⟨⟨A3,c3,rfl,hown⟩,hb5⟩
     have HS5:=AE (And.intro (HS4.out.1.later hb5) (And.intro hown (And.intro hb5 hb4)))
     clear hown hb5 hb4)
  | (go_at_call 187
     have hsz5:=HS5.out.2.2.1.size
     have hsz4b:=HS5.out.2.2.2.size
     refine (gt (x:=⟨(zH o.code xa.t xb.t).1,A3,c3⟩) HS5.out.1 HS5.out.2.1.at_ (kF HS4.out.1 (fun a ha=>(HS5.out.2.1.blk a ha).1) (AG _)) (fun a ha=>⟨by have:=(HS5.out.2.1.blk a ha).1;omega,(HS5.out.2.1.blk a ha).2⟩) (by omega) (by omega)).mono ?_
     rintro e w6 ⟨rfl,hb6,hps⟩
     have HS6:=AE (And.intro hb6 hps)
     clear hb6 hps))
 all_goals
  go_wp2_with fail
  go_ret
  refine ⟨rfl,?_,fun he=>HS6.out.2.ev rfl he⟩
  exact (HS5.out.2.2.2.trans (.of (HS5.out.2.2.1.mono (AF hb HS5.out.2.2.2.size)))).trans HS6.out.1
def xQ (o:OpD) (t:Tm) (ts:List Tm) (next:Int):Int × List Tm × Int:=
 if t.kind≠6 then (7,ts,next)
 else if (decide (t.n=1)==decide (o.kind=5))=true then (0,ts++[t],wrap64 (next+o.skip))
 else (0,ts,next)
theorem pi {S base D B d c:Nat} {bn bt:Value} {w:World} {xs:List SV} {x:SV} {next:Int} {A:Option Addr} {o:OpD} {ovs:List Value} (h:StkE S base D bn bt w (xs++[x]) next A c) (ho:(OpR d).rd w B o ovs) (hb:base≤w.heap.size) (hn:xs.length≤90000) :
 Calls Tryz.prog 178 #[.pointer (some ⟨S,0,none⟩),.agg ovs.toArray] w fun e w'=>EvE S base D bn bt w w' (xQ o x.t (xs.map SV.t) next).1 (xQ o x.t (xs.map SV.t) next).2.1 (xQ o x.t (xs.map SV.t) next).2.2 e:=by
 obtain ⟨ts,rfl,_,_,_,ht⟩:=ho
 obtain ⟨At,ct,rfl,_⟩:=RTm.cells ht
 have hSlt:=h.hd.blk.lt
 have HS:=AE h
 clear h ht
 go_enter Tryz.func178,Tryz.ntmps178
 go_wp2_with fail
 generalize hW:World.alloc _ _=w1
 obtain ⟨hb1,hz⟩:=al1 hW
 have BO:=AE (n11 hW)
 have HS1:=AE (HS.out.later hb1)
 have HB1:=AE hb1
 clear hW hb1
 refine (lU HS1.out (by omega)).mono ?_
 rintro e w2 ⟨rfl,he,hs,htm,hap,hlt⟩
 have BO2:=AE (he.blk (by omega) BO.out)
 have HS2:=AE hs
 have HX2:=AE (And.intro htm (And.intro hap (And.intro hlt he)))
 have hsz2:=he.1.size
 clear he hs htm hap hlt
 unfold SV.cs
 go_upto_region 2 with fail
 generalize hW:World.alloc _ _=w3
 obtain ⟨hb3,hz3⟩:=al1 hW
 have BB:=AE (n11 hW)
 have BO3:=AE (BO2.out.later hb3)
 have HS3:=AE (HS2.out.later hb3)
 have HX3:=AE (HX2.out.1.later hb3)
 have HBw:Hid (BelX base S w w3):=AE (((BelX.of (HB1.out.mono hb)).trans (.exc HX2.out.2.2.2 (by omega))).trans (.of (hb3.mono (by omega))))
 have HLT:Hid (∀a,x.a=some a→base≤a.block∧a.block<w3.heap.size):=AE fun a ha=>by have:=HX2.out.2.2.1 a ha;omega
 have k_b:=BB.out.cell
 have k_o:=BO3.out.cell
 clear hW hb3
 by_cases h6:x.t.kind=6
 ·have q6:(x.t.kind !=6)=false:=by rw [h6];rfl
  by_cases hq:(decide (x.t.n=1)==decide (o.kind=5))=true
  ·have HR:Hid (xQ o x.t (xs.map SV.t) next=(0,xs.map SV.t++[x.t],wrap64 (next+o.skip))):=AE (by unfold xQ;rw [if_neg (by simp [h6]),if_pos hq])
   have hq2:((x.t.n==1)==(o.kind==5))=true:=hq
   clear hq h6
   have k_s:=HS3.out.hd.blk.cell
   have f_s:=HS3.out.hd.blk.free
   have hS3:S<w3.heap.size:=by omega
   go_wp2_with fail
   go_region
   have HB4:Hid (BelX base S w (w3.setCell ⟨S,3,none⟩ (.int .i64 (wrap64 (next+o.skip)))).drew):=AE (HBw.out.setS 3 _).drew
   have HS4:Hid (StkE S base D bn bt (w3.setCell ⟨S,3,none⟩ (.int .i64 (wrap64 (next+o.skip)))).drew xs (wrap64 (next+o.skip)) A c):=AE ((HS3.out.head _).later (AI _ _).drew)
   have HE4:Hid (Exc S w3 (w3.setCell ⟨S,3,none⟩ (.int .i64 (wrap64 (next+o.skip)))).drew):=AE ((Exc.refl S w3).set 3 _).drew
   have BB4:=AE (HE4.out.blk (by omega) BB.out)
   generalize (w3.setCell ⟨S,3,none⟩ (.int .i64 (wrap64 (next+o.skip)))).drew=w4 at *
   clear k_b k_o k_s f_s
   have k_b:=BB4.out.cell
   have hsz4:=HE4.out.1.size
   go_wp2_with fail
   refine (gt (x:=x) HS4.out (HX3.out.exc HE4.out HX2.out.2.1 fun a ha=>(HLT.out a ha).2) HX2.out.2.1 (fun a ha=>⟨(HLT.out a ha).1,AJ (HLT.out a ha).2 hsz4⟩) (by omega) (by omega)).mono ?_
   rintro e w5 ⟨rfl,hb5,hps⟩
   have HS5:=AE (And.intro hb5 hps)
   clear hb5 hps
   go_wp2_with fail
   go_ret
   rw [HR.out]
   exact ⟨rfl,HB4.out.trans HS5.out.1,fun he=>HS5.out.2.ev rfl rfl⟩
  ·have HR:Hid (xQ o x.t (xs.map SV.t) next=(0,xs.map SV.t,next)):=AE (by unfold xQ;rw [if_neg (by simp [h6]),if_neg hq])
   have hq2:((x.t.n==1)==(o.kind==5))=false:=by rw [Bool.eq_false_iff];exact hq
   clear hq h6
   go_wp2_with fail
   go_ret
   rw [HR.out]
   exact ⟨rfl,HBw.out,fun _=>⟨xs,A,c,rfl,HS3.out⟩⟩
 ·have q6:(x.t.kind !=6)=true:=by simpa using h6
  have HR:Hid (xQ o x.t (xs.map SV.t) next=(7,xs.map SV.t,next)):=AE (by unfold xQ;rw [if_pos h6])
  clear h6
  go_wp2_with fail
  go_ret
  rw [HR.out]
  exact ⟨rfl,HBw.out,fun h=>absurd (show (7:Int)=0 from h) (by decide)⟩
end Go.Proofs.YtjpndglegpcdnaaGreat
