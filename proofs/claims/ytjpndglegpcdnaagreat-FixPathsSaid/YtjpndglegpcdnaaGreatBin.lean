/- op.Unary, op.Binary: what they tell, whatever comes in. -/
import Derived.Test.YtjpndglegpcdnaaGreatMeet
import Derived.Test.YtjpndglegpcdnaaGreatOp5
import Derived.Test.YtjpndglegpcdnaaGreatMat4
set_option linter.unusedVariables false
set_option linter.unusedSimpArgs false
set_option maxRecDepth 100000
set_option maxHeartbeats 8000000
namespace Go.Proofs.YtjpndglegpcdnaaGreat
open Go.ChangeShapes Go.WideShapes Go.ChangeAt Go.RowKit
def pH (b:Bool):Tm:=⟨6,bit b,emp,[]⟩
def yh (n:Int):Tm:=⟨2,n,emp,[]⟩
def recT (r:Int × Int × Int):Tm × Int:=(⟨r.1,r.2.1,emp,[]⟩,r.2.2)
def uu (p t:ByteArray):Tm × Int:=if (fz p t false).2≠0 then (noT,(fz p t false).2) else (pH (fz p t false).1,0)
def xJ (code:Int) (a b:Tm):Tm × Int:=
 if af a=false∨af b=false∨code<1∨19<code then (noT,1)
 else if aG code a.kind b.kind=false then (noT,7)
 else if code=7∧a.kind=3 then (if a.s.size+b.s.size≤256 then (⟨3,0,a.s++b.s,[]⟩,0) else (noT,4))
 else if code=7∨code=8∨code=9∨code=10 then recT (mD code a.n b.n)
 else if code=11 then (pH (if a.kind=3 then Lib.contains (bs a.s) (bs b.s) else eB a b),0)
 else if code=12 then (pH (Lib.hasPrefix (bs a.s) (bs b.s)),0)
 else if code=13 then (pH (Lib.hasSuffix (bs a.s) (bs b.s)),0)
 else if code=14 then uu b.s a.s
 else if code=15 then (la a b,0)
 else if code=16 then jc a b
 else if code=17 then (yh (bits .and .i64 a.n b.n),0)
 else if code=18 then (yh (bits .or .i64 a.n b.n),0)
 else if code=19 then (yh (bits .xor .i64 a.n b.n),0)
 else (pH (we code (cH 3 a b)),0)
def unR (code:Int) (a:Tm):Tm × Int:=
 if af a=false∨code<1∨3<code then (noT,1)
 else if code=1∧a.kind=6 then (pH (decide (a.n=0)),0)
 else if code=2∧a.kind=2 then recT (mD 8 0 a.n)
 else if code=3∧(a.kind=3∨a.kind=5) then (yh a.s.size,0)
 else if code=3∧a.kind=7 then (yh a.l.length,0)
 else (noT,7)
theorem vQ {code x y ka kb:Int} {d d' B:Nat} {s s':ByteArray} {l l':List Tm} {vs ws:List Value} {w:World} (ha:RTm w B d ⟨ka,x,s,l⟩ vs) (hb:RTm w B d' ⟨kb,y,s',l'⟩ ws) (hB:B≤w.heap.size) (fa:af ⟨ka,x,s,l⟩=false) :
 Calls Tryz.prog 189 #[.int .i64 code,.agg vs.toArray,.agg ws.toArray] w fun z w'=>z=bM 0 0 emp 1∧Below w.heap.size w w':=by
 obtain ⟨A,c,rfl,q1,q2,q3,q4,q5,_⟩:=ha.cells
 obtain ⟨A',c',rfl,r1,r2,r3,r4,r5,_⟩:=hb.cells
 have HA:=ym ha
 have HB_:=ym hb
 simp only at q2 q3 q4 q5 r2 r3 r4 r5
 clear ha hb
 have FA:=ym fa
 clear fa
 go_enter Tryz.func189,Tryz.ntmps189
 go_wp2_with fail
 generalize hW:World.alloc _ _=w1
 obtain ⟨hb,hz⟩:=al3 hW
 have b_a_1:=n31 hW
 have b_b_1:=n32 hW
 have b_r_1:=n33 hW
 have HB1:=ym hb
 clear hW hz hb
 refine (ai (t:=⟨ka,x,s,l⟩) (vs:=[_,_,_,_]) (HA.out.below HB1.out hB) (yn hB HB1.out.size)).mono ?_
 rintro x w2 ⟨rfl,hb⟩
 have b_a_2:=b_a_1.later hb
 have b_b_2:=b_b_1.later hb
 have b_r_2:=b_r_1.later hb
 have HB2:=ym (ac HB1.out hb)
 clear b_a_1 b_b_1 b_r_1
 clear hb
 rw [FA.out]
 have k_a:=b_a_2.cell
 have k_b:=b_b_2.cell
 have k_r:=b_r_2.cell
 have f_r:=b_r_2.free
 go_wp2_with fail
 refine bodyPost_ret (al rfl rfl (put4 b_r_2 HB2.out (by omega)).1 rfl) rfl ?_
 exact ⟨rfl,(put4 b_r_2 HB2.out (by omega)).2⟩
theorem vR {code x y ka kb:Int} {d d' B:Nat} {s s':ByteArray} {l l':List Tm} {vs ws:List Value} {w:World} (ha:RTm w B d ⟨ka,x,s,l⟩ vs) (hb:RTm w B d' ⟨kb,y,s',l'⟩ ws) (hB:B≤w.heap.size) (fa:af ⟨ka,x,s,l⟩=true) (fb:af ⟨kb,y,s',l'⟩=false) :
 Calls Tryz.prog 189 #[.int .i64 code,.agg vs.toArray,.agg ws.toArray] w fun z w'=>z=bM 0 0 emp 1∧Below w.heap.size w w':=by
 obtain ⟨A,c,rfl,q1,q2,q3,q4,q5,_⟩:=ha.cells
 obtain ⟨A',c',rfl,r1,r2,r3,r4,r5,_⟩:=hb.cells
 have HA:=ym ha
 have HB_:=ym hb
 simp only at q2 q3 q4 q5 r2 r3 r4 r5
 clear ha hb
 have FA:=ym fa
 have FB:=ym fb
 clear fa fb
 go_enter Tryz.func189,Tryz.ntmps189
 go_wp2_with fail
 generalize hW:World.alloc _ _=w1
 obtain ⟨hb,hz⟩:=al3 hW
 have b_a_1:=n31 hW
 have b_b_1:=n32 hW
 have b_r_1:=n33 hW
 have HB1:=ym hb
 clear hW hz hb
 refine (ai (t:=⟨ka,x,s,l⟩) (vs:=[_,_,_,_]) (HA.out.below HB1.out hB) (yn hB HB1.out.size)).mono ?_
 rintro x w2 ⟨rfl,hb⟩
 have b_a_2:=b_a_1.later hb
 have b_b_2:=b_b_1.later hb
 have b_r_2:=b_r_1.later hb
 have HB2:=ym (ac HB1.out hb)
 clear b_a_1 b_b_1 b_r_1
 clear hb
 rw [FA.out]
 have k_a:=b_a_2.cell
 have k_b:=b_b_2.cell
 have k_r:=b_r_2.cell
 go_wp2_with fail
 clear k_a k_b k_r
 refine (ai (t:=⟨kb,y,s',l'⟩) (vs:=[_,_,_,_]) (HB_.out.below HB2.out hB) (yn hB HB2.out.size)).mono ?_
 rintro x w3 ⟨rfl,hb⟩
 have b_a_3:=b_a_2.later hb
 have b_b_3:=b_b_2.later hb
 have b_r_3:=b_r_2.later hb
 have HB3:=ym (ac HB2.out hb)
 clear b_a_2 b_b_2 b_r_2
 clear hb
 rw [FB.out]
 have k_a:=b_a_3.cell
 have k_b:=b_b_3.cell
 have k_r:=b_r_3.cell
 have f_r:=b_r_3.free
 go_wp2_with fail
 refine bodyPost_ret (al rfl rfl (put4 b_r_3 HB3.out (by omega)).1 rfl) rfl ?_
 exact ⟨rfl,(put4 b_r_3 HB3.out (by omega)).2⟩
theorem bin_lo {code x y ka kb:Int} {d d' B:Nat} {s s':ByteArray} {l l':List Tm} {vs ws:List Value} {w:World} (ha:RTm w B d ⟨ka,x,s,l⟩ vs) (hb:RTm w B d' ⟨kb,y,s',l'⟩ ws) (hB:B≤w.heap.size) (fa:af ⟨ka,x,s,l⟩=true) (fb:af ⟨kb,y,s',l'⟩=true) (hc:code<1) :
 Calls Tryz.prog 189 #[.int .i64 code,.agg vs.toArray,.agg ws.toArray] w fun z w'=>z=bM 0 0 emp 1∧Below w.heap.size w w':=by
 obtain ⟨A,c,rfl,q1,q2,q3,q4,q5,_⟩:=ha.cells
 obtain ⟨A',c',rfl,r1,r2,r3,r4,r5,_⟩:=hb.cells
 have HA:=ym ha
 have HB_:=ym hb
 simp only at q2 q3 q4 q5 r2 r3 r4 r5
 clear ha hb
 have FA:=ym fa
 have FB:=ym fb
 clear fa fb
 have hq0:decide (code<1)=true:=by simp;omega
 go_enter Tryz.func189,Tryz.ntmps189
 go_wp2_with fail
 generalize hW:World.alloc _ _=w1
 obtain ⟨hb,hz⟩:=al3 hW
 have b_a_1:=n31 hW
 have b_b_1:=n32 hW
 have b_r_1:=n33 hW
 have HB1:=ym hb
 clear hW hz hb
 refine (ai (t:=⟨ka,x,s,l⟩) (vs:=[_,_,_,_]) (HA.out.below HB1.out hB) (yn hB HB1.out.size)).mono ?_
 rintro x w2 ⟨rfl,hb⟩
 have b_a_2:=b_a_1.later hb
 have b_b_2:=b_b_1.later hb
 have b_r_2:=b_r_1.later hb
 have HB2:=ym (ac HB1.out hb)
 clear b_a_1 b_b_1 b_r_1
 clear hb
 rw [FA.out]
 have k_a:=b_a_2.cell
 have k_b:=b_b_2.cell
 have k_r:=b_r_2.cell
 go_wp2_with fail
 clear k_a k_b k_r
 refine (ai (t:=⟨kb,y,s',l'⟩) (vs:=[_,_,_,_]) (HB_.out.below HB2.out hB) (yn hB HB2.out.size)).mono ?_
 rintro x w3 ⟨rfl,hb⟩
 have b_a_3:=b_a_2.later hb
 have b_b_3:=b_b_2.later hb
 have b_r_3:=b_r_2.later hb
 have HB3:=ym (ac HB2.out hb)
 clear b_a_2 b_b_2 b_r_2
 clear hb
 rw [FB.out]
 have k_a:=b_a_3.cell
 have k_b:=b_b_3.cell
 have k_r:=b_r_3.cell
 have f_r:=b_r_3.free
 go_wp2_with fail
 refine bodyPost_ret (al rfl rfl (put4 b_r_3 HB3.out (by omega)).1 rfl) rfl ?_
 exact ⟨rfl,(put4 b_r_3 HB3.out (by omega)).2⟩
theorem bin_hi {code x y ka kb:Int} {d d' B:Nat} {s s':ByteArray} {l l':List Tm} {vs ws:List Value} {w:World} (ha:RTm w B d ⟨ka,x,s,l⟩ vs) (hb:RTm w B d' ⟨kb,y,s',l'⟩ ws) (hB:B≤w.heap.size) (fa:af ⟨ka,x,s,l⟩=true) (fb:af ⟨kb,y,s',l'⟩=true) (hc:19<code) :
 Calls Tryz.prog 189 #[.int .i64 code,.agg vs.toArray,.agg ws.toArray] w fun z w'=>z=bM 0 0 emp 1∧Below w.heap.size w w':=by
 obtain ⟨A,c,rfl,q1,q2,q3,q4,q5,_⟩:=ha.cells
 obtain ⟨A',c',rfl,r1,r2,r3,r4,r5,_⟩:=hb.cells
 have HA:=ym ha
 have HB_:=ym hb
 simp only at q2 q3 q4 q5 r2 r3 r4 r5
 clear ha hb
 have FA:=ym fa
 have FB:=ym fb
 clear fa fb
 have hq0:decide (code<1)=false:=by simp;omega
 have hq1:decide (19<code)=true:=by simp;omega
 go_enter Tryz.func189,Tryz.ntmps189
 go_wp2_with fail
 generalize hW:World.alloc _ _=w1
 obtain ⟨hb,hz⟩:=al3 hW
 have b_a_1:=n31 hW
 have b_b_1:=n32 hW
 have b_r_1:=n33 hW
 have HB1:=ym hb
 clear hW hz hb
 refine (ai (t:=⟨ka,x,s,l⟩) (vs:=[_,_,_,_]) (HA.out.below HB1.out hB) (yn hB HB1.out.size)).mono ?_
 rintro x w2 ⟨rfl,hb⟩
 have b_a_2:=b_a_1.later hb
 have b_b_2:=b_b_1.later hb
 have b_r_2:=b_r_1.later hb
 have HB2:=ym (ac HB1.out hb)
 clear b_a_1 b_b_1 b_r_1
 clear hb
 rw [FA.out]
 have k_a:=b_a_2.cell
 have k_b:=b_b_2.cell
 have k_r:=b_r_2.cell
 go_wp2_with fail
 clear k_a k_b k_r
 refine (ai (t:=⟨kb,y,s',l'⟩) (vs:=[_,_,_,_]) (HB_.out.below HB2.out hB) (yn hB HB2.out.size)).mono ?_
 rintro x w3 ⟨rfl,hb⟩
 have b_a_3:=b_a_2.later hb
 have b_b_3:=b_b_2.later hb
 have b_r_3:=b_r_2.later hb
 have HB3:=ym (ac HB2.out hb)
 clear b_a_2 b_b_2 b_r_2
 clear hb
 rw [FB.out]
 have k_a:=b_a_3.cell
 have k_b:=b_b_3.cell
 have k_r:=b_r_3.cell
 have f_r:=b_r_3.free
 go_wp2_with fail
 refine bodyPost_ret (al rfl rfl (put4 b_r_3 HB3.out (by omega)).1 rfl) rfl ?_
 exact ⟨rfl,(put4 b_r_3 HB3.out (by omega)).2⟩
theorem vW {code x y ka kb:Int} {d d' B:Nat} {s s':ByteArray} {l l':List Tm} {vs ws:List Value} {w:World} (ha:RTm w B d ⟨ka,x,s,l⟩ vs) (hb:RTm w B d' ⟨kb,y,s',l'⟩ ws) (hB:B≤w.heap.size) (fa:af ⟨ka,x,s,l⟩=true) (fb:af ⟨kb,y,s',l'⟩=true) (h1:1≤code) (h2:code≤19) (hk:aG code ka kb=false) :
 Calls Tryz.prog 189 #[.int .i64 code,.agg vs.toArray,.agg ws.toArray] w fun z w'=>z=bM 0 0 emp 7∧Below w.heap.size w w':=by
 obtain ⟨A,c,rfl,q1,q2,q3,q4,q5,_⟩:=ha.cells
 obtain ⟨A',c',rfl,r1,r2,r3,r4,r5,_⟩:=hb.cells
 have HA:=ym ha
 have HB_:=ym hb
 simp only at q2 q3 q4 q5 r2 r3 r4 r5
 clear ha hb
 have FA:=ym fa
 have FB:=ym fb
 have HK:=ym hk
 have hq0:decide (code<1)=false:=by simp;omega
 have hq1:decide (19<code)=false:=by simp;omega
 clear fa fb hk
 go_enter Tryz.func189,Tryz.ntmps189
 go_wp2_with fail
 generalize hW:World.alloc _ _=w1
 obtain ⟨hb,hz⟩:=al3 hW
 have b_a_1:=n31 hW
 have b_b_1:=n32 hW
 have b_r_1:=n33 hW
 have HB1:=ym hb
 clear hW hz hb
 refine (ai (t:=⟨ka,x,s,l⟩) (vs:=[_,_,_,_]) (HA.out.below HB1.out hB) (yn hB HB1.out.size)).mono ?_
 rintro x w2 ⟨rfl,hb⟩
 have b_a_2:=b_a_1.later hb
 have b_b_2:=b_b_1.later hb
 have b_r_2:=b_r_1.later hb
 have HB2:=ym (ac HB1.out hb)
 clear b_a_1 b_b_1 b_r_1
 clear hb
 rw [FA.out]
 have k_a:=b_a_2.cell
 have k_b:=b_b_2.cell
 have k_r:=b_r_2.cell
 go_wp2_with fail
 clear k_a k_b k_r
 refine (ai (t:=⟨kb,y,s',l'⟩) (vs:=[_,_,_,_]) (HB_.out.below HB2.out hB) (yn hB HB2.out.size)).mono ?_
 rintro x w3 ⟨rfl,hb⟩
 have b_a_3:=b_a_2.later hb
 have b_b_3:=b_b_2.later hb
 have b_r_3:=b_r_2.later hb
 have HB3:=ym (ac HB2.out hb)
 clear b_a_2 b_b_2 b_r_2
 clear hb
 rw [FB.out]
 have k_a:=b_a_3.cell
 have k_b:=b_b_3.cell
 have k_r:=b_r_3.cell
 go_wp2_with fail
 clear k_a k_b k_r
 refine (aU code ka kb _).mono ?_
 rintro x w4 ⟨rfl,hb⟩
 have b_a_4:=b_a_3.later hb
 have b_b_4:=b_b_3.later hb
 have b_r_4:=b_r_3.later hb
 have HB4:=ym (ac HB3.out hb)
 clear b_a_3 b_b_3 b_r_3
 clear hb
 rw [HK.out]
 have k_a:=b_a_4.cell
 have k_b:=b_b_4.cell
 have k_r:=b_r_4.cell
 have f_r:=b_r_4.free
 go_wp2_with fail
 refine bodyPost_ret (al rfl rfl (put4 b_r_4 HB4.out (by omega)).1 rfl) rfl ?_
 exact ⟨rfl,(put4 b_r_4 HB4.out (by omega)).2⟩
theorem tu {x y:Int} {d d' B:Nat} {s s':ByteArray} {l l':List Tm} {vs ws:List Value} {w:World} (ha:RTm w B d ⟨3,x,s,l⟩ vs) (hb:RTm w B d' ⟨3,y,s',l'⟩ ws) (hB:B≤w.heap.size) (fa:af ⟨3,x,s,l⟩=true) (fb:af ⟨3,y,s',l'⟩=true) (hz:(fz s' s false).2=0) :
 Calls Tryz.prog 189 #[.int .i64 14,.agg vs.toArray,.agg ws.toArray] w fun z w'=>z=bM 6 (bit (fz s' s false).1) emp 0∧Below w.heap.size w w':=by
 obtain ⟨A,c,rfl,q1,q2,q3,q4,q5,_⟩:=ha.cells
 obtain ⟨A',c',rfl,r1,r2,r3,r4,r5,_⟩:=hb.cells
 have HA:=ym ha
 have HB_:=ym hb
 simp only at q2 q3 q4 q5 r2 r3 r4 r5
 clear ha hb
 have FA:=ym fa
 have FB:=ym fb
 have HK:Hid (aG 14 3 3=true):=ym (by decide)
 clear fa fb
 go_enter Tryz.func189,Tryz.ntmps189
 go_wp2_with fail
 generalize hW:World.alloc _ _=w1
 obtain ⟨hb,hz⟩:=al3 hW
 have b_a_1:=n31 hW
 have b_b_1:=n32 hW
 have b_r_1:=n33 hW
 have HB1:=ym hb
 clear hW hz hb
 refine (ai (t:=⟨3,x,s,l⟩) (vs:=[_,_,_,_]) (HA.out.below HB1.out hB) (yn hB HB1.out.size)).mono ?_
 rintro x w2 ⟨rfl,hb⟩
 have b_a_2:=b_a_1.later hb
 have b_b_2:=b_b_1.later hb
 have b_r_2:=b_r_1.later hb
 have HB2:=ym (ac HB1.out hb)
 clear b_a_1 b_b_1 b_r_1
 clear hb
 rw [FA.out]
 have k_a:=b_a_2.cell
 have k_b:=b_b_2.cell
 have k_r:=b_r_2.cell
 go_wp2_with fail
 clear k_a k_b k_r
 refine (ai (t:=⟨3,y,s',l'⟩) (vs:=[_,_,_,_]) (HB_.out.below HB2.out hB) (yn hB HB2.out.size)).mono ?_
 rintro x w3 ⟨rfl,hb⟩
 have b_a_3:=b_a_2.later hb
 have b_b_3:=b_b_2.later hb
 have b_r_3:=b_r_2.later hb
 have HB3:=ym (ac HB2.out hb)
 clear b_a_2 b_b_2 b_r_2
 clear hb
 rw [FB.out]
 have k_a:=b_a_3.cell
 have k_b:=b_b_3.cell
 have k_r:=b_r_3.cell
 go_wp2_with fail
 clear k_a k_b k_r
 refine (aU 14 3 3 _).mono ?_
 rintro x w4 ⟨rfl,hb⟩
 have b_a_4:=b_a_3.later hb
 have b_b_4:=b_b_3.later hb
 have b_r_4:=b_r_3.later hb
 have HB4:=ym (ac HB3.out hb)
 clear b_a_3 b_b_3 b_r_3
 clear hb
 rw [HK.out]
 have k_a:=b_a_4.cell
 have k_b:=b_b_4.cell
 have k_r:=b_r_4.cell
 go_wp2_with fail
 clear k_a k_b k_r
 refine (qP (p:=s') (t:=s) (by omega) (by omega)).mono ?_
 rintro x w5 ⟨rfl,hb⟩
 have b_a_5:=b_a_4.later hb
 have b_b_5:=b_b_4.later hb
 have b_r_5:=b_r_4.later hb
 have HB5:=ym (ac HB4.out hb)
 clear b_a_4 b_b_4 b_r_4
 clear hb
 rw [hz]
 clear hz
 have k_a:=b_a_5.cell
 have k_b:=b_b_5.cell
 have k_r:=b_r_5.cell
 go_wp2_with fail
 clear k_a k_b k_r
 refine (dY _ _).mono ?_
 rintro x w6 ⟨rfl,hb⟩
 have b_a_6:=b_a_5.later hb
 have b_b_6:=b_b_5.later hb
 have b_r_6:=b_r_5.later hb
 have HB6:=ym (ac HB5.out hb)
 clear b_a_5 b_b_5 b_r_5
 clear hb
 have k_a:=b_a_6.cell
 have k_b:=b_b_6.cell
 have k_r:=b_r_6.cell
 have f_r:=b_r_6.free
 go_wp2_with fail
 refine bodyPost_ret (al rfl rfl (put4 b_r_6 HB6.out (by omega)).1 rfl) rfl ?_
 exact ⟨rfl,(put4 b_r_6 HB6.out (by omega)).2⟩
theorem pE {x y:Int} {d d' B:Nat} {s s':ByteArray} {l l':List Tm} {vs ws:List Value} {w:World} (ha:RTm w B d ⟨3,x,s,l⟩ vs) (hb:RTm w B d' ⟨3,y,s',l'⟩ ws) (hB:B≤w.heap.size) (fa:af ⟨3,x,s,l⟩=true) (fb:af ⟨3,y,s',l'⟩=true) (hz:(fz s' s false).2≠0) :
 Calls Tryz.prog 189 #[.int .i64 14,.agg vs.toArray,.agg ws.toArray] w fun z w'=>z=bM 0 0 emp (fz s' s false).2∧Below w.heap.size w w':=by
 obtain ⟨A,c,rfl,q1,q2,q3,q4,q5,_⟩:=ha.cells
 obtain ⟨A',c',rfl,r1,r2,r3,r4,r5,_⟩:=hb.cells
 have HA:=ym ha
 have HB_:=ym hb
 simp only at q2 q3 q4 q5 r2 r3 r4 r5
 clear ha hb
 have FA:=ym fa
 have FB:=ym fb
 have HK:Hid (aG 14 3 3=true):=ym (by decide)
 clear fa fb
 go_enter Tryz.func189,Tryz.ntmps189
 go_wp2_with fail
 generalize hW:World.alloc _ _=w1
 obtain ⟨hb,hz⟩:=al3 hW
 have b_a_1:=n31 hW
 have b_b_1:=n32 hW
 have b_r_1:=n33 hW
 have HB1:=ym hb
 clear hW hz hb
 refine (ai (t:=⟨3,x,s,l⟩) (vs:=[_,_,_,_]) (HA.out.below HB1.out hB) (yn hB HB1.out.size)).mono ?_
 rintro x w2 ⟨rfl,hb⟩
 have b_a_2:=b_a_1.later hb
 have b_b_2:=b_b_1.later hb
 have b_r_2:=b_r_1.later hb
 have HB2:=ym (ac HB1.out hb)
 clear b_a_1 b_b_1 b_r_1
 clear hb
 rw [FA.out]
 have k_a:=b_a_2.cell
 have k_b:=b_b_2.cell
 have k_r:=b_r_2.cell
 go_wp2_with fail
 clear k_a k_b k_r
 refine (ai (t:=⟨3,y,s',l'⟩) (vs:=[_,_,_,_]) (HB_.out.below HB2.out hB) (yn hB HB2.out.size)).mono ?_
 rintro x w3 ⟨rfl,hb⟩
 have b_a_3:=b_a_2.later hb
 have b_b_3:=b_b_2.later hb
 have b_r_3:=b_r_2.later hb
 have HB3:=ym (ac HB2.out hb)
 clear b_a_2 b_b_2 b_r_2
 clear hb
 rw [FB.out]
 have k_a:=b_a_3.cell
 have k_b:=b_b_3.cell
 have k_r:=b_r_3.cell
 go_wp2_with fail
 clear k_a k_b k_r
 refine (aU 14 3 3 _).mono ?_
 rintro x w4 ⟨rfl,hb⟩
 have b_a_4:=b_a_3.later hb
 have b_b_4:=b_b_3.later hb
 have b_r_4:=b_r_3.later hb
 have HB4:=ym (ac HB3.out hb)
 clear b_a_3 b_b_3 b_r_3
 clear hb
 rw [HK.out]
 have k_a:=b_a_4.cell
 have k_b:=b_b_4.cell
 have k_r:=b_r_4.cell
 go_wp2_with fail
 clear k_a k_b k_r
 refine (qP (p:=s') (t:=s) (by omega) (by omega)).mono ?_
 rintro x w5 ⟨rfl,hb⟩
 have b_a_5:=b_a_4.later hb
 have b_b_5:=b_b_4.later hb
 have b_r_5:=b_r_4.later hb
 have HB5:=ym (ac HB4.out hb)
 clear b_a_4 b_b_4 b_r_4
 clear hb
 have hq:(((fz s' s false).2:Int) !=0)=true:=by simpa using hz
 clear hz
 have k_a:=b_a_5.cell
 have k_b:=b_b_5.cell
 have k_r:=b_r_5.cell
 have f_r:=b_r_5.free
 go_wp2_with fail
 refine bodyPost_ret (al rfl rfl (put4 b_r_5 HB5.out (by omega)).1 rfl) rfl ?_
 exact ⟨rfl,(put4 b_r_5 HB5.out (by omega)).2⟩
theorem un_bad {code x ka:Int} {d B:Nat} {s:ByteArray} {l:List Tm} {vs:List Value} {w:World} (ha:RTm w B d ⟨ka,x,s,l⟩ vs) (hB:B≤w.heap.size) (fa:af ⟨ka,x,s,l⟩=false) :
 Calls Tryz.prog 188 #[.int .i64 code,.agg vs.toArray] w fun z w'=>z=bM 0 0 emp 1∧Below w.heap.size w w':=by
 obtain ⟨A,c,rfl,q1,q2,q3,q4,q5,_⟩:=ha.cells
 have HA:=ym ha
 simp only at q2 q3 q4 q5
 clear ha
 have FA:=ym fa
 clear fa
 go_enter Tryz.func188,Tryz.ntmps188
 go_wp2_with fail
 generalize hW:World.alloc _ _=w1
 obtain ⟨hb,hz⟩:=al2 hW
 have b_a_1:=n21 hW
 have b_r_1:=n22 hW
 have HB1:=ym hb
 clear hW hz hb
 refine (ai (t:=⟨ka,x,s,l⟩) (vs:=[_,_,_,_]) (HA.out.below HB1.out hB) (yn hB HB1.out.size)).mono ?_
 rintro x w2 ⟨rfl,hb⟩
 have b_a_2:=b_a_1.later hb
 have b_r_2:=b_r_1.later hb
 have HB2:=ym (ac HB1.out hb)
 clear b_a_1 b_r_1
 clear hb
 rw [FA.out]
 have k_a:=b_a_2.cell
 have k_r:=b_r_2.cell
 have f_r:=b_r_2.free
 go_wp2_with fail
 refine bodyPost_ret (al rfl rfl (put4 b_r_2 HB2.out (by omega)).1 rfl) rfl ?_
 exact ⟨rfl,(put4 b_r_2 HB2.out (by omega)).2⟩
theorem un_lo {code x ka:Int} {d B:Nat} {s:ByteArray} {l:List Tm} {vs:List Value} {w:World} (ha:RTm w B d ⟨ka,x,s,l⟩ vs) (hB:B≤w.heap.size) (fa:af ⟨ka,x,s,l⟩=true) (hc:code<1) :
 Calls Tryz.prog 188 #[.int .i64 code,.agg vs.toArray] w fun z w'=>z=bM 0 0 emp 1∧Below w.heap.size w w':=by
 obtain ⟨A,c,rfl,q1,q2,q3,q4,q5,_⟩:=ha.cells
 have HA:=ym ha
 simp only at q2 q3 q4 q5
 clear ha
 have FA:=ym fa
 clear fa
 have hq0:decide (code<1)=true:=by simp;omega
 go_enter Tryz.func188,Tryz.ntmps188
 go_wp2_with fail
 generalize hW:World.alloc _ _=w1
 obtain ⟨hb,hz⟩:=al2 hW
 have b_a_1:=n21 hW
 have b_r_1:=n22 hW
 have HB1:=ym hb
 clear hW hz hb
 refine (ai (t:=⟨ka,x,s,l⟩) (vs:=[_,_,_,_]) (HA.out.below HB1.out hB) (yn hB HB1.out.size)).mono ?_
 rintro x w2 ⟨rfl,hb⟩
 have b_a_2:=b_a_1.later hb
 have b_r_2:=b_r_1.later hb
 have HB2:=ym (ac HB1.out hb)
 clear b_a_1 b_r_1
 clear hb
 rw [FA.out]
 have k_a:=b_a_2.cell
 have k_r:=b_r_2.cell
 have f_r:=b_r_2.free
 go_wp2_with fail
 refine bodyPost_ret (al rfl rfl (put4 b_r_2 HB2.out (by omega)).1 rfl) rfl ?_
 exact ⟨rfl,(put4 b_r_2 HB2.out (by omega)).2⟩
theorem un_hi {code x ka:Int} {d B:Nat} {s:ByteArray} {l:List Tm} {vs:List Value} {w:World} (ha:RTm w B d ⟨ka,x,s,l⟩ vs) (hB:B≤w.heap.size) (fa:af ⟨ka,x,s,l⟩=true) (hc:3<code) :
 Calls Tryz.prog 188 #[.int .i64 code,.agg vs.toArray] w fun z w'=>z=bM 0 0 emp 1∧Below w.heap.size w w':=by
 obtain ⟨A,c,rfl,q1,q2,q3,q4,q5,_⟩:=ha.cells
 have HA:=ym ha
 simp only at q2 q3 q4 q5
 clear ha
 have FA:=ym fa
 clear fa
 have hq0:decide (code<1)=false:=by simp;omega
 have hq1:decide (3<code)=true:=by simp;omega
 go_enter Tryz.func188,Tryz.ntmps188
 go_wp2_with fail
 generalize hW:World.alloc _ _=w1
 obtain ⟨hb,hz⟩:=al2 hW
 have b_a_1:=n21 hW
 have b_r_1:=n22 hW
 have HB1:=ym hb
 clear hW hz hb
 refine (ai (t:=⟨ka,x,s,l⟩) (vs:=[_,_,_,_]) (HA.out.below HB1.out hB) (yn hB HB1.out.size)).mono ?_
 rintro x w2 ⟨rfl,hb⟩
 have b_a_2:=b_a_1.later hb
 have b_r_2:=b_r_1.later hb
 have HB2:=ym (ac HB1.out hb)
 clear b_a_1 b_r_1
 clear hb
 rw [FA.out]
 have k_a:=b_a_2.cell
 have k_r:=b_r_2.cell
 have f_r:=b_r_2.free
 go_wp2_with fail
 refine bodyPost_ret (al rfl rfl (put4 b_r_2 HB2.out (by omega)).1 rfl) rfl ?_
 exact ⟨rfl,(put4 b_r_2 HB2.out (by omega)).2⟩
theorem un_not {x:Int} {d B:Nat} {s:ByteArray} {l:List Tm} {vs:List Value} {w:World} (ha:RTm w B d ⟨6,x,s,l⟩ vs) (hB:B≤w.heap.size) (fa:af ⟨6,x,s,l⟩=true) :
 Calls Tryz.prog 188 #[.int .i64 1,.agg vs.toArray] w fun z w'=>z=bM 6 (bit (decide (x=0))) emp 0∧Below w.heap.size w w':=by
 obtain ⟨A,c,rfl,q1,q2,q3,q4,q5,_⟩:=ha.cells
 have HA:=ym ha
 simp only at q2 q3 q4 q5
 clear ha
 have FA:=ym fa
 have HD:Hid ((x==0)=decide (x=0)):=ym (by rw [Bool.eq_iff_iff];simp)
 clear fa
 go_enter Tryz.func188,Tryz.ntmps188
 go_wp2_with fail
 generalize hW:World.alloc _ _=w1
 obtain ⟨hb,hz⟩:=al2 hW
 have b_a_1:=n21 hW
 have b_r_1:=n22 hW
 have HB1:=ym hb
 clear hW hz hb
 refine (ai (t:=⟨6,x,s,l⟩) (vs:=[_,_,_,_]) (HA.out.below HB1.out hB) (yn hB HB1.out.size)).mono ?_
 rintro x w2 ⟨rfl,hb⟩
 have b_a_2:=b_a_1.later hb
 have b_r_2:=b_r_1.later hb
 have HB2:=ym (ac HB1.out hb)
 clear b_a_1 b_r_1
 clear hb
 rw [FA.out]
 have k_a:=b_a_2.cell
 have k_r:=b_r_2.cell
 go_wp2_with fail
 clear k_a k_r
 rw [HD.out]
 refine (dY _ _).mono ?_
 rintro x w3 ⟨rfl,hb⟩
 have b_a_3:=b_a_2.later hb
 have b_r_3:=b_r_2.later hb
 have HB3:=ym (ac HB2.out hb)
 clear b_a_2 b_r_2
 clear hb
 have k_a:=b_a_3.cell
 have k_r:=b_r_3.cell
 have f_r:=b_r_3.free
 go_wp2_with fail
 refine bodyPost_ret (al rfl rfl (put4 b_r_3 HB3.out (by omega)).1 rfl) rfl ?_
 exact ⟨rfl,(put4 b_r_3 HB3.out (by omega)).2⟩
theorem un_neg {x:Int} {d B:Nat} {s:ByteArray} {l:List Tm} {vs:List Value} {w:World} (ha:RTm w B d ⟨2,x,s,l⟩ vs) (hB:B≤w.heap.size) (fa:af ⟨2,x,s,l⟩=true) {k n e:Int} (hr:mD 8 0 x=(k,n,e)) :
 Calls Tryz.prog 188 #[.int .i64 2,.agg vs.toArray] w fun z w'=>z=bM k n emp e∧Below w.heap.size w w':=by
 obtain ⟨A,c,rfl,q1,q2,q3,q4,q5,_⟩:=ha.cells
 have HA:=ym ha
 simp only at q2 q3 q4 q5
 clear ha
 have FA:=ym fa
 have HR:=ym hr
 clear fa hr
 go_enter Tryz.func188,Tryz.ntmps188
 go_wp2_with fail
 generalize hW:World.alloc _ _=w1
 obtain ⟨hb,hz⟩:=al2 hW
 have b_a_1:=n21 hW
 have b_r_1:=n22 hW
 have HB1:=ym hb
 clear hW hz hb
 refine (ai (t:=⟨2,x,s,l⟩) (vs:=[_,_,_,_]) (HA.out.below HB1.out hB) (yn hB HB1.out.size)).mono ?_
 rintro x w2 ⟨rfl,hb⟩
 have b_a_2:=b_a_1.later hb
 have b_r_2:=b_r_1.later hb
 have HB2:=ym (ac HB1.out hb)
 clear b_a_1 b_r_1
 clear hb
 rw [FA.out]
 have k_a:=b_a_2.cell
 have k_r:=b_r_2.cell
 go_wp2_with fail
 clear k_a k_r
 refine (mE 8 0 x k n e (by omega) (by unfold I64;omega) q5 HR.out _).mono ?_
 rintro x w3 ⟨rfl,hb⟩
 have b_a_3:=b_a_2.later hb
 have b_r_3:=b_r_2.later hb
 have HB3:=ym (ac HB2.out hb)
 clear b_a_2 b_r_2
 clear hb
 have k_a:=b_a_3.cell
 have k_r:=b_r_3.cell
 have f_r:=b_r_3.free
 go_wp2_with fail
 refine bodyPost_ret (al rfl rfl (put4 b_r_3 HB3.out (by omega)).1 rfl) rfl ?_
 exact ⟨rfl,(put4 b_r_3 HB3.out (by omega)).2⟩
theorem un_len5 {x:Int} {d B:Nat} {s:ByteArray} {l:List Tm} {vs:List Value} {w:World} (ha:RTm w B d ⟨5,x,s,l⟩ vs) (hB:B≤w.heap.size) (fa:af ⟨5,x,s,l⟩=true) :
 Calls Tryz.prog 188 #[.int .i64 3,.agg vs.toArray] w fun z w'=>z=bM 2 s.size emp 0∧Below w.heap.size w w':=by
 obtain ⟨A,c,rfl,q1,q2,q3,q4,q5,_⟩:=ha.cells
 have HA:=ym ha
 simp only at q2 q3 q4 q5
 clear ha
 have FA:=ym fa
 clear fa
 go_enter Tryz.func188,Tryz.ntmps188
 go_wp2_with fail
 generalize hW:World.alloc _ _=w1
 obtain ⟨hb,hz⟩:=al2 hW
 have b_a_1:=n21 hW
 have b_r_1:=n22 hW
 have HB1:=ym hb
 clear hW hz hb
 refine (ai (t:=⟨5,x,s,l⟩) (vs:=[_,_,_,_]) (HA.out.below HB1.out hB) (yn hB HB1.out.size)).mono ?_
 rintro x w2 ⟨rfl,hb⟩
 have b_a_2:=b_a_1.later hb
 have b_r_2:=b_r_1.later hb
 have HB2:=ym (ac HB1.out hb)
 clear b_a_1 b_r_1
 clear hb
 rw [FA.out]
 have k_a:=b_a_2.cell
 have k_r:=b_r_2.cell
 go_wp2_with fail
 clear k_a k_r
 refine (bp _ _).mono ?_
 rintro x w3 ⟨rfl,hb⟩
 have b_a_3:=b_a_2.later hb
 have b_r_3:=b_r_2.later hb
 have HB3:=ym (ac HB2.out hb)
 clear b_a_2 b_r_2
 clear hb
 have k_a:=b_a_3.cell
 have k_r:=b_r_3.cell
 have f_r:=b_r_3.free
 go_wp2_with fail
 refine bodyPost_ret (al rfl rfl (put4 b_r_3 HB3.out (by omega)).1 rfl) rfl ?_
 exact ⟨rfl,(put4 b_r_3 HB3.out (by omega)).2⟩
theorem un_len7 {x:Int} {d B:Nat} {s:ByteArray} {l:List Tm} {vs:List Value} {w:World} (ha:RTm w B d ⟨7,x,s,l⟩ vs) (hB:B≤w.heap.size) (fa:af ⟨7,x,s,l⟩=true) :
 Calls Tryz.prog 188 #[.int .i64 3,.agg vs.toArray] w fun z w'=>z=bM 2 l.length emp 0∧Below w.heap.size w w':=by
 obtain ⟨A,c,rfl,q1,q2,q3,q4,q5,_⟩:=ha.cells
 have HA:=ym ha
 simp only at q2 q3 q4 q5
 clear ha
 have FA:=ym fa
 clear fa
 go_enter Tryz.func188,Tryz.ntmps188
 go_wp2_with fail
 generalize hW:World.alloc _ _=w1
 obtain ⟨hb,hz⟩:=al2 hW
 have b_a_1:=n21 hW
 have b_r_1:=n22 hW
 have HB1:=ym hb
 clear hW hz hb
 refine (ai (t:=⟨7,x,s,l⟩) (vs:=[_,_,_,_]) (HA.out.below HB1.out hB) (yn hB HB1.out.size)).mono ?_
 rintro x w2 ⟨rfl,hb⟩
 have b_a_2:=b_a_1.later hb
 have b_r_2:=b_r_1.later hb
 have HB2:=ym (ac HB1.out hb)
 clear b_a_1 b_r_1
 clear hb
 rw [FA.out]
 have k_a:=b_a_2.cell
 have k_r:=b_r_2.cell
 go_wp2_with fail
 clear k_a k_r
 refine (bp _ _).mono ?_
 rintro x w3 ⟨rfl,hb⟩
 have b_a_3:=b_a_2.later hb
 have b_r_3:=b_r_2.later hb
 have HB3:=ym (ac HB2.out hb)
 clear b_a_2 b_r_2
 clear hb
 have k_a:=b_a_3.cell
 have k_r:=b_r_3.cell
 have f_r:=b_r_3.free
 go_wp2_with fail
 refine bodyPost_ret (al rfl rfl (put4 b_r_3 HB3.out (by omega)).1 rfl) rfl ?_
 exact ⟨rfl,(put4 b_r_3 HB3.out (by omega)).2⟩
theorem xA {x ka:Int} {d B:Nat} {s:ByteArray} {l:List Tm} {vs:List Value} {w:World} (ha:RTm w B d ⟨ka,x,s,l⟩ vs) (hB:B≤w.heap.size) (fa:af ⟨ka,x,s,l⟩=true) (h6:ka≠6) :
 Calls Tryz.prog 188 #[.int .i64 1,.agg vs.toArray] w fun z w'=>z=bM 0 0 emp 7∧Below w.heap.size w w':=by
 obtain ⟨A,c,rfl,q1,q2,q3,q4,q5,_⟩:=ha.cells
 have HA:=ym ha
 simp only at q2 q3 q4 q5
 clear ha
 have FA:=ym fa
 clear fa
 have hq6:(ka==6)=false:=by simpa using h6
 go_enter Tryz.func188,Tryz.ntmps188
 go_wp2_with fail
 generalize hW:World.alloc _ _=w1
 obtain ⟨hb,hz⟩:=al2 hW
 have b_a_1:=n21 hW
 have b_r_1:=n22 hW
 have HB1:=ym hb
 clear hW hz hb
 refine (ai (t:=⟨ka,x,s,l⟩) (vs:=[_,_,_,_]) (HA.out.below HB1.out hB) (yn hB HB1.out.size)).mono ?_
 rintro x w2 ⟨rfl,hb⟩
 have b_a_2:=b_a_1.later hb
 have b_r_2:=b_r_1.later hb
 have HB2:=ym (ac HB1.out hb)
 clear b_a_1 b_r_1
 clear hb
 rw [FA.out]
 have k_a:=b_a_2.cell
 have k_r:=b_r_2.cell
 have f_r:=b_r_2.free
 go_wp2_with fail
 refine bodyPost_ret (al rfl rfl (put4 b_r_2 HB2.out (by omega)).1 rfl) rfl ?_
 exact ⟨rfl,(put4 b_r_2 HB2.out (by omega)).2⟩
theorem xB {x ka:Int} {d B:Nat} {s:ByteArray} {l:List Tm} {vs:List Value} {w:World} (ha:RTm w B d ⟨ka,x,s,l⟩ vs) (hB:B≤w.heap.size) (fa:af ⟨ka,x,s,l⟩=true) (h2:ka≠2) :
 Calls Tryz.prog 188 #[.int .i64 2,.agg vs.toArray] w fun z w'=>z=bM 0 0 emp 7∧Below w.heap.size w w':=by
 obtain ⟨A,c,rfl,q1,q2,q3,q4,q5,_⟩:=ha.cells
 have HA:=ym ha
 simp only at q2 q3 q4 q5
 clear ha
 have FA:=ym fa
 clear fa
 have hq2:(ka==2)=false:=by simpa using h2
 go_enter Tryz.func188,Tryz.ntmps188
 go_wp2_with fail
 generalize hW:World.alloc _ _=w1
 obtain ⟨hb,hz⟩:=al2 hW
 have b_a_1:=n21 hW
 have b_r_1:=n22 hW
 have HB1:=ym hb
 clear hW hz hb
 refine (ai (t:=⟨ka,x,s,l⟩) (vs:=[_,_,_,_]) (HA.out.below HB1.out hB) (yn hB HB1.out.size)).mono ?_
 rintro x w2 ⟨rfl,hb⟩
 have b_a_2:=b_a_1.later hb
 have b_r_2:=b_r_1.later hb
 have HB2:=ym (ac HB1.out hb)
 clear b_a_1 b_r_1
 clear hb
 rw [FA.out]
 have k_a:=b_a_2.cell
 have k_r:=b_r_2.cell
 have f_r:=b_r_2.free
 go_wp2_with fail
 refine bodyPost_ret (al rfl rfl (put4 b_r_2 HB2.out (by omega)).1 rfl) rfl ?_
 exact ⟨rfl,(put4 b_r_2 HB2.out (by omega)).2⟩
theorem xC {x ka:Int} {d B:Nat} {s:ByteArray} {l:List Tm} {vs:List Value} {w:World} (ha:RTm w B d ⟨ka,x,s,l⟩ vs) (hB:B≤w.heap.size) (fa:af ⟨ka,x,s,l⟩=true) (h3:ka≠3) (h5:ka≠5) (h7:ka≠7) :
 Calls Tryz.prog 188 #[.int .i64 3,.agg vs.toArray] w fun z w'=>z=bM 0 0 emp 7∧Below w.heap.size w w':=by
 obtain ⟨A,c,rfl,q1,q2,q3,q4,q5,_⟩:=ha.cells
 have HA:=ym ha
 simp only at q2 q3 q4 q5
 clear ha
 have FA:=ym fa
 clear fa
 have hq3:(ka==3)=false:=by simpa using h3
 have hq5:(ka==5)=false:=by simpa using h5
 have hq7:(ka==7)=false:=by simpa using h7
 go_enter Tryz.func188,Tryz.ntmps188
 go_wp2_with fail
 generalize hW:World.alloc _ _=w1
 obtain ⟨hb,hz⟩:=al2 hW
 have b_a_1:=n21 hW
 have b_r_1:=n22 hW
 have HB1:=ym hb
 clear hW hz hb
 refine (ai (t:=⟨ka,x,s,l⟩) (vs:=[_,_,_,_]) (HA.out.below HB1.out hB) (yn hB HB1.out.size)).mono ?_
 rintro x w2 ⟨rfl,hb⟩
 have b_a_2:=b_a_1.later hb
 have b_r_2:=b_r_1.later hb
 have HB2:=ym (ac HB1.out hb)
 clear b_a_1 b_r_1
 clear hb
 rw [FA.out]
 have k_a:=b_a_2.cell
 have k_r:=b_r_2.cell
 have f_r:=b_r_2.free
 go_wp2_with fail
 refine bodyPost_ret (al rfl rfl (put4 b_r_2 HB2.out (by omega)).1 rfl) rfl ?_
 exact ⟨rfl,(put4 b_r_2 HB2.out (by omega)).2⟩
end Go.Proofs.YtjpndglegpcdnaaGreat
