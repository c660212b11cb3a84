/- match.ways.enter. -/
import Derived.Test.YtdphibjibnffeaaGreatJoin
import Derived.Test.YtdphibjibnffeaaGreatSetLaw
import Derived.Test.YtdphibjibnffeaaGreatReg3
import Derived.Test.YtdphibjibnffeaaGreatTmAt
import Derived.Deep.LoopGhost
import Derived.Deep.Cut
set_option linter.unusedVariables false
set_option linter.unusedSimpArgs false
set_option maxRecDepth 100000
set_option maxHeartbeats 8000000
namespace Go.Proofs.YtdphibjibnffeaaGreat
open Go.ChangeShapes Go.WideShapes Go.ChangeAt Go.RowKit
theorem fL {x:Int} {s:ByteArray} {l:List Tm} (h:af ⟨7,x,s,l⟩=true):l.length≤16∧∀x∈l,lU x:=du (by
 have:=kI h
 rw [if_pos rfl] at this
 exact this.2.2)
theorem wL {x y:Int} {d B:Nat} {s s':ByteArray} {l l':List Tm} {vs ws:List Value} {w:World} (ha:RTm w B (d+1) ⟨7,x,s,l⟩ vs) (hb:RTm w B (d+1) ⟨7,y,s',l'⟩ ws) (hB:B≤w.heap.size) (fa:af ⟨7,x,s,l⟩=true) (fb:af ⟨7,y,s',l'⟩=true)  :
 Calls Tryz.prog 247 #[.int .i64 15,.agg vs.toArray,.agg ws.toArray] w fun z w'=>iX d w w' (kY ⟨7,x,s,l⟩ ⟨7,y,s',l'⟩,0) z:=by
 obtain ⟨A,c,rfl,q1,q2,q3,q4,q5,_⟩:=ha.cells
 obtain ⟨A',c',rfl,r1,r2,r3,r4,r5,_⟩:=hb.cells
 have HA:=yW ha
 have HB_:=yW hb
 have FA:=yW fa
 have FB:=yW fb
 simp only at q2 q3 q4 q5 r2 r3 r4 r5
 clear ha hb fa fb
 have HK:Hid (aE 15 7 7=true):=yW (by decide)
 go_enter Tryz.func247,Tryz.ntmps247
 go_wp2_with fail
 generalize hW:World.alloc _ _=w1
 obtain ⟨hb,hz⟩:=al3 hW
 have b_a_1:=n31 hW
 have b_b_1:=n32 hW
 have b_r_1:=n33 hW
 have HB1:=yW hb
 clear hW hz hb
 refine (aj (t:=⟨7,x,s,l⟩) (vs:=[_,_,_,_]) (HA.out.below HB1.out hB) (yX hB HB1.out.size)).mono ?_
 rintro x w2 ⟨rfl,hb⟩
 have b_a_2:=b_a_1.later hb
 have b_b_2:=b_b_1.later hb
 have b_r_2:=b_r_1.later hb
 have HB2:=yW (ab HB1.out hb)
 clear b_a_1 b_b_1 b_r_1
 clear hb
 rw [FA.out]
 have k_a:=b_a_2.cell
 have k_b:=b_b_2.cell
 have k_r:=b_r_2.cell
 go_wp2_with fail
 clear k_a k_b k_r
 refine (aj (t:=⟨7,y,s',l'⟩) (vs:=[_,_,_,_]) (HB_.out.below HB2.out hB) (yX hB HB2.out.size)).mono ?_
 rintro x w3 ⟨rfl,hb⟩
 have b_a_3:=b_a_2.later hb
 have b_b_3:=b_b_2.later hb
 have b_r_3:=b_r_2.later hb
 have HB3:=yW (ab HB2.out hb)
 clear b_a_2 b_b_2 b_r_2
 clear hb
 rw [FB.out]
 have k_a:=b_a_3.cell
 have k_b:=b_b_3.cell
 have k_r:=b_r_3.cell
 go_wp2_with fail
 clear k_a k_b k_r
 refine (aP 15 7 7 _).mono ?_
 rintro x w4 ⟨rfl,hb⟩
 have b_a_4:=b_a_3.later hb
 have b_b_4:=b_b_3.later hb
 have b_r_4:=b_r_3.later hb
 have HB4:=yW (ab HB3.out hb)
 clear b_a_3 b_b_3 b_r_3
 clear hb
 rw [HK.out]
 have k_a:=b_a_4.cell
 have k_b:=b_b_4.cell
 have k_r:=b_r_4.cell
 go_wp2_with fail
 clear k_a k_b k_r
 have hlr:=b_r_4.lt
 have hwl:=HB4.out.size
 refine (xw (d:=d) (d':=d) (a:=⟨7,x,s,l⟩) (b:=⟨7,y,s',l'⟩) (vs:=[_,_,_,_]) (ws:=[_,_,_,_]) (HA.out.below HB4.out hB) (HB_.out.below HB4.out hB) (yX hB HB4.out.size) (fL FA.out).1 (fL FA.out).2).mono ?_
 rintro x w5 ⟨⟨A4,c4,rfl,hrd⟩,hb⟩
 have b_a_5:=b_a_4.later hb
 have b_b_5:=b_b_4.later hb
 have b_r_5:=b_r_4.later hb
 have HB5:=yW (ab HB4.out hb)
 clear b_a_4 b_b_4 b_r_4
 clear hb
 have HRD:=yW hrd
 clear hrd
 have k_a:=b_a_5.cell
 have k_b:=b_b_5.cell
 have k_r:=b_r_5.cell
 have f_r:=b_r_5.free
 go_wp2_with fail
 have hbr:=dZ b_r_5 (.int .i64 7) (.int .i64 0) (.string kx) (.slice A4 (kY ⟨7,x,s,l⟩ ⟨7,y,s',l'⟩).l.length c4)
 refine bodyPost_ret (ao rfl rfl hbr rfl) rfl ?_
 exact ⟨⟨A4,c4,rfl,(HRD.out.put4 (by omega) _ _ _ _).lower (by omega)⟩,dC HB5.out (by omega) _ _ _ _⟩
theorem wJ {x y:Int} {d B:Nat} {s s':ByteArray} {l l':List Tm} {vs ws:List Value} {w:World} (ha:RTm w B (d+1) ⟨7,x,s,l⟩ vs) (hb:RTm w B (d+1) ⟨7,y,s',l'⟩ ws) (hB:B≤w.heap.size) (fa:af ⟨7,x,s,l⟩=true) (fb:af ⟨7,y,s',l'⟩=true)  :
 Calls Tryz.prog 247 #[.int .i64 16,.agg vs.toArray,.agg ws.toArray] w fun z w'=>iX d w w' (jh ⟨7,x,s,l⟩ ⟨7,y,s',l'⟩) z:=by
 obtain ⟨A,c,rfl,q1,q2,q3,q4,q5,_⟩:=ha.cells
 obtain ⟨A',c',rfl,r1,r2,r3,r4,r5,_⟩:=hb.cells
 have HA:=yW ha
 have HB_:=yW hb
 have FA:=yW fa
 have FB:=yW fb
 simp only at q2 q3 q4 q5 r2 r3 r4 r5
 clear ha hb fa fb
 have HK:Hid (aE 16 7 7=true):=yW (by decide)
 go_enter Tryz.func247,Tryz.ntmps247
 go_wp2_with fail
 generalize hW:World.alloc _ _=w1
 obtain ⟨hb,hz⟩:=al3 hW
 have b_a_1:=n31 hW
 have b_b_1:=n32 hW
 have b_r_1:=n33 hW
 have HB1:=yW hb
 clear hW hz hb
 refine (aj (t:=⟨7,x,s,l⟩) (vs:=[_,_,_,_]) (HA.out.below HB1.out hB) (yX hB HB1.out.size)).mono ?_
 rintro x w2 ⟨rfl,hb⟩
 have b_a_2:=b_a_1.later hb
 have b_b_2:=b_b_1.later hb
 have b_r_2:=b_r_1.later hb
 have HB2:=yW (ab HB1.out hb)
 clear b_a_1 b_b_1 b_r_1
 clear hb
 rw [FA.out]
 have k_a:=b_a_2.cell
 have k_b:=b_b_2.cell
 have k_r:=b_r_2.cell
 go_wp2_with fail
 clear k_a k_b k_r
 refine (aj (t:=⟨7,y,s',l'⟩) (vs:=[_,_,_,_]) (HB_.out.below HB2.out hB) (yX hB HB2.out.size)).mono ?_
 rintro x w3 ⟨rfl,hb⟩
 have b_a_3:=b_a_2.later hb
 have b_b_3:=b_b_2.later hb
 have b_r_3:=b_r_2.later hb
 have HB3:=yW (ab HB2.out hb)
 clear b_a_2 b_b_2 b_r_2
 clear hb
 rw [FB.out]
 have k_a:=b_a_3.cell
 have k_b:=b_b_3.cell
 have k_r:=b_r_3.cell
 go_wp2_with fail
 clear k_a k_b k_r
 refine (aP 16 7 7 _).mono ?_
 rintro x w4 ⟨rfl,hb⟩
 have b_a_4:=b_a_3.later hb
 have b_b_4:=b_b_3.later hb
 have b_r_4:=b_r_3.later hb
 have HB4:=yW (ab HB3.out hb)
 clear b_a_3 b_b_3 b_r_3
 clear hb
 rw [HK.out]
 have k_a:=b_a_4.cell
 have k_b:=b_b_4.cell
 have k_r:=b_r_4.cell
 go_wp2_with fail
 clear k_a k_b k_r
 have hlr:=b_r_4.lt
 have hwl:=HB4.out.size
 refine (xl (d:=d) (d':=d) (a:=⟨7,x,s,l⟩) (b:=⟨7,y,s',l'⟩) (vs:=[_,_,_,_]) (ws:=[_,_,_,_]) (HA.out.below HB4.out hB) (HB_.out.below HB4.out hB) (yX hB HB4.out.size) (fL FA.out).1 (fL FB.out).1).mono ?_
 rintro x w5 ⟨⟨A4,c4,rfl,hrd⟩,hb⟩
 have b_a_5:=b_a_4.later hb
 have b_b_5:=b_b_4.later hb
 have b_r_5:=b_r_4.later hb
 have HB5:=yW (ab HB4.out hb)
 clear b_a_4 b_b_4 b_r_4
 clear hb
 have HRD:=yW hrd
 clear hrd
 have k_a:=b_a_5.cell
 have k_b:=b_b_5.cell
 have k_r:=b_r_5.cell
 have f_r:=b_r_5.free
 go_wp2_with fail
 have hbr:=dZ b_r_5 (.int .i64 (jh ⟨7,x,s,l⟩ ⟨7,y,s',l'⟩).1.kind) (.int .i64 (jh ⟨7,x,s,l⟩ ⟨7,y,s',l'⟩).1.n) (.string (jh ⟨7,x,s,l⟩ ⟨7,y,s',l'⟩).1.s) (.slice A4 (jh ⟨7,x,s,l⟩ ⟨7,y,s',l'⟩).1.l.length c4)
 refine bodyPost_ret (ao rfl rfl hbr rfl) rfl ?_
 exact ⟨⟨A4,c4,rfl,(HRD.out.put4 (by omega) _ _ _ _).lower (by omega)⟩,dC HB5.out (by omega) _ _ _ _⟩
theorem pw {x y kb:Int} {d B:Nat} {s s':ByteArray} {l l':List Tm} {vs ws:List Value} {w:World} (ha:RTm w B (d+1) ⟨7,x,s,l⟩ vs) (hb:RTm w B (d+1) ⟨kb,y,s',l'⟩ ws) (hB:B≤w.heap.size) (fa:af ⟨7,x,s,l⟩=true) (fb:af ⟨kb,y,s',l'⟩=true) (hk:aE 11 7 kb=true) :
 Calls Tryz.prog 247 #[.int .i64 11,.agg vs.toArray,.agg ws.toArray] w fun z w'=>z=bK 6 (bit (eD ⟨7,x,s,l⟩ ⟨kb,y,s',l'⟩)) emp 0∧Below w.heap.size w w':=by
 obtain ⟨A,c,rfl,q1,q2,q3,q4,q5,_⟩:=ha.cells
 obtain ⟨A',c',rfl,r1,r2,r3,r4,r5,_⟩:=hb.cells
 have HA:=yW ha
 have HB_:=yW hb
 have FA:=yW fa
 have FB:=yW fb
 simp only at q2 q3 q4 q5 r2 r3 r4 r5
 clear ha hb fa fb
 have HK:=yW hk
 clear hk
 go_enter Tryz.func247,Tryz.ntmps247
 go_wp2_with fail
 generalize hW:World.alloc _ _=w1
 obtain ⟨hb,hz⟩:=al3 hW
 have b_a_1:=n31 hW
 have b_b_1:=n32 hW
 have b_r_1:=n33 hW
 have HB1:=yW hb
 clear hW hz hb
 refine (aj (t:=⟨7,x,s,l⟩) (vs:=[_,_,_,_]) (HA.out.below HB1.out hB) (yX hB HB1.out.size)).mono ?_
 rintro x w2 ⟨rfl,hb⟩
 have b_a_2:=b_a_1.later hb
 have b_b_2:=b_b_1.later hb
 have b_r_2:=b_r_1.later hb
 have HB2:=yW (ab HB1.out hb)
 clear b_a_1 b_b_1 b_r_1
 clear hb
 rw [FA.out]
 have k_a:=b_a_2.cell
 have k_b:=b_b_2.cell
 have k_r:=b_r_2.cell
 go_wp2_with fail
 clear k_a k_b k_r
 refine (aj (t:=⟨kb,y,s',l'⟩) (vs:=[_,_,_,_]) (HB_.out.below HB2.out hB) (yX hB HB2.out.size)).mono ?_
 rintro x w3 ⟨rfl,hb⟩
 have b_a_3:=b_a_2.later hb
 have b_b_3:=b_b_2.later hb
 have b_r_3:=b_r_2.later hb
 have HB3:=yW (ab HB2.out hb)
 clear b_a_2 b_b_2 b_r_2
 clear hb
 rw [FB.out]
 have k_a:=b_a_3.cell
 have k_b:=b_b_3.cell
 have k_r:=b_r_3.cell
 go_wp2_with fail
 clear k_a k_b k_r
 refine (aP 11 7 kb _).mono ?_
 rintro x w4 ⟨rfl,hb⟩
 have b_a_4:=b_a_3.later hb
 have b_b_4:=b_b_3.later hb
 have b_r_4:=b_r_3.later hb
 have HB4:=yW (ab HB3.out hb)
 clear b_a_3 b_b_3 b_r_3
 clear hb
 rw [HK.out]
 have k_a:=b_a_4.cell
 have k_b:=b_b_4.cell
 have k_r:=b_r_4.cell
 go_wp2_with fail
 clear k_a k_b k_r
 refine (kv (d:=d) (d':=d) (s:=⟨7,x,s,l⟩) (t:=⟨kb,y,s',l'⟩) (vs:=[_,_,_,_]) (ws:=[_,_,_,_]) (HA.out.below HB4.out hB) (HB_.out.below HB4.out hB) (yX hB HB4.out.size) (by simp)).mono ?_
 rintro x w5 ⟨rfl,hb⟩
 have b_a_5:=b_a_4.later hb
 have b_b_5:=b_b_4.later hb
 have b_r_5:=b_r_4.later hb
 have HB5:=yW (ab HB4.out hb)
 clear b_a_4 b_b_4 b_r_4
 clear hb
 have k_a:=b_a_5.cell
 have k_b:=b_b_5.cell
 have k_r:=b_r_5.cell
 go_wp2_with fail
 clear k_a k_b k_r
 refine (eh _ _).mono ?_
 rintro x w6 ⟨rfl,hb⟩
 have b_a_6:=b_a_5.later hb
 have b_b_6:=b_b_5.later hb
 have b_r_6:=b_r_5.later hb
 have HB6:=yW (ab HB5.out hb)
 clear b_a_5 b_b_5 b_r_5
 clear hb
 have k_a:=b_a_6.cell
 have k_b:=b_b_6.cell
 have k_r:=b_r_6.cell
 have f_r:=b_r_6.free
 go_wp2_with fail
 refine bodyPost_ret (ao rfl rfl (put4 b_r_6 HB6.out (by omega)).1 rfl) rfl ?_
 exact ⟨rfl,(put4 b_r_6 HB6.out (by omega)).2⟩
def cA (on:List Bool):Array Value:=(on.map Value.bool).toArray
theorem lZ (on:List Bool) (k:Nat):(cA on)[k]? = on[k]?.map Value.bool:=by simp [cA]
theorem rP (on:List Bool) (k:Nat) (b:Bool):cA (on.set k b)=(cA on).setIfInBounds k (.bool b):=by
 simp [cA,List.map_set]
structure Ways (W G:Nat) (l:List Ins) (Al:Option Addr) (cl ca:Nat) (w:World) (st:List Bool × Bool):Prop where
 wb:bV w W #[.slice Al l.length cl,.slice (some ⟨G,0,none⟩) l.length ca,.bool st.2] 322
 gb:bV w G (cA st.1) 4
 len:st.1.length=l.length
 ne:W≠G
section
variable {W G cl ca:Nat} {l:List Ins} {Al:Option Addr} {w w':World} {st:List Bool × Bool}
theorem Ways.later (h:Ways W G l Al cl ca w st) (hb:Below w.heap.size w w'):Ways W G l Al cl ca w' st:=⟨h.wb.later hb,h.gb.later hb,h.len,h.ne⟩
theorem Ways.keep {B:Nat} (h:Ways W G l Al cl ca w st) (hb:Below B w w') (hW:W<B) (hG:G<B):Ways W G l Al cl ca w' st:=⟨h.wb.keep hb hW,h.gb.keep hb hG,h.len,h.ne⟩
theorem Ways.mark (h:Ways W G l Al cl ca w st) (k:Nat):Ways W G l Al cl ca (w.setCell ⟨G,k,none⟩ (.bool true)) (st.1.set k true,st.2):=
 ⟨h.wb.far h.ne k _,by show bV _ G (cA (st.1.set k true)) _;rw [rP];exact h.gb.set_ k _,by simp [h.len],h.ne⟩
theorem Ways.end_ (h:Ways W G l Al cl ca w st):Ways W G l Al cl ca (w.setCell ⟨W,2,none⟩ (.bool true)) (st.1,true):=
 ⟨h.wb.set_ 2 _,h.gb.far (Ne.symm h.ne) 2 _,h.len,h.ne⟩
end
theorem gL.own {g h base:Nat} {a b c:World} (k:gL g h a b) (l:Below base b c) (hb:a.heap.size≤base) (hg:g<base) (hh:h<base):gL g h a c:=
 ⟨k.1.trans (l.mono (by omega)),fun i hi h1 h2=>(l.block i (by omega)).trans (k.2 i hi h1 h2)⟩
theorem gL.set1 {g h:Nat} {a b:World} (k:gL g h a b) (i:Nat) (v:Value):gL g h a (b.setCell ⟨g,i,none⟩ v):=k.trans (((Exc.refl g b).set i v).left h)
theorem gL.set2 {g h:Nat} {a b:World} (k:gL g h a b) (i:Nat) (v:Value):gL g h a (b.setCell ⟨h,i,none⟩ v):=k.trans (((Exc.refl h b).set i v).right g)
theorem Stk.keep {D base c:Nat} {w w':World} {A:Option Addr} {xs:List Int} (h:Stk D base w A c xs) (hb:Below w.heap.size w w'):Stk D base w' A c xs:=⟨h.hd.later hb,h.own.later hb (yZ _)⟩
theorem Stk.far {D base c b:Nat} {w:World} {A:Option Addr} {xs:List Int} {vs:Array Value} {T:TypeId} (h:Stk D base w A c xs) (hb:bV w b vs T) (hT:T≠3) (hD:D≠b) (i:Nat) (u:Value):Stk D base (w.setCell ⟨b,i,none⟩ u) A c xs:=⟨h.hd.far hD i u,h.own.farT hb hT i u⟩
def yg (W G:Nat) (l:List Ins) (Al:Option Addr) (cl ca:Nat) (w w':World) (st:List Bool × Bool) (e:Ending):Prop:=
 e=.returned (.tuple #[])∧gL W G w w'∧Ways W G l Al cl ca w' st
theorem b_ne:(4:TypeId)≠3:=by decide
theorem w_ne:(322:TypeId)≠3:=by decide
theorem yU:(336:TypeId)≠3:=by decide
theorem um {w:World} {W G cl ca B:Nat} {l:List Ins} {Al:Option Addr} {i0:Nat} {first last:Bool} {st:List Bool × Bool} (hw:Ways W G l Al cl ca w st) (hl:RL fk w B l Al) (hBW:B≤W) (hBG:B≤G) (hp:Prg l) (hi:i0<l.length) (hca:l.length≤ca) :
 Calls Tryz.prog 311 #[.pointer (some ⟨W,0,none⟩),.int .i64 i0,.bool first,.bool last] w fun e w'=>yg W G l Al cl ca w w' (bJ l first last i0 st) e:=by
 have hWlt:=hw.wb.blk.lt
 have hGlt:=hw.gb.blk.lt
 have HW:=yW hw
 have HL:=yW hl
 have HP:=yW hp
 have hlen:=hp.len
 have hWG:=hw.ne
 have hGW:=Ne.symm hw.ne
 clear hw hl hp
 go_enter Tryz.func311,Tryz.ntmps311
 go_wp2_with fail
 generalize hA:World.alloc _ _=w1
 obtain ⟨hb,hz⟩:=al2 hA
 have HS1:Hid (Stk (w.heap.size+1) w.heap.size w1 (some ⟨w.heap.size,0,none⟩) 1 [(i0:Int)]):=yW (by
  have e1:=(al1 (W:=w.alloc (.cells #[.int .i64 (i0:Int)] 3)) rfl).2
  have h1:bV w1 w.heap.size [Value.int .i64 (i0:Int)].toArray 3:=by
   have h0:bV (w.alloc (.cells #[.int .i64 (i0:Int)] 3)) w.heap.size #[.int .i64 (i0:Int)] 3:=heap_alloc_new w _
   exact hA▸h0.later (aq rfl)
  refine ⟨?_,h1.own (R:=rD) (B:=0) (n:=1) (xs:=[(i0:Int)]) (bg.one rfl) (yY _) rfl (by unfold maxLen;omega)⟩
  have h2:=heap_alloc_new (w.alloc (.cells #[.int .i64 (i0:Int)] 3)) (.cells #[.slice (some ⟨w.heap.size,0,none⟩) 1 1] 179)
  rw [e1] at h2
  exact hA▸h2)
 have HE1:Hid (gL W G w w1):=yW (gL.of (by omega) hb)
 have HW1:=yW (HW.out.later hb)
 have hz1:w.heap.size+1<w1.heap.size:=by omega
 clear hA hz hb
 go_loopg [1] (3*l.length+2) (fun g v1 wr=>∃(todo:List Int) (s1:List Bool × Bool) (A:Option Addr) (c:Nat),Hid (Stk (w.heap.size+1) w.heap.size wr A c todo.reverse)∧Hid (kA l first last g todo s1=bJ l first last i0 st)∧3*yM s1.1+todo.length≤g∧g≤4000∧Hid (∀k∈todo,0≤k∧k<l.length)∧Hid (Ways W G l Al cl ca wr s1)∧Hid (gL W G w wr)∧w.heap.size+1<wr.heap.size)
 case atStart=>
  refine ⟨[(i0:Int)],st,_,1,HS1,yW rfl,?_,by omega,yW (fun k hk=>?_),HW1,HE1,hz1⟩
  ·have:=offs_le st.1
   have:=HW.out.len
   simp only [List.length_cons,List.length_nil]
   omega
  ·rw [List.mem_singleton] at hk
   omega
 case round=>
  obtain ⟨todo,s1,A,c,HS,HE,hfuel,hg4,HK,HWr,HX,hzr⟩:=hrel
  cases todo with
  | nil=>
    have HR:Hid (bJ l first last i0 st=s1):=yW (by rw [←HE.out,un])
    have k_d:∀o,wr.cell? ⟨w.heap.size+1,o,none⟩=(#[.slice A 0 c]:Array Value)[o]?:=HS.out.hd.blk.cell
    go_wp2_with fail
    go_end0
    rw [HR.out]
    exact ⟨rfl,HX.out,HWr.out⟩
  | cons i todo=>
    obtain ⟨g,rfl⟩:∃g,gk=g+1:=⟨gk-1,by simp only [List.length_cons] at hfuel;omega⟩
    obtain ⟨hi0,hi1⟩:=HK.out i List.mem_cons_self
    obtain ⟨k,rfl⟩:∃k:Nat,i=(k:Int):=⟨i.toNat,by omega⟩
    have hk:k<l.length:=by omega
    have HKt:Hid (∀k∈todo,0≤k∧k<(l.length:Int)):=yW fun k hk=>HK.out k (List.mem_cons_of_mem _ hk)
    have HS0:Hid (Stk (w.heap.size+1) w.heap.size wr A c (todo.reverse++[(k:Int)])):=yW (by have:=HS.out;rwa [List.reverse_cons] at this)
    obtain ⟨gs,rfl,hgD,hc1,hc2,hcell,hpop⟩:=HS0.out.pop
    have hlr:todo.reverse.length=todo.length:=List.length_reverse
    have hlr2:(todo.reverse++[(k:Int)]).length=todo.length+1:=by rw [List.length_append,hlr];rfl
    rw [hlr] at hc1 hcell hpop
    have HSP:=yW hpop
    have k_d:∀o,wr.cell? ⟨w.heap.size+1,o,none⟩=(#[.slice (some ⟨gs,0,none⟩) (todo.length+1) c]:Array Value)[o]?:=by have:=HS0.out.hd.blk.cell;rwa [hlr2] at this
    have f_d:=HS0.out.hd.blk.free
    unfold maxLen at hc2
    simp only [List.length_cons] at hfuel
    have HC2:=yW hc2
    have HGD:=yW hgD
    generalize hTL:todo.length=n at *
    have HTL:=yW hTL
    clear hpop HS HS0 hi0 hi1 hlr hlr2 hTL hgD
    go_wp2_with fail
    go_region
    have HBs:Hid (Below (w.heap.size+1) wr (wr.setCell ⟨w.heap.size+1,0,none⟩ (.slice (some ⟨gs,0,none⟩) n c)).drew):=yW ((za (w.heap.size+1) wr).setCell (p:=⟨w.heap.size+1,0,none⟩) (yY _) _).drew
    have HS2:Hid (Stk (w.heap.size+1) w.heap.size (wr.setCell ⟨w.heap.size+1,0,none⟩ (.slice (some ⟨gs,0,none⟩) n c)).drew (some ⟨gs,0,none⟩) c todo.reverse):=yW (HSP.out.keep (za _ _).drew)
    have HW2:=yW (HWr.out.keep HBs.out (by omega) (by omega))
    have HX2:=yW (HX.out.own HBs.out (by omega) (by omega) (by omega))
    have hz2:w.heap.size+1<(wr.setCell ⟨w.heap.size+1,0,none⟩ (.slice (some ⟨gs,0,none⟩) n c)).drew.heap.size:=zb hzr HBs.out.size
    generalize (wr.setCell ⟨w.heap.size+1,0,none⟩ (.slice (some ⟨gs,0,none⟩) n c)).drew=w2 at *
    clear HSP HBs k_d f_d hcell hc2 HWr HX
    have hks:k<s1.1.length:=by rw [HW2.out.len];exact hk
    have k_w:∀o,w2.cell? ⟨W,o,none⟩=(#[.slice Al l.length cl,.slice (some ⟨G,0,none⟩) l.length ca,.bool s1.2]:Array Value)[o]?:=HW2.out.wb.blk.cell
    have c_g:w2.cell? ⟨G,k,none⟩=some (.bool (s1.1.getD k false)):=by
     rw [HW2.out.gb.blk.cell,lZ,List.getD_eq_getElem?_getD,List.getElem?_eq_getElem hks]
     rfl
    have HHks:=yW hks
    clear hks
    rcases Bool.eq_false_or_eq_true (s1.1.getD k false) with hb | hb
    ·have HE2:Hid (kA l first last g todo s1=bJ l first last i0 st):=yW (by
      rw [←HE.out]
      show _=(if s1.1.getD (k:Int).toNat false=true then _ else _)
      rw [Int.toNat_natCast,hb,if_pos rfl])
     rw [hb] at c_g
     clear hb
     go_wp2_with fail
     go_roundg g
     case rel=>exact ⟨todo,s1,_,c,HS2,HE2,by rw [HTL.out];omega,by omega,HKt,HW2,HX2,hz2⟩
     case measure=>omega
    ·have HE2:Hid (kA l first last g (eB (fS l k) k first last++todo) (s1.1.set k true,s1.2||decide ((fS l k).kind=6))=bJ l first last i0 st):=yW (by
      rw [←HE.out]
      show _=(if s1.1.getD (k:Int).toNat false=true then _ else _)
      rw [Int.toNat_natCast,hb,if_neg (by simp)])
     have HOF:Hid (yM (s1.1.set k true)+1=yM s1.1):=yW (xQ hb HHks.out)
     have HIN:Hid (∀j∈eB (fS l k) k first last,0≤j∧j<(l.length:Int)):=yW (outs_in HP.out (by omega) (by omega) first last)
     rw [hb] at c_g
     clear hb HE
     have f_g:=HW2.out.gb.blk.free
     go_upto_region 6 with fail
     have HW3:=yW (HW2.out.mark k)
     have HS3:=yW (HS2.out.far HW2.out.gb b_ne (by omega) k (.bool true))
     have HX3:=yW (HX2.out.set2 k (.bool true))
     have hz3:w.heap.size+1<(w2.setCell ⟨G,k,none⟩ (.bool true)).heap.size:=by rw [World.size_setCell];exact hz2
     generalize w2.setCell ⟨G,k,none⟩ (.bool true)=w3 at *
     clear HW2 HS2 HX2 k_w c_g f_g
     have k_w:∀o,w3.cell? ⟨W,o,none⟩=(#[.slice Al l.length cl,.slice (some ⟨G,0,none⟩) l.length ca,.bool s1.2]:Array Value)[o]?:=HW3.out.wb.blk.cell
     have HLr:Hid (RL fk w3 B l Al):=yW (HL.out.keep HX3.out.1 (by omega))
     have hB2:B≤w3.heap.size:=by omega
     obtain ⟨b_,off,rfl,hob⟩:=HLr.out.base (za _ _) hB2 (by omega)
     obtain ⟨x,vs,hx,hxl,hxc,hxr⟩:=HLr.out.at_ (za _ _) hB2 hk
     obtain rfl:vs=jP x:=hxr
     have c0:w3.cell? ⟨b_,off+k*7,none⟩=some (.int .i64 x.kind):=hxc 0 _ rfl
     have c1:w3.cell? ⟨b_,off+k*7+1,none⟩=some (.int .u64 x.a):=hxc 1 _ rfl
     have c2:w3.cell? ⟨b_,off+k*7+2,none⟩=some (.int .u64 x.b):=hxc 2 _ rfl
     have c3:w3.cell? ⟨b_,off+k*7+3,none⟩=some (.int .u64 x.c):=hxc 3 _ rfl
     have c4:w3.cell? ⟨b_,off+k*7+4,none⟩=some (.int .u64 x.d):=hxc 4 _ rfl
     have c5:w3.cell? ⟨b_,off+k*7+5,none⟩=some (.int .i64 x.x):=hxc 5 _ rfl
     have c6:w3.cell? ⟨b_,off+k*7+6,none⟩=some (.int .i64 x.y):=hxc 6 _ rfl
     have hIX:fS l k=x:=by
      unfold fS
      rw [Int.toNat_natCast,List.getD_eq_getElem?_getD,hx]
      rfl
     rw [hIX] at HE2 HIN
     clear hxc hxl hx hIX
     go_upto_region 7 with fail
     generalize hA:World.alloc _ _=w4
     have hb4:=aq hA
     have BX4:=yW (show bV w4 w3.heap.size (jP x).toArray 336 from hA▸heap_alloc_new w3 _)
     have HW4:=yW (HW3.out.later hb4)
     have HS4:=yW (HS3.out.keep hb4)
     have HX4:=yW (HX3.out.then (by omega) hb4)
     have hz4:w.heap.size+1<w4.heap.size:=zb hz3 hb4.size
     have hX4:w.heap.size+1<w3.heap.size:=hz3
     clear hA hb4 HW3 HS3 HX3 k_w c0 c1 c2 c3 c4 c5 c6 HLr hB2
     generalize w3.heap.size=X at *
     have k_x:∀o,w4.cell? ⟨X,o,none⟩=(#[.int .i64 x.kind,.int .u64 x.a,.int .u64 x.b,.int .u64 x.c,.int .u64 x.d,.int .i64 x.x,.int .i64 x.y]:Array Value)[o]?:=BX4.out.blk.cell
     have hkind:x.kind=2∨x.kind≠2∧x.kind=3∨(x.kind≠2∧x.kind≠3)∧(x.kind=4∧first=true)∨(x.kind≠2∧x.kind≠3)∧(x.kind=4∧first=false)∨(x.kind≠2∧x.kind≠3)∧(x.kind=5∧last=true)∨(x.kind≠2∧x.kind≠3)∧(x.kind=5∧last=false)∨x.kind=6∨(x.kind≠2∧x.kind≠3)∧x.kind≠4∧x.kind≠5∧x.kind≠6:=by
      cases first<;>cases last<;>simp<;>omega
     rcases hkind with h2 | ⟨h2,h3⟩ | ⟨⟨h2,h3⟩,h4,rfl⟩ | ⟨⟨h2,h3⟩,h4,rfl⟩ | ⟨⟨h2,h3⟩,h5,rfl⟩ | ⟨⟨h2,h3⟩,h5,rfl⟩ | h6 | ⟨⟨h2,h3⟩,h4,h5,h6⟩
     ·have q2:(x.kind==2)=true:=by simp;omega
      have HO:Hid (eB x k first last=[x.x,x.y]):=yW (by unfold eB;rw [if_pos h2])
      have H6:=yW h2
      clear h2
      go_wp2_with fail
      refine (iM HS4.out (by omega) (by omega) (by rw [List.length_reverse,HTL.out];omega)).mono ?_
      rintro e w5 ⟨rfl,hb,hkt,A5,c5,hst⟩
      have HS5:=yW hst
      have HW5:=yW (HW4.out.keep hb (by omega) (by omega))
      have HX5:=yW (HX4.out.own hb (yY _) (by omega) (by omega))
      have hz5:w.heap.size+1<w5.heap.size:=zb hz4 hb.size
      have BX5:=yW (hkt X _ _ yU (by omega) BX4.out)
      have k_x5:∀o,w5.cell? ⟨X,o,none⟩=(#[.int .i64 x.kind,.int .u64 x.a,.int .u64 x.b,.int .u64 x.c,.int .u64 x.d,.int .i64 x.x,.int .i64 x.y]:Array Value)[o]?:=BX5.out.blk.cell
      clear hb hkt hst
      go_wp2_with fail
      refine (iM HS5.out (by omega) (by omega) (by simp only [List.length_append,List.length_reverse,List.length_singleton,HTL.out];omega)).mono ?_
      rintro e w6 ⟨rfl,hb,hkt,A6,c6,hst⟩
      have HS6:=yW hst
      have HW6:=yW (HW5.out.keep hb (by omega) (by omega))
      have HX6:=yW (HX5.out.own hb (yY _) (by omega) (by omega))
      have hz6:w.heap.size+1<w6.heap.size:=zb hz5 hb.size
      have BX6:=yW (hkt X _ _ yU (by omega) BX5.out)
      have k_x6:∀o,w6.cell? ⟨X,o,none⟩=(#[.int .i64 x.kind,.int .u64 x.a,.int .u64 x.b,.int .u64 x.c,.int .u64 x.d,.int .i64 x.x,.int .i64 x.y]:Array Value)[o]?:=BX6.out.blk.cell
      clear hb hkt hst
      go_wp2_with fail
      have HD:Hid ((s1.2||decide (x.kind=6))=s1.2):=yW (by rw [decide_eq_false (by have:=H6.out;omega)];simp)
      rw [HO.out,HD.out] at HE2
      rw [HO.out] at HIN
      go_roundg g
      case rel=>exact ⟨x.x::x.y::todo,(s1.1.set k true,s1.2),_,_,yW (by have:=HS6.out;simpa using this),HE2,by have:=HOF.out;simp only [List.length_cons,HTL.out];omega,by omega,yW (fun j hj=>by
       rcases List.mem_append.1 (show j∈[x.x,x.y]++todo from hj) with h | h
       ·exact HIN.out j h
       ·exact HKt.out j h),HW6,HX6,hz6⟩
      case measure=>omega
     ·have q2:(x.kind==2)=false:=by simp;omega
      have q3:(x.kind==3)=true:=by simp;omega
      have HO:Hid (eB x k first last=[x.x]):=yW (by unfold eB;rw [if_neg h2,if_pos h3])
      have H6:=yW h3
      clear h2 h3
      go_wp2_with fail
      refine (iM HS4.out (by omega) (by omega) (by rw [List.length_reverse,HTL.out];omega)).mono ?_
      rintro e w5 ⟨rfl,hb,hkt,A5,c5,hst⟩
      have HS5:=yW hst
      have HW5:=yW (HW4.out.keep hb (by omega) (by omega))
      have HX5:=yW (HX4.out.own hb (yY _) (by omega) (by omega))
      have hz5:w.heap.size+1<w5.heap.size:=zb hz4 hb.size
      have BX5:=yW (hkt X _ _ yU (by omega) BX4.out)
      have k_x5:∀o,w5.cell? ⟨X,o,none⟩=(#[.int .i64 x.kind,.int .u64 x.a,.int .u64 x.b,.int .u64 x.c,.int .u64 x.d,.int .i64 x.x,.int .i64 x.y]:Array Value)[o]?:=BX5.out.blk.cell
      clear hb hkt hst
      go_wp2_with fail
      have HD:Hid ((s1.2||decide (x.kind=6))=s1.2):=yW (by rw [decide_eq_false (by have:=H6.out;omega)];simp)
      rw [HO.out,HD.out] at HE2
      rw [HO.out] at HIN
      go_roundg g
      case rel=>exact ⟨x.x::todo,(s1.1.set k true,s1.2),_,_,yW (by have:=HS5.out;simpa using this),HE2,by have:=HOF.out;simp only [List.length_cons,HTL.out];omega,by omega,yW (fun j hj=>by
       rcases List.mem_append.1 (show j∈[x.x]++todo from hj) with h | h
       ·exact HIN.out j h
       ·exact HKt.out j h),HW5,HX5,hz5⟩
      case measure=>omega
     ·have q2:(x.kind==2)=false:=by simp;omega
      have q3:(x.kind==3)=false:=by simp;omega
      have q4:(x.kind==4)=true:=by simp;omega
      have HO:Hid (eB x k true last=[(k:Int)+1]):=yW (by unfold eB;rw [if_neg h2,if_neg h3,if_pos (.inl ⟨h4,rfl⟩)])
      have H6:=yW h4
      clear h2 h3 h4
      go_wp2_with fail
      refine (iM HS4.out (by omega) (by omega) (by rw [List.length_reverse,HTL.out];omega)).mono ?_
      rintro e w5 ⟨rfl,hb,hkt,A5,c5,hst⟩
      have HS5:=yW hst
      have HW5:=yW (HW4.out.keep hb (by omega) (by omega))
      have HX5:=yW (HX4.out.own hb (yY _) (by omega) (by omega))
      have hz5:w.heap.size+1<w5.heap.size:=zb hz4 hb.size
      have BX5:=yW (hkt X _ _ yU (by omega) BX4.out)
      have k_x5:∀o,w5.cell? ⟨X,o,none⟩=(#[.int .i64 x.kind,.int .u64 x.a,.int .u64 x.b,.int .u64 x.c,.int .u64 x.d,.int .i64 x.x,.int .i64 x.y]:Array Value)[o]?:=BX5.out.blk.cell
      clear hb hkt hst
      go_wp2_with fail
      have HD:Hid ((s1.2||decide (x.kind=6))=s1.2):=yW (by rw [decide_eq_false (by have:=H6.out;omega)];simp)
      rw [HO.out,HD.out] at HE2
      rw [HO.out] at HIN
      go_roundg g
      case rel=>exact ⟨((k:Int)+1)::todo,(s1.1.set k true,s1.2),_,_,yW (by have:=HS5.out;simpa using this),HE2,by have:=HOF.out;simp only [List.length_cons,HTL.out];omega,by omega,yW (fun j hj=>by
       rcases List.mem_append.1 (show j∈[(k:Int)+1]++todo from hj) with h | h
       ·exact HIN.out j h
       ·exact HKt.out j h),HW5,HX5,hz5⟩
      case measure=>omega
     ·have q2:(x.kind==2)=false:=by simp;omega
      have q3:(x.kind==3)=false:=by simp;omega
      have q4:(x.kind==4)=true:=by simp;omega
      have q5:(x.kind==5)=false:=by simp;omega
      have q6:(x.kind==6)=false:=by simp;omega
      have HO:Hid (eB x k false last=[]):=yW (by unfold eB;rw [if_neg h2,if_neg h3,if_neg (by simp;omega)])
      have H6:=yW h4
      clear h2 h3 h4
      go_wp2_with fail
      have HD:Hid ((s1.2||decide (x.kind=6))=s1.2):=yW (by rw [decide_eq_false (by have:=H6.out;omega)];simp)
      rw [HO.out,HD.out] at HE2
      rw [HO.out] at HIN
      go_roundg g
      case rel=>exact ⟨todo,(s1.1.set k true,s1.2),_,_,HS4,HE2,by have:=HOF.out;simp only [List.length_cons,HTL.out];omega,by omega,yW (fun j hj=>by
       rcases List.mem_append.1 (show j∈[]++todo from hj) with h | h
       ·exact HIN.out j h
       ·exact HKt.out j h),HW4,HX4,hz4⟩
      case measure=>omega
     ·have q2:(x.kind==2)=false:=by simp;omega
      have q3:(x.kind==3)=false:=by simp;omega
      have q4:(x.kind==4)=false:=by simp;omega
      have q5:(x.kind==5)=true:=by simp;omega
      have HO:Hid (eB x k first true=[(k:Int)+1]):=yW (by unfold eB;rw [if_neg h2,if_neg h3,if_pos (.inr ⟨h5,rfl⟩)])
      have H6:=yW h5
      clear h2 h3 h5
      go_wp2_with fail
      refine (iM HS4.out (by omega) (by omega) (by rw [List.length_reverse,HTL.out];omega)).mono ?_
      rintro e w5 ⟨rfl,hb,hkt,A5,c5,hst⟩
      have HS5:=yW hst
      have HW5:=yW (HW4.out.keep hb (by omega) (by omega))
      have HX5:=yW (HX4.out.own hb (yY _) (by omega) (by omega))
      have hz5:w.heap.size+1<w5.heap.size:=zb hz4 hb.size
      have BX5:=yW (hkt X _ _ yU (by omega) BX4.out)
      have k_x5:∀o,w5.cell? ⟨X,o,none⟩=(#[.int .i64 x.kind,.int .u64 x.a,.int .u64 x.b,.int .u64 x.c,.int .u64 x.d,.int .i64 x.x,.int .i64 x.y]:Array Value)[o]?:=BX5.out.blk.cell
      clear hb hkt hst
      go_wp2_with fail
      have HD:Hid ((s1.2||decide (x.kind=6))=s1.2):=yW (by rw [decide_eq_false (by have:=H6.out;omega)];simp)
      rw [HO.out,HD.out] at HE2
      rw [HO.out] at HIN
      go_roundg g
      case rel=>exact ⟨((k:Int)+1)::todo,(s1.1.set k true,s1.2),_,_,yW (by have:=HS5.out;simpa using this),HE2,by have:=HOF.out;simp only [List.length_cons,HTL.out];omega,by omega,yW (fun j hj=>by
       rcases List.mem_append.1 (show j∈[(k:Int)+1]++todo from hj) with h | h
       ·exact HIN.out j h
       ·exact HKt.out j h),HW5,HX5,hz5⟩
      case measure=>omega
     ·have q2:(x.kind==2)=false:=by simp;omega
      have q3:(x.kind==3)=false:=by simp;omega
      have q4:(x.kind==4)=false:=by simp;omega
      have q5:(x.kind==5)=true:=by simp;omega
      have q6:(x.kind==6)=false:=by simp;omega
      have HO:Hid (eB x k first false=[]):=yW (by unfold eB;rw [if_neg h2,if_neg h3,if_neg (by simp;omega)])
      have H6:=yW h5
      clear h2 h3 h5
      go_wp2_with fail
      have HD:Hid ((s1.2||decide (x.kind=6))=s1.2):=yW (by rw [decide_eq_false (by have:=H6.out;omega)];simp)
      rw [HO.out,HD.out] at HE2
      rw [HO.out] at HIN
      go_roundg g
      case rel=>exact ⟨todo,(s1.1.set k true,s1.2),_,_,HS4,HE2,by have:=HOF.out;simp only [List.length_cons,HTL.out];omega,by omega,yW (fun j hj=>by
       rcases List.mem_append.1 (show j∈[]++todo from hj) with h | h
       ·exact HIN.out j h
       ·exact HKt.out j h),HW4,HX4,hz4⟩
      case measure=>omega
     ·have q2:(x.kind==2)=false:=by simp;omega
      have q3:(x.kind==3)=false:=by simp;omega
      have q4:(x.kind==4)=false:=by simp;omega
      have q5:(x.kind==5)=false:=by simp;omega
      have q6:(x.kind==6)=true:=by simp;omega
      have HO:Hid (eB x k first last=[]):=yW (by unfold eB;rw [if_neg (by omega),if_neg (by omega),if_neg (by omega)])
      have H6:=yW h6
      clear h6
      have k_w4:=HW4.out.wb.blk.cell
      have f_w4:=HW4.out.wb.blk.free
      go_wp2_with fail
      have HD:Hid ((s1.2||decide (x.kind=6))=true):=yW (by rw [decide_eq_true H6.out];simp)
      rw [HO.out,HD.out] at HE2
      go_roundg g
      case rel=>exact ⟨todo,(s1.1.set k true,true),_,_,yW (HS4.out.far HW4.out.wb w_ne (by omega) 2 _),HE2,by have:=HOF.out;simp only [HTL.out];omega,by omega,HKt,yW HW4.out.end_,yW (HX4.out.set1 2 _),by rw [World.size_setCell];exact hz4⟩
      case measure=>omega
     ·have q2:(x.kind==2)=false:=by simp;omega
      have q3:(x.kind==3)=false:=by simp;omega
      have q4:(x.kind==4)=false:=by simp;omega
      have q5:(x.kind==5)=false:=by simp;omega
      have q6:(x.kind==6)=false:=by simp;omega
      have HO:Hid (eB x k first last=[]):=yW (by unfold eB;rw [if_neg h2,if_neg h3,if_neg (by omega)])
      have H6:=yW h6
      clear h2 h3 h4 h5 h6
      go_wp2_with fail
      have HD:Hid ((s1.2||decide (x.kind=6))=s1.2):=yW (by rw [decide_eq_false (by exact H6.out)];simp)
      rw [HO.out,HD.out] at HE2
      rw [HO.out] at HIN
      go_roundg g
      case rel=>exact ⟨todo,(s1.1.set k true,s1.2),_,_,HS4,HE2,by have:=HOF.out;simp only [List.length_cons,HTL.out];omega,by omega,yW (fun j hj=>by
       rcases List.mem_append.1 (show j∈[]++todo from hj) with h | h
       ·exact HIN.out j h
       ·exact HKt.out j h),HW4,HX4,hz4⟩
      case measure=>omega
end Go.Proofs.YtdphibjibnffeaaGreat
