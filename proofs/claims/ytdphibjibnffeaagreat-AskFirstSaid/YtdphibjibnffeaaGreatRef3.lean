/- The document's own answers on terms (viaticumref6): May, maySet, Fixed, Same, as the program's. -/
import Derived.Test.YtdphibjibnffeaaGreatRef1
import Derived.Test.YtdphibjibnffeaaGreatOwn
import Derived.Test.YtdphibjibnffeaaGreatHeldA
import Derived.Deep.CutRange
import Derived.Test.YtdphibjibnffeaaGreatFc1
import Derived.Test.YtdphibjibnffeaaGreatFixP
set_option linter.unusedVariables false
set_option linter.unusedSimpArgs false
set_option maxRecDepth 100000
set_option maxHeartbeats 8000000
namespace Go.Proofs.YtdphibjibnffeaaGreat
open Go.ChangeShapes Go.WideShapes Go.ChangeAt Go.RowKit
theorem mR {x y:Int} (h:x≠y):cT x y=if x<y then -1 else 1:=by
 unfold cT
 split
 ·rfl
 ·rw [if_pos (by omega)]
theorem dL (x:Int):cT x x=0:=by
 unfold cT
 rw [if_neg (by omega),if_neg (by omega)]
theorem pP {x y:List UInt8} (h:x≠y):cX x y=if x<y then -1 else 1:=by
 unfold cX
 split
 ·rfl
 ·rename_i h1
  rw [if_pos]
  rcases List.le_iff_lt_or_eq.1 (List.not_lt.1 h1) with h2 | h2
  ·exact h2
  ·exact absurd h2.symm h
theorem nN (x:List UInt8):cX x x=0:=by
 unfold cX
 rw [if_neg (List.lt_irrefl _),if_neg (List.lt_irrefl _)]
theorem pQ {dp:Nat} {a b:Tm} (h:iq a b≠0):aV dp a b=iq a b:=by
 cases dp with
 | zero=>rfl
 | succ d=>unfold aV;rw [if_neg h]
theorem ut {dp:Nat} {a b:Tm} (h:a.kind≠b.kind):aV dp a b=if a.kind<b.kind then -1 else 1:=by
 have h1:cT a.kind b.kind≠0:=by rw [mR h];split<;>omega
 have h2:iq a b=cT a.kind b.kind:=by unfold iq or3;rw [if_neg h1]
 rw [pQ (by rw [h2];exact h1),h2,mR h]
theorem cmpT_n {dp:Nat} {a b:Tm} (hk:a.kind=b.kind) (h:a.n≠b.n):aV dp a b=if a.n<b.n then -1 else 1:=by
 have h1:cT a.n b.n≠0:=by rw [mR h];split<;>omega
 have h2:iq a b=cT a.n b.n:=by unfold iq or3;rw [hk,dL,if_pos rfl,if_neg h1]
 rw [pQ (by rw [h2];exact h1),h2,mR h]
theorem cmpT_s {dp:Nat} {a b:Tm} (hk:a.kind=b.kind) (hn:a.n=b.n) (h:bs a.s≠bs b.s):aV dp a b=if bs a.s<bs b.s then -1 else 1:=by
 have h1:cX (bs a.s) (bs b.s)≠0:=by rw [pP h];split<;>omega
 have h2:iq a b=cX (bs a.s) (bs b.s):=by unfold iq or3;rw [hk,dL,if_pos rfl,hn,dL,if_pos rfl]
 rw [pQ (by rw [h2];exact h1),h2,pP h]
theorem uk {a b:Tm} (hk:a.kind=b.kind) (hn:a.n=b.n) (h:bs a.s=bs b.s):iq a b=0:=by
 unfold iq or3
 rw [hk,dL,if_pos rfl,hn,dL,if_pos rfl,h,nN]
theorem dm {m n:Int} (h:m=n):Ending.returned (.int .i64 m)=.returned (.int .i64 n):=by rw [h]
theorem iR (dp:Nat) (hdp:dp≤3)
 (ih:∀dp',dp=dp'+1→∀(d B:Nat) (a b:Tm) (va vb:List Value) (w:World),RTm w B d a va→RTm w B d b vb→B≤w.heap.size →
  Calls Tryz.prog 237 #[.agg va.toArray,.agg vb.toArray,.int .i64 (dp':Int)] w fun e w'=>e=.returned (.int .i64 (aV dp' a b))∧Below w.heap.size w w')
 (d B:Nat) (a b:Tm) (va vb:List Value) (w:World) (ha:RTm w B d a va) (hb:RTm w B d b vb) (hB:B≤w.heap.size) :
 Calls Tryz.prog 237 #[.agg va.toArray,.agg vb.toArray,.int .i64 (dp:Int)] w fun e w'=>e=.returned (.int .i64 (aV dp a b))∧Below w.heap.size w w':=by
 obtain ⟨Aa,ca,rfl,a1,a2,a3,a4,a5,hla⟩:=RTm.cells ha
 obtain ⟨Ab,cb,rfl,b1,b2,b3,b4,b5,hlb⟩:=RTm.cells hb
 have IH:=zl ih
 have HLA:=zl hla
 have HLB:=zl hlb
 have HW:=zl (((zp w.heap.size w).alloc (zn _) (.cells #[.int .i64 a.kind,.int .i64 a.n,.string a.s,.slice Aa a.l.length ca] 79)).alloc (by simp) (.cells #[.int .i64 b.kind,.int .i64 b.n,.string b.s,.slice Ab b.l.length cb] 79))
 clear ih ha hb hla hlb
 by_cases k1:a.kind=b.kind
 rotate_left
 ·have K1:=zl k1
  have k1':(a.kind==b.kind)=false:=by simpa using k1
  clear k1
  go_enter Tryz.func237,Tryz.ntmps237
  go_wp2_with fail
  refine (ij _ _).mono ?_
  rintro e w1 ⟨rfl,rfl⟩
  go_wp2_with fail
  all_goals
   go_ret
   exact ⟨dm (by rw [ut K1.out];first | rw [if_pos (by assumption)] | rw [if_neg (by omega)]),HW.out⟩
 by_cases k2:a.n=b.n
 rotate_left
 ·have K1:=zl k1
  have K2:=zl k2
  have k1':(a.kind==b.kind)=true:=by simpa using k1
  have k2':(a.n==b.n)=false:=by simpa using k2
  clear k1 k2
  go_enter Tryz.func237,Tryz.ntmps237
  go_wp2_with fail
  refine (ij _ _).mono ?_
  rintro e w1 ⟨rfl,rfl⟩
  go_wp2_with fail
  all_goals
   go_ret
   exact ⟨dm (by rw [cmpT_n K1.out K2.out];first | rw [if_pos (by assumption)] | rw [if_neg (by omega)]),HW.out⟩
 by_cases k3:bs a.s=bs b.s
 rotate_left
 ·have K1:=zl k1
  have K2:=zl k2
  have K3:=zl k3
  have k1':(a.kind==b.kind)=true:=by simpa using k1
  have k2':(a.n==b.n)=true:=by simpa using k2
  have k3':(a.s.toList==b.s.toList)=false:=by rw [dj];simpa using k3
  clear k1 k2 k3
  go_enter Tryz.func237,Tryz.ntmps237
  go_wp2_with fail
  refine (ij _ _).mono ?_
  rintro e w1 ⟨rfl,rfl⟩
  go_wp2_with fail
  all_goals
   go_ret
   exact ⟨dm (by rw [cmpT_s K1.out K2.out K3.out];first | rw [if_pos ((iH _ _).1 (by assumption))] | rw [if_neg (fun h=>absurd ((iH _ _).2 h) (by assumption))]),HW.out⟩
 have K0:=zl (uk k1 k2 k3)
 have k1':(a.kind==b.kind)=true:=by simpa using k1
 have k2':(a.n==b.n)=true:=by simpa using k2
 have k3':(a.s.toList==b.s.toList)=true:=by rw [dj];simpa using k3
 clear k1 k2 k3
 rcases dp with _ | dp
 ·go_enter Tryz.func237,Tryz.ntmps237
  go_wp2_with fail
  go_ret
  exact ⟨dm K0.out.symm,HW.out⟩
 ·have hd1:(((dp+1:Nat):Int)==0)=false:=by simp;omega
  have HC:=zl (show aV (dp+1) a b=cI (aV dp) a.l b.l by unfold aV;rw [if_pos K0.out])
  clear HW
  go_enter Tryz.func237,Tryz.ntmps237
  go_wp2_with fail
  generalize hW:World.alloc _ _=W
  obtain ⟨hb,hz⟩:=al2 hW
  have ba:=n21 hW
  have bb:=n22 hW
  have HB:=zl hb
  have HZ:w.heap.size<W.heap.size:=by omega
  have HB1:B≤W.heap.size:=by omega
  clear hW hb hz
  go_loopw [52] (fun i wr=>∃k:Nat,k≤a.l.length∧i=.int .i64 k∧Below W.heap.size W wr∧Hid (cI (aV dp) a.l b.l=cI (aV dp) (a.l.drop k) (b.l.drop k))) (fun i _=>a.l.length-(intOf i).toNat)
  case atStart=>exact ⟨0,zo _,rfl,zp _ _,rfl⟩
  case round=>
   obtain ⟨k,hk,rfl,hbw,HE⟩:=hrel
   have ca:=(ba.later hbw).cell
   have cb:=(bb.later hbw).cell
   have la:=(ba.later hbw).lt
   have lb:=(bb.later hbw).lt
   have hfin:=zl (ab HB.out hbw)
   by_cases hlt:k<a.l.length
   ·have hla:=HLA.out.below HB.out hB
    have hlb:=HLB.out.below HB.out hB
    obtain ⟨oa,ofa,rfl,hoa⟩:=hla.base hbw HB1 (by omega)
    obtain ⟨x,Ax,cx,hx,c0,c1,c2,c3,hr⟩:=hla.at_ hbw HB1 hlt
    by_cases hlt2:k<b.l.length
    ·obtain ⟨ob,ofb,rfl,hob⟩:=hlb.base hbw HB1 (by omega)
     obtain ⟨y,Ay,cy,hy,e0,e1,e2,e3,hr'⟩:=hlb.at_ hbw HB1 hlt2
     have HL:=zl (And.intro hla hlb)
     have HR:=zl (And.intro hr hr')
     have HXY:=zl (And.intro hx hy)
     clear hla hlb hr hr' hx hy
     have hz:aV dp x y=0∨aV dp x y≠0:=by omega
     have HE2:Hid (cI (aV dp) a.l b.l=if aV dp x y=0 then cI (aV dp) (a.l.drop (k+1)) (b.l.drop (k+1)) else aV dp x y):=by
      obtain ⟨h1,h2⟩:=List.getElem?_eq_some_iff.1 HXY.out.1
      obtain ⟨h3,h4⟩:=List.getElem?_eq_some_iff.1 HXY.out.2
      have:=HE.out
      rw [List.drop_eq_getElem_cons h1,List.drop_eq_getElem_cons h3,h2,h4] at this
      exact this
     have hszr:=hbw.size
     have HZ2:=zl hz
     clear hz HE
     go_wp2_with fail
     generalize hW2:World.alloc _ _=W2
     obtain ⟨hb2,hz2⟩:=al1 hW2
     have q0:=(n11 hW2).regrown
     have q1:=((bb.later hbw).later hb2).regrown
     have q5:=cell_regrown ((hb2.cell (p:=⟨ob,ofb+k*4,none⟩) hob).trans e0)
     have q6:=cell_regrown ((hb2.cell (p:=⟨ob,ofb+k*4+1,none⟩) hob).trans e1)
     have q7:=cell_regrown ((hb2.cell (p:=⟨ob,ofb+k*4+2,none⟩) hob).trans e2)
     have q8:=cell_regrown ((hb2.cell (p:=⟨ob,ofb+k*4+3,none⟩) hob).trans e3)
     have HB2:=zl hb2
     have hB2:B≤W2.heap.size:=by omega
     have hwrap:IntKind.i64.wrap (((dp+1:Nat):Int)-1)=(dp:Int):=by
      rw [show (((dp+1:Nat):Int)-1)=(dp:Int) by omega]
      exact IntWalk.i64_in _ (by omega)
     clear hW2 hz2 hb2 ca cb la lb c0 c1 c2 c3 e0 e1 e2 e3
     refine wp_region_quiet_below (by kernel_rfl) (by kernel_rfl) ?_
     repeat (go_big_quiet_step ((go_at_call 237;exact Calls.regrown_of (IH.out dp rfl (d-1) B x y [_,_,_,_] [_,_,_,_] _ ((HR.out.1.below HB2.out (by omega)).below (below_regrown _ _ _) hB2) ((HR.out.2.below HB2.out (by omega)).below (below_regrown _ _ _) hB2) (zm hB2 (below_regrown _ _ _).size)))))
     refine wpQuiet_nil ?_
     intro w3 hw3
     have hb3:Below W2.heap.size W2 w3:=by obtain ⟨p,rfl⟩:=hw3;exact below_regrown _ _ _
     clear hw3 q0 q1 q5 q6 q7 q8
     have HB3:=zl (ab hbw (ab HB2.out hb3))
     have hfin3:=zl (ab HB.out HB3.out)
     clear hb3
     rcases HZ2.out with hz | hz
     ·have hz1:(aV dp x y !=0)=false:=by simpa using hz
      have HZ3:=zl hz
      clear hz
      go_wp2_with fail
      go_roundw
      case rel=>exact ⟨k+1,by omega,by go_num,HB3.out,by rw [HE2.out,if_pos HZ3.out];exact zl rfl⟩
      case measure=>simp [intOf];omega
     ·have hz1:(aV dp x y !=0)=true:=by simpa using hz
      have HZ3:=zl hz
      clear hz
      go_wp2_with fail
      go_ret
      exact ⟨dm (by rw [HC.out,HE2.out,if_neg HZ3.out]),hfin3.out⟩
    ·have HE2:Hid (cI (aV dp) a.l b.l=1):=by
      obtain ⟨h1,h2⟩:=List.getElem?_eq_some_iff.1 hx
      have:=HE.out
      rw [List.drop_eq_getElem_cons h1,List.drop_eq_nil_iff.2 (show b.l.length≤k by omega)] at this
      exact this
     have hfin2:=zl (fun o:Obj=>HB.out.trans ((hbw.alloc hbw.size o).mono HB.out.size))
     clear hx HE
     go_wp2_with fail
     go_ret
     exact ⟨dm (by rw [HC.out,HE2.out]),hfin2.out _⟩
   ·have hz:a.l.drop k=[]:=List.drop_eq_nil_iff.2 (by omega)
    have HE2:=HE.out
    rw [hz] at HE2
    have HE3:=zl HE2
    clear HE HE2 hz
    by_cases hlt2:a.l.length<b.l.length
    ·go_wp2_with fail
     go_ret
     obtain rfl:k=a.l.length:=by omega
     exact ⟨dm (by rw [HC.out,HE3.out,List.drop_eq_getElem_cons hlt2];rfl),hfin.out⟩
    ·go_wp2_with fail
     go_ret
     obtain rfl:k=a.l.length:=by omega
     exact ⟨dm (by rw [HC.out,HE3.out,List.drop_eq_nil_iff.2 (by omega)];rfl),hfin.out⟩
theorem lT (dp:Nat):dp≤3→∀(d B:Nat) (a b:Tm) (va vb:List Value) (w:World),RTm w B d a va→RTm w B d b vb→B≤w.heap.size →
 Calls Tryz.prog 237 #[.agg va.toArray,.agg vb.toArray,.int .i64 (dp:Int)] w fun e w'=>e=.returned (.int .i64 (aV dp a b))∧Below w.heap.size w w':=by
 induction dp with
 | zero=>intro _ d B a b va vb w ha hb hB;exact iR 0 (by omega) (fun dp' h=>by omega) d B a b va vb w ha hb hB
 | succ dp ih=>intro h d B a b va vb w ha hb hB;exact iR (dp+1) h (fun dp' h'=>by obtain rfl:dp=dp':=(by omega);exact ih (by omega)) d B a b va vb w ha hb hB
theorem gS {d B:Nat} {a b:Tm} {va vb:List Value} {w:World} (ha:RTm w B d a va) (hb:RTm w B d b vb) (hB:B≤w.heap.size) :
 Calls Tryz.prog 189 #[.agg va.toArray,.agg vb.toArray] w fun e w'=>e=.returned (.int .i64 (aV 3 a b))∧Below w.heap.size w w':=by
 have HA:=zl (And.intro ha hb)
 obtain ⟨Aa,ca,rfl,a1,a2,a3,a4,a5,hla⟩:=RTm.cells ha
 obtain ⟨Ab,cb,rfl,b1,b2,b3,b4,b5,hlb⟩:=RTm.cells hb
 clear ha hb hla hlb
 go_enter Tryz.func189,Tryz.ntmps189
 go_wp2_with fail
 generalize hW:World.alloc _ _=W
 obtain ⟨hb,hz⟩:=al2 hW
 clear hW
 refine (lT 3 (zn _) d B a b [_,_,_,_] [_,_,_,_] W (HA.out.1.below hb hB) (HA.out.2.below hb hB) (by omega)).mono ?_
 rintro e w1 ⟨rfl,hb1⟩
 have hfin:=zl (ab hb hb1)
 clear hb hb1 hz
 go_wp2_with fail
 go_ret
 exact ⟨rfl,hfin.out⟩
theorem cF (b:Bool) (w:World):Calls Tryz.prog 149 #[.bool b] w fun z w'=>z=.returned (.int .i64 (if b=true then -1 else 1))∧w=w':=by
 cases b
 all_goals
  go_enter Tryz.func149,Tryz.ntmps149
  go_wp2_with fail
  go_ret
  exact ⟨rfl,rfl⟩
theorem cmpL_at {f:Tm→Tm→Int} {xs ys:List Tm} {k:Nat} {x y:Tm} (hx:xs[k]? = some x) (hy:ys[k]? = some y):cI f (xs.drop k) (ys.drop k)=if f x y=0 then cI f (xs.drop (k+1)) (ys.drop (k+1)) else f x y:=by
 obtain ⟨h1,rfl⟩:=List.getElem?_eq_some_iff.1 hx
 obtain ⟨h2,rfl⟩:=List.getElem?_eq_some_iff.1 hy
 rw [List.drop_eq_getElem_cons h1,List.drop_eq_getElem_cons h2,cI]
theorem uq {f:Tm→Tm→Int} {xs ys:List Tm} {k:Nat} (h1:k<xs.length) (h2:ys.length≤k):cI f (xs.drop k) (ys.drop k)=1:=by
 rw [List.drop_eq_getElem_cons h1,List.drop_eq_nil_iff.2 h2,cI]
theorem uo {f:Tm→Tm→Int} {xs ys:List Tm} {k:Nat} (h1:xs.length≤k) (h2:k<ys.length):cI f (xs.drop k) (ys.drop k)=-1:=by
 rw [List.drop_eq_getElem_cons h2,List.drop_eq_nil_iff.2 h1,cI]
theorem xd {f:Tm→Tm→Int} {xs ys:List Tm} {k:Nat} (h1:xs.length≤k) (h2:ys.length≤k):cI f (xs.drop k) (ys.drop k)=0:=by
 rw [List.drop_eq_nil_iff.2 h1,List.drop_eq_nil_iff.2 h2,cI]
theorem oW {d B c c':Nat} {xs ys:List Tm} {A A':Option Addr} {w:World} (hA:iW w B d xs A) (hA':iW w B d ys A') (hB:B≤w.heap.size) (hn:xs.length*40≤140737488351232) (hn':ys.length*40≤140737488351232) :
 Calls Tryz.prog 150 #[.slice A xs.length c,.slice A' ys.length c'] w fun z w'=>z=.returned (.int .i64 (cI (aV 3) xs ys))∧Below w.heap.size w w':=by
 have HA:=zl hA
 have HA':=zl hA'
 clear hA hA'
 go_enter Tryz.func150,Tryz.ntmps150
 go_wp2_with fail
 go_loopw [10] (fun u wr=>∃k:Nat,k≤xs.length∧u=.int .i64 k∧Hid (Below w.heap.size w wr)∧Hid (cI (aV 3) xs ys=cI (aV 3) (xs.drop k) (ys.drop k))) (fun u _=>xs.length-(intOf u).toNat)
 case atStart=>exact ⟨0,zo _,rfl,zl (zp _ _),zl rfl⟩
 case round=>
  obtain ⟨k,hk,rfl,HW,HE⟩:=hrel
  have hszr:=HW.out.size
  have hK0:(0:Int)≤(k:Int):=Int.natCast_nonneg _
  by_cases hlt:k<xs.length
  ·obtain ⟨b,off,x,Ax,cx,rfl,hb,hx,c0,c1,c2,c3,hr⟩:=HA.out.elem HW.out hB hlt
   have HX:=zl hr
   have HXX:=zl hx
   have hK1:(k:Int)<(xs.length:Int):=by omega
   clear hr hx
   go_upto_region 4 with fail
   generalize hWW:World.alloc _ _=w1
   obtain ⟨hb1,hz⟩:=al1 hWW
   have HA1:=zl (n11 hWW)
   have HW1:=zl hb1
   have hsz1:=hb1.size
   clear hWW hb1 hz c0 c1 c2 c3
   have k_x:=HA1.out.cell
   have l_x:=HA1.out.lt
   by_cases hlt2:k<ys.length
   ·obtain ⟨bq,oq,y,Ay,cy,rfl,hbq,hy,c0,c1,c2,c3,hr⟩:=HA'.out.elem (HW.out.trans (HW1.out.mono hszr)) hB hlt2
    have HY:=zl hr
    have HE2:Hid (cI (aV 3) xs ys=if aV 3 x y=0 then cI (aV 3) (xs.drop (k+1)) (ys.drop (k+1)) else aV 3 x y):=zl (HE.out.trans (cmpL_at HXX.out hy))
    have hK2:(k:Int)<(ys.length:Int):=by omega
    have hK3:¬((ys.length:Int)≤(k:Int)):=by omega
    clear hr hy
    go_upto_region 6 with fail
    have HSL:Hid (∀{w':World},Below w1.heap.size w1 w'→(w'.cell? ⟨wr.heap.size,0,none⟩=some (.int .i64 x.kind)∧w'.cell? ⟨wr.heap.size,1,none⟩=some (.int .i64 x.n)∧w'.cell? ⟨wr.heap.size,2,none⟩=some (.string x.s)∧w'.cell? ⟨wr.heap.size,3,none⟩=some (.slice Ax x.l.length cx)∧w'.cell? ⟨bq,oq+k*4,none⟩=some (.int .i64 y.kind)∧w'.cell? ⟨bq,oq+k*4+1,none⟩=some (.int .i64 y.n)∧w'.cell? ⟨bq,oq+k*4+2,none⟩=some (.string y.s)∧w'.cell? ⟨bq,oq+k*4+3,none⟩=some (.slice Ay y.l.length cy))):=zl (fun hb=>⟨(hb.cell l_x).trans (k_x 0),(hb.cell l_x).trans (k_x 1),(hb.cell l_x).trans (k_x 2),(hb.cell l_x).trans (k_x 3),(hb.cell hbq).trans c0,(hb.cell hbq).trans c1,(hb.cell hbq).trans c2,(hb.cell hbq).trans c3⟩)
    clear c0 c1 c2 c3 k_x
    refine aF (fun w'=>w'.cell? ⟨wr.heap.size,0,none⟩=some (.int .i64 x.kind)∧w'.cell? ⟨wr.heap.size,1,none⟩=some (.int .i64 x.n)∧w'.cell? ⟨wr.heap.size,2,none⟩=some (.string x.s)∧w'.cell? ⟨wr.heap.size,3,none⟩=some (.slice Ax x.l.length cx)∧w'.cell? ⟨bq,oq+k*4,none⟩=some (.int .i64 y.kind)∧w'.cell? ⟨bq,oq+k*4+1,none⟩=some (.int .i64 y.n)∧w'.cell? ⟨bq,oq+k*4+2,none⟩=some (.string y.s)∧w'.cell? ⟨bq,oq+k*4+3,none⟩=some (.slice Ay y.l.length cy)) (by kernel_rfl) (HSL.out (zp _ _).drew) ?_
    refine aa (i:=0) (v:=?v1_) rfl (by kernel_rfl) (by kernel_rfl) (by kernel_rfl) ?hq1_ ?hw1_ ?hy1_ ?rest1_
    case hq1_=>exact fun _ _ _ h=>h
    case hw1_=>rfl
    case hy1_=>(intro w' hS';(try dsimp only at hS');go_simp;(try with_reducible rfl))
    refine aa (i:=1) (v:=?v2_) rfl (by kernel_rfl) (by kernel_rfl) (by kernel_rfl) ?hq2_ ?hw2_ ?hy2_ ?rest2_
    case hq2_=>exact fun _ _ _ h=>h
    case hw2_=>rfl
    case hy2_=>(intro w' hS';(try dsimp only at hS');go_simp;(try with_reducible rfl))
    refine aa (i:=2) (v:=?v3_) rfl (by kernel_rfl) (by kernel_rfl) (by kernel_rfl) ?hq3_ ?hw3_ ?hy3_ ?rest3_
    case hq3_=>exact fun _ _ _ h=>h
    case hw3_=>rfl
    case hy3_=>(intro w' hS';(try dsimp only at hS');go_simp;(try with_reducible rfl))
    refine aa (i:=3) (v:=?v4_) rfl (by kernel_rfl) (by kernel_rfl) (by kernel_rfl) ?hq4_ ?hw4_ ?hy4_ ?rest4_
    case hq4_=>exact fun _ _ _ h=>h
    case hw4_=>rfl
    case hy4_=>(intro w' hS';(try dsimp only at hS');go_simp;(try with_reducible rfl))
    refine aa (i:=4) (v:=?v5_) rfl (by kernel_rfl) (by kernel_rfl) (by kernel_rfl) ?hq5_ ?hw5_ ?hy5_ ?rest5_
    case hq5_=>exact fun _ _ _ h=>h
    case hw5_=>rfl
    case hy5_=>(intro w' hS';(try dsimp only at hS');go_simp;(try with_reducible rfl))
    generalize hD:World.drew w1=w2
    have HU:Hid (Below w1.heap.size w1 w2):=zl (hD▸(zp w1.heap.size w1).drew)
    clear hD
    refine au (rs:=[5]) (by kernel_rfl) rfl ?_
    refine aj.cons rfl (fun K hK=>?_) aj.nil
    go_simp
    refine (gS (d:=d) (B:=B) (a:=x) (b:=y) (va:=[_,_,_,_]) (vb:=[_,_,_,_]) (HX.out.below (HW1.out.trans (HU.out.mono hsz1)) (by omega)) (HY.out.below HU.out (by omega)) (zm (by omega) HU.out.size)).mono ?_
    rintro z w3 ⟨rfl,hb3⟩
    have HU3:Hid (Below w1.heap.size w1 w3):=zl (HU.out.trans (hb3.mono HU.out.size))
    clear hb3
    refine hK.out _ _ (HSL.out HU3.out) ?_
    clear hK
    refine aa (i:=6) (v:=?v6_) rfl (by kernel_rfl) (by kernel_rfl) (by kernel_rfl) ?hq6_ ?hw6_ ?hy6_ ?rest6_
    case hq6_=>exact fun _ _ _ h=>h
    case hw6_=>rfl
    case hy6_=>(intro w' hS';(try dsimp only at hS');go_simp;(try with_reducible rfl))
    refine bG (by kernel_rfl) ?_
    have HW3:Hid (Below w.heap.size w w3):=zl (HW.out.trans ((HW1.out.trans (HU3.out.mono hsz1)).mono hszr))
    generalize aV 3 x y=n at *
    by_cases hn0:n=0
    ·subst hn0
     have HE3:Hid (cI (aV 3) xs ys=cI (aV 3) (xs.drop (k+1)) (ys.drop (k+1))):=zl (HE2.out.trans (if_pos rfl))
     go_wp2_with fail
     go_roundw
     case rel=>exact ⟨k+1,hlt,by go_num,HW3,HE3⟩
     case measure=>simp [intOf];omega
    ·have hn1:(n !=0)=true:=by simpa using hn0
     have HE3:Hid (cI (aV 3) xs ys=n):=zl (HE2.out.trans (if_neg hn0))
     clear HE2
     go_wp2_with fail
     go_ret
     exact ⟨ak HE3.out.symm,HW3.out⟩
   ·have hK2':ys.length≤k:=by omega
    have hK2:(ys.length:Int)≤(k:Int):=by omega
    have HE3:Hid (cI (aV 3) xs ys=1):=zl (HE.out.trans (uq hlt hK2'))
    go_wp2_with fail
    go_ret
    exact ⟨ak HE3.out.symm,HW.out.trans (HW1.out.mono hszr)⟩
  ·have hgd:decide ((k:Int)<(xs.length:Int))=false:=by simp;omega
   have hkx:k=xs.length:=by omega
   by_cases hll:(xs.length:Int)<(ys.length:Int)
   ·have HE3:Hid (cI (aV 3) xs ys=-1):=zl (HE.out.trans (uo (by omega) (by omega)))
    clear hkx
    go_wp2_with fail
    all_goals
     go_ret
     exact ⟨ak HE3.out.symm,HW.out⟩
   ·have HE3:Hid (cI (aV 3) xs ys=0):=zl (HE.out.trans (xd (by omega) (by omega)))
    clear hkx
    go_wp2_with fail
    all_goals
     go_ret
     exact ⟨ak HE3.out.symm,HW.out⟩
section
variable {a b:Fc}
theorem uC (h:(a.pr.name.toList==b.pr.name.toList)=false):(if Op.bytesLess a.pr.name.toList b.pr.name.toList=true then -1 else 1)=aW a b:=by
 rw [dj,decide_eq_false_iff_not] at h
 unfold aW
 have h1:=pP h
 have h2:cX (bs a.pr.name) (bs b.pr.name)≠0:=by rw [h1];split<;>omega
 simp only [orL]
 rw [if_neg h2,h1]
 by_cases h3:bs a.pr.name<bs b.pr.name
 ·rw [if_pos ((iH _ _).2 h3),if_pos h3]
 ·rw [if_neg (by rw [iH];exact h3),if_neg h3]
theorem uD (h:(a.pr.name.toList==b.pr.name.toList)=true):aW a b=orL [cT a.pr.terms.length b.pr.terms.length,cI (aV 3) a.pr.terms b.pr.terms,cT a.o b.o]:=by
 rw [dj,decide_eq_true_eq] at h
 unfold aW
 rw [orL,h,nN,if_pos rfl]
theorem yI {x y:Int} (h:x≠y):(if decide (x<y)=true then -1 else 1)=cT x y:=by
 unfold cT
 by_cases h1:x<y
 ·simp [h1]
 ·have h2:y<x:=by omega
  simp [h1,h2]
theorem yF (h:(a.pr.name.toList==b.pr.name.toList)=true) (hn:(a.pr.terms.length:Int)≠b.pr.terms.length):(if decide ((a.pr.terms.length:Int)<b.pr.terms.length)=true then -1 else 1)=aW a b:=by
 have h1:¬cT (a.pr.terms.length:Int) b.pr.terms.length=0:=fun e=>hn (iv.1 e)
 rw [uD h,orL,if_neg h1,yI hn]
theorem fc_tms (h:(a.pr.name.toList==b.pr.name.toList)=true) (hn:a.pr.terms.length=b.pr.terms.length):aW a b=orL [cI (aV 3) a.pr.terms b.pr.terms,cT a.o b.o]:=by
 rw [uD h,orL,hn,dL,if_pos rfl]
theorem yG (ho:a.o≠b.o) (h:aW a b=orL [0,cT a.o b.o]):(if decide (a.o<b.o)=true then -1 else 1)=aW a b:=by
 have h1:¬cT a.o b.o=0:=fun e=>ho (iv.1 e)
 rw [h,orL,if_pos rfl,orL,if_neg h1,yI ho]
end
theorem qw {d B:Nat} {a b:Fc} {va vb:List Value} {w:World} (hna:a.pr.terms.length*40≤140737488351232) (ha:(az (d+1)).rd w B a va) (hb:(az (d+1)).rd w B b vb) (hB:B≤w.heap.size) :
 Calls Tryz.prog 100 #[.agg va.toArray,.agg vb.toArray] w fun z w'=>z=.returned (.int .i64 (aW a b))∧Below w.heap.size w w':=by
 obtain ⟨A,c,rfl,hs,h1,h2,h3,hl,ho⟩:=aL ha
 obtain ⟨A',c',rfl,hs',h1',h2',h3',hl',ho'⟩:=aL hb
 have HL:=zl hl
 have HL':=zl hl'
 clear hl hl'
 go_enter Tryz.func100,Tryz.ntmps100
 go_upto_region 1 with fail
 generalize hWW:World.alloc _ _=w1
 obtain ⟨hb1,hz⟩:=al2 hWW
 have HA1:=zl (n21 hWW)
 have HA2:=zl (n22 hWW)
 have HB1:=zl hb1
 clear hWW hb1 hz
 have k_a:=HA1.out.cell
 have l_a:=HA1.out.lt
 have k_b:=HA2.out.cell
 have l_b:=HA2.out.lt
 go_region
 all_goals
  generalize hWW:World.alloc _ _=w2
  obtain ⟨hb2,hz2⟩:=al2 hWW
  have HP1:=zl (n21 hWW)
  have HP2:=zl (n22 hWW)
  generalize hD:World.drew w2=w3
  have HB3:Hid (Below w1.heap.size w1 w3):=zl (hD▸hb2.drew)
  have HD3:Hid (Below w2.heap.size w2 w3):=zl (hD▸(zp _ _).drew)
  have HQ1:=zl (HP1.out.later HD3.out)
  have HQ2:=zl (HP2.out.later HD3.out)
  have HA3:=zl (HA1.out.later HB3.out)
  have HA4:=zl (HA2.out.later HB3.out)
  clear hWW hb2 hz2 hD HP1 HP2 HD3 k_a l_a k_b l_b
  have k_p:=HQ1.out.cell
  have l_p:=HQ1.out.lt
  have k_q:=HQ2.out.cell
  have l_q:=HQ2.out.lt
  by_cases hnm:(a.pr.name.toList==b.pr.name.toList)=true
  ·by_cases hln:a.pr.terms.length=b.pr.terms.length
   ·have hln':((a.pr.terms.length:Int) !=(b.pr.terms.length:Int))=false:=by simp [hln]
    have hni:((a.pr.terms.length:Int)=(b.pr.terms.length:Int)):=by omega
    have HFC:=zl (fc_tms hnm hln)
    have HLN:=zl hln
    clear hln
    go_wp2_with fail
    refine (oW (d:=d+1) (B:=B) (HL.out.keep (HB1.out.trans (HB3.out.mono HB1.out.size)) hB) (HL'.out.keep (HB1.out.trans (HB3.out.mono HB1.out.size)) hB) (zm hB (zm HB1.out.size HB3.out.size)) hna (by have:=HLN.out;omega)).mono ?_
    rintro z w9 ⟨rfl,hb9⟩
    have HE9:Hid (Below w.heap.size w w9):=zl (HB1.out.trans ((HB3.out.trans (hb9.mono HB3.out.size)).mono HB1.out.size))
    have HA5:=zl (HA3.out.later hb9)
    have HA6:=zl (HA4.out.later hb9)
    clear hb9 k_p l_p k_q l_q
    have k_p:=HA5.out.cell
    have l_p:=HA5.out.lt
    have k_q:=HA6.out.cell
    have l_q:=HA6.out.lt
    generalize cI (aV 3) a.pr.terms b.pr.terms=n at *
    by_cases hn0:n=0
    ·subst hn0
     by_cases hoo:a.o=b.o
     ·have HV:Hid (aW a b=0):=zl (by rw [HFC.out,hoo];simp [orL,dL])
      go_wp2_with fail
      all_goals
       go_ret
       exact ⟨ak HV.out.symm,HE9.out⟩
     ·by_cases hd:a.o<b.o
      ·have HV:Hid (aW a b=-1):=zl (by rw [←yG hoo HFC.out];simp [hd])
       go_wp2_with fail
       refine (cF _ _).mono ?_
       rintro e w4 ⟨rfl,rfl⟩
       go_wp2_with fail
       all_goals
        go_ret
        exact ⟨ak HV.out.symm,HE9.out⟩
      ·have HV:Hid (aW a b=1):=zl (by rw [←yG hoo HFC.out];simp [hd])
       go_wp2_with fail
       refine (cF _ _).mono ?_
       rintro e w4 ⟨rfl,rfl⟩
       go_wp2_with fail
       all_goals
        go_ret
        exact ⟨ak HV.out.symm,HE9.out⟩
    ·have hn1:(n !=0)=true:=by simpa using hn0
     have HV:Hid (aW a b=n):=zl (by rw [HFC.out,orL,if_neg hn0])
     go_wp2_with fail
     all_goals
      go_ret
      exact ⟨ak HV.out.symm,HE9.out⟩
   ·by_cases hd:(a.pr.terms.length:Int)<(b.pr.terms.length:Int)
    ·have HV:Hid (aW a b=-1):=zl (by rw [←yF hnm (by omega)];simp [hd])
     go_wp2_with fail
     refine (cF _ _).mono ?_
     rintro e w4 ⟨rfl,rfl⟩
     go_wp2_with fail
     all_goals
      go_ret
      exact ⟨ak HV.out.symm,HB1.out.trans (HB3.out.mono HB1.out.size)⟩
    ·have HV:Hid (aW a b=1):=zl (by rw [←yF hnm (by omega)];simp [hd])
     go_wp2_with fail
     refine (cF _ _).mono ?_
     rintro e w4 ⟨rfl,rfl⟩
     go_wp2_with fail
     all_goals
      go_ret
      exact ⟨ak HV.out.symm,HB1.out.trans (HB3.out.mono HB1.out.size)⟩
  ·have hnm':(a.pr.name.toList==b.pr.name.toList)=false:=by rw [Bool.not_eq_true] at hnm;exact hnm
   by_cases hd:Op.bytesLess a.pr.name.toList b.pr.name.toList=true
   ·have HV:Hid (aW a b=-1):=zl (by rw [←uC hnm'];simp [hd])
    go_wp2_with fail
    refine (cF _ _).mono ?_
    rintro e w4 ⟨rfl,rfl⟩
    go_wp2_with fail
    all_goals
     go_ret
     exact ⟨ak HV.out.symm,HB1.out.trans (HB3.out.mono HB1.out.size)⟩
   ·have HV:Hid (aW a b=1):=zl (by rw [←uC hnm'];simp [hd])
    go_wp2_with fail
    refine (cF _ _).mono ?_
    rintro e w4 ⟨rfl,rfl⟩
    go_wp2_with fail
    all_goals
     go_ret
     exact ⟨ak HV.out.symm,HB1.out.trans (HB3.out.mono HB1.out.size)⟩
def yR (t:Tm):Bool:=decide (t.n=0)&&decide (t.s.size=0)&&cP t.l
theorem sW {l:List Tm} {k:Nat} (hlt:k<l.length) (hn:eP l k=false):cP l=false:=by
 rw [Bool.eq_false_iff,cP]
 intro h
 rw [Bool.and_eq_true,List.all_eq_true] at h
 have:=h.1 k (by simpa using hlt)
 rw [hn] at this
 cases this
theorem qA {l:List Tm} (h:16<l.length):cP l=false:=by
 rw [cP,decide_eq_false (by omega),Bool.and_false]
theorem vw (d:Nat) (hM:∀(t:Tm) (vs:List Value) (B:Nat) (w:World),RTm w B d t vs→B≤w.heap.size →
 Calls Tryz.prog 122 #[.agg vs.toArray] w fun e w'=>e=.returned (.bool (fz t))∧Below w.heap.size w w')
 (t:Tm) (vs:List Value) (B:Nat) (w:World) (ht:RTm w B (d+1) t vs) (hB:B≤w.heap.size) :
 Calls Tryz.prog 186 #[.agg vs.toArray] w fun e w'=>e=.returned (.bool (yR t))∧Below w.heap.size w w':=by
 have HM:=zl hM
 clear hM
 obtain ⟨A,c,rfl,hc1,hc2,hs,_,_,hl⟩:=ht.cells
 obtain ⟨kind,n,s,l⟩:=t
 dsimp only at hc1 hc2 hs hl
 have hbel:∀o:Obj,Below w.heap.size w (w.alloc o):=fun o=>(zp _ _).alloc (zn _) _
 have HB:=zl hbel
 have HL:=zl hl
 clear hbel ht hl
 by_cases t1:n=0
 rotate_left
 ·have u1:(n !=0)=true:=by simpa using t1
  have T1:=zl t1
  clear t1
  go_enter Tryz.func186,Tryz.ntmps186
  go_wp2_with fail
  go_ret
  exact ⟨ac (by simp [yR,T1.out]),HB.out _⟩
 have u1:(n !=0)=false:=by simpa using t1
 have T1:=zl t1
 clear t1
 by_cases t2:s.size=0
 rotate_left
 ·have u2:s.toList.isEmpty=false:=by rw [aR];simpa using t2
  have T2:=zl t2
  clear t2
  go_enter Tryz.func186,Tryz.ntmps186
  go_wp2_with fail
  go_ret
  exact ⟨ac (by simp [yR,T2.out]),HB.out _⟩
 have u2:s.toList.isEmpty=true:=by rw [aR];simpa using t2
 have T2:=zl t2
 clear t2
 by_cases t3:16<l.length
 ·go_enter Tryz.func186,Tryz.ntmps186
  go_wp2_with fail
  go_ret
  exact ⟨ac (by simp [yR,qA t3]),HB.out _⟩
 go_enter Tryz.func186,Tryz.ntmps186
 go_wp2_with fail
 generalize hW:World.alloc _ _=W
 obtain ⟨hb,hz⟩:=al1 hW
 have bt:=n11 hW
 have HB1:=zl hb
 have hB1:B≤W.heap.size:=by omega
 clear hW hz hb HB
 go_loopw [22] (fun i wr=>∃k:Nat,k≤l.length∧i=.int .i64 k∧Below W.heap.size W wr∧∀i,i<k→eP l i=true) (fun i _=>l.length-(intOf i).toNat)
 case atStart=>exact ⟨0,zo _,rfl,zp _ _,fun i h=>absurd h (by omega)⟩
 case round=>
  obtain ⟨k,hk,rfl,hbw,hall⟩:=hrel
  have HA:=zl hall
  clear hall
  have ct:=(bt.later hbw).cell
  have lt:=(bt.later hbw).lt
  by_cases hlt:k<l.length
  ·have hl:=HL.out.below HB1.out hB
   obtain ⟨b,off,rfl,hb⟩:=hl.base hbw hB1 (by omega)
   obtain ⟨x,Ax,cx,hx,c0,c1,c2,c3,hr⟩:=hl.at_ hbw hB1 hlt
   obtain ⟨y,Ay,cy,hy,f0,f1,f2,f3,hr0⟩:=hl.at_ (k:=0) hbw hB1 (by omega)
   obtain ⟨z,Az,cz,hz,g0,g1,g2,g3,hrz⟩:=hl.at_ (k:=k-1) hbw hB1 (by omega)
   have HR:=zl (mA hx hy hz)
   have HK0:=zl (show k=0→x=y from fun h=>by subst h;rw [hx] at hy;simpa using hy)
   have HBw:=zl hbw
   simp only [Nat.zero_mul,Nat.add_zero] at f0 f1 f2 f3
   clear hx hy hz f1 f2 f3 hl
   go_wp2_with fail
   generalize hW2:World.alloc _ _=W2
   obtain ⟨hb2,hz2⟩:=al1 hW2
   have q0:=(n11 hW2).regrown
   have q1:=((bt.later hbw).later hb2).regrown
   have q4:=cell_regrown ((hb2.cell (p:=⟨b,off,none⟩) hb).trans f0)
   have q5:=cell_regrown ((hb2.cell (p:=⟨b,off+(k-1)*4,none⟩) hb).trans g0)
   have q6:=cell_regrown ((hb2.cell (p:=⟨b,off+(k-1)*4+1,none⟩) hb).trans g1)
   have q7:=cell_regrown ((hb2.cell (p:=⟨b,off+(k-1)*4+2,none⟩) hb).trans g2)
   have q8:=cell_regrown ((hb2.cell (p:=⟨b,off+(k-1)*4+3,none⟩) hb).trans g3)
   have hBW:B≤W2.heap.size:=by have:=hbw.size;omega
   have hrx:=zl (hr.below hb2 (by have:=hbw.size;omega))
   have hrz':=zl (hrz.below hb2 (by have:=hbw.size;omega))
   have HB2:=zl hb2
   have hl0:0<l.length:=by omega
   clear hW2 hz2 hb2 ct lt c0 c1 c2 c3 f0 g0 g1 g2 g3 hr hrz hr0
   have hcases:(x.kind==1)=true∨((x.kind==1)=false∧(x.kind==7)=true)∨((x.kind==1)=false∧(x.kind==7)=false∧fz x=false) ∨
    ((x.kind==1)=false∧(x.kind==7)=false∧fz x=true∧decide (0<k)=false) ∨
    ((x.kind==1)=false∧(x.kind==7)=false∧fz x=true∧0<k∧(x.kind !=y.kind)=true) ∨
    ((x.kind==1)=false∧(x.kind==7)=false∧fz x=true∧0<k∧(x.kind !=y.kind)=false∧decide (0≤aV 3 z x)=true) ∨
    ((x.kind==1)=false∧(x.kind==7)=false∧fz x=true∧0<k∧(x.kind !=y.kind)=false∧decide (0≤aV 3 z x)=false):=by
    cases (x.kind==1)<;>cases (x.kind==7)<;>cases fz x<;>cases (x.kind !=y.kind)<;>cases decide (0≤aV 3 z x)<;>rcases Nat.eq_zero_or_pos k with h | h<;>simp [h]
   rcases hcases with h1 | ⟨h1,h7⟩ | ⟨h1,h7,hm⟩ | ⟨h1,h7,hm,hk0⟩ | ⟨h1,h7,hm,hk0,hy⟩ | ⟨h1,h7,hm,hk0,hy,hc⟩ | ⟨h1,h7,hm,hk0,hy,hc⟩
   all_goals
    refine wp_region_quiet_below (by kernel_rfl) (by kernel_rfl) ?_
    repeat (go_big_quiet_step ((first
     | (go_at_call 122;exact Calls.regrown_of (HM.out x [_,_,_,_] B _ (hrx.out.below (below_regrown _ _ _) hBW) (zm hBW (below_regrown _ _ _).size)))
     | (go_at_call 189;exact Calls.regrown_of (gS (d:=d) (B:=B) (a:=z) (b:=x) (va:=[_,_,_,_]) (vb:=[_,_,_,_]) (hrz'.out.below (below_regrown _ _ _) hBW) (hrx.out.below (below_regrown _ _ _) hBW) (zm hBW (below_regrown _ _ _).size))))))
    refine wpQuiet_nil ?_
    intro w3 hw3
    have hb3:Below W2.heap.size W2 w3:=by obtain ⟨p,rfl⟩:=hw3;exact below_regrown _ _ _
    clear hw3 q0 q1 q4 q5 q6 q7 q8
    have HB3:=zl (ab HBw.out (ab HB2.out hb3))
    have hfin:=zl (ab HB1.out HB3.out)
    clear hb3
    go_wp2_with fail
    try simp only [beq_iff_eq,bne_iff_ne,beq_eq_false_iff_ne,bne_eq_false_iff_eq,decide_eq_true_eq,decide_eq_false_iff_not] at h1
    try simp only [beq_iff_eq,bne_iff_ne,beq_eq_false_iff_ne,bne_eq_false_iff_eq,decide_eq_true_eq,decide_eq_false_iff_not] at h7
    try simp only [beq_iff_eq,bne_iff_ne,beq_eq_false_iff_ne,bne_eq_false_iff_eq,decide_eq_true_eq,decide_eq_false_iff_not] at hk0
    try simp only [beq_iff_eq,bne_iff_ne,beq_eq_false_iff_ne,bne_eq_false_iff_eq,decide_eq_true_eq,decide_eq_false_iff_not] at hy
    try simp only [beq_iff_eq,bne_iff_ne,beq_eq_false_iff_ne,bne_eq_false_iff_eq,decide_eq_true_eq,decide_eq_false_iff_not] at hc
    first
     | (have hn:eP l k=false:=by
         rw [Bool.eq_false_iff]
         intro h
         have h2:=HR.out.1 h
         rw [ae] at h2
         simp only [Bool.and_eq_true,decide_eq_true_eq] at h2
         first
          | exact h2.1.1.1.1 h1
          | exact h2.1.1.2 h7
          | (rw [hm] at h2;exact absurd h2.1.1.1.2 (by decide))
          | exact hy h2.1.2
          | (have:=h2.2 hk0;omega)
        go_ret
        exact ⟨ac (by simp [yR,sW hlt hn]),hfin.out⟩)
     | (have hn:eP l k=true:=HR.out.2 (by
         rw [ae,hm]
         refine ⟨⟨⟨by simpa using h1,h7⟩,?_⟩,fun h=>?_⟩
         ·first
           | exact hy
           | rw [HK0.out (by omega)]
         ·omega)
        go_roundw
        case rel=>exact ⟨k+1,by omega,by go_num,HB3.out,fun i hi=>by
         rcases Nat.lt_or_ge i k with h1 | h1
         ·exact HA.out i h1
         ·obtain rfl:i=k:=by omega
          exact hn⟩
        case measure=>simp [intOf];omega)
  ·have hfin:=zl (ab HB1.out hbw)
   go_wp2_with fail
   go_ret
   refine ⟨ac ?_,hfin.out⟩
   obtain rfl:k=l.length:=by omega
   have:(List.range l.length).all (eP l)=true:=by simpa using HA.out
   rw [yR]
   simp only [T1.out,T2.out,decide_true,Bool.true_and]
   rw [cP,this,decide_eq_true (by omega)]
   rfl
end Go.Proofs.YtdphibjibnffeaaGreat
