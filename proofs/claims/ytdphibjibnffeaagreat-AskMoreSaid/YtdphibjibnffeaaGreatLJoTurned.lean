/- viaticumlaw19.JoinTurned. Printed by mk_ljoturned.py. -/
import Derived.Test.YtdphibjibnffeaaGreatAkL
import Derived.Test.YtdphibjibnffeaaGreatOpen
import Derived.Test.YtdphibjibnffeaaGreatTrue
import Derived.Test.YtdphibjibnffeaaGreatLit
import Derived.Test.YtdphibjibnffeaaGreatMade
import Derived.Test.YtdphibjibnffeaaGreatHeldA
set_option linter.unusedVariables false
set_option linter.unusedSimpArgs false
set_option maxRecDepth 100000
set_option maxHeartbeats 8000000
namespace Go.Proofs.YtdphibjibnffeaaGreat
open Go.ChangeShapes Go.WideShapes Go.ChangeAt Go.RowKit
theorem am.lit {α:Type} {R:Reader α} {e:TypeId} {w:World} {base B b:Nat} {x:α} {vs:Array Value} (h:w.heap[b]? = some (.cells vs e (0,0))) (hr:R.rd w B x vs.toList) (hb:base≤b):am R e w base B (.slice (some ⟨b,0,none⟩) 1 1) [x]:=by
 have hl:vs.size=R.k:=by rw [←R.len hr,Array.length_toList]
 exact ⟨vs.toList,⟨by simp [hl],.inr ⟨b,1,vs,rfl,hb,h,yY _,by simp [maxLen],by simp [hl],by show List.take (1*R.k) vs.toList=_;rw [Nat.one_mul,←hl,←Array.length_toList,List.take_length]⟩⟩,bg.one hr⟩
theorem rt {L:List AnV} {R:List Ans} (h:L.map AnV.x=R):decide (0<L.length)=ls R:=by
 unfold ls
 rw [←h,List.length_map]
theorem iN {d baseS B S cs:Nat} {r:Ru} {vr:List Value} {w:World} {fs:List FV} {As:Option Addr} {tr m:Int} (hr:(RuR (d+1)).rd w B r vr) (hB:B≤w.heap.size) (hS:StA baseS d w S fs As cs) (hfew:fs.length≤100000) (hm:w.cell? ⟨0,0,none⟩=some (.int .i64 m)) (hp:0<w.heap.size) :
 Calls Tryz.prog 27 #[.agg vr.toArray,.pointer (some ⟨S,0,none⟩),.int .u32 tr] w fun z w'=>z=.returned (.tuple #[.bool (aV (fs.map FV.f) tr r).1,.int .i64 (aV (fs.map FV.f) tr r).2])∧Below w.heap.size w w':=by
 have HR:=yW hr
 have HS:=yW hS
 have HM:=yW hm
 clear hS hm
 obtain ⟨_,_,_,_,rfl,_,⟨A0,c0,rfl,_⟩,⟨A1,c1,rfl,_⟩,⟨A2,c2,rfl,h21,h22,hl2⟩,⟨A3,c3,rfl,_⟩⟩:=hr
 go_enter Tryz.func27,Tryz.ntmps27
 go_upto_region 1 with fail
 generalize hW:World.alloc _ _=w1
 obtain ⟨hb1,hz⟩:=al1 hW
 have HK1:=yW (n11 hW)
 have HB1:=yW hb1
 have hsz1:=hb1.size
 clear hW hb1 hz
 have k_r:=HK1.out.cell
 have l_r:=HK1.out.lt
 go_wp2_with fail
 refine (fY (d:=d+1) (B:=B) (r:=r) (vs:=[_,_,_,_,_]) ((RuR (d+1)).keep HB1.out hB HR.out) (yX hB hsz1)).mono ?_
 rintro z w2 ⟨rfl,hb2⟩
 have HK2:=yW (HK1.out.later hb2)
 have HB2:=yW (ab HB1.out hb2)
 have hsz2:=HB2.out.size
 clear hb2 k_r l_r
 have k_r:=HK2.out.cell
 have l_r:=HK2.out.lt
 by_cases hq:aB r=true
 rotate_left
 ·have HV:Hid (aV (fs.map FV.f) tr r=(false,1)):=yW (by unfold aV;rw [if_neg hq])
  simp only [Bool.not_eq_true] at hq
  rw [hq]
  go_wp2_with fail
  go_ret2
  exact ⟨by rw [HV.out];rfl,HB2.out⟩
 have HV:Hid (aV (fs.map FV.f) tr r=(ls (aA (fs.map FV.f) tr r).1,(aA (fs.map FV.f) tr r).2)):=yW (by unfold aV;rw [if_pos hq])
 rw [hq]
 go_wp2_with fail
 refine (gM (d:=d) (B:=B) (r:=r) (vr:=[_,_,_,_,_]) (tr:=tr) ((RuR (d+1)).keep HB2.out hB HR.out) (yX hB HB2.out.size) (HS.out.later HB2.out) hfew ((HB2.out.cell (p:=⟨0,0,none⟩) hp).trans HM.out) (zb hp HB2.out.size)).mono ?_
 rintro z w3 ⟨L,AL,cL,rfl,hLx,_,_,_,hb3⟩
 have HB3:=yW (ab HB2.out hb3)
 have HL:=yW (rt hLx)
 generalize aA (fs.map FV.f) tr r=R at *
 clear hLx hb3 k_r l_r
 go_wp2_with fail
 go_ret2
 exact ⟨by rw [HV.out,←HL.out];rfl,HB3.out⟩
theorem rL {d baseS B S cs:Nat} {r:Ru} {vr:List Value} {w:World} {fs:List FV} {As:Option Addr} {tr m:Int} (hr:(RuR (d+1)).rd w B r vr) (hB:B≤w.heap.size) (hS:StA baseS d w S fs As cs) (hfew:fs.length≤100000) (hm:w.cell? ⟨0,0,none⟩=some (.int .i64 m)) (hp:0<w.heap.size) :
 Calls Tryz.prog 76 #[.agg vr.toArray,.pointer (some ⟨S,0,none⟩),.int .u32 tr] w fun z w'=>AnsE d w w' (bH (fs.map FV.f) tr r) z:=by
 have HR:=yW hr
 have HS:=yW hS
 have HM:=yW hm
 clear hS hm
 obtain ⟨_,_,_,_,rfl,_,⟨A0,c0,rfl,_⟩,⟨A1,c1,rfl,_⟩,⟨A2,c2,rfl,h21,h22,hl2⟩,⟨A3,c3,rfl,_⟩⟩:=hr
 go_enter Tryz.func76,Tryz.ntmps76
 go_upto_region 1 with fail
 generalize hW:World.alloc _ _=w1
 obtain ⟨hb1,hz⟩:=al1 hW
 have HK1:=yW (n11 hW)
 have HB1:=yW hb1
 have hsz1:=hb1.size
 clear hW hb1 hz
 have k_r:=HK1.out.cell
 have l_r:=HK1.out.lt
 have f_r:=HK1.out.free
 have HB2:Hid (Below w.heap.size w (w1.setCell ⟨w.heap.size,3,none⟩ (.slice none 0 0))):=yW (HB1.out.setCell (p:=⟨w.heap.size,3,none⟩) (yY _) _)
 have HK2:Hid (Blk (w1.setCell ⟨w.heap.size,3,none⟩ (.slice none 0 0)) w.heap.size #[.string r.head.name,.slice A0 r.head.terms.length c0,.slice A1 r.body.length c1,.slice none 0 0,.slice A3 r.scopes.length c3]):=yW (HK1.out.set_ 3 _)
 have HRB:Hid ((RuR (d+1)).rd w B (cH r) [.string r.head.name,.slice A0 r.head.terms.length c0,.slice A1 r.body.length c1,.slice none 0 0,.slice A3 r.scopes.length c3]):=yW (by
  obtain ⟨v0,v1,v2,v3,e,g0,g1,g2,g3,g4⟩:=HR.out
  simp only [List.cons.injEq,and_true,true_and] at e
  obtain ⟨rfl,rfl,rfl,rfl⟩:=e
  exact ⟨_,_,_,_,rfl,g0,g1,g2,eY,g4⟩)
 by_cases hb0:r.body.length=0
 ·have HV:Hid (bH (fs.map FV.f) tr r=([gG],0)):=yW (by unfold bH;rw [if_pos hb0])
  have hb0':((r.body.length:Int)==0)=true:=by simp [hb0]
  clear hb0
  go_upto_region 2 with fail
  generalize hW:World.setCell _ _ _=w2 at *
  clear hW k_r l_r f_r
  have k_r:=HK2.out.cell
  have l_r:=HK2.out.lt
  go_wp2_with fail
  generalize hW:World.alloc _ _=w3
  obtain ⟨hb3,hz3⟩:=al1 hW
  have HH:Hid (w3.heap[w2.heap.size]? = some (.cells #[.slice none 0 0,.slice none 0 0,.int .u32 0] 48 (0,0))):=yW (hW▸heap_alloc_new _ _)
  have HB3:=yW (ab HB2.out hb3)
  have hsz2:=HB2.out.size
  clear hW hb3 hz3 k_r l_r
  go_wp2_with fail
  go_ret2
  rw [HV.out]
  exact ⟨[jL],_,_,rfl,rfl,am.lit (R:=iV) (x:=jL) HH.out rfl hsz2,fun y hy=>by rw [List.mem_singleton] at hy;subst hy;exact pm,fun y hy=>by rw [List.mem_singleton] at hy;subst hy;exact fun w' _=>mH _ _ _,HB3.out⟩
 ·have HV:Hid (bH (fs.map FV.f) tr r=aA (fs.map FV.f) tr (cH r)):=yW (by unfold bH;rw [if_neg hb0])
  have hb0':((r.body.length:Int)==0)=false:=by rw [beq_eq_false_iff_ne];omega
  clear hb0
  go_upto_region 2 with fail
  generalize hW:World.setCell _ _ _=w2 at *
  clear hW k_r l_r f_r
  have k_r:=HK2.out.cell
  have l_r:=HK2.out.lt
  go_wp2_with fail
  refine (gM (d:=d) (B:=B) (r:=cH r) (vr:=[_,_,_,_,_]) (tr:=tr) ((RuR (d+1)).keep HB2.out hB HRB.out) (yX hB HB2.out.size) (HS.out.later HB2.out) hfew ((HB2.out.cell (p:=⟨0,0,none⟩) hp).trans HM.out) (zb hp HB2.out.size)).mono ?_
  rintro z w3 ⟨L,AL,cL,rfl,hLx,hLo,hLk,hLd,hb3⟩
  have HB3:=yW (ab HB2.out hb3)
  have HLX:=yW (And.intro hLx (And.intro (hLo.lower HB2.out.size) (And.intro hLk hLd)))
  clear hLx hLo hLk hLd hb3 k_r l_r
  go_wp2_with fail
  go_ret2
  rw [HV.out]
  exact ⟨L,AL,cL,rfl,HLX.out.1,HLX.out.2.1,HLX.out.2.2.1,HLX.out.2.2.2,HB3.out⟩
theorem rY {b:Bd} {es:List (List OpD)} {j:Nat} {q:List OpD} {a:Bool} (h:es[j]? = some q):eA b (es.drop j) a=if (bN (cT b q)).2≠0 then (false,(bN (cT b q)).2) else eA b (es.drop (j+1)) (a&&(bN (cT b q)).1):=by
 obtain ⟨hj,rfl⟩:=List.getElem?_eq_some_iff.1 h
 rw [List.drop_eq_getElem_cons hj,eA]
theorem rX {es:List (List OpD)} {l:List Ans} {j:Nat} {x:Ans} {a:Bool} (h:l[j]? = some x):fv es (l.drop j) a=if (eA x.b es a).2≠0 then (false,(eA x.b es a).2) else fv es (l.drop (j+1)) (eA x.b es a).1:=by
 obtain ⟨hj,rfl⟩:=List.getElem?_eq_some_iff.1 h
 rw [List.drop_eq_getElem_cons hj,fv]
theorem xD {w:World} {base B n c:Nat} {L:List AnV} {e:TypeId} {A:Option Addr} (h:am iV e w base B (.slice A n c) L):L.length≤9223372036854775807:=by
 rcases A with _ | a
 ·rw [(am.none_nil h).1];simp
 ·obtain ⟨_,_,h1,h2⟩:=am.some_row h;omega
theorem nV {d baseS B S cs:Nat} {r:Ru} {vr:List Value} {w:World} {fs:List FV} {As:Option Addr} {tr m:Int} (hr:(RuR (d+1)).rd w B r vr) (hB:B≤w.heap.size) (hS:StA baseS d w S fs As cs) (hfew:fs.length≤100000) (hm:w.cell? ⟨0,0,none⟩=some (.int .i64 m)) (hp:0<w.heap.size) :
 Calls Tryz.prog 28 #[.agg vr.toArray,.pointer (some ⟨S,0,none⟩),.int .u32 tr] w fun z w'=>z=.returned (.tuple #[.bool (cV (fs.map FV.f) tr r).1,.int .i64 (cV (fs.map FV.f) tr r).2])∧Below w.heap.size w w':=by
 have HR:=yW hr
 have HS:=yW hS
 have HM:=yW hm
 clear hS hm
 obtain ⟨_,_,_,_,rfl,_,⟨A0,c0,rfl,_⟩,⟨A1,c1,rfl,_⟩,⟨A2,c2,rfl,h21,h22,hl2⟩,⟨A3,c3,rfl,_⟩⟩:=hr
 go_enter Tryz.func28,Tryz.ntmps28
 go_upto_region 1 with fail
 generalize hW:World.alloc _ _=w1
 obtain ⟨hb1,hz⟩:=al1 hW
 have HK1:=yW (n11 hW)
 have HB1:=yW hb1
 have hsz1:=hb1.size
 clear hW hb1 hz
 have k_r:=HK1.out.cell
 have l_r:=HK1.out.lt
 go_wp2_with fail
 refine (fY (d:=d+1) (B:=B) (r:=r) (vs:=[_,_,_,_,_]) ((RuR (d+1)).keep HB1.out hB HR.out) (yX hB hsz1)).mono ?_
 rintro z w2 ⟨rfl,hb2⟩
 have HK2:=yW (HK1.out.later hb2)
 have HB2:=yW (ab HB1.out hb2)
 have hsz2:=HB2.out.size
 clear hb2 k_r l_r
 have k_r:=HK2.out.cell
 have l_r:=HK2.out.lt
 by_cases hq:aB r=true
 rotate_left
 ·have HV:Hid (cV (fs.map FV.f) tr r=(false,1)):=yW (by unfold cV;rw [if_neg hq])
  simp only [Bool.not_eq_true] at hq
  rw [hq]
  go_wp2_with fail
  go_ret2
  exact ⟨by rw [HV.out];rfl,HB2.out⟩
 have HV0:Hid (cV (fs.map FV.f) tr r=if (bH (fs.map FV.f) tr r).2≠0 then (false,(bH (fs.map FV.f) tr r).2) else fv r.exprs (bH (fs.map FV.f) tr r).1 (ls (bH (fs.map FV.f) tr r).1)):=yW (by unfold cV;rw [if_pos hq])
 have HEX:=yW hl2
 rw [hq]
 clear hl2 hq
 go_wp2_with fail
 refine (rL (d:=d) (B:=B) (r:=r) (vr:=[_,_,_,_,_]) (tr:=tr) ((RuR (d+1)).keep HB2.out hB HR.out) (yX hB HB2.out.size) (HS.out.later HB2.out) hfew ((HB2.out.cell (p:=⟨0,0,none⟩) hp).trans HM.out) (zb hp HB2.out.size)).mono ?_
 rintro z w3 ⟨L,AL,cL,rfl,hLx,hLo,hLk,hLd,hb3⟩
 have HK3:=yW (HK2.out.later hb3)
 have HB3:=yW (ab HB2.out hb3)
 have hsz3:=HB3.out.size
 have HSL:=yW (rt hLx)
 generalize bH (fs.map FV.f) tr r=R at *
 have HLX:=yW hLx
 have HLO:=yW hLo
 have hLn:=xD hLo
 have HA3:=yW (fun (w':World) (hb:Below w3.heap.size w3 w') (i:Nat) (hi:i<L.length)=>((hLd L[i] (List.getElem_mem hi)).later hb).here)
 clear hLx hLo hLk hLd hb3 k_r l_r
 by_cases he:R.2=0
 rotate_left
 ·have he':(R.2 !=0)=true:=by simpa using he
  have HV:Hid (cV (fs.map FV.f) tr r=(false,R.2)):=yW (HV0.out.trans (if_pos he))
  clear he
  go_wp2_with fail
  go_ret2
  exact ⟨by rw [HV.out];rfl,HB3.out⟩
 have he':(R.2 !=0)=false:=by simpa using he
 have HV1:Hid (cV (fs.map FV.f) tr r=fv r.exprs R.1 (ls R.1)):=yW (HV0.out.trans (if_neg (by simpa using he)))
 clear he HV0
 go_upto_region 8 with fail
 rw [HSL.out]
 go_loopw [10,35] (fun u i wr=>∃(j:Nat) (a:Bool),j≤L.length∧i=.int .i64 j∧u=.bool a∧Hid (cV (fs.map FV.f) tr r=fv r.exprs (R.1.drop j) a)∧Hid (Below w3.heap.size w3 wr)) (fun _ i _=>L.length-(intOf i).toNat)
 case atStart=>exact ⟨0,ls R.1,yZ _,rfl,rfl,HV1,yW (za _ _)⟩
 case round=>
  obtain ⟨j,a,hj,rfl,rfl,HE,HW⟩:=hrel
  have hszr:=HW.out.size
  by_cases hlt:j<L.length
  ·obtain ⟨g,cg,eg,hg1,hg2,_⟩:=HLO.out.sh aT (by omega)
   simp only [Value.slice.injEq,true_and] at eg
   obtain ⟨rfl,rfl⟩:=eg
   obtain ⟨a0,a1,a2⟩:=gm (HLO.out.later HW.out (yZ _)) hlt
   have HRA:=yW (HA3.out wr HW.out j hlt)
   have HXJ:Hid (R.1[j]? = some L[j].x):=yW (by rw [←HLX.out,List.getElem?_map,List.getElem?_eq_getElem hlt];rfl)
   have hI0:(0:Int)≤(j:Int):=Int.natCast_nonneg _
   have hI1:(j:Int)<(L.length:Int):=by omega
   generalize L[j]=y at *
   have HE1:Hid (cV (fs.map FV.f) tr r=if (eA y.x.b r.exprs a).2≠0 then (false,(eA y.x.b r.exprs a).2) else fv r.exprs (R.1.drop (j+1)) (eA y.x.b r.exprs a).1):=yW (HE.out.trans (rX HXJ.out))
   have HKr:=yW (HK3.out.later HW.out)
   have k_r:=HKr.out.cell
   have l_r:=HKr.out.lt
   go_upto_region 10 with fail
   generalize hW:World.alloc _ _=w4
   obtain ⟨hb4,hz4⟩:=al1 hW
   have HY4:=yW (n11 hW)
   have HK4:=yW (HKr.out.later hb4)
   have HB4:=yW (ab HW.out hb4)
   have HX4:=yW (ab HB3.out HB4.out)
   have hsz4:=hb4.size
   have HPR:=yW (mG ((mC (d+1)).keep hb4 (yY _) HRA.out))
   clear hW hb4 hz4 a0 a1 a2 k_r l_r
   have k_r:=HK4.out.cell
   have l_r:=HK4.out.lt
   go_upto_region 11 with fail
   clear k_r l_r
   generalize wr=wo at *
   go_loopw [10,42] (fun u i wr=>∃(k:Nat) (b:Bool),k≤r.exprs.length∧i=.int .i64 k∧u=.bool b∧Hid (eA y.x.b r.exprs a=eA y.x.b (r.exprs.drop k) b)∧Hid (Below w4.heap.size w4 wr)) (fun _ i _=>r.exprs.length-(intOf i).toNat)
   case atStart=>exact ⟨0,a,yZ _,rfl,rfl,yW rfl,yW (za _ _)⟩
   case round=>
    obtain ⟨k,b,hk,rfl,rfl,HK,HWK⟩:=hrel
    have hszk:=HWK.out.size
    have HBk:=yW (ab HX4.out HWK.out)
    have hBk:B≤wr.heap.size:=yX hB HBk.out.size
    by_cases hkl:k<r.exprs.length
    ·obtain ⟨be_,offe,rfl,hobe⟩:=(HEX.out.keep HBk.out hB).base (za _ _) hBk (by omega)
     obtain ⟨q,vs,hx,hlen,hcell,hr⟩:=(HEX.out.keep HBk.out hB).at_ (za _ _) hBk hkl
     have HQ:=yW hr
     obtain ⟨_,rfl,Aq,cq,rfl,_⟩:=show (ExR (d+1)).rd wr B q vs from hr
     have c0:wr.cell? ⟨be_,offe+k,none⟩=some (.slice Aq q.length cq):=by have:=hcell 0 _ rfl;simpa [ExR] using this
     have HS1:=yW (HK.out.trans (rY hx))
     have hI2:(0:Int)≤(k:Int):=Int.natCast_nonneg _
     have hI3:(k:Int)<(r.exprs.length:Int):=by omega
     clear hcell hlen hx hr
     go_upto_region 13 with fail
     generalize hW:World.alloc _ _=w5
     obtain ⟨hb5,hz5⟩:=al1 hW
     have HE5:=yW (n11 hW)
     have HY5:=yW ((HY4.out.later HWK.out).later hb5)
     have HB5:=yW (ab HBk.out hb5)
     have HX5:=yW (ab HWK.out hb5)
     have HQ5:=yW ((ExR (d+1)).keep hb5 hBk HQ.out)
     clear hW hb5 hz5 c0
     have k_e:=HE5.out.cell
     have l_e:=HE5.out.lt
     have k_a:=HY5.out.cell
     have l_a:=HY5.out.lt
     go_wp2_with fail
     refine (rz (D:=d) (cn:=y.cn) (ct:=y.ct) (evs:=[_]) (b:=y.x.b) (B:=w4.heap.size) (m:=m) ((ExR (d+1)).wide (yX hB HX4.out.size) HQ5.out) ((HPR.out.1.keep HX5.out hsz4).wide hsz4) ((HPR.out.2.keep HX5.out hsz4).wide hsz4) HX5.out.size ((HB5.out.cell (p:=⟨0,0,none⟩) hp).trans HM.out) (zb hp HB5.out.size)).mono ?_
     rintro z w6 ⟨rfl,hb6⟩
     have HB6:=yW (ab HB5.out hb6)
     have HX6:=yW (ab HX5.out hb6)
     clear k_e l_e k_a l_a hb6
     by_cases h2:(bN (cT y.x.b q)).2=0
     rotate_left
     ·have q2:((bN (cT y.x.b q)).2 !=0)=true:=by simpa using h2
      have HS2:=yW (HS1.out.trans (if_pos h2))
      have HV:Hid (cV (fs.map FV.f) tr r=(false,(bN (cT y.x.b q)).2)):=yW (by
       rw [HE1.out,HS2.out]
       exact if_pos h2)
      generalize bN (cT y.x.b q)=t at *
      clear h2
      go_wp2_with fail
      go_ret2
      exact ⟨by rw [HV.out];rfl,HB6.out⟩
     ·have q2:((bN (cT y.x.b q)).2 !=0)=false:=by simpa using h2
      have HS2:=yW (HS1.out.trans (if_neg (by simpa using h2)))
      generalize bN (cT y.x.b q)=t at *
      clear h2
      obtain ⟨t1,t2⟩:=t
      cases b<;>cases t1
      all_goals
       go_wp2_with fail
       go_roundw
       case rel=>exact ⟨k+1,_,by omega,by go_num,rfl,HS2,HX6⟩
       case measure=>simp [intOf];omega
    ·have HS2:Hid (eA y.x.b r.exprs a=(b,0)):=yW (by rw [HK.out,List.drop_eq_nil_iff.2 (by omega)];rfl)
     have HE2:Hid (cV (fs.map FV.f) tr r=fv r.exprs (R.1.drop (j+1)) b):=yW (by rw [HE1.out,HS2.out];exact if_neg (by simp))
     go_wp2_with fail
     go_roundw
     case rel=>exact ⟨j+1,b,by omega,by go_num,rfl,HE2,yW (ab HB4.out HWK.out)⟩
     case measure=>simp [intOf];omega
  ·have HV:Hid (cV (fs.map FV.f) tr r=(a,0)):=yW (by rw [HE.out,List.drop_eq_nil_iff.2 (by rw [←HLX.out,List.length_map];omega)];rfl)
   go_wp2_with fail
   go_ret2
   exact ⟨by rw [HV.out];rfl,ab HB3.out HW.out⟩
theorem fg (d:Nat):dq (ax d):=fun h u hu=>by
 obtain ⟨A,c,rfl,_⟩:=aI h
 simp only [List.mem_cons,List.not_mem_nil,or_false] at hu
 rcases hu with rfl | rfl | rfl<;>rfl
theorem oU {d:Nat} {w:World} {B n c:Nat} {xs ys:List Fc} {A:Option Addr} (h:RSl (ax d) w B xs (.slice A n c)) (e:xs=ys:=by simp):RL (ax d) w B ys A:=by
 obtain ⟨A',c',e',_,_,hr⟩:=h
 cases e'
 exact e▸hr
structure Goes (a b:List Ans):Prop where
 ra:rE a
 rb:rE b
 sub:∀x∈a,∃y∈b,aM y x=0
theorem Goes.at_ {a b:List Ans} (h:Goes a b) {i k:Nat} (hi:i<a.length) (hk:k≤b.length) (hlt:∀j (hj:j<b.length),j<k→aM b[j] a[i]<0) (hn:∀hk:k<b.length,¬aM b[k] a[i]<0):∃hk:k<b.length,aM b[k] a[i]=0:=by
 obtain ⟨y,hy,h0⟩:=h.sub a[i] (List.getElem_mem hi)
 obtain ⟨j,hj,rfl⟩:=List.getElem_of_mem hy
 have hjk:k≤j:=by
  rcases Nat.lt_or_ge j k with h1 | h1
  ·have:=hlt j hj h1;omega
  ·exact h1
 have hk':k<b.length:=by omega
 refine ⟨hk',?_⟩
 have h1:=hn hk'
 rcases Nat.lt_or_eq_of_le hjk with h2 | rfl
 ·have h3:=List.pairwise_iff_getElem.1 h.rb k j hk' hj h2
  have h4:=bm.lt_le h3 (Int.le_of_eq h0)
  omega
 ·exact h0
theorem Goes.next {a b:List Ans} (h:Goes a b) {i k:Nat} (hi:i+1<a.length) (hlt:∀j (hj:j<b.length),j<k→aM b[j] (a[i]'(by omega))<0):∀j (hj:j<b.length),j<k→aM b[j] a[i+1]<0:=fun j hj hjk=>
 bm.lt_le (hlt j hj hjk) (Int.le_of_lt (List.pairwise_iff_getElem.1 h.ra i (i+1) (by omega) hi (by omega)))
end Go.Proofs.YtdphibjibnffeaaGreat
