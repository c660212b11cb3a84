/- term.Set. -/
import Derived.Test.YtdphibjibnffeaaGreatHeapLaw
import Derived.Test.YtdphibjibnffeaaGreatBS
import Derived.Test.YtdphibjibnffeaaGreatBSearch
set_option linter.unusedVariables false
set_option linter.unusedSimpArgs false
set_option maxRecDepth 100000
set_option maxHeartbeats 8000000
namespace Go.Proofs.YtdphibjibnffeaaGreat
open Go.ChangeShapes Go.WideShapes Go.ChangeAt Go.RowKit
structure TV where
 t:Tm
 a:Option Addr
 c:Nat
def TV.cs (x:TV):List Value:=[.int .i64 x.t.kind,.int .i64 x.t.n,.string x.t.s,.slice x.a 0 x.c]
def tv0:TV:=⟨⟨0,0,⟨#[]⟩,[]⟩,none,0⟩
def cTV (x y:TV):Int:=aV 3 x.t y.t
theorem el:Ord3 cTV:=(eV 3).by TV.t
def pK (cur:Array Value) (xs:List TV):Prop:=∀k,k<xs.length→∀b,b<4→cur[k*4+b]? = (atL tv0 xs k).cs[b]?
def rC (cur:Array Value) (o:Nat) (x:TV):Array Value:=
 (((cur.setIfInBounds o (.int .i64 x.t.kind)).setIfInBounds (o+1) (.int .i64 x.t.n)).setIfInBounds (o+2) (.string x.t.s)).setIfInBounds (o+3) (.slice x.a 0 x.c)
theorem nT {cur:Array Value} {i k b:Nat} {x:TV} (h:i*4+3<cur.size) (hb:b<4):(rC cur (i*4) x)[k*4+b]? = if k=i then x.cs[b]? else cur[k*4+b]?:=by
 unfold rC
 simp only [Array.getElem?_setIfInBounds,Array.size_setIfInBounds]
 by_cases hk:k=i
 ·subst hk
  have h4:b=0∨b=1∨b=2∨b=3:=by omega
  rcases h4 with rfl | rfl | rfl | rfl
  ·rw [if_neg (by omega),if_neg (by omega),if_neg (by omega),if_pos (by omega),if_pos (by omega),if_pos rfl];rfl
  ·rw [if_neg (by omega),if_neg (by omega),if_pos (by omega),if_pos (by omega),if_pos rfl];rfl
  ·rw [if_neg (by omega),if_pos (by omega),if_pos (by omega),if_pos rfl];rfl
  ·rw [if_pos (by omega),if_pos (by omega),if_pos rfl];rfl
 ·rw [if_neg (by omega),if_neg (by omega),if_neg (by omega),if_neg (by omega),if_neg hk]
theorem ra {cur:Array Value} {o:Nat} {x:TV}:(rC cur o x).size=cur.size:=by simp [rC]
theorem pK.size {cur:Array Value} {xs:List TV} (h:pK cur xs) {k:Nat} (hk:k<xs.length):k*4+3<cur.size:=by
 have:=h k hk 3 (by omega)
 rcases Nat.lt_or_ge (k*4+3) cur.size with h1 | h1
 ·exact h1
 ·rw [Array.getElem?_eq_none h1] at this;cases this
theorem pK.swap {cur:Array Value} {xs:List TV} {i j:Nat} (h:pK cur xs) (hi:i<xs.length) (hj:j<xs.length) :
 pK (rC (rC cur (i*4) (atL tv0 xs j)) (j*4) (atL tv0 xs i)) (sw tv0 xs i j):=by
 intro k hk b hb
 rw [cD] at hk
 rw [nT (by rw [ra];exact h.size hj) hb,ml hi hj]
 by_cases h1:k=j
 ·rw [if_pos h1,if_pos h1]
 ·rw [if_neg h1,if_neg h1,nT (h.size hi) hb]
  by_cases h2:k=i
  ·rw [if_pos h2,if_pos h2]
  ·rw [if_neg h2,if_neg h2];exact h k hk b hb
theorem pK.take {cur:Array Value} {xs:List TV} (h:pK cur xs) (n:Nat):pK cur (xs.take n):=by
 intro k hk b hb
 rw [List.length_take] at hk
 rw [h k (by omega) b hb]
 congr 2
 rw [cF (by omega),cF (by rw [List.length_take];omega),List.getElem_take]
def PAt (w:World) (P G:Nat) (xs:List TV) (c:Nat):Prop:=Blk w P #[.slice (some ⟨G,0,none⟩) xs.length c]∧∃cur,Blk w G cur∧pK cur xs
def PRd (w:World) (B d:Nat) (xs:List TV):Prop:=∀x∈xs,RTm w B d x.t x.cs
theorem PRd.below {w w':World} {B C d:Nat} {xs:List TV} (h:PRd w B d xs) (hb:Below C w w') (hB:B≤C):PRd w' B d xs:=fun x hx=>(h x hx).below hb hB
theorem ox {α:Type} {z:α} {xs:List α} {k:Nat} (h:k<xs.length):atL z xs k∈xs:=by rw [cF h];exact List.getElem_mem h
theorem cR (A:Option Addr) (n c:Nat) (w:World) :
 Calls Tryz.prog 314 #[.slice A n c] w fun e w'=>e=.returned (.int .i64 n)∧w=w':=by
 go_enter Tryz.func314,Tryz.ntmps314
 go_wp2_with fail
 go_ret
 exact ⟨rfl,rfl⟩
theorem ec {w:World} {G c B d i j:Nat} {xs:List TV} {cur:Array Value} (hG:Blk w G cur) (hr:pK cur xs) (hd:PRd w B d xs) (hB:B≤w.heap.size) (hi:i<xs.length) (hj:j<xs.length) (hn:xs.length≤1000000) :
 Calls Tryz.prog 357 #[.slice (some ⟨G,0,none⟩) xs.length c,.int .i64 i,.int .i64 j] w fun e w'=>e=.returned (.bool (decide (cTV (atL tv0 xs i) (atL tv0 xs j)<0)))∧Below w.heap.size w w':=by
 have hx:=hd _ (ox (z:=tv0) hi)
 have hy:=hd _ (ox (z:=tv0) hj)
 have i0:=hr i hi 0 (by omega)
 have i1:=hr i hi 1 (by omega)
 have i2:=hr i hi 2 (by omega)
 have i3:=hr i hi 3 (by omega)
 have j0:=hr j hj 0 (by omega)
 have j1:=hr j hj 1 (by omega)
 have j2:=hr j hj 2 (by omega)
 have j3:=hr j hj 3 (by omega)
 unfold cTV
 generalize atL tv0 xs i=x at *
 generalize atL tv0 xs j=y at *
 simp only [TV.cs,List.getElem?_cons_zero,List.getElem?_cons_succ,Nat.add_zero] at i0 i1 i2 i3 j0 j1 j2 j3
 have HX:=Lib.hid hx
 have HY:=Lib.hid hy
 clear hx hy
 have q_G:=hG.regrown
 go_enter Tryz.func357,Tryz.ntmps357
 have k_G:=hG.cell
 go_wp2_with fail
 refine wp_region_quiet_below (by kernel_rfl) (by kernel_rfl) ?_
 repeat (go_big_quiet_step ((go_at_call 62;exact Calls.regrown_of (cS d d x.t y.t x.cs y.cs B _ (HX.out.below (below_regrown _ _ _) hB) (HY.out.below (below_regrown _ _ _) hB) (Nat.le_trans hB (below_regrown _ _ _).size)))))
 refine wpQuiet_nil ?_
 intro w1 hw1
 have hb1:Below w.heap.size w w1:=by obtain ⟨p,rfl⟩:=hw1;exact below_regrown _ _ _
 clear hw1 q_G k_G
 go_wp2_with fail
 go_ret
 exact ⟨rfl,hb1⟩
theorem ee {w:World} {G c i j:Nat} {xs:List TV} {cur:Array Value} (hG:Blk w G cur) (hr:pK cur xs) (hi:i<xs.length) (hj:j<xs.length) (hn:xs.length≤1000000) :
 Calls Tryz.prog 358 #[.slice (some ⟨G,0,none⟩) xs.length c,.int .i64 i,.int .i64 j] w fun e w'=>e=.returned (.tuple #[])∧Exc G w w'∧∃cur',Blk w' G cur'∧pK cur' (sw tv0 xs i j):=by
 have HS:=Lib.hid (hr.swap hi hj)
 have i0:=hr i hi 0 (by omega)
 have i1:=hr i hi 1 (by omega)
 have i2:=hr i hi 2 (by omega)
 have i3:=hr i hi 3 (by omega)
 have j0:=hr j hj 0 (by omega)
 have j1:=hr j hj 1 (by omega)
 have j2:=hr j hj 2 (by omega)
 have j3:=hr j hj 3 (by omega)
 generalize hxe:atL tv0 xs i=x at *
 generalize hye:atL tv0 xs j=y at *
 simp only [TV.cs,List.getElem?_cons_zero,List.getElem?_cons_succ,Nat.add_zero] at i0 i1 i2 i3 j0 j1 j2 j3
 go_enter Tryz.func358,Tryz.ntmps358
 have k_G:=hG.cell
 have f_G:=hG.free
 by_cases e:j=i
 ·subst e
  obtain rfl:x=y:=by rw [←hxe,←hye]
  go_wp2_with fail
  go_region
  all_goals go_end0
  all_goals exact ⟨rfl,((((((((((Exc.refl G w).set _ _).set _ _).set _ _).set _ _).set _ _).set _ _).set _ _).set _ _)).drew,_,((((((((hG.set_ _ _).set_ _ _).set_ _ _).set_ _ _).set_ _ _).set_ _ _).set_ _ _).set_ _ _).drew,HS.out⟩
 ·have n00:¬(j*4=i*4):=by omega
  have n01:¬(j*4=i*4+1):=by omega
  have n02:¬(j*4=i*4+2):=by omega
  have n03:¬(j*4=i*4+3):=by omega
  have n10:¬(j*4+1=i*4):=by omega
  have n11:¬(j*4+1=i*4+1):=by omega
  have n12:¬(j*4+1=i*4+2):=by omega
  have n13:¬(j*4+1=i*4+3):=by omega
  have n20:¬(j*4+2=i*4):=by omega
  have n21:¬(j*4+2=i*4+1):=by omega
  have n22:¬(j*4+2=i*4+2):=by omega
  have n23:¬(j*4+2=i*4+3):=by omega
  have n30:¬(j*4+3=i*4):=by omega
  have n31:¬(j*4+3=i*4+1):=by omega
  have n32:¬(j*4+3=i*4+2):=by omega
  have n33:¬(j*4+3=i*4+3):=by omega
  go_wp2_with fail
  go_region
  all_goals go_end0
  all_goals exact ⟨rfl,((((((((((Exc.refl G w).set _ _).set _ _).set _ _).set _ _).set _ _).set _ _).set _ _).set _ _)).drew,_,((((((((hG.set_ _ _).set_ _ _).set_ _ _).set_ _ _).set_ _ _).set_ _ _).set_ _ _).set_ _ _).drew,HS.out⟩
theorem vl {P:Program} (t:TypeId) (a:Addr) (x y:ByteArray) (w:World):(Builtin.ssaWrapNilChk_ #[t] t #[.pointer (some a),.string x,.string y]).run P w=.ok (.pointer (some a)) w:=rfl
theorem via_val {P:Program} {t e:TypeId} {name:String} {f:FuncId} (hu:P.underlying t=some (.pointer e)) (hm:((P.info? t).bind fun i=>(i.methods.find? (·.name==name)).map fun m=>(m.path.toList,m.func))=some ([],some (f,false)))
 (fuel:Nat) {w:World} {a:Addr} {v:Value} (h:(loadVar e a).run P w=.ok v w) :
 (method (fuel+1) t (.pointer (some a)) name).run P w=.ok (f,v) w:=by
 obtain ⟨i,hi,h2⟩:=Option.bind_eq_some_iff.1 hm
 obtain ⟨m,h3,h4⟩:=Option.map_eq_some_iff.1 h2
 simp only [Prod.mk.injEq] at h4
 have hp:m.path.isEmpty=true:=by have h:=h4.1;simp only [Array.toList_eq_nil_iff] at h;rw [h];rfl
 have ht:(typeInfo t).run P w=.ok i w:=by simp [typeInfo,hi]
 unfold method
 simp only [Sem.run_bind,ht,Result.andThen_ok,h3,h4.1,h4.2,follow,Sem.run_pure,hp,receiverAt,run_underlying hu,Place.get,if_true,strVal,vl,asAddr,h]
theorem via_ptr {P:Program} {t e:TypeId} {name:String} {f:FuncId} (hu:P.underlying t=some (.pointer e)) (hm:((P.info? t).bind fun i=>(i.methods.find? (·.name==name)).map fun m=>(m.path.toList,m.func))=some ([],some (f,true)))
 (fuel:Nat) {w:World} {a:Addr} :
 (method (fuel+1) t (.pointer (some a)) name).run P w=.ok (f,.pointer (some a)) w:=by
 obtain ⟨i,hi,h2⟩:=Option.bind_eq_some_iff.1 hm
 obtain ⟨m,h3,h4⟩:=Option.map_eq_some_iff.1 h2
 simp only [Prod.mk.injEq] at h4
 have ht:(typeInfo t).run P w=.ok i w:=by simp [typeInfo,hi]
 unfold method
 simp only [Sem.run_bind,ht,Result.andThen_ok,h3,h4.1,h4.2,follow,Sem.run_pure,receiverAt,run_underlying hu,Place.get]
theorem cB {name:String} {f:FuncId} (hm:((Tryz.prog.info? 326).bind fun i=>(i.methods.find? (·.name==name)).map fun m=>(m.path.toList,m.func))=some ([],some (f,false)))
 (fuel:Nat) {w:World} {P:Nat} {A:Option Addr} {n c:Nat} (h:w.cell? ⟨P,0,none⟩=some (.slice A n c)) :
 (method (fuel+1) 326 (.pointer (some ⟨P,0,none⟩)) name).run Tryz.prog w=.ok (f,.slice A n c) w:=
 via_val Tryz.underlying326 hm fuel (by
  have ha:(isAgg 325).run Tryz.prog w=.ok false w:=by go_simp
  have hl:(load ⟨P,0,none⟩).run Tryz.prog w=.ok (.slice A n c) w:=by go_simp
  simp [loadVar,Sem.run_bind,ha,hl,h])
theorem vH {name:String} {f:FuncId} (hm:((Tryz.prog.info? 326).bind fun i=>(i.methods.find? (·.name==name)).map fun m=>(m.path.toList,m.func))=some ([],some (f,true)))
 (fuel:Nat) {w:World} {a:Addr}:(method (fuel+1) 326 (.pointer (some a)) name).run Tryz.prog w=.ok (f,.pointer (some a)) w:=via_ptr Tryz.underlying326 hm fuel
theorem wZ:((Tryz.prog.info? 326).bind fun i=>(i.methods.find? (·.name == "Len")).map fun m=>(m.path.toList,m.func))=some ([],some (314,false)):=by kernel_rfl
theorem pQ:((Tryz.prog.info? 326).bind fun i=>(i.methods.find? (·.name == "Less")).map fun m=>(m.path.toList,m.func))=some ([],some (357,false)):=by kernel_rfl
theorem pO:((Tryz.prog.info? 326).bind fun i=>(i.methods.find? (·.name == "Swap")).map fun m=>(m.path.toList,m.func))=some ([],some (358,false)):=by kernel_rfl
theorem m_pop:((Tryz.prog.info? 326).bind fun i=>(i.methods.find? (·.name == "Pop")).map fun m=>(m.path.toList,m.func))=some ([],some (359,true)):=by kernel_rfl
def AnyBool (e:Ending):Prop:=∃q:Bool,e=.returned (.bool q)
theorem PAt.later {w w':World} {P G c:Nat} {xs:List TV} (h:PAt w P G xs c) (hb:Below w.heap.size w w'):PAt w' P G xs c:=by
 obtain ⟨hP,cur,hG,hr⟩:=h
 exact ⟨hP.later hb,cur,hG.later hb,hr⟩
theorem PAt.exc {w w':World} {P G c:Nat} {xs ys:List TV} (h:PAt w P G xs c) (he:Exc G w w') (hPG:P≠G) (hl:ys.length=xs.length) (hc:∃cur',Blk w' G cur'∧pK cur' ys):PAt w' P G ys c:=by
 obtain ⟨hP,_⟩:=h
 exact ⟨by rw [hl];exact he.blk hPG hP,hc⟩
theorem PAt.lt {w:World} {P G c:Nat} {xs:List TV} (h:PAt w P G xs c):G≤w.heap.size:=by
 obtain ⟨_,cur,hG,_⟩:=h
 exact Nat.le_of_lt hG.lt
theorem least2 {ys:List TV} {k n:Nat} (h1:¬2*k+2<n):∀m,m<n→(m=2*k+1∨m=2*k+2)→cTV (atL tv0 ys (2*k+1)) (atL tv0 ys m)≤0:=fun m hm h=>by
 obtain rfl:m=2*k+1:=by omega
 have:=el.self (atL tv0 ys (2*k+1));omega
theorem least_r {ys:List TV} {k n:Nat} (h1:cTV (atL tv0 ys (2*k+2)) (atL tv0 ys (2*k+1))<0):∀m,m<n→(m=2*k+1∨m=2*k+2)→cTV (atL tv0 ys (2*k+2)) (atL tv0 ys m)≤0:=fun m hm h=>by
 rcases h with rfl | rfl
 ·omega
 ·have:=el.self (atL tv0 ys (2*k+2));omega
theorem least_l {ys:List TV} {k n:Nat} (h1:¬cTV (atL tv0 ys (2*k+2)) (atL tv0 ys (2*k+1))<0):∀m,m<n→(m=2*k+1∨m=2*k+2)→cTV (atL tv0 ys (2*k+1)) (atL tv0 ys m)≤0:=fun m hm h=>by
 rcases h with rfl | rfl
 ·have:=el.self (atL tv0 ys (2*k+1));omega
 ·have:=el.anti (atL tv0 ys (2*k+2)) (atL tv0 ys (2*k+1));omega
theorem ph {ys:List TV} {j k n:Nat} (h:∀m,m<n→(m=2*k+1∨m=2*k+2)→cTV (atL tv0 ys j) (atL tv0 ys m)≤0) (h1:¬cTV (atL tv0 ys j) (atL tv0 ys k)<0):∀m,m<n→(m=2*k+1∨m=2*k+2)→cTV (atL tv0 ys k) (atL tv0 ys m)≤0:=fun m hm hc=>by
 have:=el.anti (atL tv0 ys j) (atL tv0 ys k)
 exact el.trans _ _ _ (by omega) (h m hm hc)
theorem jj {w:World} {P G c n B d i0:Nat} {xs:List TV} (hp:PAt w P G xs c) (hd:PRd w B d xs) (hB:B≤w.heap.size) (hBG:B≤G) (hPG:P≠G) (hn:n≤xs.length) (hi0:i0≤n) (hxn:xs.length≤1000000) (hh:jn cTV (atL tv0 xs) (i0+1) n) :
 Calls Tryz.prog 148 #[.iface 326 (.pointer (some ⟨P,0,none⟩)),.int .i64 i0,.int .i64 n] w fun e w'=>AnyBool e∧Exc G w w'∧∃ys,Sank cTV tv0 xs ys i0 n∧PAt w' P G ys c:=by
 have hGw:=hp.lt
 have HXN:=Lib.hid (And.intro hn hxn)
 have HS0:=Lib.hid (Sunk.start hh)
 have HP0:=Lib.hid hp
 have HD0:=Lib.hid hd
 have hnn:n≤1000000:=by omega
 clear hn hxn hh hp hd
 go_enter Tryz.func148,Tryz.ntmps148
 go_wp2_with fail
 go_loopw [7] (fun i wr=>∃(k:Nat) (ys:List TV),k≤n∧i=.int .i64 k∧Hid (Sunk cTV tv0 xs ys i0 k n)∧Hid (Exc G w wr)∧Hid (PAt wr P G ys c)) (fun i _=>n-(intOf i).toNat)
 case atStart=>exact ⟨i0,xs,hi0,rfl,HS0,Lib.hid (Exc.refl _ _),HP0⟩
 case round=>
  obtain ⟨k,ys,hk,rfl,HS,HE,HP⟩:=hrel
  have hl:ys.length=xs.length:=HS.out.perm.length_eq
  have hyn:n≤ys.length:=by rw [hl];exact HXN.out.1
  have hym:ys.length≤1000000:=by rw [hl];exact HXN.out.2
  have HL:=Lib.hid (And.intro hl (And.intro hyn hym))
  have HD:Hid (PRd wr B d ys):=Lib.hid fun x hx=>(HD0.out.below HE.out.1 hBG) x (HS.out.perm.subset hx)
  have hBr:B≤wr.heap.size:=Nat.le_trans hB HE.out.1.size
  clear hl hyn hym
  by_cases h1:2*k+1<n
  ·have h1i:2*(k:Int)+1<n:=by omega
   have HEr:=HE
   have HPr:=HP
   have HDr:=HD
   by_cases h2:2*k+2<n
   ·have h2i:2*(k:Int)+2<n:=by omega
    obtain ⟨crP,curr,crG_,crr_⟩:=HPr.out
    have crG:=Lib.hid crG_
    have crr:=Lib.hid crr_
    have ir_less:=fun fuel=>cB pQ fuel (crP.cell 0)
    clear crP crG_ crr_
    go_wp2_with fail
    refine (ec crG.out crr.out HDr.out hBr (i:=2*k+2) (j:=2*k+1) (by have:=HL.out;omega) (by have:=HL.out;omega) HL.out.2.2).mono ?_
    rintro e wa ⟨rfl,hb⟩
    have HEa:=Lib.hid (HEr.out.then hGw hb)
    have HPa:=Lib.hid (HPr.out.later hb)
    have HDa:=Lib.hid (HDr.out.below hb hBr)
    have hBa:B≤wa.heap.size:=Nat.le_trans hBr hb.size
    clear hb ir_less
    by_cases c1:cTV (atL tv0 ys (2*k+2)) (atL tv0 ys (2*k+1))<0
    ·rw [decide_eq_true c1]
     have HC1:=Lib.hid c1
     clear c1
     obtain ⟨caP,cura,caG_,car_⟩:=HPa.out
     have caG:=Lib.hid caG_
     have car:=Lib.hid car_
     have ia_less:=fun fuel=>cB pQ fuel (caP.cell 0)
     clear caP caG_ car_
     go_wp2_with fail
     have HLE:=Lib.hid (least_r HC1.out (n:=n))
     refine (ec caG.out car.out HDa.out hBa (i:=2*k+2) (j:=k) (by have:=HL.out;omega) (by have:=HL.out;omega) HL.out.2.2).mono ?_
     rintro e wb ⟨rfl,hb⟩
     have HEb:=Lib.hid (HEa.out.then hGw hb)
     have HPb:=Lib.hid (HPa.out.later hb)
     have HDb:=Lib.hid (HDa.out.below hb hBa)
     have hBb:B≤wb.heap.size:=Nat.le_trans hBa hb.size
     clear hb ia_less
     by_cases c2:cTV (atL tv0 ys (2*k+2)) (atL tv0 ys k)<0
     ·rw [decide_eq_true c2]
      have HC2:=Lib.hid c2
      clear c2
      obtain ⟨cbP,curb,cbG_,cbr_⟩:=HPb.out
      have cbG:=Lib.hid cbG_
      have cbr:=Lib.hid cbr_
      have ib_swap:=fun fuel=>cB pO fuel (cbP.cell 0)
      clear cbP cbG_ cbr_
      go_wp2_with fail
      refine (ee cbG.out cbr.out (i:=k) (j:=2*k+2) (by have:=HL.out;omega) (by have:=HL.out;omega) HL.out.2.2).mono ?_
      rintro e wc ⟨rfl,he,hcur⟩
      have HSc:=Lib.hid (HS.out.step el HL.out.2.1 (by omega) (by omega) HLE.out HC2.out)
      have HPc:=Lib.hid (HPb.out.exc he hPG cD hcur)
      have HEc:=Lib.hid (HEb.out.trans he)
      clear he hcur ib_swap
      go_wp2_with fail
      go_roundw
      case rel=>exact ⟨2*k+2,_,by omega,by go_num,HSc,HEc,HPc⟩
      case measure=>simp [intOf];omega
     ·rw [decide_eq_false c2]
      have HC2:=Lib.hid c2
      clear c2
      go_wp2_with fail
      go_ret
      exact ⟨⟨_,rfl⟩,HEb.out,ys,HS.out.sank (ph (j:=2*k+2) HLE.out (by have:=HC2.out;omega)),HPb.out⟩
    ·rw [decide_eq_false c1]
     have HC1:=Lib.hid c1
     clear c1
     obtain ⟨caP,cura,caG_,car_⟩:=HPa.out
     have caG:=Lib.hid caG_
     have car:=Lib.hid car_
     have ia_less:=fun fuel=>cB pQ fuel (caP.cell 0)
     clear caP caG_ car_
     go_wp2_with fail
     have HLE:=Lib.hid (least_l (ys:=ys) (k:=k) (by have:=HC1.out;omega) (n:=n))
     refine (ec caG.out car.out HDa.out hBa (i:=2*k+1) (j:=k) (by have:=HL.out;omega) (by have:=HL.out;omega) HL.out.2.2).mono ?_
     rintro e wb ⟨rfl,hb⟩
     have HEb:=Lib.hid (HEa.out.then hGw hb)
     have HPb:=Lib.hid (HPa.out.later hb)
     have HDb:=Lib.hid (HDa.out.below hb hBa)
     have hBb:B≤wb.heap.size:=Nat.le_trans hBa hb.size
     clear hb ia_less
     by_cases c2:cTV (atL tv0 ys (2*k+1)) (atL tv0 ys k)<0
     ·rw [decide_eq_true c2]
      have HC2:=Lib.hid c2
      clear c2
      obtain ⟨cbP,curb,cbG_,cbr_⟩:=HPb.out
      have cbG:=Lib.hid cbG_
      have cbr:=Lib.hid cbr_
      have ib_swap:=fun fuel=>cB pO fuel (cbP.cell 0)
      clear cbP cbG_ cbr_
      go_wp2_with fail
      refine (ee cbG.out cbr.out (i:=k) (j:=2*k+1) (by have:=HL.out;omega) (by have:=HL.out;omega) HL.out.2.2).mono ?_
      rintro e wc ⟨rfl,he,hcur⟩
      have HSc:=Lib.hid (HS.out.step el HL.out.2.1 (by omega) (by omega) HLE.out HC2.out)
      have HPc:=Lib.hid (HPb.out.exc he hPG cD hcur)
      have HEc:=Lib.hid (HEb.out.trans he)
      clear he hcur ib_swap
      go_wp2_with fail
      go_roundw
      case rel=>exact ⟨2*k+1,_,by omega,by go_num,HSc,HEc,HPc⟩
      case measure=>simp [intOf];omega
     ·rw [decide_eq_false c2]
      have HC2:=Lib.hid c2
      clear c2
      go_wp2_with fail
      go_ret
      exact ⟨⟨_,rfl⟩,HEb.out,ys,HS.out.sank (ph (j:=2*k+1) HLE.out (by have:=HC2.out;omega)),HPb.out⟩
   ·have h2i:¬2*(k:Int)+2<n:=by omega
    obtain ⟨crP,curr,crG_,crr_⟩:=HPr.out
    have crG:=Lib.hid crG_
    have crr:=Lib.hid crr_
    have ir_less:=fun fuel=>cB pQ fuel (crP.cell 0)
    clear crP crG_ crr_
    go_wp2_with fail
    have HLE:=Lib.hid (least2 (ys:=ys) h2)
    refine (ec crG.out crr.out HDr.out hBr (i:=2*k+1) (j:=k) (by have:=HL.out;omega) (by have:=HL.out;omega) HL.out.2.2).mono ?_
    rintro e wb ⟨rfl,hb⟩
    have HEb:=Lib.hid (HEr.out.then hGw hb)
    have HPb:=Lib.hid (HPr.out.later hb)
    have HDb:=Lib.hid (HDr.out.below hb hBr)
    have hBb:B≤wb.heap.size:=Nat.le_trans hBr hb.size
    clear hb ir_less
    by_cases c2:cTV (atL tv0 ys (2*k+1)) (atL tv0 ys k)<0
    ·rw [decide_eq_true c2]
     have HC2:=Lib.hid c2
     clear c2
     obtain ⟨cbP,curb,cbG_,cbr_⟩:=HPb.out
     have cbG:=Lib.hid cbG_
     have cbr:=Lib.hid cbr_
     have ib_swap:=fun fuel=>cB pO fuel (cbP.cell 0)
     clear cbP cbG_ cbr_
     go_wp2_with fail
     refine (ee cbG.out cbr.out (i:=k) (j:=2*k+1) (by have:=HL.out;omega) (by have:=HL.out;omega) HL.out.2.2).mono ?_
     rintro e wc ⟨rfl,he,hcur⟩
     have HSc:=Lib.hid (HS.out.step el HL.out.2.1 (by omega) (by omega) HLE.out HC2.out)
     have HPc:=Lib.hid (HPb.out.exc he hPG cD hcur)
     have HEc:=Lib.hid (HEb.out.trans he)
     clear he hcur ib_swap
     go_wp2_with fail
     go_roundw
     case rel=>exact ⟨2*k+1,_,by omega,by go_num,HSc,HEc,HPc⟩
     case measure=>simp [intOf];omega
    ·rw [decide_eq_false c2]
     have HC2:=Lib.hid c2
     clear c2
     go_wp2_with fail
     go_ret
     exact ⟨⟨_,rfl⟩,HEb.out,ys,HS.out.sank (ph (j:=2*k+1) HLE.out (by have:=HC2.out;omega)),HPb.out⟩
  ·have h1i:¬2*(k:Int)+1<n:=by omega
   go_wp2_with fail
   go_ret
   exact ⟨⟨_,rfl⟩,HE.out,ys,HS.out.sank (fun m hm hc=>by omega),HP.out⟩
theorem jn.half (g:Nat→TV) (n:Nat):jn cTV g (n / 2) n:=fun k h0 h1 h2=>by omega
theorem nB {w:World} {P G c B d:Nat} {xs:List TV} (hp:PAt w P G xs c) (hd:PRd w B d xs) (hB:B≤w.heap.size) (hBG:B≤G) (hPG:P≠G) (hxn:xs.length≤1000000) :
 Calls Tryz.prog 97 #[.iface 326 (.pointer (some ⟨P,0,none⟩))] w fun e w'=>e=.returned (.tuple #[])∧Exc G w w'∧∃ys,ys.Perm xs∧jn cTV (atL tv0 ys) 0 ys.length∧PAt w' P G ys c:=by
 have hGw:=hp.lt
 have HP0:=Lib.hid hp
 have HD0:=Lib.hid hd
 have i0:=fun fuel=>cB wZ fuel (hp.1.cell 0)
 clear hp hd
 go_enter Tryz.func97,Tryz.ntmps97
 go_wp2_with fail
 refine (cR _ _ _ _).mono ?_
 rintro e wz ⟨rfl,rfl⟩
 go_wp2_with fail
 go_loopw [3] (fun i wr=>∃(m:Nat) (ys:List TV),m≤xs.length / 2∧i=.int .i64 ((m:Int)-1)∧ys.Perm xs∧Hid (jn cTV (atL tv0 ys) m xs.length)∧Hid (Exc G w wr)∧Hid (PAt wr P G ys c)) (fun i _=>(intOf i+1).toNat)
 case atStart=>
  refine ⟨xs.length / 2,xs,Nat.le_refl _,?_,List.Perm.refl _,Lib.hid (jn.half _ _),Lib.hid (Exc.refl _ _),HP0⟩
  congr 1<;>omega
 case round=>
  obtain ⟨m,ys,hm,rfl,hpm,HH,HE,HP⟩:=hrel
  have hl:=hpm.length_eq
  rcases Nat.eq_zero_or_pos m with h0 | h0
  ·subst h0
   go_wp2_with fail
   go_end0
   exact ⟨rfl,HE.out,ys,hpm,by rw [hl];exact HH.out,HP.out⟩
  ·obtain ⟨k,rfl⟩:∃k,m=k+1:=⟨m-1,by omega⟩
   have e1:((k+1:Nat):Int)-1=k:=by omega
   rw [e1]
   have HD:Hid (PRd wr B d ys):=Lib.hid fun x hx=>(HD0.out.below HE.out.1 hBG) x (hpm.subset hx)
   have hBr:B≤wr.heap.size:=Nat.le_trans hB HE.out.1.size
   have HM:=Lib.hid hpm
   clear hpm
   go_wp2_with fail
   refine (jj HP.out HD.out hBr hBG hPG (by omega) (by omega) (by omega) HH.out).mono ?_
   rintro e wa ⟨⟨_,rfl⟩,he,zs,hs,hz⟩
   have HE2:=Lib.hid (HE.out.trans he)
   have HM2:=hs.perm.trans HM.out
   have HH2:=Lib.hid hs.heap
   have HP2:=Lib.hid hz
   clear he hs hz
   go_wp2_with fail
   go_roundw
   case rel=>exact ⟨k,zs,by omega,by go_num,HM2,HH2,HE2,HP2⟩
   case measure=>simp [intOf]
theorem oY {w:World} {P G c n:Nat} {xs:List TV} (hp:PAt w P G xs c) (hPG:P≠G) (hx:xs.length=n+1) (hc:n+1≤c) (hc2:c≤9223372036854775807) (hn:n+1≤1000000) :
 Calls Tryz.prog 359 #[.pointer (some ⟨P,0,none⟩)] w fun e w'=>e=.returned (.iface 79 (.agg (atL tv0 xs n).cs.toArray))∧Exc P w w'∧PAt w' P G (xs.take n) c:=by
 obtain ⟨hP,cur,hG,hr⟩:=hp
 have i0:=hr n (by omega) 0 (by omega)
 have i1:=hr n (by omega) 1 (by omega)
 have i2:=hr n (by omega) 2 (by omega)
 have i3:=hr n (by omega) 3 (by omega)
 have HR:=Lib.hid (hr.take n)
 have HT:=Lib.hid (show (xs.take n).length=n by rw [List.length_take];omega)
 generalize atL tv0 xs n=x at *
 simp only [TV.cs,List.getElem?_cons_zero,List.getElem?_cons_succ,Nat.add_zero] at i0 i1 i2 i3
 rw [hx] at hP
 clear hx hr
 have kP:=hP.cell
 have fP:=hP.free
 have kG:=hG.cell
 have lP:=hP.lt
 have lG:=hG.lt
 go_enter Tryz.func359,Tryz.ntmps359
 go_wp2_with fail
 go_ret
 exact ⟨rfl,((Exc.refl P w).set 0 _).then (Nat.le_of_lt lP) ((Below.refl _ _).alloc (Nat.le_refl _) _),by rw [HT.out];exact (hP.set_ 0 _).old _,cur,(hG.far (Ne.symm hPG) 0 _).old _,HR.out⟩
theorem oZ {w:World} {P G c n B d:Nat} {xs:List TV} (hp:PAt w P G xs c) (hd:PRd w B d xs) (hB:B≤w.heap.size) (hBG:B≤G) (hPG:P≠G) (hx:xs.length=n+1) (hc:n+1≤c) (hc2:c≤9223372036854775807) (hn:n+1≤1000000) (hh:jn cTV (atL tv0 xs) 0 (n+1)) :
 Calls Tryz.prog 99 #[.iface 326 (.pointer (some ⟨P,0,none⟩))] w fun e w'=>e=.returned (.iface 79 (.agg (atL tv0 xs 0).cs.toArray))∧gG P G w w' ∧
  ∃rest:List TV,rest.length=n∧xs.Perm (atL tv0 xs 0::rest)∧jn cTV (atL tv0 rest) 0 n∧(∀b∈rest,cTV (atL tv0 xs 0) b≤0)∧PAt w' P G rest c:=by
 have HX:=Lib.hid hx
 have HH:=Lib.hid hh
 have HD:=Lib.hid hd
 have hl:=hp.lt
 have k0:=fun fuel=>cB wZ fuel (hp.1.cell 0)
 have k1:=fun fuel=>cB pO fuel (hp.1.cell 0)
 have HP:=Lib.hid hp
 clear hx hh hd hp
 go_enter Tryz.func99,Tryz.ntmps99
 go_wp2_with fail
 refine (cR _ _ _ _).mono ?_
 rintro e wz ⟨rfl,rfl⟩
 rw [HX.out]
 go_wp2_with fail
 obtain ⟨_,cur,hG,hr⟩:=HP.out
 rw [HX.out]
 refine (Calls.mono (HX.out▸ee (c:=c) hG hr (i:=0) (j:=n) (by rw [HX.out];omega) (by rw [HX.out];omega) (by rw [HX.out];omega)) ?_)
 rintro e wa ⟨rfl,he,hcur⟩
 have HPa:=Lib.hid (HP.out.exc he hPG cD hcur)
 have HEa:=Lib.hid he
 have hsw:=pg (z:=tv0) (xs:=xs) (i:=0) (j:=n) (by rw [HX.out];omega) (by rw [HX.out];omega)
 have HDa:Hid (PRd wa B d (sw tv0 xs 0 n)):=Lib.hid fun x hx=>(HD.out.below he.1 hBG) x (hsw.subset hx)
 have hBa:B≤wa.heap.size:=Nat.le_trans hB he.1.size
 have HS:=Lib.hid (HH.out.swapped (by rw [HX.out];omega))
 have HL:Hid ((sw tv0 xs 0 n).length=n+1):=Lib.hid (by rw [cD,HX.out])
 clear he hcur hG hr hsw k0 k1
 go_wp2_with fail
 refine (jj (i0:=0) (n:=n) HPa.out HDa.out hBa hBG hPG (by rw [HL.out];omega) (by omega) (by rw [HL.out];omega) HS.out).mono ?_
 rintro e wb ⟨⟨_,rfl⟩,he,ys,hs,hpb⟩
 have HEb:=Lib.hid (HEa.out.trans he)
 have HPb:=Lib.hid hpb
 have HZ:=Lib.hid (popped el HX.out HH.out hs)
 have k2:=fun fuel=>vH m_pop fuel (w:=wb) (a:=⟨P,0,none⟩)
 clear he hs hpb
 go_wp2_with fail
 refine (oY HPb.out hPG HZ.out.1 hc hc2 hn).mono ?_
 rintro e wc ⟨rfl,he,hpc⟩
 have HEc:=Lib.hid ((HEb.out.right P).trans (he.left G))
 have HPc:=Lib.hid hpc
 clear he hpc
 go_wp2_with fail
 go_ret
 obtain ⟨z1,z2,z3,z4,z5⟩:=HZ.out
 rw [z2] at z3 z5 ⊢
 exact ⟨rfl,HEc.out,ys.take n,by rw [List.length_take];omega,z3,z4,z5,HPc.out⟩
abbrev jI:ByteArray:=⟨#[]⟩
def noT:Tm:=⟨0,0,jI,[]⟩
def dr (l:List Tm):Int:=(l.head?.map Tm.kind).getD 0
def oh (k:Int) (t:Tm):Bool:=!af t||decide (t.kind=7)||decide (t.kind≠k)
def mb (l:List Tm):Bool:=decide (l.length≤16)&&!l.any (oh (dr l))
def xe (l:List Tm):Tm:=⟨7,0,jI,setL (aV 3) l⟩
def oS (l:List Tm):Tm × Int:=if mb l then (xe l,0) else (noT,1)
theorem qA {d B G:Nat} {k:Int} {l:List Tm} {A:Option Addr} {c:Nat} {w:World} (hG:Blk w G #[.slice A l.length c]) (hl:RL (TmR d) w B l A) (hB:B≤w.heap.size) (h0:0<l.length) (hk:dr l=k) (hn:l.length≤16) :
 bP Tryz.prog (TmR d) cM B w 313 #[.pointer (some ⟨G,0,none⟩)] (oh k):=by
 intro x vs w1 hb hr
 have HR:Hid (RTm w1 B d x vs):=Lib.hid hr
 obtain ⟨A',c',rfl,q1,q2,q3,q4,q5,_⟩:=RTm.cells (show RTm w1 B d x vs from hr)
 have hG1:=hG.later hb
 have hB1:=Nat.le_trans hB hb.size
 obtain ⟨b,off,rfl,hbl⟩:=hl.base hb hB h0
 obtain ⟨y,ys,hy,_,hcell,hry⟩:=hl.at_ (k:=0) hb hB h0
 obtain ⟨A2,c2,rfl,_⟩:=RTm.cells (show RTm w1 B d y ys from hry)
 have hyk:y.kind=k:=by rw [←hk];unfold dr;rw [List.head?_eq_getElem?,hy];rfl
 have f0:w1.cell? ⟨b,off,none⟩=some (.int .i64 k):=by rw [←hyk];simpa using hcell 0 _ rfl
 clear hr hry hcell hy hyk hb hG
 show Calls Tryz.prog 313 #[.agg #[_,_,_,_],.pointer (some ⟨G,0,none⟩)] w1 _
 have kG:=hG1.cell
 have lG:=hG1.lt
 go_enter Tryz.func313,Tryz.ntmps313
 go_wp2_with fail
 generalize hW:World.alloc _ _=w2
 obtain ⟨hb,hz⟩:=al1 hW
 have bx:=n11 hW
 have bG2:=hG1.later hb
 have g0:=cell_regrown ((hb.cell (p:=⟨b,off,none⟩) hbl).trans f0)
 have qx:=bx.regrown
 have qG:=bG2.regrown
 have HB1:=Lib.hid hb
 have hB2:=Nat.le_trans hB1 hb.size
 clear hW hz hb kG lG f0
 have HR2:=Lib.hid (HR.out.below HB1.out hB1)
 have hcases:af x=false∨(af x=true∧(x.kind==7)=true)∨(af x=true∧(x.kind==7)=false):=by
  cases af x<;>cases (x.kind==7)<;>simp
 rcases hcases with hf | ⟨hf,h7⟩ | ⟨hf,h7⟩
 all_goals
  refine wp_region_quiet_below (by kernel_rfl) (by kernel_rfl) ?_
  repeat (go_big_quiet_step ((go_at_call 106;exact Calls.regrown_of (cP hf (aj (HR2.out.below (below_regrown _ _ _) hB2) (Nat.le_trans hB2 (below_regrown _ _ _).size))))))
  refine wpQuiet_nil ?_
  intro w3 hw3
  have hb1:Below w2.heap.size w2 w3:=by obtain ⟨p,rfl⟩:=hw3;exact below_regrown _ _ _
  clear hw3
  go_wp2_with fail
  go_ret
  refine ⟨ac ?_,ae HB1.out hb1⟩
  first
   | (simp only [beq_iff_eq,beq_eq_false_iff_ne] at h7;simp [oh,hf,h7];try rfl)
   | (simp [oh,hf,h7];try rfl)
   | simp [oh,hf]
theorem jH {F:FuncId} {cap:Array Value} {A:Option Addr} {c:Nat} {w:World} :
 Calls Tryz.prog 104 #[.slice A 0 c,.func (.func F) #[] cap] w fun e w'=>e=.returned (.bool false)∧Below w.heap.size w w':=by
 go_enter Tryz.func104,Tryz.ntmps104
 go_wp2_with fail
 refine (Calls.mono (R:=fun e w'=>e=.returned (.int .i64 (-1))∧w=w') ?_ ?_)
 ·go_enter Tryz.func154,Tryz.ntmps154
  go_wp2_with fail
  go_loopw [8] (fun i wr=>i=.int .i64 0∧w=wr) (fun i _=>0)
  case atStart=>exact ⟨rfl,rfl⟩
  case round=>
   obtain ⟨rfl,rfl⟩:=hrel
   go_wp2_with fail
   go_ret
   exact ⟨rfl,rfl⟩
 ·rintro e w1 ⟨rfl,rfl⟩
  go_wp2_with fail
  go_ret
  exact ⟨rfl,Below.refl _ _⟩
theorem fY {k:Int} {t:Tm}:oh k t=false↔af t=true∧t.kind≠7∧t.kind=k:=by
 unfold oh
 simp only [Bool.or_eq_false_iff,Bool.not_eq_false',decide_eq_false_iff_not,ne_eq,Classical.not_not,and_assoc]
theorem dG {t:Tm} (h:af t=true) (h7:t.kind≠7):kZ t:=by
 unfold af ff at h
 rw [if_neg h7,Bool.and_eq_true] at h
 exact fN h.2
theorem tk (xs:List TV) (k:Nat):atL noT (xs.map TV.t) k=(atL tv0 xs k).t:=by
 unfold atL
 rw [List.getD_eq_getElem?_getD,List.getD_eq_getElem?_getD,List.getElem?_map]
 cases xs[k]?<;>rfl
theorem jA {xs:List TV} {i n:Nat} (h:jn cTV (atL tv0 xs) i n):jn (aV 3) (atL noT (xs.map TV.t)) i n:=fun k h0 h1 h2=>by
 rw [tk,tk];exact h k h0 h1 h2
theorem vF {d B base:Nat} {T:TypeId} {w:World} {v:Value} {xs:List Tm} (h:aq (TmR d) T w base B v xs) (hf:∀x∈xs,kZ x) (h0:0<xs.length) :
 ∃(G c:Nat) (tvs:List TV) (cur:Array Value),v=.slice (some ⟨G,0,none⟩) xs.length c∧base≤G∧tvs.map TV.t=xs∧Blk w G cur∧pK cur tvs∧PRd w B d tvs∧xs.length≤c∧c≤9223372036854775807:=by
 obtain ⟨cells,h,hfl⟩:=h
 rcases h.2 with ⟨h1,h2⟩ | ⟨g,cap,cur,hv,hg,hh,k1,k2,k3,k4⟩
 ·omega
 ·have key:∀n,n≤xs.length→∃tvs:List TV,tvs.map TV.t=xs.take n∧(∀k (hk:k<n),∀b,b<4→cells[k*4+b]? = (atL tv0 tvs k).cs[b]?)∧PRd w B d tvs:=by
   intro n
   induction n with
   | zero=>intro _;exact ⟨[],by simp,fun k hk=>absurd hk (by omega),fun x hx=>by simp at hx⟩
   | succ n ih=>
     intro hn
     obtain ⟨tvs,e1,e2,e3⟩:=ih (by omega)
     have hr:RTm w B d xs[n] ((cells.drop (n*4)).take 4):=hfl.2 n (by omega)
     obtain ⟨A,c,e4,_⟩:=RTm.cells hr
     have hlf:xs[n].l=[]:=hf _ (List.getElem_mem _)
     rw [hlf] at e4
     have hlen:tvs.length=n:=by have:=congrArg List.length e1;rw [List.length_map,List.length_take] at this;omega
     have ea:atL tv0 (tvs++[⟨xs[n],A,c⟩]) n=⟨xs[n],A,c⟩:=by rw [cF (by simp;omega)];simp [hlen]
     refine ⟨tvs++[⟨xs[n],A,c⟩],?_,fun k hk b hb=>?_,fun x hx=>?_⟩
     ·rw [List.map_append,e1,List.take_succ_eq_append_getElem (by omega)];rfl
     ·by_cases hkn:k=n
      ·subst hkn
       rw [ea]
       have:=congrArg (fun l:List Value=>l[b]?) e4
       simp only [List.getElem?_take,if_pos hb,List.getElem?_drop] at this
       exact this
      ·rw [e2 k (by omega) b hb,cF (by omega),cF (by simp;omega),List.getElem_append_left (by omega)]
     ·rcases List.mem_append.1 hx with hx | hx
      ·exact e3 x hx
      ·obtain rfl:x=⟨xs[n],A,c⟩:=by simpa using hx
       show RTm w B d xs[n] [_,_,_,_]
       rw [e4] at hr
       exact hr
  obtain ⟨tvs,e1,e2,e3⟩:=key xs.length (Nat.le_refl _)
  rw [List.take_length] at e1
  have hlen:tvs.length=xs.length:=by rw [←e1,List.length_map]
  refine ⟨g,cap,tvs,cur,hv,hg,e1,⟨T,hh⟩,fun k hk b hb=>?_,e3,k1,by unfold maxLen at k2;omega⟩
  have hk4:(TmR d).k=4:=rfl
  rw [←e2 k (by omega) b hb,←k4,List.getElem?_take,if_pos (by rw [hk4];omega),Array.getElem?_toList]
end Go.Proofs.YtdphibjibnffeaaGreat
