/- term.Set. -/
import Derived.Test.YtjpndglegpcdnaaGreatHeapLaw
import Derived.Test.YtjpndglegpcdnaaGreatOp1
set_option linter.unusedVariables false
set_option linter.unusedSimpArgs false
set_option maxRecDepth 100000
set_option maxHeartbeats 8000000
namespace Go.Proofs.YtjpndglegpcdnaaGreat
open Go.ChangeShapes Go.WideShapes Go.ChangeAt Go.RowKit
theorem AM {α:Type _}{β:Type _}{x:List α}(f:α→β):(List.map f x).length=x.length:=List.length_map f
theorem AU {α:Type _}{a:α}{l:List α}:(a::l)[0]? = some a:=List.getElem?_cons_zero
structure TV where
 t:Tm
 a:Option Addr
 c:Nat
def TV.cs (x:TV):List Value:=[.int .i64 x.t.kind,.int .i64 x.t.n,.string x.t.s,.slice x.a 0 x.c]
def tv0:TV:=⟨⟨0,0,⟨#[]⟩,[]⟩,none,0⟩
def cTV (x y:TV):Int:=aV 3 x.t y.t
theorem cTV_ord:Ord3 cTV:=(ff 3).by TV.t
def rU (cur:Array Value) (xs:List TV):Prop:=∀k,k<xs.length→∀b,b<4→cur[k*4+b]? = (atL tv0 xs k).cs[b]?
def ub (cur:Array Value) (o:Nat) (x:TV):Array Value:=
 (((cur.setIfInBounds o (.int .i64 x.t.kind)).setIfInBounds (o+1) (.int .i64 x.t.n)).setIfInBounds (o+2) (.string x.t.s)).setIfInBounds (o+3) (.slice x.a 0 x.c)
theorem pW {cur:Array Value} {i k b:Nat} {x:TV} (h:i*4+3<cur.size) (hb:b<4):(ub cur (i*4) x)[k*4+b]? = if k=i then x.cs[b]? else cur[k*4+b]?:=by
 unfold ub
 simp only [Array.getElem?_setIfInBounds,Array.size_setIfInBounds]
 by_cases hk:k=i
 ·subst hk
  have h4:b=0∨b=1∨b=2∨b=3:=by omega
  rcases h4 with rfl | rfl | rfl | rfl
  ·rw [if_neg (by omega),if_neg (by omega),if_neg (by omega),if_pos (by omega),if_pos (by omega),if_pos rfl];rfl
  ·rw [if_neg (by omega),if_neg (by omega),if_pos (by omega),if_pos (by omega),if_pos rfl];rfl
  ·rw [if_neg (by omega),if_pos (by omega),if_pos (by omega),if_pos rfl];rfl
  ·rw [if_pos (by omega),if_pos (by omega),if_pos rfl];rfl
 ·rw [if_neg (by omega),if_neg (by omega),if_neg (by omega),if_neg (by omega),if_neg hk]
theorem uc {cur:Array Value} {o:Nat} {x:TV}:(ub cur o x).size=cur.size:=by simp [ub]
theorem rU.size {cur:Array Value} {xs:List TV} (h:rU cur xs) {k:Nat} (hk:k<xs.length):k*4+3<cur.size:=by
 have:=h k hk 3 (by omega)
 rcases Nat.lt_or_ge (k*4+3) cur.size with h1 | h1
 ·exact h1
 ·rw [Array.getElem?_eq_none h1] at this;cases this
theorem rU.swap {cur:Array Value} {xs:List TV} {i j:Nat} (h:rU cur xs) (hi:i<xs.length) (hj:j<xs.length) :
 rU (ub (ub cur (i*4) (atL tv0 xs j)) (j*4) (atL tv0 xs i)) (sw tv0 xs i j):=by
 intro k hk b hb
 rw [cw] at hk
 rw [pW (by rw [uc];exact h.size hj) hb,mB hi hj]
 by_cases h1:k=j
 ·rw [if_pos h1,if_pos h1]
 ·rw [if_neg h1,if_neg h1,pW (h.size hi) hb]
  by_cases h2:k=i
  ·rw [if_pos h2,if_pos h2]
  ·rw [if_neg h2,if_neg h2];exact h k hk b hb
theorem rU.take {cur:Array Value} {xs:List TV} (h:rU cur xs) (n:Nat):rU cur (xs.take n):=by
 intro k hk b hb
 rw [AW] at hk
 rw [h k (by omega) b hb]
 congr 2
 rw [bO (by omega),bO (by rw [AW];omega),List.getElem_take]
def PAt (w:World) (P G:Nat) (xs:List TV) (c:Nat):Prop:=Blk w P #[.slice (some ⟨G,0,none⟩) xs.length c]∧∃cur,Blk w G cur∧rU cur xs
def PRd (w:World) (B d:Nat) (xs:List TV):Prop:=∀x∈xs,RTm w B d x.t x.cs
theorem PRd.below {w w':World} {B C d:Nat} {xs:List TV} (h:PRd w B d xs) (hb:Below C w w') (hB:B≤C):PRd w' B d xs:=fun x hx=>(h x hx).below hb hB
theorem qD {α:Type} {z:α} {xs:List α} {k:Nat} (h:k<xs.length):atL z xs k∈xs:=by rw [bO h];exact List.getElem_mem h
theorem ek (A:Option Addr) (n c:Nat) (w:World) :
 Calls Tryz.prog 219 #[.slice A n c] w fun e w'=>e=.returned (.int .i64 n)∧w=w':=by
 go_enter Tryz.func219,Tryz.ntmps219
 go_wp2_with fail
 go_ret
 exact ⟨rfl,rfl⟩
theorem pR {w:World} {G c B d i j:Nat} {xs:List TV} {cur:Array Value} (hG:Blk w G cur) (hr:rU cur xs) (hd:PRd w B d xs) (hB:B≤w.heap.size) (hi:i<xs.length) (hj:j<xs.length) (hn:xs.length≤1000000) :
 Calls Tryz.prog 262 #[.slice (some ⟨G,0,none⟩) xs.length c,.int .i64 i,.int .i64 j] w fun e w'=>e=.returned (.bool (decide (cTV (atL tv0 xs i) (atL tv0 xs j)<0)))∧Below w.heap.size w w':=by
 have hx:=hd _ (qD (z:=tv0) hi)
 have hy:=hd _ (qD (z:=tv0) hj)
 have i0:=hr i hi 0 (by omega)
 have i1:=hr i hi 1 (by omega)
 have i2:=hr i hi 2 (by omega)
 have i3:=hr i hi 3 (by omega)
 have j0:=hr j hj 0 (by omega)
 have j1:=hr j hj 1 (by omega)
 have j2:=hr j hj 2 (by omega)
 have j3:=hr j hj 3 (by omega)
 unfold cTV
 generalize atL tv0 xs i=x at *
 generalize atL tv0 xs j=y at *
 simp only [TV.cs,AU,List.getElem?_cons_succ,Nat.add_zero] at i0 i1 i2 i3 j0 j1 j2 j3
 have HX:=AE hx
 have HY:=AE hy
 clear hx hy
 have q_G:=hG.regrown
 go_enter Tryz.func262,Tryz.ntmps262
 have k_G:=hG.cell
 go_wp2_with fail
 refine wp_region_quiet_below (by kernel_rfl) (by kernel_rfl) ?_
 repeat (go_big_quiet_step ((go_at_call 55;exact Calls.regrown_of (dj d d x.t y.t x.cs y.cs B _ (HX.out.below (below_regrown _ _ _) hB) (HY.out.below (below_regrown _ _ _) hB) (AF hB (below_regrown _ _ _).size)))))
 refine wpQuiet_nil ?_
 intro w1 hw1
 have hb1:Below w.heap.size w w1:=by obtain ⟨p,rfl⟩:=hw1;exact below_regrown _ _ _
 clear hw1 q_G k_G
 go_wp2_with fail
 go_ret
 exact ⟨rfl,hb1⟩
theorem pS {w:World} {G c i j:Nat} {xs:List TV} {cur:Array Value} (hG:Blk w G cur) (hr:rU cur xs) (hi:i<xs.length) (hj:j<xs.length) (hn:xs.length≤1000000) :
 Calls Tryz.prog 263 #[.slice (some ⟨G,0,none⟩) xs.length c,.int .i64 i,.int .i64 j] w fun e w'=>e=.returned (.tuple #[])∧Exc G w w'∧∃cur',Blk w' G cur'∧rU cur' (sw tv0 xs i j):=by
 have HS:=AE (hr.swap hi hj)
 have i0:=hr i hi 0 (by omega)
 have i1:=hr i hi 1 (by omega)
 have i2:=hr i hi 2 (by omega)
 have i3:=hr i hi 3 (by omega)
 have j0:=hr j hj 0 (by omega)
 have j1:=hr j hj 1 (by omega)
 have j2:=hr j hj 2 (by omega)
 have j3:=hr j hj 3 (by omega)
 generalize hxe:atL tv0 xs i=x at *
 generalize hye:atL tv0 xs j=y at *
 simp only [TV.cs,AU,List.getElem?_cons_succ,Nat.add_zero] at i0 i1 i2 i3 j0 j1 j2 j3
 go_enter Tryz.func263,Tryz.ntmps263
 have k_G:=hG.cell
 have f_G:=hG.free
 by_cases e:j=i
 ·subst e
  obtain rfl:x=y:=by rw [←hxe,←hye]
  go_wp2_with fail
  go_region
  all_goals go_end0
  all_goals exact ⟨rfl,((((((((((Exc.refl G w).set _ _).set _ _).set _ _).set _ _).set _ _).set _ _).set _ _).set _ _)).drew,_,((((((((hG.set_ _ _).set_ _ _).set_ _ _).set_ _ _).set_ _ _).set_ _ _).set_ _ _).set_ _ _).drew,HS.out⟩
 ·have n00:¬(j*4=i*4):=by omega
  have n01:¬(j*4=i*4+1):=by omega
  have n02:¬(j*4=i*4+2):=by omega
  have n03:¬(j*4=i*4+3):=by omega
  have n10:¬(j*4+1=i*4):=by omega
  have n11:¬(j*4+1=i*4+1):=by omega
  have n12:¬(j*4+1=i*4+2):=by omega
  have n13:¬(j*4+1=i*4+3):=by omega
  have n20:¬(j*4+2=i*4):=by omega
  have n21:¬(j*4+2=i*4+1):=by omega
  have n22:¬(j*4+2=i*4+2):=by omega
  have n23:¬(j*4+2=i*4+3):=by omega
  have n30:¬(j*4+3=i*4):=by omega
  have n31:¬(j*4+3=i*4+1):=by omega
  have n32:¬(j*4+3=i*4+2):=by omega
  have n33:¬(j*4+3=i*4+3):=by omega
  go_wp2_with fail
  go_region
  all_goals go_end0
  all_goals exact ⟨rfl,((((((((((Exc.refl G w).set _ _).set _ _).set _ _).set _ _).set _ _).set _ _).set _ _).set _ _)).drew,_,((((((((hG.set_ _ _).set_ _ _).set_ _ _).set_ _ _).set_ _ _).set_ _ _).set_ _ _).set_ _ _).drew,HS.out⟩
theorem yk {P:Program} (t:TypeId) (a:Addr) (x y:ByteArray) (w:World):(Builtin.ssaWrapNilChk_ #[t] t #[.pointer (some a),.string x,.string y]).run P w=.ok (.pointer (some a)) w:=rfl
theorem xJ {P:Program} {t e:TypeId} {name:String} {f:FuncId} (hu:P.underlying t=some (.pointer e)) (hm:((P.info? t).bind fun i=>(i.methods.find? (·.name==name)).map fun m=>(m.path.toList,m.func))=some ([],some (f,false)))
 (fuel:Nat) {w:World} {a:Addr} {v:Value} (h:(loadVar e a).run P w=.ok v w) :
 (method (fuel+1) t (.pointer (some a)) name).run P w=.ok (f,v) w:=by
 obtain ⟨i,hi,h2⟩:=Option.bind_eq_some_iff.1 hm
 obtain ⟨m,h3,h4⟩:=Option.map_eq_some_iff.1 h2
 simp only [Prod.mk.injEq] at h4
 have hp:m.path.isEmpty=true:=by have h:=h4.1;simp only [Array.toList_eq_nil_iff] at h;rw [h];rfl
 have ht:(typeInfo t).run P w=.ok i w:=by simp [typeInfo,hi]
 unfold method
 simp only [Sem.run_bind,ht,Result.andThen_ok,h3,h4.1,h4.2,follow,Sem.run_pure,hp,receiverAt,run_underlying hu,Place.get,if_true,strVal,yk,asAddr,h]
theorem xI {P:Program} {t e:TypeId} {name:String} {f:FuncId} (hu:P.underlying t=some (.pointer e)) (hm:((P.info? t).bind fun i=>(i.methods.find? (·.name==name)).map fun m=>(m.path.toList,m.func))=some ([],some (f,true)))
 (fuel:Nat) {w:World} {a:Addr} :
 (method (fuel+1) t (.pointer (some a)) name).run P w=.ok (f,.pointer (some a)) w:=by
 obtain ⟨i,hi,h2⟩:=Option.bind_eq_some_iff.1 hm
 obtain ⟨m,h3,h4⟩:=Option.map_eq_some_iff.1 h2
 simp only [Prod.mk.injEq] at h4
 have ht:(typeInfo t).run P w=.ok i w:=by simp [typeInfo,hi]
 unfold method
 simp only [Sem.run_bind,ht,Result.andThen_ok,h3,h4.1,h4.2,follow,Sem.run_pure,receiverAt,run_underlying hu,Place.get]
def AnyBool (e:Ending):Prop:=∃q:Bool,e=.returned (.bool q)
structure PileG {α:Type} (c:α→α→Int) (z:α) (T:TypeId) (P G:Nat) (St:World→List α→Prop) (rcv:List α→Value) (out:α→Value) (fLen fLess fSwap fPop:FuncId) (Q:Nat→Prop):Prop where
 ord:Ord3 c
 few:∀{w xs},St w xs→xs.length≤1000000000000
 later:∀{w w' xs},St w xs→Below w.heap.size w w'→St w' xs
 gw:∀{w xs},St w xs→G≤w.heap.size
 mlen:∀{w xs},St w xs→∀fuel,(method (fuel+1) T (.pointer (some ⟨P,0,none⟩)) "Len").run Tryz.prog w=.ok (fLen,rcv xs) w
 mless:∀{w xs},St w xs→∀fuel,(method (fuel+1) T (.pointer (some ⟨P,0,none⟩)) "Less").run Tryz.prog w=.ok (fLess,rcv xs) w
 mswap:∀{w xs},St w xs→∀fuel,(method (fuel+1) T (.pointer (some ⟨P,0,none⟩)) "Swap").run Tryz.prog w=.ok (fSwap,rcv xs) w
 mpop:∀(w:World) (fuel:Nat),(method (fuel+1) T (.pointer (some ⟨P,0,none⟩)) "Pop").run Tryz.prog w=.ok (fPop,.pointer (some ⟨P,0,none⟩)) w
 elen:∀args (w:World),(callFunc fLen args).run Tryz.prog w=.ok (.enter fLen args) w
 eless:∀args (w:World),(callFunc fLess args).run Tryz.prog w=.ok (.enter fLess args) w
 eswap:∀args (w:World),(callFunc fSwap args).run Tryz.prog w=.ok (.enter fSwap args) w
 epop:∀args (w:World),(callFunc fPop args).run Tryz.prog w=.ok (.enter fPop args) w
 len:∀{w xs},St w xs→Calls Tryz.prog fLen #[rcv xs] w fun e w'=>e=.returned (.int .i64 xs.length)∧w=w'
 less:∀{w xs} {i j:Nat},St w xs→i<xs.length→j<xs.length→Calls Tryz.prog fLess #[rcv xs,.int .i64 i,.int .i64 j] w fun e w'=>e=.returned (.bool (decide (c (atL z xs i) (atL z xs j)<0)))∧Below w.heap.size w w'
 swap:∀{w xs} {i j:Nat},St w xs→i<xs.length→j<xs.length→Calls Tryz.prog fSwap #[rcv xs,.int .i64 i,.int .i64 j] w fun e w'=>e=.returned (.tuple #[])∧Exc G w w'∧St w' (sw z xs i j)
 pop:∀{w xs n},St w xs→xs.length=n+1→Q n→Calls Tryz.prog fPop #[.pointer (some ⟨P,0,none⟩)] w fun e w'=>e=.returned (out (atL z xs n))∧Exc P w w'∧St w' (xs.take n)
section
variable {α:Type} {c:α→α→Int} {z:α} {T:TypeId} {P G:Nat} {St:World→List α→Prop} {rcv:List α→Value} {out:α→Value} {fLen fLess fSwap fPop:FuncId} {Q:Nat→Prop} (hP:PileG c z T P G St rcv out fLen fLess fSwap fPop Q)
theorem least2 (hc:Ord3 c) {ys:List α} {k n:Nat} (h1:¬2*k+2<n):∀m,m<n→(m=2*k+1∨m=2*k+2)→c (atL z ys (2*k+1)) (atL z ys m)≤0:=fun m hm h=>by
 obtain rfl:m=2*k+1:=by omega
 have:=hc.self (atL z ys (2*k+1));omega
theorem least_r (hc:Ord3 c) {ys:List α} {k n:Nat} (h1:c (atL z ys (2*k+2)) (atL z ys (2*k+1))<0):∀m,m<n→(m=2*k+1∨m=2*k+2)→c (atL z ys (2*k+2)) (atL z ys m)≤0:=fun m hm h=>by
 rcases h with rfl | rfl
 ·omega
 ·have:=hc.self (atL z ys (2*k+2));omega
theorem least_l (hc:Ord3 c) {ys:List α} {k n:Nat} (h1:¬c (atL z ys (2*k+2)) (atL z ys (2*k+1))<0):∀m,m<n→(m=2*k+1∨m=2*k+2)→c (atL z ys (2*k+1)) (atL z ys m)≤0:=fun m hm h=>by
 rcases h with rfl | rfl
 ·have:=hc.self (atL z ys (2*k+1));omega
 ·have:=hc.anti (atL z ys (2*k+2)) (atL z ys (2*k+1));omega
theorem rk (hc:Ord3 c) {ys:List α} {j k n:Nat} (h:∀m,m<n→(m=2*k+1∨m=2*k+2)→c (atL z ys j) (atL z ys m)≤0) (h1:¬c (atL z ys j) (atL z ys k)<0):∀m,m<n→(m=2*k+1∨m=2*k+2)→c (atL z ys k) (atL z ys m)≤0:=fun m hm hc'=>by
 have:=hc.anti (atL z ys j) (atL z ys k)
 exact hc.trans _ _ _ (by omega) (h m hm hc')
include hP
theorem downG {w:World} {n i0:Nat} {xs:List α} (hs:St w xs) (hn:n≤xs.length) (hi0:i0≤n) (hh:gT c (atL z xs) (i0+1) n) :
 Calls Tryz.prog 59 #[.iface T (.pointer (some ⟨P,0,none⟩)),.int .i64 i0,.int .i64 n] w fun e w'=>AnyBool e∧Exc G w w'∧∃ys,Sank c z xs ys i0 n∧St w' ys:=by
 have hGw:=hP.gw hs
 have hnn:n≤1000000000000:=AF hn (hP.few hs)
 have HXN:=AE hn
 have HS0:=AE (Sunk.start hh)
 have HP0:=AE hs
 have HG:=AE hP
 have HOR:=AE hP.ord
 have ye:=hP.eless
 have ys_:=hP.eswap
 clear hn hh hs hP
 go_enter Tryz.func59,Tryz.ntmps59
 go_wp2_with fail
 go_loopw [7] (fun i wr=>∃(k:Nat) (ys:List α),k≤n∧i=.int .i64 k∧Hid (Sunk c z xs ys i0 k n)∧Hid (Exc G w wr)∧Hid (St wr ys)) (fun i _=>n-(intOf i).toNat)
 case atStart=>exact ⟨i0,xs,hi0,rfl,HS0,AE (Exc.refl _ _),HP0⟩
 case round=>
  obtain ⟨k,ys,hk,rfl,HS,HE,HP⟩:=hrel
  have HL:Hid (n≤ys.length):=AE (by rw [HS.out.perm.length_eq];exact HXN.out)
  by_cases h1:2*k+1<n
  ·have h1i:2*(k:Int)+1<n:=by omega
   have HEr:=HE
   have HPr:=HP
   by_cases h2:2*k+2<n
   ·have h2i:2*(k:Int)+2<n:=by omega
    have ir_less:=HG.out.mless HPr.out
    go_wp2_with fail
    refine (HG.out.less HPr.out (i:=2*k+2) (j:=2*k+1) (by have:=HL.out;omega) (by have:=HL.out;omega)).mono ?_
    rintro e wa ⟨rfl,hb⟩
    have HEa:=AE (HEr.out.then hGw hb)
    have HPa:=AE (HG.out.later HPr.out hb)
    clear hb ir_less
    by_cases c1:c (atL z ys (2*k+2)) (atL z ys (2*k+1))<0
    ·rw [decide_eq_true c1]
     have HC1:=AE c1
     clear c1
     have ia_less:=HG.out.mless HPa.out
     go_wp2_with fail
     have HLE:=AE (least_r HOR.out HC1.out (n:=n))
     refine (HG.out.less HPa.out (i:=2*k+2) (j:=k) (by have:=HL.out;omega) (by have:=HL.out;omega)).mono ?_
     rintro e wb ⟨rfl,hb⟩
     have HEb:=AE (HEa.out.then hGw hb)
     have HPb:=AE (HG.out.later HPa.out hb)
     clear hb ia_less
     by_cases c2:c (atL z ys (2*k+2)) (atL z ys k)<0
     ·rw [decide_eq_true c2]
      have HC2:=AE c2
      clear c2
      have ib_swap:=HG.out.mswap HPb.out
      go_wp2_with fail
      refine (HG.out.swap HPb.out (i:=k) (j:=2*k+2) (by have:=HL.out;omega) (by have:=HL.out;omega)).mono ?_
      rintro e wc ⟨rfl,he,hcur⟩
      have HSc:=AE (HS.out.step HOR.out HL.out (by omega) (by omega) HLE.out HC2.out)
      have HPc:=AE hcur
      have HEc:=AE (HEb.out.trans he)
      clear he hcur ib_swap
      go_wp2_with fail
      go_roundw
      case rel=>exact ⟨2*k+2,_,by omega,by go_num,HSc,HEc,HPc⟩
      case measure=>simp [intOf];omega
     ·rw [decide_eq_false c2]
      have HC2:=AE c2
      clear c2
      go_wp2_with fail
      go_ret
      exact ⟨⟨_,rfl⟩,HEb.out,ys,HS.out.sank (rk HOR.out (j:=2*k+2) HLE.out (by have:=HC2.out;omega)),HPb.out⟩
    ·rw [decide_eq_false c1]
     have HC1:=AE c1
     clear c1
     have ia_less:=HG.out.mless HPa.out
     go_wp2_with fail
     have HLE:=AE (least_l (z:=z) (ys:=ys) (k:=k) HOR.out (Int.not_lt.2 HC1.out) (n:=n))
     refine (HG.out.less HPa.out (i:=2*k+1) (j:=k) (by have:=HL.out;omega) (by have:=HL.out;omega)).mono ?_
     rintro e wb ⟨rfl,hb⟩
     have HEb:=AE (HEa.out.then hGw hb)
     have HPb:=AE (HG.out.later HPa.out hb)
     clear hb ia_less
     by_cases c2:c (atL z ys (2*k+1)) (atL z ys k)<0
     ·rw [decide_eq_true c2]
      have HC2:=AE c2
      clear c2
      have ib_swap:=HG.out.mswap HPb.out
      go_wp2_with fail
      refine (HG.out.swap HPb.out (i:=k) (j:=2*k+1) (by have:=HL.out;omega) (by have:=HL.out;omega)).mono ?_
      rintro e wc ⟨rfl,he,hcur⟩
      have HSc:=AE (HS.out.step HOR.out HL.out (by omega) (by omega) HLE.out HC2.out)
      have HPc:=AE hcur
      have HEc:=AE (HEb.out.trans he)
      clear he hcur ib_swap
      go_wp2_with fail
      go_roundw
      case rel=>exact ⟨2*k+1,_,by omega,by go_num,HSc,HEc,HPc⟩
      case measure=>simp [intOf];omega
     ·rw [decide_eq_false c2]
      have HC2:=AE c2
      clear c2
      go_wp2_with fail
      go_ret
      exact ⟨⟨_,rfl⟩,HEb.out,ys,HS.out.sank (rk HOR.out (j:=2*k+1) HLE.out (by have:=HC2.out;omega)),HPb.out⟩
   ·have h2i:¬2*(k:Int)+2<n:=by omega
    have ir_less:=HG.out.mless HPr.out
    go_wp2_with fail
    have HLE:=AE (least2 (z:=z) HOR.out (ys:=ys) h2)
    refine (HG.out.less HPr.out (i:=2*k+1) (j:=k) (by have:=HL.out;omega) (by have:=HL.out;omega)).mono ?_
    rintro e wb ⟨rfl,hb⟩
    have HEb:=AE (HEr.out.then hGw hb)
    have HPb:=AE (HG.out.later HPr.out hb)
    clear hb ir_less
    by_cases c2:c (atL z ys (2*k+1)) (atL z ys k)<0
    ·rw [decide_eq_true c2]
     have HC2:=AE c2
     clear c2
     have ib_swap:=HG.out.mswap HPb.out
     go_wp2_with fail
     refine (HG.out.swap HPb.out (i:=k) (j:=2*k+1) (by have:=HL.out;omega) (by have:=HL.out;omega)).mono ?_
     rintro e wc ⟨rfl,he,hcur⟩
     have HSc:=AE (HS.out.step HOR.out HL.out (by omega) (by omega) HLE.out HC2.out)
     have HPc:=AE hcur
     have HEc:=AE (HEb.out.trans he)
     clear he hcur ib_swap
     go_wp2_with fail
     go_roundw
     case rel=>exact ⟨2*k+1,_,by omega,by go_num,HSc,HEc,HPc⟩
     case measure=>simp [intOf];omega
    ·rw [decide_eq_false c2]
     have HC2:=AE c2
     clear c2
     go_wp2_with fail
     go_ret
     exact ⟨⟨_,rfl⟩,HEb.out,ys,HS.out.sank (rk HOR.out (j:=2*k+1) HLE.out (by have:=HC2.out;omega)),HPb.out⟩
  ·have h1i:¬2*(k:Int)+1<n:=by omega
   go_wp2_with fail
   go_ret
   exact ⟨⟨_,rfl⟩,HE.out,ys,HS.out.sank (fun m hm hc=>by omega),HP.out⟩
omit hP in
theorem gT.halfG (g:Nat→α) (n:Nat):gT c g (n / 2) n:=fun k h0 h1 h2=>by omega
theorem initG {w:World} {xs:List α} (hs:St w xs) :
 Calls Tryz.prog 37 #[.iface T (.pointer (some ⟨P,0,none⟩))] w fun e w'=>e=.returned (.tuple #[])∧Exc G w w'∧∃ys,ys.Perm xs∧gT c (atL z ys) 0 ys.length∧St w' ys:=by
 have hGw:=hP.gw hs
 have hxn:=hP.few hs
 have HP0:=AE hs
 have HG:=AE hP
 have i0:=hP.mlen hs
 have ye:=hP.elen
 clear hP hs
 go_enter Tryz.func37,Tryz.ntmps37
 go_wp2_with fail
 refine (HG.out.len HP0.out).mono ?_
 rintro e wz ⟨rfl,rfl⟩
 go_wp2_with fail
 go_loopw [3] (fun i wr=>∃(m:Nat) (ys:List α),m≤xs.length / 2∧i=.int .i64 ((m:Int)-1)∧ys.Perm xs∧Hid (gT c (atL z ys) m xs.length)∧Hid (Exc G w wr)∧Hid (St wr ys)) (fun i _=>(intOf i+1).toNat)
 case atStart=>
  refine ⟨xs.length / 2,xs,AG _,?_,List.Perm.refl _,AE (gT.halfG _ _),AE (Exc.refl _ _),HP0⟩
  congr 1<;>omega
 case round=>
  obtain ⟨m,ys,hm,rfl,hpm,HH,HE,HP⟩:=hrel
  have hl:=hpm.length_eq
  rcases Nat.eq_zero_or_pos m with h0 | h0
  ·subst h0
   go_wp2_with fail
   go_end0
   exact ⟨rfl,HE.out,ys,hpm,by rw [hl];exact HH.out,HP.out⟩
  ·obtain ⟨k,rfl⟩:∃k,m=k+1:=⟨m-1,by omega⟩
   have e1:((k+1:Nat):Int)-1=k:=by omega
   rw [e1]
   have HM:=AE hpm
   clear hpm
   go_wp2_with fail
   refine (downG HG.out HP.out (by omega) (by omega) HH.out).mono ?_
   rintro e wa ⟨⟨_,rfl⟩,he,zs,hs,hz⟩
   have HE2:=AE (HE.out.trans he)
   have HM2:=hs.perm.trans HM.out
   have HH2:=AE hs.heap
   have HP2:=AE hz
   clear he hs hz
   go_wp2_with fail
   go_roundw
   case rel=>exact ⟨k,zs,by omega,by go_num,HM2,HH2,HE2,HP2⟩
   case measure=>simp [intOf]
theorem popG {w:World} {n:Nat} {xs:List α} (hs:St w xs) (hx:xs.length=n+1) (hq:Q n) (hh:gT c (atL z xs) 0 (n+1)) :
 Calls Tryz.prog 39 #[.iface T (.pointer (some ⟨P,0,none⟩))] w fun e w'=>e=.returned (out (atL z xs 0))∧gE P G w w' ∧
  ∃rest:List α,rest.length=n∧xs.Perm (atL z xs 0::rest)∧gT c (atL z rest) 0 n∧(∀b∈rest,c (atL z xs 0) b≤0)∧St w' rest:=by
 have HX:=AE hx
 have HH:=AE hh
 have hl:=hP.gw hs
 have hn1:n+1≤1000000000000:=by rw [←hx];exact hP.few hs
 have k0:=hP.mlen hs
 have k1:=hP.mswap hs
 have y0:=hP.elen
 have y1:=hP.eswap
 have y2:=hP.epop
 have HP:=AE hs
 have HG:=AE hP
 have HOR:=AE hP.ord
 clear hx hh hs hP
 go_enter Tryz.func39,Tryz.ntmps39
 go_wp2_with fail
 refine (HG.out.len HP.out).mono ?_
 rintro e wz ⟨rfl,rfl⟩
 rw [HX.out]
 go_wp2_with fail
 refine (HG.out.swap HP.out (i:=0) (j:=n) (by rw [HX.out];omega) (by rw [HX.out];omega)).mono ?_
 rintro e wa ⟨rfl,he,hcur⟩
 have HPa:=AE hcur
 have HEa:=AE he
 have HS:=AE (HH.out.swapped (by rw [HX.out];omega))
 have HL:Hid ((sw z xs 0 n).length=n+1):=AE (by rw [cw,HX.out])
 clear he hcur k0 k1
 go_wp2_with fail
 refine (downG HG.out (i0:=0) (n:=n) HPa.out (by rw [HL.out];omega) (by omega) HS.out).mono ?_
 rintro e wb ⟨⟨_,rfl⟩,he,ys,hs,hpb⟩
 have HEb:=AE (HEa.out.trans he)
 have HPb:=AE hpb
 have HZ:=AE (popped HOR.out HX.out HH.out hs)
 have k2:=HG.out.mpop wb
 clear he hs hpb
 go_wp2_with fail
 refine (HG.out.pop HPb.out HZ.out.1 hq).mono ?_
 rintro e wc ⟨rfl,he,hpc⟩
 have HEc:=AE ((HEb.out.right P).trans (he.left G))
 have HPc:=AE hpc
 clear he hpc
 go_wp2_with fail
 go_ret
 obtain ⟨z1,z2,z3,z4,z5⟩:=HZ.out
 rw [z2] at z3 z5 ⊢
 exact ⟨rfl,HEc.out,ys.take n,by rw [AW];omega,z3,z4,z5,HPc.out⟩
omit hP in
theorem initG0 {w:World} {fL:FuncId} {A:Option Addr} {cp:Nat} (hm:∀fuel,(method (fuel+1) T (.pointer (some ⟨P,0,none⟩)) "Len").run Tryz.prog w=.ok (fL,.slice A 0 cp) w) (he:∀args (w:World),(callFunc fL args).run Tryz.prog w=.ok (.enter fL args) w)
 (hl:Calls Tryz.prog fL #[.slice A 0 cp] w fun e w'=>e=.returned (.int .i64 (0:Nat))∧w=w') :
 Calls Tryz.prog 37 #[.iface T (.pointer (some ⟨P,0,none⟩))] w fun e w'=>e=.returned (.tuple #[])∧w=w':=by
 have HL:=AE hl
 clear hl
 go_enter Tryz.func37,Tryz.ntmps37
 go_wp2_with fail
 refine HL.out.mono ?_
 rintro e wz ⟨rfl,rfl⟩
 go_wp2_with fail
 go_loopw [3] (fun i wr=>i=.int .i64 (-1)∧w=wr) (fun i _=>0)
 case atStart=>exact ⟨rfl,rfl⟩
 case round=>
  obtain ⟨rfl,rfl⟩:=hrel
  go_wp2_with fail
  go_end0
  exact ⟨rfl,rfl⟩
end
theorem kT {name:String} {f:FuncId} (hm:((Tryz.prog.info? 258).bind fun i=>(i.methods.find? (·.name==name)).map fun m=>(m.path.toList,m.func))=some ([],some (f,false)))
 (fuel:Nat) {w:World} {P:Nat} {A:Option Addr} {n c:Nat} (h:w.cell? ⟨P,0,none⟩=some (.slice A n c)) :
 (method (fuel+1) 258 (.pointer (some ⟨P,0,none⟩)) name).run Tryz.prog w=.ok (f,.slice A n c) w:=
 xJ Tryz.underlying258 hm fuel (by
  have ha:(isAgg 257).run Tryz.prog w=.ok false w:=by go_simp
  have hl:(load ⟨P,0,none⟩).run Tryz.prog w=.ok (.slice A n c) w:=by go_simp
  simp [loadVar,Sem.run_bind,ha,hl,h])
theorem zc {name:String} {f:FuncId} (hm:((Tryz.prog.info? 258).bind fun i=>(i.methods.find? (·.name==name)).map fun m=>(m.path.toList,m.func))=some ([],some (f,true)))
 (fuel:Nat) {w:World} {a:Addr}:(method (fuel+1) 258 (.pointer (some a)) name).run Tryz.prog w=.ok (f,.pointer (some a)) w:=xI Tryz.underlying258 hm fuel
theorem m_len:((Tryz.prog.info? 258).bind fun i=>(i.methods.find? (·.name == "Len")).map fun m=>(m.path.toList,m.func))=some ([],some (219,false)):=by kernel_rfl
theorem m_less:((Tryz.prog.info? 258).bind fun i=>(i.methods.find? (·.name == "Less")).map fun m=>(m.path.toList,m.func))=some ([],some (262,false)):=by kernel_rfl
theorem m_swap:((Tryz.prog.info? 258).bind fun i=>(i.methods.find? (·.name == "Swap")).map fun m=>(m.path.toList,m.func))=some ([],some (263,false)):=by kernel_rfl
theorem m_pop:((Tryz.prog.info? 258).bind fun i=>(i.methods.find? (·.name == "Pop")).map fun m=>(m.path.toList,m.func))=some ([],some (264,true)):=by kernel_rfl
theorem PAt.later {w w':World} {P G c:Nat} {xs:List TV} (h:PAt w P G xs c) (hb:Below w.heap.size w w'):PAt w' P G xs c:=by
 obtain ⟨hP,cur,hG,hr⟩:=h
 exact ⟨hP.later hb,cur,hG.later hb,hr⟩
theorem PAt.exc {w w':World} {P G c:Nat} {xs ys:List TV} (h:PAt w P G xs c) (he:Exc G w w') (hPG:P≠G) (hl:ys.length=xs.length) (hc:∃cur',Blk w' G cur'∧rU cur' ys):PAt w' P G ys c:=by
 obtain ⟨hP,_⟩:=h
 exact ⟨by rw [hl];exact he.blk hPG hP,hc⟩
theorem PAt.lt {w:World} {P G c:Nat} {xs:List TV} (h:PAt w P G xs c):G≤w.heap.size:=by
 obtain ⟨_,cur,hG,_⟩:=h
 exact Nat.le_of_lt hG.lt
theorem rA {w:World} {P G c n:Nat} {xs:List TV} (hp:PAt w P G xs c) (hPG:P≠G) (hx:xs.length=n+1) (hc:n+1≤c) (hc2:c≤9223372036854775807) (hn:n+1≤1000000) :
 Calls Tryz.prog 264 #[.pointer (some ⟨P,0,none⟩)] w fun e w'=>e=.returned (.iface 29 (.agg (atL tv0 xs n).cs.toArray))∧Exc P w w'∧PAt w' P G (xs.take n) c:=by
 obtain ⟨hP,cur,hG,hr⟩:=hp
 have i0:=hr n (by omega) 0 (by omega)
 have i1:=hr n (by omega) 1 (by omega)
 have i2:=hr n (by omega) 2 (by omega)
 have i3:=hr n (by omega) 3 (by omega)
 have HR:=AE (hr.take n)
 have HT:=AE (show (xs.take n).length=n by rw [AW];omega)
 generalize atL tv0 xs n=x at *
 simp only [TV.cs,AU,List.getElem?_cons_succ,Nat.add_zero] at i0 i1 i2 i3
 rw [hx] at hP
 clear hx hr
 have kP:=hP.cell
 have fP:=hP.free
 have kG:=hG.cell
 have lP:=hP.lt
 have lG:=hG.lt
 go_enter Tryz.func264,Tryz.ntmps264
 go_wp2_with fail
 go_ret
 exact ⟨rfl,((Exc.refl P w).set 0 _).then (Nat.le_of_lt lP) ((AI _ _).alloc (AG _) _),by rw [HT.out];exact (hP.set_ 0 _).old _,cur,(hG.far (Ne.symm hPG) 0 _).old _,HR.out⟩
theorem pileG {P G cp B d:Nat} (hPG:P≠G) (hBG:B≤G) (hBP:B≤P) (hc2:cp≤9223372036854775807):PileG cTV tv0 258 P G (fun w xs=>PAt w P G xs cp∧PRd w B d xs∧B≤w.heap.size∧xs.length≤1000000) (fun xs=>.slice (some ⟨G,0,none⟩) xs.length cp) (fun x=>.iface 29 (.agg x.cs.toArray)) 219 262 263 264 (fun n=>n+1≤cp) where
 ord:=cTV_ord
 few:=fun h=>by have:=h.2.2.2;omega
 later:=fun h hb=>⟨h.1.later hb,h.2.1.below hb h.2.2.1,AF h.2.2.1 hb.size,h.2.2.2⟩
 gw:=fun h=>h.1.lt
 mlen:=fun h fuel=>kT m_len fuel (h.1.1.cell 0)
 mless:=fun h fuel=>kT m_less fuel (h.1.1.cell 0)
 mswap:=fun h fuel=>kT m_swap fuel (h.1.1.cell 0)
 mpop:=fun w fuel=>zc m_pop fuel
 elen:=ent Tryz.func219 (by kernel_rfl) rfl
 eless:=ent Tryz.func262 (by kernel_rfl) rfl
 eswap:=ent Tryz.func263 (by kernel_rfl) rfl
 epop:=ent Tryz.func264 (by kernel_rfl) rfl
 len:=fun h=>ek _ _ _ _
 less:=fun h hi hj=>by
  obtain ⟨⟨_,cur,hG,hr⟩,hd,hB,hn⟩:=h
  exact pR hG hr hd hB hi hj hn
 swap:=fun {w xs i j} h hi hj=>by
  obtain ⟨hp,hd,hB,hn⟩:=h
  obtain ⟨_,cur,hG,hr⟩:=id hp
  refine (pS hG hr hi hj hn).mono ?_
  rintro e w' ⟨rfl,he,hc⟩
  refine ⟨rfl,he,hp.exc he hPG cw hc,fun x hx=>(hd.below he.1 hBG) x ((oy hi hj).subset hx),AF hB he.1.size,by rw [cw];exact hn⟩
 pop:=fun {w xs n} h hx hc=>by
  obtain ⟨hp,hd,hB,hn⟩:=h
  refine (rA hp hPG hx hc hc2 (by omega)).mono ?_
  rintro e w' ⟨rfl,he,hc⟩
  exact ⟨rfl,he,hc,fun x hx=>(hd.below he.1 hBP) x (List.mem_of_mem_take hx),AF hB he.1.size,by rw [AW];omega⟩
theorem pq {w:World} {P G c B d:Nat} {xs:List TV} (hp:PAt w P G xs c) (hd:PRd w B d xs) (hB:B≤w.heap.size) (hBG:B≤G) (hPG:P≠G) (hxn:xs.length≤1000000) (hc2:c≤9223372036854775807:=by omega) (hBP:B≤P:=by omega) :
 Calls Tryz.prog 37 #[.iface 258 (.pointer (some ⟨P,0,none⟩))] w fun e w'=>e=.returned (.tuple #[])∧Exc G w w'∧∃ys,ys.Perm xs∧gT cTV (atL tv0 ys) 0 ys.length∧PAt w' P G ys c:=
 (initG (pileG hPG hBG hBP hc2) ⟨hp,hd,hB,hxn⟩).mono fun e w' ⟨h1,h2,ys,h3,h4,h5⟩=>⟨h1,h2,ys,h3,h4,h5.1⟩
theorem re {w:World} {P G c n B d:Nat} {xs:List TV} (hp:PAt w P G xs c) (hd:PRd w B d xs) (hB:B≤w.heap.size) (hBG:B≤G) (hPG:P≠G) (hx:xs.length=n+1) (hc:n+1≤c) (hc2:c≤9223372036854775807) (hn:n+1≤1000000) (hh:gT cTV (atL tv0 xs) 0 (n+1)) (hBP:B≤P:=by omega) :
 Calls Tryz.prog 39 #[.iface 258 (.pointer (some ⟨P,0,none⟩))] w fun e w'=>e=.returned (.iface 29 (.agg (atL tv0 xs 0).cs.toArray))∧gE P G w w' ∧
  ∃rest:List TV,rest.length=n∧xs.Perm (atL tv0 xs 0::rest)∧gT cTV (atL tv0 rest) 0 n∧(∀b∈rest,cTV (atL tv0 xs 0) b≤0)∧PAt w' P G rest c:=
 (popG (pileG hPG hBG hBP hc2) ⟨hp,hd,hB,by omega⟩ hx hc hh).mono fun e w' ⟨h1,h2,rest,h3,h4,h5,h6,h7⟩=>⟨h1,h2,rest,h3,h4,h5,h6,h7.1⟩
abbrev lp:ByteArray:=⟨#[]⟩
def noT:Tm:=⟨0,0,lp,[]⟩
def dJ (l:List Tm):Int:=(l.head?.map Tm.kind).getD 0
def qu (k:Int) (t:Tm):Bool:=!af t||decide (t.kind=7)||decide (t.kind≠k)
def ow (l:List Tm):Bool:=decide (l.length≤16)&&!l.any (qu (dJ l))
def AD (l:List Tm):Tm:=⟨7,0,lp,setL (aV 3) l⟩
def rM (l:List Tm):Tm × Int:=if ow l then (AD l,0) else (noT,1)
theorem uj {d B G:Nat} {k:Int} {l:List Tm} {A:Option Addr} {c:Nat} {w:World} (hG:Blk w G #[.slice A l.length c]) (hl:RL (TmR d) w B l A) (hB:B≤w.heap.size) (h0:0<l.length) (hk:dJ l=k) (hn:l.length≤16) :
 bW Tryz.prog (TmR d) cY B w 218 #[.pointer (some ⟨G,0,none⟩)] (qu k):=by
 intro x vs w1 hb hr
 have HR:Hid (RTm w1 B d x vs):=AE hr
 obtain ⟨A',c',rfl,q1,q2,q3,q4,q5,_⟩:=RTm.cells (show RTm w1 B d x vs from hr)
 have hG1:=hG.later hb
 have hB1:=AF hB hb.size
 obtain ⟨b,off,rfl,hbl⟩:=hl.base hb hB h0
 obtain ⟨y,ys,hy,_,hcell,hry⟩:=hl.at_ (k:=0) hb hB h0
 obtain ⟨A2,c2,rfl,_⟩:=RTm.cells (show RTm w1 B d y ys from hry)
 have hyk:y.kind=k:=by rw [←hk];unfold dJ;rw [List.head?_eq_getElem?,hy];rfl
 have f0:w1.cell? ⟨b,off,none⟩=some (.int .i64 k):=by rw [←hyk];simpa using hcell 0 _ rfl
 clear hr hry hcell hy hyk hb hG
 show Calls Tryz.prog 218 #[.agg #[_,_,_,_],.pointer (some ⟨G,0,none⟩)] w1 _
 have kG:=hG1.cell
 have lG:=hG1.lt
 go_enter Tryz.func218,Tryz.ntmps218
 go_wp2_with fail
 generalize hW:World.alloc _ _=w2
 obtain ⟨hb,hz⟩:=al1 hW
 have bx:=n11 hW
 have bG2:=hG1.later hb
 have g0:=cell_regrown ((hb.cell (p:=⟨b,off,none⟩) hbl).trans f0)
 have qx:=bx.regrown
 have qG:=bG2.regrown
 have HB1:=AE hb
 have hB2:=AF hB1 hb.size
 clear hW hz hb kG lG f0
 have HR2:=AE (HR.out.below HB1.out hB1)
 have hcases:af x=false∨(af x=true∧(x.kind==7)=true)∨(af x=true∧(x.kind==7)=false):=by
  cases af x<;>cases (x.kind==7)<;>simp
 rcases hcases with hf | ⟨hf,h7⟩ | ⟨hf,h7⟩
 all_goals
  refine wp_region_quiet_below (by kernel_rfl) (by kernel_rfl) ?_
  repeat (go_big_quiet_step ((go_at_call 47;exact Calls.regrown_of (dg hf (aj (HR2.out.below (below_regrown _ _ _) hB2) (AF hB2 (below_regrown _ _ _).size))))))
  refine wpQuiet_nil ?_
  intro w3 hw3
  have hb1:Below w2.heap.size w2 w3:=by obtain ⟨p,rfl⟩:=hw3;exact below_regrown _ _ _
  clear hw3
  go_wp2_with fail
  go_ret
  refine ⟨ac ?_,aa HB1.out hb1⟩
  first
   | (simp only [beq_iff_eq,beq_eq_false_iff_ne] at h7;simp [qu,hf,h7];try rfl)
   | (simp [qu,hf,h7];try rfl)
   | simp [qu,hf]
theorem ll {F:FuncId} {cap:Array Value} {A:Option Addr} {c:Nat} {w:World} :
 Calls Tryz.prog 45 #[.slice A 0 c,.func (.func F) #[] cap] w fun e w'=>e=.returned (.bool false)∧Below w.heap.size w w':=by
 go_enter Tryz.func45,Tryz.ntmps45
 go_wp2_with fail
 refine (Calls.mono (R:=fun e w'=>e=.returned (.int .i64 (-1))∧w=w') ?_ ?_)
 ·go_enter Tryz.func67,Tryz.ntmps67
  go_wp2_with fail
  go_loopw [8] (fun i wr=>i=.int .i64 0∧w=wr) (fun i _=>0)
  case atStart=>exact ⟨rfl,rfl⟩
  case round=>
   obtain ⟨rfl,rfl⟩:=hrel
   go_wp2_with fail
   go_ret
   exact ⟨rfl,rfl⟩
 ·rintro e w1 ⟨rfl,rfl⟩
  go_wp2_with fail
  go_ret
  exact ⟨rfl,AI _ _⟩
theorem gG {k:Int} {t:Tm}:qu k t=false↔af t=true∧t.kind≠7∧t.kind=k:=by
 unfold qu
 simp only [Bool.or_eq_false_iff,Bool.not_eq_false',decide_eq_false_iff_not,ne_eq,Classical.not_not,and_assoc]
theorem dU {t:Tm} (h:af t=true) (h7:t.kind≠7):jv t:=by
 unfold af fD at h
 rw [if_neg h7,AN] at h
 exact fY h.2
theorem uO (xs:List TV) (k:Nat):atL noT (xs.map TV.t) k=(atL tv0 xs k).t:=by
 unfold atL
 rw [List.getD_eq_getElem?_getD,List.getD_eq_getElem?_getD,List.getElem?_map]
 cases xs[k]?<;>rfl
theorem kJ {xs:List TV} {i n:Nat} (h:gT cTV (atL tv0 xs) i n):gT (aV 3) (atL noT (xs.map TV.t)) i n:=fun k h0 h1 h2=>by
 rw [uO,uO];exact h k h0 h1 h2
theorem yY {d B base:Nat} {T:TypeId} {w:World} {v:Value} {xs:List Tm} (h:aq (TmR d) T w base B v xs) (hf:∀x∈xs,jv x) (h0:0<xs.length) :
 ∃(G c:Nat) (tvs:List TV) (cur:Array Value),v=.slice (some ⟨G,0,none⟩) xs.length c∧base≤G∧tvs.map TV.t=xs∧Blk w G cur∧rU cur tvs∧PRd w B d tvs∧xs.length≤c∧c≤9223372036854775807:=by
 obtain ⟨cells,h,hfl⟩:=h
 rcases h.2 with ⟨h1,h2⟩ | ⟨g,cap,cur,hv,hg,hh,k1,k2,k3,k4⟩
 ·omega
 ·have key:∀n,n≤xs.length→∃tvs:List TV,tvs.map TV.t=xs.take n∧(∀k (hk:k<n),∀b,b<4→cells[k*4+b]? = (atL tv0 tvs k).cs[b]?)∧PRd w B d tvs:=by
   intro n
   induction n with
   | zero=>intro _;exact ⟨[],by simp,fun k hk=>absurd hk (by omega),fun x hx=>by simp at hx⟩
   | succ n ih=>
     intro hn
     obtain ⟨tvs,e1,e2,e3⟩:=ih (by omega)
     have hr:RTm w B d xs[n] ((cells.drop (n*4)).take 4):=hfl.2 n (by omega)
     obtain ⟨A,c,e4,_⟩:=RTm.cells hr
     have hlf:xs[n].l=[]:=hf _ (List.getElem_mem _)
     rw [hlf] at e4
     have hlen:tvs.length=n:=by have:=congrArg List.length e1;rw [AM,AW] at this;omega
     have ea:atL tv0 (tvs++[⟨xs[n],A,c⟩]) n=⟨xs[n],A,c⟩:=by rw [bO (by simp;omega)];simp [hlen]
     refine ⟨tvs++[⟨xs[n],A,c⟩],?_,fun k hk b hb=>?_,fun x hx=>?_⟩
     ·rw [List.map_append,e1,List.take_succ_eq_append_getElem (by omega)];rfl
     ·by_cases hkn:k=n
      ·subst hkn
       rw [ea]
       have:=congrArg (fun l:List Value=>l[b]?) e4
       simp only [List.getElem?_take,if_pos hb,List.getElem?_drop] at this
       exact this
      ·rw [e2 k (by omega) b hb,bO (by omega),bO (by simp;omega),List.getElem_append_left (by omega)]
     ·rcases List.mem_append.1 hx with hx | hx
      ·exact e3 x hx
      ·obtain rfl:x=⟨xs[n],A,c⟩:=by simpa using hx
       show RTm w B d xs[n] [_,_,_,_]
       rw [e4] at hr
       exact hr
  obtain ⟨tvs,e1,e2,e3⟩:=key xs.length (AG _)
  rw [List.take_length] at e1
  have hlen:tvs.length=xs.length:=by rw [←e1,AM]
  refine ⟨g,cap,tvs,cur,hv,hg,e1,⟨T,hh⟩,fun k hk b hb=>?_,e3,k1,by unfold maxLen at k2;omega⟩
  have hk4:(TmR d).k=4:=rfl
  rw [←e2 k (by omega) b hb,←k4,List.getElem?_take,if_pos (by rw [hk4];omega),Array.getElem?_toList]
end Go.Proofs.YtjpndglegpcdnaaGreat
