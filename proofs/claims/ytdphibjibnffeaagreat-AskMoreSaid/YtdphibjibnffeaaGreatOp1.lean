/- op.number, op.truth, (op.pair).both, op.Kinds. -/
import Derived.Test.YtdphibjibnffeaaGreatShelf
import Derived.Test.YtdphibjibnffeaaGreatHeap1
import Derived.Test.YtdphibjibnffeaaGreatOwn
set_option linter.unusedVariables false
set_option linter.unusedSimpArgs false
set_option maxRecDepth 100000
set_option maxHeartbeats 8000000
namespace Go.Proofs.YtdphibjibnffeaaGreat
open Go.ChangeShapes Go.WideShapes Go.ChangeAt Go.RowKit
theorem wO {P:Program} (t:TypeId) (a:Addr) (x y:ByteArray) (w:World):(Builtin.ssaWrapNilChk_ #[t] t #[.pointer (some a),.string x,.string y]).run P w=.ok (.pointer (some a)) w:=rfl
theorem via_val {P:Program} {t e:TypeId} {name:String} {f:FuncId} (hu:P.underlying t=some (.pointer e)) (hm:((P.info? t).bind fun i=>(i.methods.find? (·.name==name)).map fun m=>(m.path.toList,m.func))=some ([],some (f,false)))
 (fuel:Nat) {w:World} {a:Addr} {v:Value} (h:(loadVar e a).run P w=.ok v w) :
 (method (fuel+1) t (.pointer (some a)) name).run P w=.ok (f,v) w:=by
 obtain ⟨i,hi,h2⟩:=Option.bind_eq_some_iff.1 hm
 obtain ⟨m,h3,h4⟩:=Option.map_eq_some_iff.1 h2
 simp only [Prod.mk.injEq] at h4
 have hp:m.path.isEmpty=true:=by have h:=h4.1;simp only [Array.toList_eq_nil_iff] at h;rw [h];rfl
 have ht:(typeInfo t).run P w=.ok i w:=by simp [typeInfo,hi]
 unfold method
 simp only [Sem.run_bind,ht,Result.andThen_ok,h3,h4.1,h4.2,follow,Sem.run_pure,hp,receiverAt,run_underlying hu,Place.get,if_true,strVal,wO,asAddr,h]
theorem via_ptr {P:Program} {t e:TypeId} {name:String} {f:FuncId} (hu:P.underlying t=some (.pointer e)) (hm:((P.info? t).bind fun i=>(i.methods.find? (·.name==name)).map fun m=>(m.path.toList,m.func))=some ([],some (f,true)))
 (fuel:Nat) {w:World} {a:Addr} :
 (method (fuel+1) t (.pointer (some a)) name).run P w=.ok (f,.pointer (some a)) w:=by
 obtain ⟨i,hi,h2⟩:=Option.bind_eq_some_iff.1 hm
 obtain ⟨m,h3,h4⟩:=Option.map_eq_some_iff.1 h2
 simp only [Prod.mk.injEq] at h4
 have ht:(typeInfo t).run P w=.ok i w:=by simp [typeInfo,hi]
 unfold method
 simp only [Sem.run_bind,ht,Result.andThen_ok,h3,h4.1,h4.2,follow,Sem.run_pure,receiverAt,run_underlying hu,Place.get]
def AnyBool (e:Ending):Prop:=∃q:Bool,e=.returned (.bool q)
structure PileG {α:Type} (c:α→α→Int) (z:α) (T:TypeId) (P G:Nat) (St:World→List α→Prop) (rcv:List α→Value) (out:α→Value) (fLen fLess fSwap fPop:FuncId) (Q:Nat→Prop):Prop where
 ord:Ord3 c
 few:∀{w xs},St w xs→xs.length≤1000000000000
 later:∀{w w' xs},St w xs→Below w.heap.size w w'→St w' xs
 gw:∀{w xs},St w xs→G≤w.heap.size
 mlen:∀{w xs},St w xs→∀fuel,(method (fuel+1) T (.pointer (some ⟨P,0,none⟩)) "Len").run Tryz.prog w=.ok (fLen,rcv xs) w
 mless:∀{w xs},St w xs→∀fuel,(method (fuel+1) T (.pointer (some ⟨P,0,none⟩)) "Less").run Tryz.prog w=.ok (fLess,rcv xs) w
 mswap:∀{w xs},St w xs→∀fuel,(method (fuel+1) T (.pointer (some ⟨P,0,none⟩)) "Swap").run Tryz.prog w=.ok (fSwap,rcv xs) w
 mpop:∀(w:World) (fuel:Nat),(method (fuel+1) T (.pointer (some ⟨P,0,none⟩)) "Pop").run Tryz.prog w=.ok (fPop,.pointer (some ⟨P,0,none⟩)) w
 elen:∀args (w:World),(callFunc fLen args).run Tryz.prog w=.ok (.enter fLen args) w
 eless:∀args (w:World),(callFunc fLess args).run Tryz.prog w=.ok (.enter fLess args) w
 eswap:∀args (w:World),(callFunc fSwap args).run Tryz.prog w=.ok (.enter fSwap args) w
 epop:∀args (w:World),(callFunc fPop args).run Tryz.prog w=.ok (.enter fPop args) w
 len:∀{w xs},St w xs→Calls Tryz.prog fLen #[rcv xs] w fun e w'=>e=.returned (.int .i64 xs.length)∧w=w'
 less:∀{w xs} {i j:Nat},St w xs→i<xs.length→j<xs.length→Calls Tryz.prog fLess #[rcv xs,.int .i64 i,.int .i64 j] w fun e w'=>e=.returned (.bool (decide (c (atL z xs i) (atL z xs j)<0)))∧Below w.heap.size w w'
 swap:∀{w xs} {i j:Nat},St w xs→i<xs.length→j<xs.length→Calls Tryz.prog fSwap #[rcv xs,.int .i64 i,.int .i64 j] w fun e w'=>e=.returned (.tuple #[])∧Exc G w w'∧St w' (sw z xs i j)
 pop:∀{w xs n},St w xs→xs.length=n+1→Q n→Calls Tryz.prog fPop #[.pointer (some ⟨P,0,none⟩)] w fun e w'=>e=.returned (out (atL z xs n))∧Exc P w w'∧St w' (xs.take n)
section
variable {α:Type} {c:α→α→Int} {z:α} {T:TypeId} {P G:Nat} {St:World→List α→Prop} {rcv:List α→Value} {out:α→Value} {fLen fLess fSwap fPop:FuncId} {Q:Nat→Prop} (hP:PileG c z T P G St rcv out fLen fLess fSwap fPop Q)
theorem least2 (hc:Ord3 c) {ys:List α} {k n:Nat} (h1:¬2*k+2<n):∀m,m<n→(m=2*k+1∨m=2*k+2)→c (atL z ys (2*k+1)) (atL z ys m)≤0:=fun m hm h=>by
 obtain rfl:m=2*k+1:=by omega
 have:=hc.self (atL z ys (2*k+1));omega
theorem least_r (hc:Ord3 c) {ys:List α} {k n:Nat} (h1:c (atL z ys (2*k+2)) (atL z ys (2*k+1))<0):∀m,m<n→(m=2*k+1∨m=2*k+2)→c (atL z ys (2*k+2)) (atL z ys m)≤0:=fun m hm h=>by
 rcases h with rfl | rfl
 ·omega
 ·have:=hc.self (atL z ys (2*k+2));omega
theorem least_l (hc:Ord3 c) {ys:List α} {k n:Nat} (h1:¬c (atL z ys (2*k+2)) (atL z ys (2*k+1))<0):∀m,m<n→(m=2*k+1∨m=2*k+2)→c (atL z ys (2*k+1)) (atL z ys m)≤0:=fun m hm h=>by
 rcases h with rfl | rfl
 ·have:=hc.self (atL z ys (2*k+1));omega
 ·have:=hc.anti (atL z ys (2*k+2)) (atL z ys (2*k+1));omega
theorem pW (hc:Ord3 c) {ys:List α} {j k n:Nat} (h:∀m,m<n→(m=2*k+1∨m=2*k+2)→c (atL z ys j) (atL z ys m)≤0) (h1:¬c (atL z ys j) (atL z ys k)<0):∀m,m<n→(m=2*k+1∨m=2*k+2)→c (atL z ys k) (atL z ys m)≤0:=fun m hm hc'=>by
 have:=hc.anti (atL z ys j) (atL z ys k)
 exact hc.trans _ _ _ (by omega) (h m hm hc')
include hP
theorem downG {w:World} {n i0:Nat} {xs:List α} (hs:St w xs) (hn:n≤xs.length) (hi0:i0≤n) (hh:iT c (atL z xs) (i0+1) n) :
 Calls Tryz.prog 148 #[.iface T (.pointer (some ⟨P,0,none⟩)),.int .i64 i0,.int .i64 n] w fun e w'=>AnyBool e∧Exc G w w'∧∃ys,Sank c z xs ys i0 n∧St w' ys:=by
 have hGw:=hP.gw hs
 have hnn:n≤1000000000000:=yX hn (hP.few hs)
 have HXN:=yW hn
 have HS0:=yW (Sunk.start hh)
 have HP0:=yW hs
 have HG:=yW hP
 have HOR:=yW hP.ord
 have ye:=hP.eless
 have ys_:=hP.eswap
 clear hn hh hs hP
 go_enter Tryz.func148,Tryz.ntmps148
 go_wp2_with fail
 go_loopw [7] (fun i wr=>∃(k:Nat) (ys:List α),k≤n∧i=.int .i64 k∧Hid (Sunk c z xs ys i0 k n)∧Hid (Exc G w wr)∧Hid (St wr ys)) (fun i _=>n-(intOf i).toNat)
 case atStart=>exact ⟨i0,xs,hi0,rfl,HS0,yW (Exc.refl _ _),HP0⟩
 case round=>
  obtain ⟨k,ys,hk,rfl,HS,HE,HP⟩:=hrel
  have HL:Hid (n≤ys.length):=yW (by rw [HS.out.perm.length_eq];exact HXN.out)
  by_cases h1:2*k+1<n
  ·have h1i:2*(k:Int)+1<n:=by omega
   have HEr:=HE
   have HPr:=HP
   by_cases h2:2*k+2<n
   ·have h2i:2*(k:Int)+2<n:=by omega
    have ir_less:=HG.out.mless HPr.out
    go_wp2_with fail
    refine (HG.out.less HPr.out (i:=2*k+2) (j:=2*k+1) (by have:=HL.out;omega) (by have:=HL.out;omega)).mono ?_
    rintro e wa ⟨rfl,hb⟩
    have HEa:=yW (HEr.out.then hGw hb)
    have HPa:=yW (HG.out.later HPr.out hb)
    clear hb ir_less
    by_cases c1:c (atL z ys (2*k+2)) (atL z ys (2*k+1))<0
    ·rw [decide_eq_true c1]
     have HC1:=yW c1
     clear c1
     have ia_less:=HG.out.mless HPa.out
     go_wp2_with fail
     have HLE:=yW (least_r HOR.out HC1.out (n:=n))
     refine (HG.out.less HPa.out (i:=2*k+2) (j:=k) (by have:=HL.out;omega) (by have:=HL.out;omega)).mono ?_
     rintro e wb ⟨rfl,hb⟩
     have HEb:=yW (HEa.out.then hGw hb)
     have HPb:=yW (HG.out.later HPa.out hb)
     clear hb ia_less
     by_cases c2:c (atL z ys (2*k+2)) (atL z ys k)<0
     ·rw [decide_eq_true c2]
      have HC2:=yW c2
      clear c2
      have ib_swap:=HG.out.mswap HPb.out
      go_wp2_with fail
      refine (HG.out.swap HPb.out (i:=k) (j:=2*k+2) (by have:=HL.out;omega) (by have:=HL.out;omega)).mono ?_
      rintro e wc ⟨rfl,he,hcur⟩
      have HSc:=yW (HS.out.step HOR.out HL.out (by omega) (by omega) HLE.out HC2.out)
      have HPc:=yW hcur
      have HEc:=yW (HEb.out.trans he)
      clear he hcur ib_swap
      go_wp2_with fail
      go_roundw
      case rel=>exact ⟨2*k+2,_,by omega,by go_num,HSc,HEc,HPc⟩
      case measure=>simp [intOf];omega
     ·rw [decide_eq_false c2]
      have HC2:=yW c2
      clear c2
      go_wp2_with fail
      go_ret
      exact ⟨⟨_,rfl⟩,HEb.out,ys,HS.out.sank (pW HOR.out (j:=2*k+2) HLE.out (by have:=HC2.out;omega)),HPb.out⟩
    ·rw [decide_eq_false c1]
     have HC1:=yW c1
     clear c1
     have ia_less:=HG.out.mless HPa.out
     go_wp2_with fail
     have HLE:=yW (least_l (z:=z) (ys:=ys) (k:=k) HOR.out (Int.not_lt.2 HC1.out) (n:=n))
     refine (HG.out.less HPa.out (i:=2*k+1) (j:=k) (by have:=HL.out;omega) (by have:=HL.out;omega)).mono ?_
     rintro e wb ⟨rfl,hb⟩
     have HEb:=yW (HEa.out.then hGw hb)
     have HPb:=yW (HG.out.later HPa.out hb)
     clear hb ia_less
     by_cases c2:c (atL z ys (2*k+1)) (atL z ys k)<0
     ·rw [decide_eq_true c2]
      have HC2:=yW c2
      clear c2
      have ib_swap:=HG.out.mswap HPb.out
      go_wp2_with fail
      refine (HG.out.swap HPb.out (i:=k) (j:=2*k+1) (by have:=HL.out;omega) (by have:=HL.out;omega)).mono ?_
      rintro e wc ⟨rfl,he,hcur⟩
      have HSc:=yW (HS.out.step HOR.out HL.out (by omega) (by omega) HLE.out HC2.out)
      have HPc:=yW hcur
      have HEc:=yW (HEb.out.trans he)
      clear he hcur ib_swap
      go_wp2_with fail
      go_roundw
      case rel=>exact ⟨2*k+1,_,by omega,by go_num,HSc,HEc,HPc⟩
      case measure=>simp [intOf];omega
     ·rw [decide_eq_false c2]
      have HC2:=yW c2
      clear c2
      go_wp2_with fail
      go_ret
      exact ⟨⟨_,rfl⟩,HEb.out,ys,HS.out.sank (pW HOR.out (j:=2*k+1) HLE.out (by have:=HC2.out;omega)),HPb.out⟩
   ·have h2i:¬2*(k:Int)+2<n:=by omega
    have ir_less:=HG.out.mless HPr.out
    go_wp2_with fail
    have HLE:=yW (least2 (z:=z) HOR.out (ys:=ys) h2)
    refine (HG.out.less HPr.out (i:=2*k+1) (j:=k) (by have:=HL.out;omega) (by have:=HL.out;omega)).mono ?_
    rintro e wb ⟨rfl,hb⟩
    have HEb:=yW (HEr.out.then hGw hb)
    have HPb:=yW (HG.out.later HPr.out hb)
    clear hb ir_less
    by_cases c2:c (atL z ys (2*k+1)) (atL z ys k)<0
    ·rw [decide_eq_true c2]
     have HC2:=yW c2
     clear c2
     have ib_swap:=HG.out.mswap HPb.out
     go_wp2_with fail
     refine (HG.out.swap HPb.out (i:=k) (j:=2*k+1) (by have:=HL.out;omega) (by have:=HL.out;omega)).mono ?_
     rintro e wc ⟨rfl,he,hcur⟩
     have HSc:=yW (HS.out.step HOR.out HL.out (by omega) (by omega) HLE.out HC2.out)
     have HPc:=yW hcur
     have HEc:=yW (HEb.out.trans he)
     clear he hcur ib_swap
     go_wp2_with fail
     go_roundw
     case rel=>exact ⟨2*k+1,_,by omega,by go_num,HSc,HEc,HPc⟩
     case measure=>simp [intOf];omega
    ·rw [decide_eq_false c2]
     have HC2:=yW c2
     clear c2
     go_wp2_with fail
     go_ret
     exact ⟨⟨_,rfl⟩,HEb.out,ys,HS.out.sank (pW HOR.out (j:=2*k+1) HLE.out (by have:=HC2.out;omega)),HPb.out⟩
  ·have h1i:¬2*(k:Int)+1<n:=by omega
   go_wp2_with fail
   go_ret
   exact ⟨⟨_,rfl⟩,HE.out,ys,HS.out.sank (fun m hm hc=>by omega),HP.out⟩
omit hP in
theorem iT.halfG (g:Nat→α) (n:Nat):iT c g (n / 2) n:=fun k h0 h1 h2=>by omega
theorem initG {w:World} {xs:List α} (hs:St w xs) :
 Calls Tryz.prog 97 #[.iface T (.pointer (some ⟨P,0,none⟩))] w fun e w'=>e=.returned (.tuple #[])∧Exc G w w'∧∃ys,ys.Perm xs∧iT c (atL z ys) 0 ys.length∧St w' ys:=by
 have hGw:=hP.gw hs
 have hxn:=hP.few hs
 have HP0:=yW hs
 have HG:=yW hP
 have i0:=hP.mlen hs
 have ye:=hP.elen
 clear hP hs
 go_enter Tryz.func97,Tryz.ntmps97
 go_wp2_with fail
 refine (HG.out.len HP0.out).mono ?_
 rintro e wz ⟨rfl,rfl⟩
 go_wp2_with fail
 go_loopw [3] (fun i wr=>∃(m:Nat) (ys:List α),m≤xs.length / 2∧i=.int .i64 ((m:Int)-1)∧ys.Perm xs∧Hid (iT c (atL z ys) m xs.length)∧Hid (Exc G w wr)∧Hid (St wr ys)) (fun i _=>(intOf i+1).toNat)
 case atStart=>
  refine ⟨xs.length / 2,xs,yY _,?_,List.Perm.refl _,yW (iT.halfG _ _),yW (Exc.refl _ _),HP0⟩
  congr 1<;>omega
 case round=>
  obtain ⟨m,ys,hm,rfl,hpm,HH,HE,HP⟩:=hrel
  have hl:=hpm.length_eq
  rcases Nat.eq_zero_or_pos m with h0 | h0
  ·subst h0
   go_wp2_with fail
   go_end0
   exact ⟨rfl,HE.out,ys,hpm,by rw [hl];exact HH.out,HP.out⟩
  ·obtain ⟨k,rfl⟩:∃k,m=k+1:=⟨m-1,by omega⟩
   have e1:((k+1:Nat):Int)-1=k:=by omega
   rw [e1]
   have HM:=yW hpm
   clear hpm
   go_wp2_with fail
   refine (downG HG.out HP.out (by omega) (by omega) HH.out).mono ?_
   rintro e wa ⟨⟨_,rfl⟩,he,zs,hs,hz⟩
   have HE2:=yW (HE.out.trans he)
   have HM2:=hs.perm.trans HM.out
   have HH2:=yW hs.heap
   have HP2:=yW hz
   clear he hs hz
   go_wp2_with fail
   go_roundw
   case rel=>exact ⟨k,zs,by omega,by go_num,HM2,HH2,HE2,HP2⟩
   case measure=>simp [intOf]
theorem popG {w:World} {n:Nat} {xs:List α} (hs:St w xs) (hx:xs.length=n+1) (hq:Q n) (hh:iT c (atL z xs) 0 (n+1)) :
 Calls Tryz.prog 99 #[.iface T (.pointer (some ⟨P,0,none⟩))] w fun e w'=>e=.returned (out (atL z xs 0))∧gL P G w w' ∧
  ∃rest:List α,rest.length=n∧xs.Perm (atL z xs 0::rest)∧iT c (atL z rest) 0 n∧(∀b∈rest,c (atL z xs 0) b≤0)∧St w' rest:=by
 have HX:=yW hx
 have HH:=yW hh
 have hl:=hP.gw hs
 have hn1:n+1≤1000000000000:=by rw [←hx];exact hP.few hs
 have k0:=hP.mlen hs
 have k1:=hP.mswap hs
 have y0:=hP.elen
 have y1:=hP.eswap
 have y2:=hP.epop
 have HP:=yW hs
 have HG:=yW hP
 have HOR:=yW hP.ord
 clear hx hh hs hP
 go_enter Tryz.func99,Tryz.ntmps99
 go_wp2_with fail
 refine (HG.out.len HP.out).mono ?_
 rintro e wz ⟨rfl,rfl⟩
 rw [HX.out]
 go_wp2_with fail
 refine (HG.out.swap HP.out (i:=0) (j:=n) (by rw [HX.out];omega) (by rw [HX.out];omega)).mono ?_
 rintro e wa ⟨rfl,he,hcur⟩
 have HPa:=yW hcur
 have HEa:=yW he
 have HS:=yW (HH.out.swapped (by rw [HX.out];omega))
 have HL:Hid ((sw z xs 0 n).length=n+1):=yW (by rw [ef,HX.out])
 clear he hcur k0 k1
 go_wp2_with fail
 refine (downG HG.out (i0:=0) (n:=n) HPa.out (by rw [HL.out];omega) (by omega) HS.out).mono ?_
 rintro e wb ⟨⟨_,rfl⟩,he,ys,hs,hpb⟩
 have HEb:=yW (HEa.out.trans he)
 have HPb:=yW hpb
 have HZ:=yW (popped HOR.out HX.out HH.out hs)
 have k2:=HG.out.mpop wb
 clear he hs hpb
 go_wp2_with fail
 refine (HG.out.pop HPb.out HZ.out.1 hq).mono ?_
 rintro e wc ⟨rfl,he,hpc⟩
 have HEc:=yW ((HEb.out.right P).trans (he.left G))
 have HPc:=yW hpc
 clear he hpc
 go_wp2_with fail
 go_ret
 obtain ⟨z1,z2,z3,z4,z5⟩:=HZ.out
 rw [z2] at z3 z5 ⊢
 exact ⟨rfl,HEc.out,ys.take n,by rw [List.length_take];omega,z3,z4,z5,HPc.out⟩
omit hP in
end
theorem kf {name:String} {f:FuncId} (hm:((Tryz.prog.info? 326).bind fun i=>(i.methods.find? (·.name==name)).map fun m=>(m.path.toList,m.func))=some ([],some (f,false)))
 (fuel:Nat) {w:World} {P:Nat} {A:Option Addr} {n c:Nat} (h:w.cell? ⟨P,0,none⟩=some (.slice A n c)) :
 (method (fuel+1) 326 (.pointer (some ⟨P,0,none⟩)) name).run Tryz.prog w=.ok (f,.slice A n c) w:=
 via_val Tryz.underlying326 hm fuel (by
  have ha:(isAgg 325).run Tryz.prog w=.ok false w:=by go_simp
  have hl:(load ⟨P,0,none⟩).run Tryz.prog w=.ok (.slice A n c) w:=by go_simp
  simp [loadVar,Sem.run_bind,ha,hl,h])
theorem xH {name:String} {f:FuncId} (hm:((Tryz.prog.info? 326).bind fun i=>(i.methods.find? (·.name==name)).map fun m=>(m.path.toList,m.func))=some ([],some (f,true)))
 (fuel:Nat) {w:World} {a:Addr}:(method (fuel+1) 326 (.pointer (some a)) name).run Tryz.prog w=.ok (f,.pointer (some a)) w:=via_ptr Tryz.underlying326 hm fuel
theorem m_len:((Tryz.prog.info? 326).bind fun i=>(i.methods.find? (·.name == "Len")).map fun m=>(m.path.toList,m.func))=some ([],some (314,false)):=by kernel_rfl
theorem m_less:((Tryz.prog.info? 326).bind fun i=>(i.methods.find? (·.name == "Less")).map fun m=>(m.path.toList,m.func))=some ([],some (357,false)):=by kernel_rfl
theorem m_swap:((Tryz.prog.info? 326).bind fun i=>(i.methods.find? (·.name == "Swap")).map fun m=>(m.path.toList,m.func))=some ([],some (358,false)):=by kernel_rfl
theorem m_pop:((Tryz.prog.info? 326).bind fun i=>(i.methods.find? (·.name == "Pop")).map fun m=>(m.path.toList,m.func))=some ([],some (359,true)):=by kernel_rfl
theorem PAt.later {w w':World} {P G c:Nat} {xs:List TV} (h:PAt w P G xs c) (hb:Below w.heap.size w w'):PAt w' P G xs c:=by
 obtain ⟨hP,cur,hG,hr⟩:=h
 exact ⟨hP.later hb,cur,hG.later hb,hr⟩
theorem PAt.exc {w w':World} {P G c:Nat} {xs ys:List TV} (h:PAt w P G xs c) (he:Exc G w w') (hPG:P≠G) (hl:ys.length=xs.length) (hc:∃cur',Blk w' G cur'∧qN cur' ys):PAt w' P G ys c:=by
 obtain ⟨hP,_⟩:=h
 exact ⟨by rw [hl];exact he.blk hPG hP,hc⟩
theorem PAt.lt {w:World} {P G c:Nat} {xs:List TV} (h:PAt w P G xs c):G≤w.heap.size:=by
 obtain ⟨_,cur,hG,_⟩:=h
 exact Nat.le_of_lt hG.lt
theorem qk {w:World} {P G c n:Nat} {xs:List TV} (hp:PAt w P G xs c) (hPG:P≠G) (hx:xs.length=n+1) (hc:n+1≤c) (hc2:c≤9223372036854775807) (hn:n+1≤1000000) :
 Calls Tryz.prog 359 #[.pointer (some ⟨P,0,none⟩)] w fun e w'=>e=.returned (.iface 79 (.agg (atL tv0 xs n).cs.toArray))∧Exc P w w'∧PAt w' P G (xs.take n) c:=by
 obtain ⟨hP,cur,hG,hr⟩:=hp
 have i0:=hr n (by omega) 0 (by omega)
 have i1:=hr n (by omega) 1 (by omega)
 have i2:=hr n (by omega) 2 (by omega)
 have i3:=hr n (by omega) 3 (by omega)
 have HR:=yW (hr.take n)
 have HT:=yW (show (xs.take n).length=n by rw [List.length_take];omega)
 generalize atL tv0 xs n=x at *
 simp only [TV.cs,List.getElem?_cons_zero,List.getElem?_cons_succ,Nat.add_zero] at i0 i1 i2 i3
 rw [hx] at hP
 clear hx hr
 have kP:=hP.cell
 have fP:=hP.free
 have kG:=hG.cell
 have lP:=hP.lt
 have lG:=hG.lt
 go_enter Tryz.func359,Tryz.ntmps359
 go_wp2_with fail
 go_ret
 exact ⟨rfl,((Exc.refl P w).set 0 _).then (Nat.le_of_lt lP) ((za _ _).alloc (yY _) _),by rw [HT.out];exact (hP.set_ 0 _).old _,cur,(hG.far (Ne.symm hPG) 0 _).old _,HR.out⟩
theorem pileG {P G cp B d:Nat} (hPG:P≠G) (hBG:B≤G) (hBP:B≤P) (hc2:cp≤9223372036854775807):PileG cTV tv0 326 P G (fun w xs=>PAt w P G xs cp∧PRd w B d xs∧B≤w.heap.size∧xs.length≤1000000) (fun xs=>.slice (some ⟨G,0,none⟩) xs.length cp) (fun x=>.iface 79 (.agg x.cs.toArray)) 314 357 358 359 (fun n=>n+1≤cp) where
 ord:=cTV_ord
 few:=fun h=>by have:=h.2.2.2;omega
 later:=fun h hb=>⟨h.1.later hb,h.2.1.below hb h.2.2.1,yX h.2.2.1 hb.size,h.2.2.2⟩
 gw:=fun h=>h.1.lt
 mlen:=fun h fuel=>kf m_len fuel (h.1.1.cell 0)
 mless:=fun h fuel=>kf m_less fuel (h.1.1.cell 0)
 mswap:=fun h fuel=>kf m_swap fuel (h.1.1.cell 0)
 mpop:=fun w fuel=>xH m_pop fuel
 elen:=ent Tryz.func314 (by kernel_rfl) rfl
 eless:=ent Tryz.func357 (by kernel_rfl) rfl
 eswap:=ent Tryz.func358 (by kernel_rfl) rfl
 epop:=ent Tryz.func359 (by kernel_rfl) rfl
 len:=fun h=>dY _ _ _ _
 less:=fun h hi hj=>by
  obtain ⟨⟨_,cur,hG,hr⟩,hd,hB,hn⟩:=h
  exact oJ hG hr hd hB hi hj hn
 swap:=fun {w xs i j} h hi hj=>by
  obtain ⟨hp,hd,hB,hn⟩:=h
  obtain ⟨_,cur,hG,hr⟩:=id hp
  refine (oK hG hr hi hj hn).mono ?_
  rintro e w' ⟨rfl,he,hc⟩
  refine ⟨rfl,he,hp.exc he hPG ef hc,fun x hx=>(hd.below he.1 hBG) x ((qD hi hj).subset hx),yX hB he.1.size,by rw [ef];exact hn⟩
 pop:=fun {w xs n} h hx hc=>by
  obtain ⟨hp,hd,hB,hn⟩:=h
  refine (qk hp hPG hx hc hc2 (by omega)).mono ?_
  rintro e w' ⟨rfl,he,hc⟩
  exact ⟨rfl,he,hc,fun x hx=>(hd.below he.1 hBP) x (List.mem_of_mem_take hx),yX hB he.1.size,by rw [List.length_take];omega⟩
theorem oc {w:World} {P G c B d:Nat} {xs:List TV} (hp:PAt w P G xs c) (hd:PRd w B d xs) (hB:B≤w.heap.size) (hBG:B≤G) (hPG:P≠G) (hxn:xs.length≤1000000) (hc2:c≤9223372036854775807:=by omega) (hBP:B≤P:=by omega) :
 Calls Tryz.prog 97 #[.iface 326 (.pointer (some ⟨P,0,none⟩))] w fun e w'=>e=.returned (.tuple #[])∧Exc G w w'∧∃ys,ys.Perm xs∧iT cTV (atL tv0 ys) 0 ys.length∧PAt w' P G ys c:=
 (initG (pileG hPG hBG hBP hc2) ⟨hp,hd,hB,hxn⟩).mono fun e w' ⟨h1,h2,ys,h3,h4,h5⟩=>⟨h1,h2,ys,h3,h4,h5.1⟩
theorem pS {w:World} {P G c n B d:Nat} {xs:List TV} (hp:PAt w P G xs c) (hd:PRd w B d xs) (hB:B≤w.heap.size) (hBG:B≤G) (hPG:P≠G) (hx:xs.length=n+1) (hc:n+1≤c) (hc2:c≤9223372036854775807) (hn:n+1≤1000000) (hh:iT cTV (atL tv0 xs) 0 (n+1)) (hBP:B≤P:=by omega) :
 Calls Tryz.prog 99 #[.iface 326 (.pointer (some ⟨P,0,none⟩))] w fun e w'=>e=.returned (.iface 79 (.agg (atL tv0 xs 0).cs.toArray))∧gL P G w w' ∧
  ∃rest:List TV,rest.length=n∧xs.Perm (atL tv0 xs 0::rest)∧iT cTV (atL tv0 rest) 0 n∧(∀b∈rest,cTV (atL tv0 xs 0) b≤0)∧PAt w' P G rest c:=
 (popG (pileG hPG hBG hBP hc2) ⟨hp,hd,hB,by omega⟩ hx hc hh).mono fun e w' ⟨h1,h2,rest,h3,h4,h5,h6,h7⟩=>⟨h1,h2,rest,h3,h4,h5,h6,h7.1⟩
theorem oT {fn:Func} {tmps:Array Value} {p:Tmp} {g:Nat} {w:World} {cs:Array Value} (h:fn.results=#[.cell p 79]) (hp:tmps.getD p undef=.pointer (some ⟨g,0,none⟩)) (hb:Blk w g cs) (hn:cs.size=4) :
 (results fn tmps).run Tryz.prog w=.ok (.agg cs) w:=by
 obtain ⟨T,hb⟩:=hb
 exact results_cell_row h tmps w g T cs (0,0) _ hp hb Tryz.underlying79 rfl (by rw [hn];kernel_rfl)
theorem ao {fn:Func} {tmps:Array Value} {p u:Tmp} {g:Nat} {w:World} {cs:Array Value} (h:fn.results=#[.cell p 79,.tmp u]) (hp:tmps.getD p undef=.pointer (some ⟨g,0,none⟩)) (hb:Blk w g cs) (hn:cs.size=4) :
 (results fn tmps).run Tryz.prog w=.ok (.tuple #[.agg cs,tmps.getD u undef]) w:=by
 obtain ⟨T,hb⟩:=hb
 rw [results_cell_tmp h]
 have e:tmps[p]?.getD undef=.pointer (some ⟨g,0,none⟩):=by simpa using hp
 have e1:((asAddr (tmps.getD p undef)).run Tryz.prog w)=.ok ⟨g,0,none⟩ w:=by simp [e,asAddr]
 rw [e1,Result.andThen_ok,run_loadVar_row w g T 79 cs (0,0) _ hb Tryz.underlying79 rfl (by rw [hn];kernel_rfl),Result.andThen_ok]
theorem bp (n:Int) (w:World) :
 Calls Tryz.prog 278 #[.int .i64 n] w fun e w'=>e=.returned (.agg #[.int .i64 2,.int .i64 n,.string ⟨#[]⟩,.slice none 0 0])∧Below w.heap.size w w':=by
 go_enter Tryz.func278,Tryz.ntmps278
 go_wp2_with fail
 refine bodyPost_ret (oT rfl rfl (n11 rfl) rfl) rfl ?_
 exact ⟨rfl,(za _ _).alloc (yY _) _⟩
def bit (b:Bool):Int:=if b then 1 else 0
theorem eh (b:Bool) (w:World) :
 Calls Tryz.prog 276 #[.bool b] w fun e w'=>e=.returned (.agg #[.int .i64 6,.int .i64 (bit b),.string ⟨#[]⟩,.slice none 0 0])∧Below w.heap.size w w':=by
 cases b
 all_goals
  go_enter Tryz.func276,Tryz.ntmps276
  go_wp2_with fail
  refine bodyPost_ret (oT rfl rfl (n11 rfl) rfl) rfl ?_
  exact ⟨rfl,(za _ _).alloc (yY _) _⟩
def dH (ks:List Int) (a b:Int):Bool:=ks.any fun k=>decide (a=k)&&decide (b=k)
theorem aZ (ks:List Int) (a b:Int) (g c:Nat) (w:World) (hks:Blk w g (ks.map (Value.int .i64)).toArray) (hn:ks.length≤1000000) :
 Calls Tryz.prog 297 #[.agg #[.int .i64 a,.int .i64 b],.slice (some ⟨g,0,none⟩) ks.length c] w fun e w'=>e=.returned (.bool (dH ks a b))∧Below w.heap.size w w':=by
 have hc:∀i (h:i<ks.length),w.cell? ⟨g,i,none⟩=some (.int .i64 ks[i]):=fun i h=>by
  have:=hks.cell i
  rw [this]
  simp [h]
 have hg:=hks.lt
 clear hks
 go_enter Tryz.func297,Tryz.ntmps297
 go_wp2_with fail
 generalize hW:World.alloc _ _=w1
 obtain ⟨hb,hz⟩:=al1 hW
 have b_p:=n11 hW
 have HB:=yW hb
 have HC:=yW (fun i (h:i<ks.length)=>(hb.cell (p:=⟨g,i,none⟩) hg).trans (hc i h))
 have hg1:g<w1.heap.size:=by omega
 clear hW hb hc hg
 go_loop [9] (fun i=>∃k:Nat,k≤ks.length∧i=.int .i64 k∧∀i,i<k→∀h:i<ks.length,(decide (a=ks[i])&&decide (b=ks[i]))=false) (fun i=>ks.length-(intOf i).toNat)
 case atStart=>exact ⟨0,yZ _,rfl,fun i h=>absurd h (by omega)⟩
 case round=>
  obtain ⟨k,hk,rfl,hall⟩:=hrel
  have HA:=yW hall
  clear hall
  by_cases hlt:k<ks.length
  ·have hck:=HC.out k hlt
   have k_p:=b_p.cell
   have l_p:=b_p.lt
   generalize hx:ks[k]=x at hck
   have HX:=yW hx
   clear hx
   have h3:(a==x)=false∨(a==x)=true∧(b==x)=false∨(a==x)=true∧(b==x)=true:=by cases (a==x)<;>cases (b==x)<;>simp
   rcases h3 with h1 | ⟨h1,h2⟩ | ⟨h1,h2⟩
   ·go_wp2_with fail
    go_round
    case rel=>exact ⟨k+1,by omega,by go_num,fun i hi h=>by
     rcases Nat.lt_or_ge i k with h4 | h4
     ·exact HA.out i h4 h
     ·obtain rfl:i=k:=by omega
      rw [HX.out];simp only [beq_eq_false_iff_ne] at h1;simp [h1]⟩
    case measure=>simp [intOf];omega
   ·go_wp2_with fail
    go_round
    case rel=>exact ⟨k+1,by omega,by go_num,fun i hi h=>by
     rcases Nat.lt_or_ge i k with h4 | h4
     ·exact HA.out i h4 h
     ·obtain rfl:i=k:=by omega
      rw [HX.out];simp only [beq_eq_false_iff_ne] at h2;simp [h2]⟩
    case measure=>simp [intOf];omega
   ·go_wp2_with fail
    go_ret
    refine ⟨ac ?_,HB.out⟩
    rw [eq_comm,dH,List.any_eq_true]
    exact ⟨x,by rw [←HX.out];exact List.getElem_mem _,by simp only [beq_iff_eq] at h1 h2;simp [h1,h2]⟩
  ·go_wp2_with fail
   go_ret
   refine ⟨ac ?_,HB.out⟩
   rw [eq_comm,dH,List.any_eq_false]
   intro x hx
   obtain ⟨i,hi,rfl⟩:=List.getElem_of_mem hx
   rw [HA.out i (by omega) hi]
   simp
def aE (code a b:Int):Bool:=
 if code=1∨code=2∨code=3∨code=4 then dH [2,4] a b
 else if code=5∨code=6 then decide (a=b)&&decide (2≤a)&&decide (a≤7)
 else if code=7 then dH [2,3] a b
 else if code=8∨code=9∨code=10∨code=17∨code=18∨code=19 then dH [2] a b
 else if code=11 then (decide (a=7)&&decide (2≤b)&&decide (b≤7))||dH [3] a b
 else if code=12∨code=13 then dH [3,5] a b
 else if code=14 then dH [3] a b
 else if code=15∨code=16 then dH [7] a b
 else false
theorem c11 {a b:Int} (h:¬(a=7∧2≤b∧b≤7)):dH [3] a b=aE 11 a b:=by
 show _=((decide (a=7)&&decide (2≤b)&&decide (b≤7))||dH [3] a b)
 have hf:(decide (a=7)&&decide (2≤b)&&decide (b≤7))=false:=by
  rw [Bool.eq_false_iff]
  simp only [ne_eq,Bool.and_eq_true,decide_eq_true_eq]
  omega
 rw [hf,Bool.false_or]
theorem aP (code a b:Int) (w:World) :
 Calls Tryz.prog 279 #[.int .i64 code,.int .i64 a,.int .i64 b] w fun e w'=>e=.returned (.bool (aE code a b))∧Below w.heap.size w w':=by
 have hc:code<1∨code > 19∨code=1∨code=2∨code=3∨code=4∨code=5∨code=6∨code=7∨code=8∨code=9∨code=10∨code=11∨code=12∨code=13∨code=14∨code=15∨code=16∨code=17∨code=18∨code=19:=by omega
 rcases hc with h | h | rfl | rfl | rfl | rfl | rfl | rfl | rfl | rfl | rfl | rfl | rfl | rfl | rfl | rfl | rfl | rfl | rfl | rfl | rfl
 ·have e:aE code a b=false:=by unfold aE;(repeat rw [if_neg (by omega)])
  rw [e]
  go_enter Tryz.func279,Tryz.ntmps279
  go_wp2_with fail
  go_ret
  exact ⟨rfl,(za _ _).alloc (yY _) _⟩
 ·have e:aE code a b=false:=by unfold aE;(repeat rw [if_neg (by omega)])
  rw [e]
  go_enter Tryz.func279,Tryz.ntmps279
  go_wp2_with fail
  go_ret
  exact ⟨rfl,(za _ _).alloc (yY _) _⟩
 ·go_enter Tryz.func279,Tryz.ntmps279
  go_wp2_with fail
  generalize hW:World.alloc _ _=w1
  obtain ⟨hb,hz⟩:=al2 hW
  refine (aZ [2,4] a b (w.heap.size+1) 2 w1 (n22 hW) (by simp)).mono ?_
  rintro e w2 ⟨rfl,hb2⟩
  have HB2:=yW (ab hb hb2)
  clear hW hb hb2
  go_wp2_with fail
  go_ret
  exact ⟨ac (rfl),HB2.out⟩
 ·go_enter Tryz.func279,Tryz.ntmps279
  go_wp2_with fail
  generalize hW:World.alloc _ _=w1
  obtain ⟨hb,hz⟩:=al2 hW
  refine (aZ [2,4] a b (w.heap.size+1) 2 w1 (n22 hW) (by simp)).mono ?_
  rintro e w2 ⟨rfl,hb2⟩
  have HB2:=yW (ab hb hb2)
  clear hW hb hb2
  go_wp2_with fail
  go_ret
  exact ⟨ac (rfl),HB2.out⟩
 ·go_enter Tryz.func279,Tryz.ntmps279
  go_wp2_with fail
  generalize hW:World.alloc _ _=w1
  obtain ⟨hb,hz⟩:=al2 hW
  refine (aZ [2,4] a b (w.heap.size+1) 2 w1 (n22 hW) (by simp)).mono ?_
  rintro e w2 ⟨rfl,hb2⟩
  have HB2:=yW (ab hb hb2)
  clear hW hb hb2
  go_wp2_with fail
  go_ret
  exact ⟨ac (rfl),HB2.out⟩
 ·go_enter Tryz.func279,Tryz.ntmps279
  go_wp2_with fail
  generalize hW:World.alloc _ _=w1
  obtain ⟨hb,hz⟩:=al2 hW
  refine (aZ [2,4] a b (w.heap.size+1) 2 w1 (n22 hW) (by simp)).mono ?_
  rintro e w2 ⟨rfl,hb2⟩
  have HB2:=yW (ab hb hb2)
  clear hW hb hb2
  go_wp2_with fail
  go_ret
  exact ⟨ac (rfl),HB2.out⟩
 ·have h3:(a==b)=false∨(a==b)=true∧decide (a≥2)=false∨(a==b)=true∧decide (a≥2)=true∧decide (a≤7)=false∨(a==b)=true∧decide (a≥2)=true∧decide (a≤7)=true:=by cases (a==b)<;>cases decide (a≥2)<;>cases decide (a≤7)<;>simp
  rcases h3 with h1 | ⟨h1,h2⟩ | ⟨h1,h2,h3⟩ | ⟨h1,h2,h3⟩
  all_goals
   have H1:=yW h1
   go_enter Tryz.func279,Tryz.ntmps279
   go_wp2_with fail
   go_ret
   exact ⟨ac (by simp only [beq_iff_eq,beq_eq_false_iff_ne,decide_eq_true_eq,decide_eq_false_iff_not] at *;simp [aE];try omega),(za _ _).alloc (yY _) _⟩
 ·have h3:(a==b)=false∨(a==b)=true∧decide (a≥2)=false∨(a==b)=true∧decide (a≥2)=true∧decide (a≤7)=false∨(a==b)=true∧decide (a≥2)=true∧decide (a≤7)=true:=by cases (a==b)<;>cases decide (a≥2)<;>cases decide (a≤7)<;>simp
  rcases h3 with h1 | ⟨h1,h2⟩ | ⟨h1,h2,h3⟩ | ⟨h1,h2,h3⟩
  all_goals
   have H1:=yW h1
   go_enter Tryz.func279,Tryz.ntmps279
   go_wp2_with fail
   go_ret
   exact ⟨ac (by simp only [beq_iff_eq,beq_eq_false_iff_ne,decide_eq_true_eq,decide_eq_false_iff_not] at *;simp [aE];try omega),(za _ _).alloc (yY _) _⟩
 ·go_enter Tryz.func279,Tryz.ntmps279
  go_wp2_with fail
  generalize hW:World.alloc _ _=w1
  obtain ⟨hb,hz⟩:=al2 hW
  refine (aZ [2,3] a b (w.heap.size+1) 2 w1 (n22 hW) (by simp)).mono ?_
  rintro e w2 ⟨rfl,hb2⟩
  have HB2:=yW (ab hb hb2)
  clear hW hb hb2
  go_wp2_with fail
  go_ret
  exact ⟨ac (rfl),HB2.out⟩
 ·go_enter Tryz.func279,Tryz.ntmps279
  go_wp2_with fail
  generalize hW:World.alloc _ _=w1
  obtain ⟨hb,hz⟩:=al2 hW
  refine (aZ [2] a b (w.heap.size+1) 1 w1 (n22 hW) (by simp)).mono ?_
  rintro e w2 ⟨rfl,hb2⟩
  have HB2:=yW (ab hb hb2)
  clear hW hb hb2
  go_wp2_with fail
  go_ret
  exact ⟨ac (rfl),HB2.out⟩
 ·go_enter Tryz.func279,Tryz.ntmps279
  go_wp2_with fail
  generalize hW:World.alloc _ _=w1
  obtain ⟨hb,hz⟩:=al2 hW
  refine (aZ [2] a b (w.heap.size+1) 1 w1 (n22 hW) (by simp)).mono ?_
  rintro e w2 ⟨rfl,hb2⟩
  have HB2:=yW (ab hb hb2)
  clear hW hb hb2
  go_wp2_with fail
  go_ret
  exact ⟨ac (rfl),HB2.out⟩
 ·go_enter Tryz.func279,Tryz.ntmps279
  go_wp2_with fail
  generalize hW:World.alloc _ _=w1
  obtain ⟨hb,hz⟩:=al2 hW
  refine (aZ [2] a b (w.heap.size+1) 1 w1 (n22 hW) (by simp)).mono ?_
  rintro e w2 ⟨rfl,hb2⟩
  have HB2:=yW (ab hb hb2)
  clear hW hb hb2
  go_wp2_with fail
  go_ret
  exact ⟨ac (rfl),HB2.out⟩
 ·go_enter Tryz.func279,Tryz.ntmps279
  go_wp2_with fail
  all_goals first
   | (go_ret
      exact ⟨ac (by simp [aE];try omega),(za _ _).alloc (yY _) _⟩)
   | (generalize hW:World.alloc _ _=w1
      obtain ⟨hb,hz⟩:=al2 hW
      refine (aZ [3] _ b (w.heap.size+1) 1 w1 (n22 hW) (by simp)).mono ?_
      rintro e w2 ⟨rfl,hb2⟩
      have HB2:=yW (ab hb hb2)
      clear hW hb hb2
      go_wp2_with fail
      go_ret
      refine ⟨ac ?_,HB2.out⟩
      have hc11:=c11 (a:=a) (b:=b) (by omega)
      first
       | exact hc11
       | (have ha:a=7:=by assumption
          exact (congrArg (fun x=>dH [3] x b) ha.symm).trans hc11)
       | (have ha:a=7:=by assumption
          have hb7:¬b≤7:=by omega
          rw [decide_eq_false hb7,Bool.false_or]
          exact (congrArg (fun x=>dH [3] x b) ha.symm).trans hc11))
 ·go_enter Tryz.func279,Tryz.ntmps279
  go_wp2_with fail
  generalize hW:World.alloc _ _=w1
  obtain ⟨hb,hz⟩:=al2 hW
  refine (aZ [3,5] a b (w.heap.size+1) 2 w1 (n22 hW) (by simp)).mono ?_
  rintro e w2 ⟨rfl,hb2⟩
  have HB2:=yW (ab hb hb2)
  clear hW hb hb2
  go_wp2_with fail
  go_ret
  exact ⟨ac (rfl),HB2.out⟩
 ·go_enter Tryz.func279,Tryz.ntmps279
  go_wp2_with fail
  generalize hW:World.alloc _ _=w1
  obtain ⟨hb,hz⟩:=al2 hW
  refine (aZ [3,5] a b (w.heap.size+1) 2 w1 (n22 hW) (by simp)).mono ?_
  rintro e w2 ⟨rfl,hb2⟩
  have HB2:=yW (ab hb hb2)
  clear hW hb hb2
  go_wp2_with fail
  go_ret
  exact ⟨ac (rfl),HB2.out⟩
 ·go_enter Tryz.func279,Tryz.ntmps279
  go_wp2_with fail
  generalize hW:World.alloc _ _=w1
  obtain ⟨hb,hz⟩:=al2 hW
  refine (aZ [3] a b (w.heap.size+1) 1 w1 (n22 hW) (by simp)).mono ?_
  rintro e w2 ⟨rfl,hb2⟩
  have HB2:=yW (ab hb hb2)
  clear hW hb hb2
  go_wp2_with fail
  go_ret
  exact ⟨ac (rfl),HB2.out⟩
 ·go_enter Tryz.func279,Tryz.ntmps279
  go_wp2_with fail
  generalize hW:World.alloc _ _=w1
  obtain ⟨hb,hz⟩:=al2 hW
  refine (aZ [7] a b (w.heap.size+1) 1 w1 (n22 hW) (by simp)).mono ?_
  rintro e w2 ⟨rfl,hb2⟩
  have HB2:=yW (ab hb hb2)
  clear hW hb hb2
  go_wp2_with fail
  go_ret
  exact ⟨ac (rfl),HB2.out⟩
 ·go_enter Tryz.func279,Tryz.ntmps279
  go_wp2_with fail
  generalize hW:World.alloc _ _=w1
  obtain ⟨hb,hz⟩:=al2 hW
  refine (aZ [7] a b (w.heap.size+1) 1 w1 (n22 hW) (by simp)).mono ?_
  rintro e w2 ⟨rfl,hb2⟩
  have HB2:=yW (ab hb hb2)
  clear hW hb hb2
  go_wp2_with fail
  go_ret
  exact ⟨ac (rfl),HB2.out⟩
 ·go_enter Tryz.func279,Tryz.ntmps279
  go_wp2_with fail
  generalize hW:World.alloc _ _=w1
  obtain ⟨hb,hz⟩:=al2 hW
  refine (aZ [2] a b (w.heap.size+1) 1 w1 (n22 hW) (by simp)).mono ?_
  rintro e w2 ⟨rfl,hb2⟩
  have HB2:=yW (ab hb hb2)
  clear hW hb hb2
  go_wp2_with fail
  go_ret
  exact ⟨ac (rfl),HB2.out⟩
 ·go_enter Tryz.func279,Tryz.ntmps279
  go_wp2_with fail
  generalize hW:World.alloc _ _=w1
  obtain ⟨hb,hz⟩:=al2 hW
  refine (aZ [2] a b (w.heap.size+1) 1 w1 (n22 hW) (by simp)).mono ?_
  rintro e w2 ⟨rfl,hb2⟩
  have HB2:=yW (ab hb hb2)
  clear hW hb hb2
  go_wp2_with fail
  go_ret
  exact ⟨ac (rfl),HB2.out⟩
 ·go_enter Tryz.func279,Tryz.ntmps279
  go_wp2_with fail
  generalize hW:World.alloc _ _=w1
  obtain ⟨hb,hz⟩:=al2 hW
  refine (aZ [2] a b (w.heap.size+1) 1 w1 (n22 hW) (by simp)).mono ?_
  rintro e w2 ⟨rfl,hb2⟩
  have HB2:=yW (ab hb hb2)
  clear hW hb hb2
  go_wp2_with fail
  go_ret
  exact ⟨ac (rfl),HB2.out⟩
end Go.Proofs.YtdphibjibnffeaaGreat
