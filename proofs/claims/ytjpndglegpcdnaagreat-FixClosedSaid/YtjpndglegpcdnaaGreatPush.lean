/- expr.stack.push. -/
import Derived.Test.YtjpndglegpcdnaaGreatKnown
import Derived.Test.YtjpndglegpcdnaaGreatStk
import Derived.Test.YtjpndglegpcdnaaGreatJoLaw
import Derived.Test.YtjpndglegpcdnaaGreatData
import Derived.Deep.RegionLaw
set_option linter.unusedVariables false
set_option linter.unusedSimpArgs false
set_option maxRecDepth 100000
set_option maxHeartbeats 8000000
namespace Go.Proofs.YtjpndglegpcdnaaGreat
open Go.ChangeShapes Go.WideShapes Go.ChangeAt Go.RowKit
def kc (t:Tm):Bool:=decide (t.kind=0)&&decide (t.n=0)&&decide (t.s=ByteArray.empty)&&decide (t.l=[])
def dK (o:OpD):Bool:=decide (o.kind=4)||decide (o.kind=5)
def aH (o:OpD):Int:=if o.kind=1 then 0 else if o.kind=3 then 2 else 1
def dM (o:OpD):Bool:=
 if o.kind=1 then decide (o.code=0)&&decide (o.skip=0)&&fD o.term
 else kc o.term &&
  (if o.kind=2 then decide (o.skip=0)&&decide (1≤o.code)&&decide (o.code≤3)
   else if o.kind=3 then decide (o.skip=0)&&decide (1≤o.code)&&decide (o.code≤19)
   else dK o&&decide (o.code=0)&&decide (1≤o.skip))
theorem vz {d B:Nat} {t:Tm} {vs:List Value} {w:World} (ht:RTm w B d t vs) :
 Calls Tryz.prog 183 #[.agg vs.toArray] w fun e w'=>e=.returned (.bool (kc t))∧Below w.heap.size w w':=by
 obtain ⟨A,c,rfl,hc1,hc2,hs,_,_,hl⟩:=ht.cells
 obtain ⟨kind,n,s,l⟩:=t
 dsimp only at hc1 hc2 hs hl
 have HB:=AE (fun o:Obj=>(AI w.heap.size w).alloc (AG _) o)
 clear ht hl
 go_enter Tryz.func183,Tryz.ntmps183
 go_wp2_with fail
 all_goals go_ret
 all_goals refine ⟨ac ?_,HB.out _⟩
 all_goals
  try simp only [dE,bf,beq_eq_false_iff_ne] at *
  rw [Bool.eq_iff_iff]
  simp [kc,bf, *]
theorem OpR.cells {d B:Nat} {o:OpD} {vs:List Value} {w:World} (h:(OpR d).rd w B o vs) :
 ∃A c,vs=[.int .i64 o.kind,.int .i64 o.term.kind,.int .i64 o.term.n,.string o.term.s,.slice A o.term.l.length c,.int .i64 o.code,.int .i64 o.skip]∧I64 o.kind∧I64 o.code∧I64 o.skip ∧
  RTm w B d o.term [.int .i64 o.term.kind,.int .i64 o.term.n,.string o.term.s,.slice A o.term.l.length c]:=by
 obtain ⟨ts,rfl,h1,h2,h3,h⟩:=h
 have h':=h
 obtain ⟨A,c,rfl,_⟩:=RTm.cells h'
 exact ⟨A,c,rfl,h1,h2,h3,h⟩
theorem sv {d B:Nat} {o:OpD} {vs:List Value} {w:World} (ho:(OpR d).rd w B o vs) :
 Calls Tryz.prog 165 #[.agg vs.toArray] w fun e w'=>e=.returned (.bool (dK o))∧Below w.heap.size w w':=by
 obtain ⟨A,c,rfl,_⟩:=OpR.cells ho
 have HB:=AE (fun o:Obj=>(AI w.heap.size w).alloc (AG _) o)
 clear ho
 go_enter Tryz.func165,Tryz.ntmps165
 go_wp2_with fail
 all_goals go_ret
 all_goals refine ⟨ac ?_,HB.out _⟩
 all_goals
  rw [Bool.eq_iff_iff]
  simp [dK, *]
theorem pL {d B:Nat} {o:OpD} {vs:List Value} {w:World} (ho:(OpR d).rd w B o vs) :
 Calls Tryz.prog 164 #[.agg vs.toArray] w fun e w'=>e=.returned (.int .i64 (aH o))∧Below w.heap.size w w':=by
 obtain ⟨A,c,rfl,_⟩:=OpR.cells ho
 have HB:=AE (fun o:Obj=>(AI w.heap.size w).alloc (AG _) o)
 clear ho
 go_enter Tryz.func164,Tryz.ntmps164
 go_wp2_with fail
 all_goals go_ret
 all_goals refine ⟨av ?_,HB.out _⟩
 all_goals
  simp only [beq_iff_eq,beq_eq_false_iff_ne] at *
  simp [aH, *]
theorem uJ {d B:Nat} {o:OpD} {vs:List Value} {w:World} (ho:(OpR d).rd w B o vs) (hB:B≤w.heap.size) :
 Calls Tryz.prog 163 #[.agg vs.toArray] w fun e w'=>e=.returned (.bool (dM o))∧Below w.heap.size w w':=by
 have ho0:=ho
 obtain ⟨A,c,rfl,_,_,_,ht⟩:=OpR.cells ho
 have HB:=AE (fun o:Obj=>(AI w.heap.size w).alloc (AG _) o)
 have HT:=AE ht
 have HO:=AE ho0
 clear ho ho0 ht
 have hcases:(o.kind==1)=true∨((o.kind==1)=false∧kc o.term=false)∨((o.kind==1)=false∧kc o.term=true∧(o.kind==2)=true)∨((o.kind==1)=false∧kc o.term=true∧(o.kind==2)=false∧(o.kind==3)=true)∨((o.kind==1)=false∧kc o.term=true∧(o.kind==2)=false∧(o.kind==3)=false):=by
  cases (o.kind==1)<;>cases kc o.term<;>cases (o.kind==2)<;>cases (o.kind==3)<;>simp
 rcases hcases with h1 | ⟨h1,h2⟩ | ⟨h1,h2,h3⟩ | ⟨h1,h2,h3,h4⟩ | ⟨h1,h2,h3,h4⟩
 all_goals
  go_enter Tryz.func163,Tryz.ntmps163
  go_wp2_with (first
   | (go_at_call 68;refine (wL (vs:=[_,_,_,_]) (RTm.below (HB.out _) hB HT.out) (AF hB (HB.out _).size)).mono ?_;rintro e w1 ⟨rfl,hb1⟩;have HB1:=AE hb1;clear hb1)
   | (go_at_call 183;refine (vz (vs:=[_,_,_,_]) (RTm.below (HB.out _) hB HT.out)).mono ?_;rintro e w1 ⟨rfl,hb1⟩;have hc1:=jy hb1;have hz1:w.heap.size<w1.heap.size:=(by have:=hb1.size;simp at this;omega);have HB1:=AE hb1;clear hb1)
   | (go_at_call 165;refine (sv (d:=d) (B:=B) (vs:=[_,_,_,_,_,_,_]) ((OpR d).keep ((HB.out _).trans (HB1.out.mono (HB.out _).size)) hB HO.out)).mono ?_;rintro e w2 ⟨rfl,hb2⟩;have hc2:=jy hb2;have hz2:w.heap.size<w2.heap.size:=(by have:=hb2.size;omega);have HB2:=AE hb2;clear hb2))
  all_goals go_ret
  all_goals first
   | refine ⟨ac ?_,HB.out _⟩
   | refine ⟨ac ?_,(HB.out _).trans (HB1.out.mono (HB.out _).size)⟩
   | refine ⟨ac ?_,((HB.out _).trans (HB1.out.mono (HB.out _).size)).trans (HB2.out.mono (by have:=(HB.out (.cells #[.int .i64 o.kind,.int .i64 o.term.kind,.int .i64 o.term.n,.string o.term.s,.slice A o.term.l.length c,.int .i64 o.code,.int .i64 o.skip] 104)).size;have:=HB1.out.size;omega))⟩
  all_goals
   clear HO HT HB
   try clear HB1
   try clear hc1
   try simp only [beq_iff_eq,beq_eq_false_iff_ne] at *
   rw [Bool.eq_iff_iff]
   simp [dM, *]
   try omega
def kq:Nat→Int→List OpD→Bool
 | 0,_,_=>false
 | _+1,t,[]=>decide (t=1)
 | n+1,t,o::r=>
   dM o&&decide (aH o≤t) &&
    (if dK o then decide (o.skip≤r.length)&&kq n 0 (r.take o.skip.toNat)&&kq n (t+(1-aH o)) (r.drop o.skip.toNat)
     else kq n (t+(1-aH o)) r)
theorem gB:∀(n m:Nat) (t:Int) (l:List OpD),l.length<n→l.length<m→kq n t l=kq m t l
 | 0,_,_,_,h,_=>absurd h (by omega)
 | _,0,_,_,_,h=>absurd h (by omega)
 | n+1,m+1,t,[],_,_=>rfl
 | n+1,m+1,t,o::r,h,k=>by
   simp only [AV] at h k
   have e1:=gB n m 0 (r.take o.skip.toNat) (by rw [AW];omega) (by rw [AW];omega)
   have e2:=gB n m (t+(1-aH o)) (r.drop o.skip.toNat) (by rw [List.length_drop];omega) (by rw [List.length_drop];omega)
   have e3:=gB n m (t+(1-aH o)) r (by omega) (by omega)
   simp only [kq,e1,e2,e3]
def bz (t:Int) (l:List OpD):Bool:=kq (l.length+1) t l
theorem jS (t:Int):bz t []=decide (t=1):=rfl
theorem ew (t:Int) (o:OpD) (r:List OpD):bz t (o::r)=(dM o&&decide (aH o≤t) &&
 (if dK o then decide (o.skip≤r.length)&&bz 0 (r.take o.skip.toNat)&&bz (t+(1-aH o)) (r.drop o.skip.toNat)
  else bz (t+(1-aH o)) r)):=by
 unfold bz
 rw [AV,kq]
 rw [gB (r.length+1) ((r.take o.skip.toNat).length+1) 0 (r.take o.skip.toNat) (by rw [AW];omega) (by omega)]
 rw [gB (r.length+1) ((r.drop o.skip.toNat).length+1) _ (r.drop o.skip.toNat) (by rw [List.length_drop];omega) (by omega)]
theorem rq (o:OpD):aH o=0∨aH o=1∨aH o=2:=by
 unfold aH;split
 ·simp
 ·split<;>simp
theorem RL.cut {α:Type} {R:Reader α} {w:World} {B:Nat} {xs:List α} {b off:Nat} (h:RL R w B xs (some ⟨b,off,none⟩)) (i n:Nat) (hin:i+n≤xs.length):RL R w B ((xs.drop i).take n) (some ⟨b,off+i*R.k,none⟩):=by
 intro h0
 have hlen:((xs.drop i).take n).length=n:=by simp;omega
 rw [hlen] at h0 ⊢
 obtain ⟨b',off',e,hb,hc⟩:=h (by omega)
 simp only [AP,Addr.mk.injEq,and_true] at e
 obtain ⟨rfl,rfl⟩:=e
 refine ⟨b,off+i*R.k,rfl,hb,fun j hj=>?_⟩
 obtain ⟨vs,hl,⟨x,hx,hr⟩,hv⟩:=hc (i+j) (by omega)
 refine ⟨vs,hl,⟨x,?_,hr⟩,fun m v hm=>?_⟩
 ·rw [List.getElem?_take,if_pos hj,List.getElem?_drop];exact hx
 ·have:=hv m v hm
  rw [Nat.add_mul] at this
  rw [show off+i*R.k+j*R.k+m=off+(i*R.k+j*R.k)+m by omega]
  exact this
theorem xL (d N:Nat):∀(l:List OpD) (A:Option Addr) (c B:Nat) (w:World),l.length≤N→RL (OpR d) w B l A→B≤w.heap.size→l.length≤c→(l.length*56≤140737488351232∧c≤9223372036854775807) →
 Calls Tryz.prog 143 #[.slice A l.length c] w fun e w'=>e=.returned (.bool (bz 0 l))∧Below w.heap.size w w':=by
 induction N with
 | zero=>
   intro l A c B w hN hl hB hc hn
   obtain rfl:l=[]:=List.eq_nil_of_length_eq_zero (by omega)
   show Calls _ _ #[.slice A 0 c] _ _
   go_enter Tryz.func143,Tryz.ntmps143
   go_wp2_with fail
   go_loopw [3,4] (fun t i wr=>i=.int .i64 0∧t=.int .i64 0∧wr=w) (fun _ _ _=>0)
   case atStart=>exact ⟨rfl,rfl,rfl⟩
   case round=>
    obtain ⟨rfl,rfl,rfl⟩:=hrel
    go_wp2_with fail
    go_ret
    exact ⟨rfl,AI _ _⟩
 | succ N ih=>
   intro l A c B w hN hl hB hc hn
   have HI:=AE ih
   clear ih
   go_enter Tryz.func143,Tryz.ntmps143
   go_wp2_with fail
   go_loopw [3,4] (fun t i wr=>∃(k:Nat) (n:Int),k≤l.length∧i=.int .i64 k∧t=.int .i64 n∧0≤n∧n≤k∧Below w.heap.size w wr∧bz 0 l=bz n (l.drop k)) (fun _ i _=>l.length-(intOf i).toNat)
   case atStart=>exact ⟨0,0,AH _,rfl,rfl,by omega,by omega,AI _ _,rfl⟩
   case round=>
    obtain ⟨k,n,hk,rfl,rfl,hn0,hnk,hbw,heq⟩:=hrel
    have HE:=AE heq
    clear heq
    by_cases hlt:k<l.length
    ·obtain ⟨b,off,rfl,hb⟩:=hl.base hbw hB (by omega)
     obtain ⟨o,vs,hx,hlen,hcell,hr⟩:=hl.at_ hbw hB hlt
     have hr0:=hr
     obtain ⟨Ao,co,rfl,hk1,hk2,hk3,_⟩:=OpR.cells hr
     have c0:wr.cell? ⟨b,off+k*7,none⟩=some (.int .i64 o.kind):=hcell 0 _ rfl
     have c1:wr.cell? ⟨b,off+k*7+1,none⟩=some (.int .i64 o.term.kind):=hcell 1 _ rfl
     have c2:wr.cell? ⟨b,off+k*7+2,none⟩=some (.int .i64 o.term.n):=hcell 2 _ rfl
     have c3:wr.cell? ⟨b,off+k*7+3,none⟩=some (.string o.term.s):=hcell 3 _ rfl
     have c4:wr.cell? ⟨b,off+k*7+4,none⟩=some (.slice Ao o.term.l.length co):=hcell 4 _ rfl
     have c5:wr.cell? ⟨b,off+k*7+5,none⟩=some (.int .i64 o.code):=hcell 5 _ rfl
     have c6:wr.cell? ⟨b,off+k*7+6,none⟩=some (.int .i64 o.skip):=hcell 6 _ rfl
     have hdrop:l.drop k=o::l.drop (k+1):=by
      obtain ⟨h1,h2⟩:=List.getElem?_eq_some_iff.1 hx
      rw [←h2];exact List.drop_eq_getElem_cons h1
     have HE2:Hid (bz 0 l=(dM o&&decide (aH o≤n) &&
      (if dK o then decide (o.skip≤(l.drop (k+1)).length)&&bz 0 ((l.drop (k+1)).take o.skip.toNat)&&bz (n+(1-aH o)) ((l.drop (k+1)).drop o.skip.toNat)
       else bz (n+(1-aH o)) (l.drop (k+1))))):=by
      rw [←ew,←hdrop];exact HE.out
     have HR:=AE hr0
     have HBo:=AE (fun o:Obj=>hbw.alloc hbw.size o)
     have HBr:=AE (fun o:Obj=>(AI wr.heap.size wr).alloc (AG _) o)
     have hszr:=hbw.size
     have hneeds:=rq o
     clear hcell hlen hx hr hr0 hdrop HE
     go_wp2_with fail
     refine (uJ (d:=d) (B:=B) (o:=o) (vs:=[_,_,_,_,_,_,_]) ((OpR d).keep (HBr.out _) (by omega) HR.out) (by simp;omega)).mono ?_
     rintro e w1 ⟨rfl,hb1⟩
     have hc1:=jy hb1
     have hz1:wr.heap.size<w1.heap.size:=(by have:=hb1.size;simp at this;omega)
     have HB1:=AE ((HBr.out _).trans (hb1.mono (HBr.out _).size))
     clear hb1
     by_cases ha:dM o=true
     ·go_wp2_with fail
      refine (pL (d:=d) (B:=B) (o:=o) (vs:=[_,_,_,_,_,_,_]) ((OpR d).keep HB1.out (by omega) HR.out)).mono ?_
      rintro e w2 ⟨rfl,hb2⟩
      have hc2:=jy hb2
      have hz2:wr.heap.size<w2.heap.size:=(by have:=hb2.size;omega)
      have HB2:=AE (HB1.out.trans (hb2.mono HB1.out.size))
      clear hb2
      by_cases hnd:n<aH o
      ·go_wp2_with fail
       go_ret
       exact ⟨ac (by rw [HE2.out,show decide (aH o≤n)=false by simpa using hnd];simp),hbw.trans (HB2.out.mono hszr)⟩
      ·have hnd':decide (n<aH o)=false:=by simpa using hnd
       have hle:aH o≤n:=by omega
       go_wp2_with fail
       refine (pL (d:=d) (B:=B) (o:=o) (vs:=[_,_,_,_,_,_,_]) ((OpR d).keep HB2.out (by omega) HR.out)).mono ?_
       rintro e w3 ⟨rfl,hb3⟩
       have hc3:=jy hb3
       have hz3:wr.heap.size<w3.heap.size:=(by have:=hb3.size;omega)
       have HB3:=AE (HB2.out.trans (hb3.mono HB2.out.size))
       clear hb3
       go_wp2_with fail
       refine (sv (d:=d) (B:=B) (o:=o) (vs:=[_,_,_,_,_,_,_]) ((OpR d).keep HB3.out (by omega) HR.out)).mono ?_
       rintro e w4 ⟨rfl,hb4⟩
       have hc4:=jy hb4
       have hz4:wr.heap.size<w4.heap.size:=(by have:=hb4.size;omega)
       have HB4:=AE (HB3.out.trans (hb4.mono HB3.out.size))
       clear hb4
       by_cases hlz:dK o=true
       ·have HE3:Hid (bz 0 l=(decide (o.skip≤(l.drop (k+1)).length)&&bz 0 ((l.drop (k+1)).take o.skip.toNat)&&bz (n+(1-aH o)) ((l.drop (k+1)).drop o.skip.toNat))):=by
         have:=HE2.out
         rw [ha,hlz,if_pos rfl,show decide (aH o≤n)=true by simpa using hle,Bool.true_and,Bool.true_and] at this
         exact this
        have hsk1:1≤o.skip:=by
         have h1:=ha
         unfold dM dK at h1
         have h2:=hlz
         unfold dK at h2
         simp only [Bool.or_eq_true,AT] at h2
         rw [if_neg (by omega),if_neg (by omega),if_neg (by omega)] at h1
         simp only [AN,AT] at h1
         omega
        clear HE2
        by_cases hsk:o.skip≤(l.length:Int)-k-1
        ·have hsk':decide ((l.length:Int)-k-1<o.skip)=false:=by simpa using hsk
         have hL:((l.drop (k+1)).take o.skip.toNat).length=o.skip.toNat:=by rw [AW,List.length_drop];omega
         have HL:=AE hL
         have hcut:=hl.cut (k+1) o.skip.toNat (by omega)
         have HC:=AE hcut
         clear hL hcut
         go_wp2_with fail
         rw [show ((k:Int)+1+o.skip).toNat-(k+1)=((l.drop (k+1)).take o.skip.toNat).length from by rw [HL.out];omega]
         refine (HI.out ((l.drop (k+1)).take o.skip.toNat) _ (c-(k+1)) B w4 (by rw [HL.out];omega) (HC.out.keep (hbw.trans (HB4.out.mono hszr)) hB) (by omega) (by rw [HL.out];omega) (by rw [HL.out];omega)).mono ?_
         rintro e w5 ⟨rfl,hb5⟩
         have hc5:=jy hb5
         have hz5:wr.heap.size<w5.heap.size:=(by have:=hb5.size;omega)
         have HB5:=AE (HB4.out.trans (hb5.mono HB4.out.size))
         clear hb5
         by_cases hw:bz 0 ((l.drop (k+1)).take o.skip.toNat)=true
         ·go_wp2_with fail
          go_roundw
          case rel=>exact ⟨k+1+o.skip.toNat,n+(1-aH o),by omega,by go_num,rfl,by omega,by omega,hbw.trans (HB5.out.mono hszr),by
           rw [HE3.out,hw,List.drop_drop,show decide (o.skip≤((l.drop (k+1)).length:Int))=true by rw [List.length_drop];simp;omega]
           rfl⟩
          case measure=>simp [intOf];omega
         ·have hw':bz 0 ((l.drop (k+1)).take o.skip.toNat)=false:=by simpa using hw
          go_wp2_with fail
          go_ret
          exact ⟨ac (by rw [HE3.out,hw'];simp),hbw.trans (HB5.out.mono hszr)⟩
        ·have hsk':decide ((l.length:Int)-k-1<o.skip)=true:=by simp;omega
         go_wp2_with fail
         go_ret
         exact ⟨ac (by rw [HE3.out,show decide (o.skip≤((l.drop (k+1)).length:Int))=false by rw [List.length_drop];simp;omega];rfl),hbw.trans (HB4.out.mono hszr)⟩
       ·have hlz':dK o=false:=by simpa using hlz
        go_wp2_with fail
        go_roundw
        case rel=>exact ⟨k+1,n+(1-aH o),by omega,by go_num,rfl,by omega,by omega,hbw.trans (HB4.out.mono hszr),by
         rw [HE2.out,ha,hlz',show decide (aH o≤n)=true by simpa using hle]
         simp⟩
        case measure=>simp [intOf];omega
     ·have ha':dM o=false:=by simpa using ha
      go_wp2_with fail
      go_ret
      exact ⟨ac (by rw [HE2.out,ha'];rfl),hbw.trans (HB1.out.mono hszr)⟩
    ·go_wp2_with fail
     go_ret
     have hz:l.drop k=[]:=List.drop_eq_nil_iff.2 (by omega)
     exact ⟨ac (by rw [HE.out,hz,jS,Bool.eq_iff_iff];simp),hbw⟩
def cK (p q:List UInt8 × Int):Int:=if dh p.1 q.1=0 then cW p.2 q.2 else dh p.1 q.1
theorem oP:Ord3 cK:=Ord3.andThen (kH.by fun p:List UInt8 × Int=>p.1) (gJ.by fun p:List UInt8 × Int=>p.2)
def kOf (f:Fc):List UInt8 × Int:=(bs f.pr.name,(f.pr.terms.length:Int))
theorem iL (f:Fc) (name:ByteArray) (n:Int):dG f name n=cK (kOf f) (bs name,n):=by unfold dG cK kOf;rw [orL2]
theorem vl {a b:Fc} (h:aF a b<0):cK (kOf a) (kOf b)≤0:=by
 unfold aF at h
 unfold cK kOf
 simp only [orL] at h ⊢
 split
 ·rename_i h1
  rw [if_pos h1] at h
  split at h
  ·rename_i h2;omega
  ·omega
 ·rename_i h1
  rw [if_neg h1] at h
  omega
def bV (fs:List Fc) (name:ByteArray) (n:Int):List Fc:=fs.filter (fun f=>decide (dG f name n=0))
def csA (fs:List Fc) (name:ByteArray) (n:Int) (i:Nat):Int:=match fs[i]? with | some x=>dG x name n | none=>0
section
variable {fs:List Fc} {name:ByteArray} {n:Int} {i j:Nat}
theorem iM (h:i<fs.length):csA fs name n i=dG fs[i] name n:=by unfold csA;rw [AO h]
theorem zP (hs:bH fs) (hij:i≤j) (hj:j<fs.length):cK (kOf (fs[i]'(by omega))) (kOf fs[j])≤0:=by
 rcases Nat.lt_or_eq_of_le hij with h1 | rfl
 ·exact vl (List.pairwise_iff_getElem.1 hs i j (by omega) hj h1)
 ·rw [oP.self];exact Int.le_refl _
theorem sd (hs:bH fs) (hij:i≤j) (hj:j<fs.length) (h:csA fs name n j<0):csA fs name n i<0:=by
 rw [iM hj,iL] at h
 rw [iM (by omega),iL]
 exact oP.le_lt (zP hs hij hj) h
theorem csA_up (hs:bH fs) (hij:i≤j) (hj:j<fs.length) (h:0<csA fs name n i):0<csA fs name n j:=by
 rw [iM (by omega),iL] at h
 rw [iM hj,iL]
 have h1:=oP.anti (kOf (fs[i]'(by omega))) (bs name,n)
 have h2:=oP.anti (kOf fs[j]) (bs name,n)
 have h3:=oP.lt_le (x:=(bs name,n)) (by omega) (zP hs hij hj)
 omega
theorem pI {p q:Nat} (hs:bH fs) (hp:p=pT fs.length (csA fs name n)) (hpq:p≤q) (hq:q≤fs.length) (h1:∀i,p≤i→i<q→csA fs name n i=0) (h2:q<fs.length→csA fs name n q≠0):(fs.drop p).take (q-p)=bV fs name n:=by
 have e:fs=fs.take p++((fs.drop p).take (q-p)++fs.drop q):=by
  have h3:fs.drop q=(fs.drop p).drop (q-p):=by rw [List.drop_drop];congr 1;omega
  rw [h3,List.take_append_drop,List.take_append_drop]
 have f1:(fs.take p).filter (fun f=>decide (dG f name n=0))=[]:=by
  rw [List.filter_eq_nil_iff]
  intro a ha
  obtain ⟨i,hi,rfl⟩:=List.getElem_of_mem ha
  rw [AW] at hi
  rw [List.getElem_take]
  have:=lV (n:=fs.length) (cs:=csA fs name n) (k:=i) (by omega)
  rw [iM (by omega)] at this
  simp only [AT];omega
 have f2:((fs.drop p).take (q-p)).filter (fun f=>decide (dG f name n=0))=(fs.drop p).take (q-p):=by
  rw [List.filter_eq_self]
  intro a ha
  obtain ⟨i,hi,rfl⟩:=List.getElem_of_mem ha
  rw [AW,List.length_drop] at hi
  rw [List.getElem_take,List.getElem_drop]
  have:=h1 (p+i) (by omega) (by omega)
  rw [iM (by omega)] at this
  simpa using this
 have f3:(fs.drop q).filter (fun f=>decide (dG f name n=0))=[]:=by
  rw [List.filter_eq_nil_iff]
  intro a ha
  obtain ⟨i,hi,rfl⟩:=List.getElem_of_mem ha
  rw [List.length_drop] at hi
  rw [List.getElem_drop]
  have h3:=h2 (by omega)
  have h4:¬csA fs name n q<0:=by
   intro h5
   have h6:=sd hs hpq (show q<fs.length by omega) h5
   have h7:¬csA fs name n p<0:=by rw [hp];exact wW (by omega)
   exact h7 h6
  have h5:=csA_up hs (Nat.le_add_right q i) (show q+i<fs.length by omega) (by omega:0<csA fs name n q)
  rw [iM (by omega)] at h5
  simp only [AT];omega
 unfold bV
 conv=>rhs;rw [e]
 rw [List.filter_append,List.filter_append,f1,f2,f3,List.nil_append,List.append_nil]
end
theorem FRow.lower {base b0 d c:Nat} {w:World} {xs:List FV} {A:Option Addr} (h:FRow base d w xs A c) (hb:b0≤base):FRow b0 d w xs A c:=
 ⟨h.own.lower hb,fun x hx=>⟨(h.deep x hx).1,(h.deep x hx).2.less fun k _ hm=>hm.imp (fun h=>by omega) id⟩⟩
theorem aq.none_nil {α:Type} {R:Reader α} {e:TypeId} {w:World} {base B n c:Nat} {xs:List α} (h:aq R e w base B (.slice none n c) xs):xs=[]∧c=0:=by
 obtain ⟨cells,how,_⟩:=h
 rcases how.2 with ⟨h1,h2⟩ | ⟨g,cap,cur,hv,_⟩
 ·simp only [AR,true_and] at h1
  exact ⟨List.eq_nil_of_length_eq_zero h2,h1.2⟩
 ·cases hv
theorem aq.some_row {α:Type} {R:Reader α} {e:TypeId} {w:World} {base B n c:Nat} {a:Addr} {xs:List α} (h:aq R e w base B (.slice (some a) n c) xs):∃g,a=⟨g,0,none⟩∧xs.length≤c∧c≤9223372036854775807:=by
 obtain ⟨cells,how,_⟩:=h
 rcases how.2 with ⟨h1,h2⟩ | ⟨g,cap,cur,hv,_,_,k1,k2,_⟩
 ·cases h1
 ·simp only [AR,AP] at hv
  obtain ⟨rfl,_,rfl⟩:=hv
  exact ⟨g,rfl,k1,by unfold maxLen at k2;omega⟩
theorem qj {w:World} (d:Nat):Calls Tryz.prog 40 #[] w fun z w'=>z=.returned (.pointer (some ⟨w.heap.size,0,none⟩))∧StA (w.heap.size+1) d w' w.heap.size [] none 0∧Below w.heap.size w w':=by
 go_enter Tryz.func40,Tryz.ntmps40
 go_wp2_with fail
 generalize hW:World.alloc _ _=w1
 obtain ⟨hb1,hz⟩:=al1 hW
 have HS1:=AE (n11 hW)
 have HB1:=AE hb1
 clear hW hb1
 go_wp2_with fail
 go_ret
 exact ⟨rfl,⟨HS1.out,by omega,by omega,aq.nil _ _ _ _ _,by simp,by simp,List.Pairwise.nil⟩,HB1.out⟩
theorem rN {base d S c:Nat} {xs:List FV} {A:Option Addr} {name:ByteArray} {n:Int} {w:World} (hs:StA base d w S xs A c) (hn:xs.length≤100000) :
 Calls Tryz.prog 14 #[.pointer (some ⟨S,0,none⟩),.string name,.int .i64 n] w fun z w'=>(∃ys A' c',ys.map FV.f=bV (xs.map FV.f) name n∧z=.returned (.slice A' ys.length c')∧FRow w.heap.size d w' ys A' c')∧Below w.heap.size w w':=by
 have HS:=AE hs
 clear hs
 go_enter Tryz.func14,Tryz.ntmps14
 go_upto_region 1 with fail
 generalize hW:World.alloc _ _=w1
 obtain ⟨hb,hz⟩:=al1 hW
 have HP1:=AE (n11 hW)
 have HB1:=AE hb
 have hsz1:=hb.size
 have HS1:=AE (HS.out.later hb)
 clear hW hb
 have HRL:=AE (HS1.out.rl (by omega))
 have hlm:(xs.map FV.f).length=xs.length:=AM _
 have HLM:=AE hlm
 have HOK:Hid (∀f∈xs.map FV.f,FcOk f):=AE (fun f hf=>by obtain ⟨y,hy,rfl⟩:=List.mem_map.1 hf;exact HS.out.ok y hy)
 obtain ⟨p,hp⟩:∃p,p=pT (xs.map FV.f).length (csA (xs.map FV.f) name n):=⟨_,rfl⟩
 have HP:=AE hp
 have hpn:p≤xs.length:=by have:=wX (xs.map FV.f).length (csA (xs.map FV.f) name n);rw [hlm] at this;rw [hp,hlm];exact this
 clear hp hlm
 have k_s:=HS1.out.hd.cell
 have l_s:=HS1.out.hd.lt
 go_upto_region 4 with fail
 go_wp2_with (go_at_call 30;rw [←HLM.out];refine (tj (d:=d) (B:=w1.heap.size) (c:=c) (G:=w.heap.size) (fs:=xs.map FV.f) (name:=name) (n:=n) (A:=A) HRL.out HP1.out HOK.out (by rw [HLM.out];omega) (AG _) (csA (xs.map FV.f) name n) (fun i hi=>iM hi) (fun i j hij hj h=>sd HS.out.sort hij hj h)).mono ?_;rintro z w2 ⟨rfl,hb⟩;rw [←HP.out,HLM.out];have HB2:=AE hb;have hsz2:=hb.size;clear k_s l_s hb)
 have hen:=zJ
 generalize (decide (p<xs.length)&&decide (csA (xs.map FV.f) name n p=0))=bq
 go_loopw [10] (fun i wr=>∃q:Nat,p≤q∧q≤xs.length∧i=.int .i64 q∧Hid (∀i,p≤i→i<q→csA (xs.map FV.f) name n i=0)∧Hid (Below w2.heap.size w2 wr)) (fun i _=>xs.length-(intOf i).toNat)
 case atStart=>exact ⟨p,AG _,hpn,rfl,AE (fun i h1 h2=>absurd h2 (by omega)),AE (AI _ _)⟩
 case round=>
  obtain ⟨q,hpq,hq,rfl,HZ,HWR⟩:=hrel
  have HBr:=AE (aa (aa HB1.out HB2.out) HWR.out)
  have HSr:=AE (HS.out.later HBr.out)
  have HPr:=AE ((HP1.out.later HB2.out).later HWR.out)
  have hszr:=HWR.out.size
  have k_s:=HSr.out.hd.cell
  have l_s:=HSr.out.hd.lt
  by_cases hlt:q<xs.length
  ·obtain ⟨g,c9,e9,h1,h2,h3,h4,h5,h6,_⟩:=HSr.out.row.sh aU (by omega)
   simp only [AR,true_and] at e9
   obtain ⟨rfl,rfl⟩:=e9
   obtain ⟨x,hx⟩:∃x,x=xs[q]:=⟨_,rfl⟩
   have c0:wr.cell? ⟨g,q*3,none⟩=some (.string x.f.pr.name):=by rw [hx];exact h5 q hlt 0 _ rfl
   have c1:wr.cell? ⟨g,q*3+1,none⟩=some (.slice x.a x.f.pr.terms.length x.c):=by rw [hx];exact h5 q hlt 1 _ rfl
   have c2:wr.cell? ⟨g,q*3+2,none⟩=some (.int .u32 x.f.o):=by rw [hx];exact h5 q hlt 2 _ rfl
   have HXR:Hid ((ay (d+1)).rd wr wr.heap.size x.f x.cs):=AE (by rw [hx];exact (HSr.out.deep _ (List.getElem_mem hlt)).here)
   have HXA:Hid (csA (xs.map FV.f) name n q=dG x.f name n):=AE (by rw [iM (by rw [HLM.out];exact hlt),List.getElem_map,hx])
   have hI1:(q:Int)<(xs.length:Int):=by omega
   have hI0:(0:Int)≤(q:Int):=Int.natCast_nonneg _
   clear h5 h6 hx
   go_wp2_with fail
   refine (uP (d:=d) (B:=wr.heap.size) (f:=x.f) (vf:=[_,_,_]) (name:=name) (n:=n) HXR.out HPr.out (AG _)).mono ?_
   rintro z w5 ⟨rfl,hb⟩
   have HB5:=AE (aa HWR.out hb)
   have hsz5:=hb.size
   clear c0 c1 c2 k_s l_s hb
   by_cases hz:dG x.f name n=0
   ·have hz':(dG x.f name n==0)=true:=by simpa using hz
    have HN:=AE hz
    generalize dG x.f name n=r at *
    clear hz
    go_wp2_with fail
    go_roundw
    case rel=>exact ⟨q+1,by omega,by omega,by go_num,AE (fun i h1 h2=>by
     rcases Nat.lt_or_ge i q with h | h
     ·exact HZ.out i h1 h
     ·obtain rfl:i=q:=by omega
      rw [HXA.out];exact HN.out),HB5⟩
    case measure=>simp [intOf];omega
   ·have hz':(dG x.f name n==0)=false:=by simpa using hz
    have HN:Hid (q<(xs.map FV.f).length→csA (xs.map FV.f) name n q≠0):=AE (fun _=>by rw [HXA.out];exact hz)
    generalize dG x.f name n=r at *
    clear hz HXA
    have HS5:=AE (HS.out.later (aa (aa HB1.out HB2.out) HB5.out))
    have HCUT:=AE (pI HS.out.sort HP.out hpq (by rw [HLM.out];exact hq) HZ.out HN.out)
    have HLN:Hid ((((xs.map FV.f).drop p).take (q-p)).length=q-p):=AE (by rw [AW,List.length_drop,HLM.out];omega)
    have k_s:=HS5.out.hd.cell
    have l_s:=HS5.out.hd.lt
    go_upto_region 8 with fail
    have hI2:(p:Int)≤(q:Int):=by omega
    have hI3:(q:Int)≤(c:Int):=by omega
    have hI4:(0:Int)≤(p:Int):=Int.natCast_nonneg _
    go_wp2_with fail
    have HA:=fV (d:=d) (B:=w5.heap.size) (c:=c-p) (fs:=((xs.map FV.f).drop p).take (q-p)) (A:=some ⟨g,p*3,none⟩) (w:=w5) (by have h:=(HS5.out.rl (by omega)).cut p (q-p) (by rw [HLM.out];omega);rwa [show (0+p*(ay (d+1)).k)=p*3 from by show 0+p*3=_;omega] at h) (fun f hf=>HOK.out f (List.mem_of_mem_drop (List.mem_of_mem_take hf))) (by rw [HLN.out];omega) (AG _)
    rw [HLN.out] at HA
    refine HA.mono ?_
    rintro z w6 ⟨⟨ys,A6,c6,hys,rfl,hrow⟩,hb6⟩
    have HROW:=AE hrow
    have HYS:=AE hys
    have HB6:=AE hb6
    have HYL:Hid (ys.length=q-p):=AE (by rw [←AM FV.f,hys,HLN.out])
    clear hrow hys hb6 HA
    go_wp2_with fail
    go_ret
    exact ⟨⟨ys,A6,c6,by rw [HYS.out,HCUT.out],by rw [HYL.out];rfl,HROW.out.lower (aa (aa (aa HB1.out HB2.out) HB5.out) (AI _ _)).size⟩,aa (aa (aa HB1.out HB2.out) HB5.out) HB6.out⟩
  ·have HN:Hid (q<(xs.map FV.f).length→csA (xs.map FV.f) name n q≠0):=AE (fun h=>by rw [HLM.out] at h;omega)
   rcases A with _ | a
   ·obtain ⟨rfl,rfl⟩:=aq.none_nil HSr.out.row
    have hq0:q=0:=by simpa using hq
    have hp0:p=0:=by omega
    subst hq0 hp0
    have HCUT:Hid ([]=bV (([]:List FV).map FV.f) name n):=AE rfl
    clear hpq hq hlt hpn k_s HN HZ HLM hn
    have k_s:∀o:Nat,wr.cell? ⟨S,o,none⟩=(#[.slice none 0 0]:Array Value)[o]?:=HSr.out.hd.cell
    simp only [List.length_nil]
    go_wp2_with fail
    refine (fV (d:=d) (B:=wr.heap.size) (c:=0) (fs:=[]) (A:=none) (w:=wr) (fun h=>absurd h (by simp)) (by simp) (by simp) (AG _)).mono ?_
    rintro z w6 ⟨⟨ys,A6,c6,hys,rfl,hrow⟩,hb6⟩
    have HROW:=AE hrow
    have HYS:=AE hys
    have HB6:=AE hb6
    have HYL:Hid (ys.length=0):=AE (by rw [←AM FV.f,hys];rfl)
    clear hrow hys hb6
    go_wp2_with fail
    go_ret
    exact ⟨⟨ys,A6,c6,by rw [HYS.out,HCUT.out],by rw [HYL.out];rfl,HROW.out.lower HBr.out.size⟩,aa HBr.out HB6.out⟩
   ·obtain ⟨g,rfl,hg3,hg4⟩:=aq.some_row HSr.out.row
    have HB5:=HWR
    have hsz5:=hszr
    clear k_s l_s
    generalize wr=w5 at *
    have HS5:=AE (HS.out.later (aa (aa HB1.out HB2.out) HB5.out))
    have HCUT:=AE (pI HS.out.sort HP.out hpq (by rw [HLM.out];exact hq) HZ.out HN.out)
    have HLN:Hid ((((xs.map FV.f).drop p).take (q-p)).length=q-p):=AE (by rw [AW,List.length_drop,HLM.out];omega)
    have k_s:=HS5.out.hd.cell
    have l_s:=HS5.out.hd.lt
    go_upto_region 8 with fail
    have hI2:(p:Int)≤(q:Int):=by omega
    have hI3:(q:Int)≤(c:Int):=by omega
    have hI4:(0:Int)≤(p:Int):=Int.natCast_nonneg _
    go_wp2_with fail
    ·have HA:=fV (d:=d) (B:=w5.heap.size) (c:=0) (fs:=((xs.map FV.f).drop p).take (q-p)) (A:=some ⟨g,0,none⟩) (w:=w5) (fun h=>by rw [HLN.out] at h;omega) (fun f hf=>HOK.out f (List.mem_of_mem_drop (List.mem_of_mem_take hf))) (by rw [HLN.out];omega) (AG _)
     rw [HLN.out] at HA
     refine HA.mono ?_
     rintro z w6 ⟨⟨ys,A6,c6,hys,rfl,hrow⟩,hb6⟩
     have HROW:=AE hrow
     have HYS:=AE hys
     have HB6:=AE hb6
     have HYL:Hid (ys.length=q-p):=AE (by rw [←AM FV.f,hys,HLN.out])
     clear hrow hys hb6 HA
     go_wp2_with fail
     go_ret
     exact ⟨⟨ys,A6,c6,by rw [HYS.out,HCUT.out],by rw [HYL.out];rfl,HROW.out.lower (aa (aa (aa HB1.out HB2.out) HB5.out) (AI _ _)).size⟩,aa (aa (aa HB1.out HB2.out) HB5.out) HB6.out⟩
    ·have HA:=fV (d:=d) (B:=w5.heap.size) (c:=c-p) (fs:=((xs.map FV.f).drop p).take (q-p)) (A:=some ⟨g,p*3,none⟩) (w:=w5) (by have h:=(HS5.out.rl (by omega)).cut p (q-p) (by rw [HLM.out];omega);rwa [show (0+p*(ay (d+1)).k)=p*3 from by show 0+p*3=_;omega] at h) (fun f hf=>HOK.out f (List.mem_of_mem_drop (List.mem_of_mem_take hf))) (by rw [HLN.out];omega) (AG _)
     rw [HLN.out] at HA
     refine HA.mono ?_
     rintro z w6 ⟨⟨ys,A6,c6,hys,rfl,hrow⟩,hb6⟩
     have HROW:=AE hrow
     have HYS:=AE hys
     have HB6:=AE hb6
     have HYL:Hid (ys.length=q-p):=AE (by rw [←AM FV.f,hys,HLN.out])
     clear hrow hys hb6 HA
     go_wp2_with fail
     go_ret
     exact ⟨⟨ys,A6,c6,by rw [HYS.out,HCUT.out],by rw [HYL.out];rfl,HROW.out.lower (aa (aa (aa HB1.out HB2.out) HB5.out) (AI _ _)).size⟩,aa (aa (aa HB1.out HB2.out) HB5.out) HB6.out⟩
def uC:SV:=⟨⟨0,0,⟨#[]⟩,[]⟩,none,0⟩
theorem StkE.push {S base D c:Nat} {bn bt:Value} {w w':World} {xs:List SV} {x:SV} {next:Int} {A A':Option Addr} {c':Nat} (h:StkE S base D bn bt w xs next A c) (hx:dt D w x) (hap:nB S A x) (hlt:∀a,x.a=some a→base≤a.block∧a.block<w.heap.size)
 (hb:Below 0 w w') (hk:∀b,b<w.heap.size→b≠S→(∀a,A=some a→a.block≠b)→w'.heap[b]? = w.heap[b]?)
 (hd:bS w' S #[bn,bt,.slice A' (xs++[x]).length c',.int .i64 next] 219) (ho:aq SvR 29 w' base 0 (.slice A' (xs++[x]).length c') (xs++[x]))
 (hf:∀b,A'=some b→(∃a,A=some a∧a.block=b.block)∨w.heap.size≤b.block):StkE S base D bn bt w' (xs++[x]) next A' c':=by
 have key:∀y,dt D w y→(∀a,y.a=some a→a.block≠S∧∀b,A=some b→a.block≠b.block)→(∀a,y.a=some a→base≤a.block∧a.block<w.heap.size)→dt D w' y∧∀a,y.a=some a→(base≤a.block∧a.block<w'.heap.size)∧a.block≠S∧∀b,A'=some b→a.block≠b.block:=by
  intro y hy hs hl
  refine ⟨hy.keep hb fun a ha=>hk _ (hl a ha).2 (hs a ha).1 fun b hb2 e=>(hs a ha).2 b hb2 e.symm,fun a ha=>⟨⟨(hl a ha).1,AJ (hl a ha).2 hb.size⟩,(hs a ha).1,fun b hb2 e=>?_⟩⟩
  rcases hf b hb2 with ⟨a2,h2,e2⟩ | h2
  ·exact (hs a ha).2 a2 h2 (e.trans e2.symm)
  ·have:=(hl a ha).2
   omega
 have hall:∀y∈xs++[x],dt D w' y∧∀a,y.a=some a→(base≤a.block∧a.block<w'.heap.size)∧a.block≠S∧∀b,A'=some b→a.block≠b.block:=by
  intro y hy
  rcases List.mem_append.1 hy with h1 | h1
  ·exact key y (h.tms y h1) (h.sep y h1) (h.lt y h1)
  ·rw [List.mem_singleton] at h1
   subst h1
   exact key y hx hap hlt
 exact ⟨hd,ho,fun y hy=>(hall y hy).1,fun y hy a ha=>((hall y hy).2 a ha).2,fun y hy a ha=>((hall y hy).2 a ha).1⟩
structure BelX (B S:Nat) (w w':World):Prop where
 os:w'.os=w.os
 tape:w'.tape=w.tape
 output:w'.output=w.output
 size:w.heap.size≤w'.heap.size
 block:∀k,k<B→k≠S→w'.heap[k]? = w.heap[k]?
section
variable {B S:Nat} {w w' w'':World}
theorem BelX.of (h:Below B w w'):BelX B S w w':=⟨h.os,h.tape,h.output,h.size,fun k hk _=>h.block k hk⟩
theorem BelX.exc (h:Exc S w w') (hb:B≤w.heap.size):BelX B S w w':=⟨h.1.os,h.1.tape,h.1.output,h.1.size,fun k hk hne=>h.2 k (AJ hk hb) hne⟩
theorem BelX.refl (B S:Nat) (w:World):BelX B S w w:=.of (.refl _ _)
theorem BelX.trans (h:BelX B S w w') (k:BelX B S w' w''):BelX B S w w'':=⟨k.os.trans h.os,k.tape.trans h.tape,k.output.trans h.output,AF h.size k.size,fun i hi hne=>(k.block i hi hne).trans (h.block i hi hne)⟩
theorem BelX.setCell (h:BelX B S w w') {p:Addr} (hp:B≤p.block) (v:Value):BelX B S w (w'.setCell p v):=h.trans (.of ((AI B w').setCell hp v))
theorem BelX.setS (h:BelX B S w w') (i:Nat) (v:Value):BelX B S w (w'.setCell ⟨S,i,none⟩ v):=
 have k:=(AI 0 w').setCell (p:=⟨S,i,none⟩) (AH _) v
 h.trans ⟨k.os,k.tape,k.output,k.size,fun b _ hne=>Below.heap_setCell w' ⟨S,i,none⟩ v b hne⟩
theorem BelX.drew (h:BelX B S w w'):BelX B S w w'.drew:=h.trans (.of (AI B w').drew)
theorem BelX.zero (h:BelX B S w w'):Below 0 w w':=⟨h.os,h.tape,h.output,h.size,fun k hk=>absurd hk (Nat.not_lt_zero _)⟩
theorem BelX.mono {B':Nat} (h:BelX B S w w') (hB:B'≤B):BelX B' S w w':=⟨h.os,h.tape,h.output,h.size,fun k hk=>h.block k (by omega)⟩
theorem BelX.low (h:BelX B S w w') (hB:B≤S):Below B w w':=⟨h.os,h.tape,h.output,h.size,fun k hk=>h.block k hk (by omega)⟩
end
theorem sH {S base D c g2 c2:Nat} {bn bt:Value} {w wA w2 wf:World} {xs:List SV} {x:SV} {next:Int} {A:Option Addr} (h:StkE S base D bn bt w xs next A c) (hx:dt D w x) (hap:nB S A x) (hlt:∀a,x.a=some a→base≤a.block∧a.block<w.heap.size) (hb:base≤w.heap.size)
 (hA:Below w.heap.size w wA) (hg:wA.grownBy w2 (Value.slice A xs.length c).ownBlock) (hf:bk wA (.slice A xs.length c) (.slice (some ⟨g2,0,none⟩) (xs.length+1) c2)) (hg2:base≤g2)
 (hfin:∀b,b≠S→b≠g2→wf.heap[b]? = w2.heap[b]?) (hbf:BelX base S w2 wf)
 (hd:bS wf S #[bn,bt,.slice (some ⟨g2,0,none⟩) (xs.length+1) c2,.int .i64 next] 219) (ho:aq SvR 29 wf base 0 (.slice (some ⟨g2,0,none⟩) (xs.length+1) c2) (xs++[x])) :
 BelX base S w wf∧∃A' c',StkE S base D bn bt wf (xs++[x]) next A' c':=by
 have hAb:∀k,(Value.slice A xs.length c).ownBlock=some k→base≤k:=by
  obtain ⟨cells,how,_⟩:=h.own
  exact fun k hk=>(how.lt k hk).1
 have hsz:=hA.size
 have hB2:Below base wA w2:=(AI base wA).grown hg (by omega) hAb
 have hB:BelX base S w wf:=(BelX.of ((hA.mono hb).trans hB2)).trans hbf
 have e1:xs.length+1=(xs++[x]).length:=by simp
 rw [e1] at hd ho
 refine ⟨hB,_,_,h.push hx hap hlt hB.zero (fun b hbl hbS2 hne=>?_) hd ho fun b hb2=>?_⟩
 ·have hnr:some b≠(Value.slice A xs.length c).ownBlock:=by
   rcases A with _ | a
   ·simp [Value.ownBlock]
   ·simp only [Value.ownBlock,ne_eq,AP]
    exact fun e=>hne a rfl e.symm
  have hng:b≠g2:=by
   rcases hf with hf | ⟨k,hk,hk2⟩
   ·intro e
    subst e
    exact hnr hf
   ·simp only [Value.ownBlock,AP] at hk
    omega
  rw [hfin b hbS2 hng,hg.block b (AJ hbl hsz) hnr,hA.block b hbl]
 ·simp only [AP] at hb2
  subst hb2
  rcases hf with hf | ⟨k,hk,hk2⟩
  ·rcases A with _ | a
   ·simp [Value.ownBlock] at hf
   ·simp only [Value.ownBlock,AP] at hf
    exact .inl ⟨a,rfl,hf.symm⟩
  ·simp only [Value.ownBlock,AP] at hk
   subst hk
   exact .inr (by show w.heap.size≤g2;omega)
theorem wt {w2:World} {base g2 c2:Nat} {xs:List SV} (ho:aq SvR 29 w2 base 0 (.slice (some ⟨g2,0,none⟩) (xs.length+1) c2) (xs++[uC])) (x:SV):aq SvR 29 ((((w2.setCell ⟨g2,xs.length*4,none⟩ (.int .i64 x.t.kind)).setCell ⟨g2,xs.length*4+1,none⟩ (.int .i64 x.t.n)).setCell ⟨g2,xs.length*4+2,none⟩ (.string x.t.s)).setCell ⟨g2,xs.length*4+3,none⟩ (.slice x.a x.t.l.length x.c)) base 0 (.slice (some ⟨g2,0,none⟩) (xs.length+1) c2) (xs++[x]):=by
 obtain ⟨g3,c3,e3,_,_,_,_,_,_,hp3⟩:=ho.last
 simp only [AR,AP,Addr.mk.injEq,and_true,true_and] at e3
 obtain ⟨rfl,rfl⟩:=e3
 exact hp3 x
theorem xc {S base D c g2 c2:Nat} {bn bt:Value} {w wA w2:World} {xs:List SV} {x:SV} {next:Int} {A:Option Addr} (h:StkE S base D bn bt w xs next A c) (hx:dt D w x) (hap:nB S A x) (hlt:∀a,x.a=some a→base≤a.block∧a.block<w.heap.size) (hb:base≤w.heap.size)
 (hA:Below w.heap.size w wA) (ho:aq SvR 29 w2 base 0 (.slice (some ⟨g2,0,none⟩) (xs.length+1) c2) (xs++[uC])) (hg:wA.grownBy w2 (Value.slice A xs.length c).ownBlock) (hf:bk wA (.slice A xs.length c) (.slice (some ⟨g2,0,none⟩) (xs.length+1) c2)) (hg2:base≤g2) (hne:S≠g2) (hd:bS w2 S #[bn,bt,.slice A xs.length c,.int .i64 next] 219) :
 BelX base S w (((((w2.setCell ⟨g2,xs.length*4,none⟩ (.int .i64 x.t.kind)).setCell ⟨g2,xs.length*4+1,none⟩ (.int .i64 x.t.n)).setCell ⟨g2,xs.length*4+2,none⟩ (.string x.t.s)).setCell ⟨g2,xs.length*4+3,none⟩ (.slice x.a x.t.l.length x.c)).setCell ⟨S,2,none⟩ (.slice (some ⟨g2,0,none⟩) (xs.length+1) c2))∧∃A' c',StkE S base D bn bt (((((w2.setCell ⟨g2,xs.length*4,none⟩ (.int .i64 x.t.kind)).setCell ⟨g2,xs.length*4+1,none⟩ (.int .i64 x.t.n)).setCell ⟨g2,xs.length*4+2,none⟩ (.string x.t.s)).setCell ⟨g2,xs.length*4+3,none⟩ (.slice x.a x.t.l.length x.c)).setCell ⟨S,2,none⟩ (.slice (some ⟨g2,0,none⟩) (xs.length+1) c2)) (xs++[x]) next A' c':=by
 have d1:=hd.far hne (xs.length*4) (.int .i64 x.t.kind)
 have d2:=d1.far hne (xs.length*4+1) (.int .i64 x.t.n)
 have d3:=d2.far hne (xs.length*4+2) (.string x.t.s)
 have d4:=d3.far hne (xs.length*4+3) (.slice x.a x.t.l.length x.c)
 have b1:=(AI base w2).setCell (p:=⟨g2,xs.length*4,none⟩) hg2 (.int .i64 x.t.kind)
 have b2:=b1.setCell (p:=⟨g2,xs.length*4+1,none⟩) hg2 (.int .i64 x.t.n)
 have b3:=b2.setCell (p:=⟨g2,xs.length*4+2,none⟩) hg2 (.string x.t.s)
 have b4:=b3.setCell (p:=⟨g2,xs.length*4+3,none⟩) hg2 (.slice x.a x.t.l.length x.c)
 have b5:=(BelX.of (S:=S) b4).setS 2 (.slice (some ⟨g2,0,none⟩) (xs.length+1) c2)
 refine sH h hx hap hlt hb hA hg hf hg2 (fun b h1 h2=>?_) b5 (d4.set_ 2 (.slice (some ⟨g2,0,none⟩) (xs.length+1) c2)) ((wt ho x).farT d4 Aw 2 (.slice (some ⟨g2,0,none⟩) (xs.length+1) c2))
 rw [Below.heap_setCell _ ⟨S,2,none⟩ _ b h1,Below.heap_setCell _ ⟨g2,xs.length*4+3,none⟩ _ b h2,Below.heap_setCell _ ⟨g2,xs.length*4+2,none⟩ _ b h2,Below.heap_setCell _ ⟨g2,xs.length*4+1,none⟩ _ b h2,Below.heap_setCell _ ⟨g2,xs.length*4,none⟩ _ b h2]
theorem xd {S base D c g2 c2:Nat} {bn bt:Value} {w wA w2:World} {xs:List SV} {x:SV} {next:Int} {A:Option Addr} (h:StkE S base D bn bt w xs next A c) (hx:dt D w x) (hap:nB S A x) (hlt:∀a,x.a=some a→base≤a.block∧a.block<w.heap.size) (hb:base≤w.heap.size)
 (hA:Below w.heap.size w wA) (ho:aq SvR 29 w2 base 0 (.slice (some ⟨g2,0,none⟩) (xs.length+1) c2) (xs++[uC])) (hg:wA.grownBy w2 (Value.slice A xs.length c).ownBlock) (hf:bk wA (.slice A xs.length c) (.slice (some ⟨g2,0,none⟩) (xs.length+1) c2)) (hg2:base≤g2) (hne:S≠g2) (hd:bS w2 S #[bn,bt,.slice A xs.length c,.int .i64 next] 219) :
 BelX base S w (((((w2.setCell ⟨S,2,none⟩ (.slice (some ⟨g2,0,none⟩) (xs.length+1) c2)).setCell ⟨g2,xs.length*4,none⟩ (.int .i64 x.t.kind)).setCell ⟨g2,xs.length*4+1,none⟩ (.int .i64 x.t.n)).setCell ⟨g2,xs.length*4+2,none⟩ (.string x.t.s)).setCell ⟨g2,xs.length*4+3,none⟩ (.slice x.a x.t.l.length x.c))∧∃A' c',StkE S base D bn bt (((((w2.setCell ⟨S,2,none⟩ (.slice (some ⟨g2,0,none⟩) (xs.length+1) c2)).setCell ⟨g2,xs.length*4,none⟩ (.int .i64 x.t.kind)).setCell ⟨g2,xs.length*4+1,none⟩ (.int .i64 x.t.n)).setCell ⟨g2,xs.length*4+2,none⟩ (.string x.t.s)).setCell ⟨g2,xs.length*4+3,none⟩ (.slice x.a x.t.l.length x.c)) (xs++[x]) next A' c':=by
 have d0:=hd.set_ 2 (.slice (some ⟨g2,0,none⟩) (xs.length+1) c2)
 have d1:=d0.far hne (xs.length*4) (.int .i64 x.t.kind)
 have d2:=d1.far hne (xs.length*4+1) (.int .i64 x.t.n)
 have d3:=d2.far hne (xs.length*4+2) (.string x.t.s)
 have d4:=d3.far hne (xs.length*4+3) (.slice x.a x.t.l.length x.c)
 have b0:=(BelX.refl base S w2).setS 2 (.slice (some ⟨g2,0,none⟩) (xs.length+1) c2)
 have b1:=b0.setCell (p:=⟨g2,xs.length*4,none⟩) hg2 (.int .i64 x.t.kind)
 have b2:=b1.setCell (p:=⟨g2,xs.length*4+1,none⟩) hg2 (.int .i64 x.t.n)
 have b3:=b2.setCell (p:=⟨g2,xs.length*4+2,none⟩) hg2 (.string x.t.s)
 have b4:=b3.setCell (p:=⟨g2,xs.length*4+3,none⟩) hg2 (.slice x.a x.t.l.length x.c)
 refine sH h hx hap hlt hb hA hg hf hg2 (fun b h1 h2=>?_) b4 d4 (wt (ho.farT hd Aw 2 (.slice (some ⟨g2,0,none⟩) (xs.length+1) c2)) x)
 rw [Below.heap_setCell _ ⟨g2,xs.length*4+3,none⟩ _ b h2,Below.heap_setCell _ ⟨g2,xs.length*4+2,none⟩ _ b h2,Below.heap_setCell _ ⟨g2,xs.length*4+1,none⟩ _ b h2,Below.heap_setCell _ ⟨g2,xs.length*4,none⟩ _ b h2,Below.heap_setCell _ ⟨S,2,none⟩ _ b h1]
theorem push_ok {S base D c:Nat} {bn bt:Value} {w:World} {xs:List SV} {x:SV} {next:Int} {A:Option Addr} (h:StkE S base D bn bt w xs next A c) (hx:dt D w x) (hap:nB S A x) (hlt:∀a,x.a=some a→base≤a.block∧a.block<w.heap.size) (hb:base≤w.heap.size) (hn:xs.length≤100000) :
 Calls Tryz.prog 187 #[.pointer (some ⟨S,0,none⟩),.agg x.cs.toArray,.int .i64 0] w fun e w'=>e=.returned (.int .i64 0)∧BelX base S w w'∧∃A' c',StkE S base D bn bt w' (xs++[x]) next A' c':=by
 obtain ⟨i0,hi0,hz0,hz1,hz2⟩:=info_parts hJ
 have HS:=AE h
 have HX:=AE (And.intro hx (And.intro hap hlt))
 have hSlt:=h.hd.blk.lt
 clear h hx hap hlt
 unfold SV.cs
 go_enter Tryz.func187,Tryz.ntmps187
 go_wp2_with fail
 generalize hW:World.alloc _ _=w1
 obtain ⟨hb1,hz⟩:=al1 hW
 have BX:=AE (show bS w1 w.heap.size #[.int .i64 x.t.kind,.int .i64 x.t.n,.string x.t.s,.slice x.a x.t.l.length x.c] 29 from hW▸heap_alloc_new w _)
 have HS1:=AE (HS.out.later hb1)
 have HB1:=AE hb1
 clear hW hb1
 have s1:w1.drew.cell? ⟨S,2,none⟩=some (.slice A xs.length c):=HS1.out.hd.blk.cell 2
 have s2:w1.drew.cell? ⟨w.heap.size,0,none⟩=some (.int .i64 x.t.kind):=BX.out.blk.cell 0
 have s3:w1.drew.cell? ⟨w.heap.size,1,none⟩=some (.int .i64 x.t.n):=BX.out.blk.cell 1
 have s4:w1.drew.cell? ⟨w.heap.size,2,none⟩=some (.string x.t.s):=BX.out.blk.cell 2
 have s5:w1.drew.cell? ⟨w.heap.size,3,none⟩=some (.slice x.a x.t.l.length x.c):=BX.out.blk.cell 3
 clear s1 s2 s3 s4 s5
 have k_s:=HS1.out.hd.blk.cell
 have k_x:=BX.out.blk.cell
 have hXlt:w.heap.size<w1.heap.size:=by omega
 have hS1:S<w1.heap.size:=by omega
 have hsrc:=(Blk.src (R:=SvR) (B:=0) (x:=uC) (Blk.drew (Blk.new w1 #[.int .i64 0,.int .i64 0,.string ⟨#[]⟩,.slice none 0 0] 29)) rfl)
 rw [hz] at hsrc
 have HN:=AE (And.intro (HS1.out.own.later ((au (w:=w1) (o:=.cells #[.int .i64 0,.int .i64 0,.string ⟨#[]⟩,.slice none 0 0] 29) rfl).drew) (AH _)) hsrc)
 clear hsrc
 have hii:(xs.length:Int)<(xs.length:Int)+1:=by omega
 go_region_law (
  refine cT (R:=SvR) (e:=29) (base:=base) (xs:=xs) (ys:=[uC]) rfl (.tmp 12) (.tmp 15) 24 rfl (bytes:=56) Tryz.underlying24 hi0 hz0 hz1 hz2 rfl (show 0<4 by omega) ck rfl HN.out.1 rfl HN.out.2 rfl (by simp only [AV,List.length_nil];omega) (by omega) (by rw [World.size_drew,World.size_alloc];omega) ?_
  intro v2 w2 hown2 hg2 hf2
  have HO2:Hid (aq SvR 29 w2 base 0 v2 (xs++[uC])∧World.grownBy (w1.alloc (.cells #[.int .i64 0,.int .i64 0,.string ⟨#[]⟩,.slice none 0 0] 29)).drew w2 (Value.slice A xs.length c).ownBlock∧bk (w1.alloc (.cells #[.int .i64 0,.int .i64 0,.string ⟨#[]⟩,.slice none 0 0] 29)).drew (.slice A xs.length c) v2):=AE ⟨hown2,hg2,hf2⟩
  have bd:=((HS1.out.hd.later (au (w:=w1) (o:=.cells #[.int .i64 0,.int .i64 0,.string ⟨#[]⟩,.slice none 0 0] 29) rfl)).drew).grown hg2 (HN.out.1.ne ((HS1.out.hd.later (au (w:=w1) (o:=.cells #[.int .i64 0,.int .i64 0,.string ⟨#[]⟩,.slice none 0 0] 29) rfl)).drew) Aw)
  have hne2:=hown2.ne bd Aw
  have ks2:=bd.blk.cell 2
  have fs2:=bd.blk.free
  have BD:=AE bd
  obtain ⟨g2,c2,rfl,hg2lt,hg2b,hn2,hc2,hcell2,hfr2,hput2⟩:=hown2.last
  simp only [Value.ownBlock,ne_eq,AP] at hne2
  have hne3:S≠g2:=fun e=>hne2 e.symm
  have HP2:=AE hput2
  clear bd
  have e0:w2.cell? ⟨g2,xs.length*4,none⟩=some (.int .i64 0):=hcell2 0 _ rfl
  have e1:w2.cell? ⟨g2,xs.length*4+1,none⟩=some (.int .i64 0):=hcell2 1 _ rfl
  have e2:w2.cell? ⟨g2,xs.length*4+2,none⟩=some (.string ⟨#[]⟩):=hcell2 2 _ rfl
  have e3:w2.cell? ⟨g2,xs.length*4+3,none⟩=some (.slice none 0 0):=hcell2 3 _ rfl
  clear hown2 hg2 hf2 hput2 hcell2)
 all_goals
  go_wp2_with fail
  go_ret
  obtain ⟨hx,hap,hlt⟩:=HX.out
  have hwA:Below w.heap.size w (w1.alloc (.cells #[.int .i64 0,.int .i64 0,.string ⟨#[]⟩,.slice none 0 0] 29)).drew:=(HB1.out.alloc HB1.out.size _).drew
  refine ⟨rfl,?_⟩
  first
   | (with_reducible exact xc HS.out hx hap hlt hb hwA HO2.out.1 HO2.out.2.1 HO2.out.2.2 hg2b hne3 BD.out)
   | (with_reducible exact xd HS.out hx hap hlt hb hwA HO2.out.1 HO2.out.2.1 HO2.out.2.2 hg2b hne3 BD.out)
def zY (S base D:Nat) (bn bt:Value) (w:World) (xs:List SV) (x:SV) (next e:Int):Prop:=
 (e=0∧∃A c,StkE S base D bn bt w (xs++[x]) next A c)∨(e≠0∧∃A c,StkE S base D bn bt w xs next A c)
theorem gt {S base D c:Nat} {bn bt:Value} {w:World} {xs:List SV} {x:SV} {next e0:Int} {A:Option Addr} (h:StkE S base D bn bt w xs next A c) (hx:dt D w x) (hap:nB S A x) (hlt:∀a,x.a=some a→base≤a.block∧a.block<w.heap.size) (hb:base≤w.heap.size) (hn:xs.length≤100000) :
 Calls Tryz.prog 187 #[.pointer (some ⟨S,0,none⟩),.agg x.cs.toArray,.int .i64 e0] w fun e w'=>e=.returned (.int .i64 e0)∧BelX base S w w'∧zY S base D bn bt w' xs x next e0:=by
 by_cases he:e0=0
 ·subst he
  exact (push_ok h hx hap hlt hb hn).mono fun _ _ ⟨h1,h2,h3⟩=>⟨h1,h2,.inl ⟨rfl,h3⟩⟩
 ·have HS:=AE h
  have hq:(e0==0)=false:=by simpa using he
  have HE:=AE he
  clear h hx hap hlt he
  unfold SV.cs
  go_enter Tryz.func187,Tryz.ntmps187
  go_wp2_with fail
  go_ret
  have hb1:=au (w:=w) (o:=.cells #[.int .i64 x.t.kind,.int .i64 x.t.n,.string x.t.s,.slice x.a x.t.l.length x.c] 29) rfl
  exact ⟨rfl,.of (hb1.mono hb),.inr ⟨HE.out,A,c,HS.out.later hb1⟩⟩
end Go.Proofs.YtjpndglegpcdnaaGreat
