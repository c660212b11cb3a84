/- store.New, (*store.Store).Named. -/
import Derived.Test.YtjpndglegpcdnaaGreatKnown
set_option linter.unusedVariables false
set_option linter.unusedSimpArgs false
set_option maxRecDepth 100000
set_option maxHeartbeats 8000000
namespace Go.Proofs.YtjpndglegpcdnaaGreat
open Go.ChangeShapes Go.WideShapes Go.ChangeAt Go.RowKit
def ju (t:Tm):Bool:=decide (t.kind=0)&&decide (t.n=0)&&decide (t.s=ByteArray.empty)&&decide (t.l=[])
def dy (o:OpD):Bool:=decide (o.kind=4)||decide (o.kind=5)
def aD (o:OpD):Int:=if o.kind=1 then 0 else if o.kind=3 then 2 else 1
def dA (o:OpD):Bool:=
 if o.kind=1 then decide (o.code=0)&&decide (o.skip=0)&&kc o.term
 else ju o.term &&
  (if o.kind=2 then decide (o.skip=0)&&decide (1≤o.code)&&decide (o.code≤3)
   else if o.kind=3 then decide (o.skip=0)&&decide (1≤o.code)&&decide (o.code≤19)
   else dy o&&decide (o.code=0)&&decide (1≤o.skip))
theorem tI {d B:Nat} {t:Tm} {vs:List Value} {w:World} (ht:RTm w B d t vs) :
 Calls Tryz.prog 183 #[.agg vs.toArray] w fun e w'=>e=.returned (.bool (ju t))∧Below w.heap.size w w':=by
 obtain ⟨A,c,rfl,hc1,hc2,hs,_,_,hl⟩:=ht.cells
 obtain ⟨kind,n,s,l⟩:=t
 dsimp only at hc1 hc2 hs hl
 have HB:=ym (fun o:Obj=>(yq w.heap.size w).alloc (yo _) o)
 clear ht hl
 go_enter Tryz.func183,Tryz.ntmps183
 go_wp2_with fail
 all_goals go_ret
 all_goals refine ⟨ae ?_,HB.out _⟩
 all_goals
  try simp only [er,bV,beq_eq_false_iff_ne] at *
  rw [Bool.eq_iff_iff]
  simp [ju,bV, *]
theorem OpR.cells {d B:Nat} {o:OpD} {vs:List Value} {w:World} (h:(OpR d).rd w B o vs) :
 ∃A c,vs=[.int .i64 o.kind,.int .i64 o.term.kind,.int .i64 o.term.n,.string o.term.s,.slice A o.term.l.length c,.int .i64 o.code,.int .i64 o.skip]∧I64 o.kind∧I64 o.code∧I64 o.skip ∧
  RTm w B d o.term [.int .i64 o.term.kind,.int .i64 o.term.n,.string o.term.s,.slice A o.term.l.length c]:=by
 obtain ⟨ts,rfl,h1,h2,h3,h⟩:=h
 have h':=h
 obtain ⟨A,c,rfl,_⟩:=RTm.cells h'
 exact ⟨A,c,rfl,h1,h2,h3,h⟩
theorem qX {d B:Nat} {o:OpD} {vs:List Value} {w:World} (ho:(OpR d).rd w B o vs) :
 Calls Tryz.prog 165 #[.agg vs.toArray] w fun e w'=>e=.returned (.bool (dy o))∧Below w.heap.size w w':=by
 obtain ⟨A,c,rfl,_⟩:=OpR.cells ho
 have HB:=ym (fun o:Obj=>(yq w.heap.size w).alloc (yo _) o)
 clear ho
 go_enter Tryz.func165,Tryz.ntmps165
 go_wp2_with fail
 all_goals go_ret
 all_goals refine ⟨ae ?_,HB.out _⟩
 all_goals
  rw [Bool.eq_iff_iff]
  simp [dy, *]
theorem oL {d B:Nat} {o:OpD} {vs:List Value} {w:World} (ho:(OpR d).rd w B o vs) :
 Calls Tryz.prog 164 #[.agg vs.toArray] w fun e w'=>e=.returned (.int .i64 (aD o))∧Below w.heap.size w w':=by
 obtain ⟨A,c,rfl,_⟩:=OpR.cells ho
 have HB:=ym (fun o:Obj=>(yq w.heap.size w).alloc (yo _) o)
 clear ho
 go_enter Tryz.func164,Tryz.ntmps164
 go_wp2_with fail
 all_goals go_ret
 all_goals refine ⟨az ?_,HB.out _⟩
 all_goals
  simp only [beq_iff_eq,beq_eq_false_iff_ne] at *
  simp [aD, *]
theorem tc {d B:Nat} {o:OpD} {vs:List Value} {w:World} (ho:(OpR d).rd w B o vs) (hB:B≤w.heap.size) :
 Calls Tryz.prog 163 #[.agg vs.toArray] w fun e w'=>e=.returned (.bool (dA o))∧Below w.heap.size w w':=by
 have ho0:=ho
 obtain ⟨A,c,rfl,_,_,_,ht⟩:=OpR.cells ho
 have HB:=ym (fun o:Obj=>(yq w.heap.size w).alloc (yo _) o)
 have HT:=ym ht
 have HO:=ym ho0
 clear ho ho0 ht
 have hcases:(o.kind==1)=true∨((o.kind==1)=false∧ju o.term=false)∨((o.kind==1)=false∧ju o.term=true∧(o.kind==2)=true)∨((o.kind==1)=false∧ju o.term=true∧(o.kind==2)=false∧(o.kind==3)=true)∨((o.kind==1)=false∧ju o.term=true∧(o.kind==2)=false∧(o.kind==3)=false):=by
  cases (o.kind==1)<;>cases ju o.term<;>cases (o.kind==2)<;>cases (o.kind==3)<;>simp
 rcases hcases with h1 | ⟨h1,h2⟩ | ⟨h1,h2,h3⟩ | ⟨h1,h2,h3,h4⟩ | ⟨h1,h2,h3,h4⟩
 all_goals
  go_enter Tryz.func163,Tryz.ntmps163
  go_wp2_with (first
   | (go_at_call 68;refine (uw (vs:=[_,_,_,_]) (RTm.below (HB.out _) hB HT.out) (yn hB (HB.out _).size)).mono ?_;rintro e w1 ⟨rfl,hb1⟩;have HB1:=ym hb1;clear hb1)
   | (go_at_call 183;refine (tI (vs:=[_,_,_,_]) (RTm.below (HB.out _) hB HT.out)).mono ?_;rintro e w1 ⟨rfl,hb1⟩;have hc1:=ku hb1;have hz1:w.heap.size<w1.heap.size:=(by have:=hb1.size;simp at this;omega);have HB1:=ym hb1;clear hb1)
   | (go_at_call 165;refine (qX (d:=d) (B:=B) (vs:=[_,_,_,_,_,_,_]) ((OpR d).keep ((HB.out _).trans (HB1.out.mono (HB.out _).size)) hB HO.out)).mono ?_;rintro e w2 ⟨rfl,hb2⟩;have hc2:=ku hb2;have hz2:w.heap.size<w2.heap.size:=(by have:=hb2.size;omega);have HB2:=ym hb2;clear hb2))
  all_goals go_ret
  all_goals first
   | refine ⟨ae ?_,HB.out _⟩
   | refine ⟨ae ?_,(HB.out _).trans (HB1.out.mono (HB.out _).size)⟩
   | refine ⟨ae ?_,((HB.out _).trans (HB1.out.mono (HB.out _).size)).trans (HB2.out.mono (by have:=(HB.out (.cells #[.int .i64 o.kind,.int .i64 o.term.kind,.int .i64 o.term.n,.string o.term.s,.slice A o.term.l.length c,.int .i64 o.code,.int .i64 o.skip] 104)).size;have:=HB1.out.size;omega))⟩
  all_goals
   clear HO HT HB
   try clear HB1
   try clear hc1
   try simp only [beq_iff_eq,beq_eq_false_iff_ne] at *
   rw [Bool.eq_iff_iff]
   simp [dA, *]
   try omega
def jH:Nat→Int→List OpD→Bool
 | 0,_,_=>false
 | _+1,t,[]=>decide (t=1)
 | n+1,t,o::r=>
   dA o&&decide (aD o≤t) &&
    (if dy o then decide (o.skip≤r.length)&&jH n 0 (r.take o.skip.toNat)&&jH n (t+(1-aD o)) (r.drop o.skip.toNat)
     else jH n (t+(1-aD o)) r)
theorem fX:∀(n m:Nat) (t:Int) (l:List OpD),l.length<n→l.length<m→jH n t l=jH m t l
 | 0,_,_,_,h,_=>absurd h (by omega)
 | _,0,_,_,_,h=>absurd h (by omega)
 | n+1,m+1,t,[],_,_=>rfl
 | n+1,m+1,t,o::r,h,k=>by
   simp only [yE] at h k
   have e1:=fX n m 0 (r.take o.skip.toNat) (by rw [yF];omega) (by rw [yF];omega)
   have e2:=fX n m (t+(1-aD o)) (r.drop o.skip.toNat) (by rw [List.length_drop];omega) (by rw [List.length_drop];omega)
   have e3:=fX n m (t+(1-aD o)) r (by omega) (by omega)
   simp only [jH,e1,e2,e3]
def bk (t:Int) (l:List OpD):Bool:=jH (l.length+1) t l
theorem jl (t:Int):bk t []=decide (t=1):=rfl
theorem eb (t:Int) (o:OpD) (r:List OpD):bk t (o::r)=(dA o&&decide (aD o≤t) &&
 (if dy o then decide (o.skip≤r.length)&&bk 0 (r.take o.skip.toNat)&&bk (t+(1-aD o)) (r.drop o.skip.toNat)
  else bk (t+(1-aD o)) r)):=by
 unfold bk
 rw [yE,jH]
 rw [fX (r.length+1) ((r.take o.skip.toNat).length+1) 0 (r.take o.skip.toNat) (by rw [yF];omega) (by omega)]
 rw [fX (r.length+1) ((r.drop o.skip.toNat).length+1) _ (r.drop o.skip.toNat) (by rw [List.length_drop];omega) (by omega)]
theorem qd (o:OpD):aD o=0∨aD o=1∨aD o=2:=by
 unfold aD;split
 ·simp
 ·split<;>simp
theorem RL.cut {α:Type} {R:Reader α} {w:World} {B:Nat} {xs:List α} {b off:Nat} (h:RL R w B xs (some ⟨b,off,none⟩)) (i n:Nat) (hin:i+n≤xs.length):RL R w B ((xs.drop i).take n) (some ⟨b,off+i*R.k,none⟩):=by
 intro h0
 have hlen:((xs.drop i).take n).length=n:=by simp;omega
 rw [hlen] at h0 ⊢
 obtain ⟨b',off',e,hb,hc⟩:=h (by omega)
 simp only [yz,Addr.mk.injEq,and_true] at e
 obtain ⟨rfl,rfl⟩:=e
 refine ⟨b,off+i*R.k,rfl,hb,fun j hj=>?_⟩
 obtain ⟨vs,hl,⟨x,hx,hr⟩,hv⟩:=hc (i+j) (by omega)
 refine ⟨vs,hl,⟨x,?_,hr⟩,fun m v hm=>?_⟩
 ·rw [List.getElem?_take,if_pos hj,List.getElem?_drop];exact hx
 ·have:=hv m v hm
  rw [Nat.add_mul] at this
  rw [show off+i*R.k+j*R.k+m=off+(i*R.k+j*R.k)+m by omega]
  exact this
theorem vx (d N:Nat):∀(l:List OpD) (A:Option Addr) (c B:Nat) (w:World),l.length≤N→RL (OpR d) w B l A→B≤w.heap.size→l.length≤c→(l.length*56≤140737488351232∧c≤9223372036854775807) →
 Calls Tryz.prog 143 #[.slice A l.length c] w fun e w'=>e=.returned (.bool (bk 0 l))∧Below w.heap.size w w':=by
 induction N with
 | zero=>
   intro l A c B w hN hl hB hc hn
   obtain rfl:l=[]:=List.eq_nil_of_length_eq_zero (by omega)
   show Calls _ _ #[.slice A 0 c] _ _
   go_enter Tryz.func143,Tryz.ntmps143
   go_wp2_with fail
   go_loopw [3,4] (fun t i wr=>i=.int .i64 0∧t=.int .i64 0∧wr=w) (fun _ _ _=>0)
   case atStart=>exact ⟨rfl,rfl,rfl⟩
   case round=>
    obtain ⟨rfl,rfl,rfl⟩:=hrel
    go_wp2_with fail
    go_ret
    exact ⟨rfl,yq _ _⟩
 | succ N ih=>
   intro l A c B w hN hl hB hc hn
   have HI:=ym ih
   clear ih
   go_enter Tryz.func143,Tryz.ntmps143
   go_wp2_with fail
   go_loopw [3,4] (fun t i wr=>∃(k:Nat) (n:Int),k≤l.length∧i=.int .i64 k∧t=.int .i64 n∧0≤n∧n≤k∧Below w.heap.size w wr∧bk 0 l=bk n (l.drop k)) (fun _ i _=>l.length-(intOf i).toNat)
   case atStart=>exact ⟨0,0,yp _,rfl,rfl,by omega,by omega,yq _ _,rfl⟩
   case round=>
    obtain ⟨k,n,hk,rfl,rfl,hn0,hnk,hbw,heq⟩:=hrel
    have HE:=ym heq
    clear heq
    by_cases hlt:k<l.length
    ·obtain ⟨b,off,rfl,hb⟩:=hl.base hbw hB (by omega)
     obtain ⟨o,vs,hx,hlen,hcell,hr⟩:=hl.at_ hbw hB hlt
     have hr0:=hr
     obtain ⟨Ao,co,rfl,hk1,hk2,hk3,_⟩:=OpR.cells hr
     have c0:wr.cell? ⟨b,off+k*7,none⟩=some (.int .i64 o.kind):=hcell 0 _ rfl
     have c1:wr.cell? ⟨b,off+k*7+1,none⟩=some (.int .i64 o.term.kind):=hcell 1 _ rfl
     have c2:wr.cell? ⟨b,off+k*7+2,none⟩=some (.int .i64 o.term.n):=hcell 2 _ rfl
     have c3:wr.cell? ⟨b,off+k*7+3,none⟩=some (.string o.term.s):=hcell 3 _ rfl
     have c4:wr.cell? ⟨b,off+k*7+4,none⟩=some (.slice Ao o.term.l.length co):=hcell 4 _ rfl
     have c5:wr.cell? ⟨b,off+k*7+5,none⟩=some (.int .i64 o.code):=hcell 5 _ rfl
     have c6:wr.cell? ⟨b,off+k*7+6,none⟩=some (.int .i64 o.skip):=hcell 6 _ rfl
     have hdrop:l.drop k=o::l.drop (k+1):=by
      obtain ⟨h1,h2⟩:=List.getElem?_eq_some_iff.1 hx
      rw [←h2];exact List.drop_eq_getElem_cons h1
     have HE2:Hid (bk 0 l=(dA o&&decide (aD o≤n) &&
      (if dy o then decide (o.skip≤(l.drop (k+1)).length)&&bk 0 ((l.drop (k+1)).take o.skip.toNat)&&bk (n+(1-aD o)) ((l.drop (k+1)).drop o.skip.toNat)
       else bk (n+(1-aD o)) (l.drop (k+1))))):=by
      rw [←eb,←hdrop];exact HE.out
     have HR:=ym hr0
     have HBo:=ym (fun o:Obj=>hbw.alloc hbw.size o)
     have HBr:=ym (fun o:Obj=>(yq wr.heap.size wr).alloc (yo _) o)
     have hszr:=hbw.size
     have hneeds:=qd o
     clear hcell hlen hx hr hr0 hdrop HE
     go_wp2_with fail
     refine (tc (d:=d) (B:=B) (o:=o) (vs:=[_,_,_,_,_,_,_]) ((OpR d).keep (HBr.out _) (by omega) HR.out) (by simp;omega)).mono ?_
     rintro e w1 ⟨rfl,hb1⟩
     have hc1:=ku hb1
     have hz1:wr.heap.size<w1.heap.size:=(by have:=hb1.size;simp at this;omega)
     have HB1:=ym ((HBr.out _).trans (hb1.mono (HBr.out _).size))
     clear hb1
     by_cases ha:dA o=true
     ·go_wp2_with fail
      refine (oL (d:=d) (B:=B) (o:=o) (vs:=[_,_,_,_,_,_,_]) ((OpR d).keep HB1.out (by omega) HR.out)).mono ?_
      rintro e w2 ⟨rfl,hb2⟩
      have hc2:=ku hb2
      have hz2:wr.heap.size<w2.heap.size:=(by have:=hb2.size;omega)
      have HB2:=ym (HB1.out.trans (hb2.mono HB1.out.size))
      clear hb2
      by_cases hnd:n<aD o
      ·go_wp2_with fail
       go_ret
       exact ⟨ae (by rw [HE2.out,show decide (aD o≤n)=false by simpa using hnd];simp),hbw.trans (HB2.out.mono hszr)⟩
      ·have hnd':decide (n<aD o)=false:=by simpa using hnd
       have hle:aD o≤n:=by omega
       go_wp2_with fail
       refine (oL (d:=d) (B:=B) (o:=o) (vs:=[_,_,_,_,_,_,_]) ((OpR d).keep HB2.out (by omega) HR.out)).mono ?_
       rintro e w3 ⟨rfl,hb3⟩
       have hc3:=ku hb3
       have hz3:wr.heap.size<w3.heap.size:=(by have:=hb3.size;omega)
       have HB3:=ym (HB2.out.trans (hb3.mono HB2.out.size))
       clear hb3
       go_wp2_with fail
       refine (qX (d:=d) (B:=B) (o:=o) (vs:=[_,_,_,_,_,_,_]) ((OpR d).keep HB3.out (by omega) HR.out)).mono ?_
       rintro e w4 ⟨rfl,hb4⟩
       have hc4:=ku hb4
       have hz4:wr.heap.size<w4.heap.size:=(by have:=hb4.size;omega)
       have HB4:=ym (HB3.out.trans (hb4.mono HB3.out.size))
       clear hb4
       by_cases hlz:dy o=true
       ·have HE3:Hid (bk 0 l=(decide (o.skip≤(l.drop (k+1)).length)&&bk 0 ((l.drop (k+1)).take o.skip.toNat)&&bk (n+(1-aD o)) ((l.drop (k+1)).drop o.skip.toNat))):=by
         have:=HE2.out
         rw [ha,hlz,if_pos rfl,show decide (aD o≤n)=true by simpa using hle,Bool.true_and,Bool.true_and] at this
         exact this
        have hsk1:1≤o.skip:=by
         have h1:=ha
         unfold dA dy at h1
         have h2:=hlz
         unfold dy at h2
         simp only [Bool.or_eq_true,yC] at h2
         rw [if_neg (by omega),if_neg (by omega),if_neg (by omega)] at h1
         simp only [yx,yC] at h1
         omega
        clear HE2
        by_cases hsk:o.skip≤(l.length:Int)-k-1
        ·have hsk':decide ((l.length:Int)-k-1<o.skip)=false:=by simpa using hsk
         have hL:((l.drop (k+1)).take o.skip.toNat).length=o.skip.toNat:=by rw [yF,List.length_drop];omega
         have HL:=ym hL
         have hcut:=hl.cut (k+1) o.skip.toNat (by omega)
         have HC:=ym hcut
         clear hL hcut
         go_wp2_with fail
         rw [show ((k:Int)+1+o.skip).toNat-(k+1)=((l.drop (k+1)).take o.skip.toNat).length from by rw [HL.out];omega]
         refine (HI.out ((l.drop (k+1)).take o.skip.toNat) _ (c-(k+1)) B w4 (by rw [HL.out];omega) (HC.out.keep (hbw.trans (HB4.out.mono hszr)) hB) (by omega) (by rw [HL.out];omega) (by rw [HL.out];omega)).mono ?_
         rintro e w5 ⟨rfl,hb5⟩
         have hc5:=ku hb5
         have hz5:wr.heap.size<w5.heap.size:=(by have:=hb5.size;omega)
         have HB5:=ym (HB4.out.trans (hb5.mono HB4.out.size))
         clear hb5
         by_cases hw:bk 0 ((l.drop (k+1)).take o.skip.toNat)=true
         ·go_wp2_with fail
          go_roundw
          case rel=>exact ⟨k+1+o.skip.toNat,n+(1-aD o),by omega,by go_num,rfl,by omega,by omega,hbw.trans (HB5.out.mono hszr),by
           rw [HE3.out,hw,List.drop_drop,show decide (o.skip≤((l.drop (k+1)).length:Int))=true by rw [List.length_drop];simp;omega]
           rfl⟩
          case measure=>simp [intOf];omega
         ·have hw':bk 0 ((l.drop (k+1)).take o.skip.toNat)=false:=by simpa using hw
          go_wp2_with fail
          go_ret
          exact ⟨ae (by rw [HE3.out,hw'];simp),hbw.trans (HB5.out.mono hszr)⟩
        ·have hsk':decide ((l.length:Int)-k-1<o.skip)=true:=by simp;omega
         go_wp2_with fail
         go_ret
         exact ⟨ae (by rw [HE3.out,show decide (o.skip≤((l.drop (k+1)).length:Int))=false by rw [List.length_drop];simp;omega];rfl),hbw.trans (HB4.out.mono hszr)⟩
       ·have hlz':dy o=false:=by simpa using hlz
        go_wp2_with fail
        go_roundw
        case rel=>exact ⟨k+1,n+(1-aD o),by omega,by go_num,rfl,by omega,by omega,hbw.trans (HB4.out.mono hszr),by
         rw [HE2.out,ha,hlz',show decide (aD o≤n)=true by simpa using hle]
         simp⟩
        case measure=>simp [intOf];omega
     ·have ha':dA o=false:=by simpa using ha
      go_wp2_with fail
      go_ret
      exact ⟨ae (by rw [HE2.out,ha'];rfl),hbw.trans (HB1.out.mono hszr)⟩
    ·go_wp2_with fail
     go_ret
     have hz:l.drop k=[]:=List.drop_eq_nil_iff.2 (by omega)
     exact ⟨ae (by rw [HE.out,hz,jl,Bool.eq_iff_iff];simp),hbw⟩
def cK (p q:List UInt8 × Int):Int:=if dE p.1 q.1=0 then eA p.2 q.2 else dE p.1 q.1
theorem nR:Ord3 cK:=Ord3.andThen (jT.by fun p:List UInt8 × Int=>p.1) (gi.by fun p:List UInt8 × Int=>p.2)
def kOf (f:Fc):List UInt8 × Int:=(bs f.pr.name,(f.pr.terms.length:Int))
theorem ig (f:Fc) (name:ByteArray) (n:Int):dl f name n=cK (kOf f) (bs name,n):=by unfold dl cK kOf;rw [orL2]
theorem tD {a b:Fc} (h:aS a b<0):cK (kOf a) (kOf b)≤0:=by
 unfold aS at h
 unfold cK kOf
 simp only [orL] at h ⊢
 split
 ·rename_i h1
  rw [if_pos h1] at h
  split at h
  ·rename_i h2;omega
  ·omega
 ·rename_i h1
  rw [if_neg h1] at h
  omega
def bI (fs:List Fc) (name:ByteArray) (n:Int):List Fc:=fs.filter (fun f=>decide (dl f name n=0))
def csA (fs:List Fc) (name:ByteArray) (n:Int) (i:Nat):Int:=match fs[i]? with | some x=>dl x name n | none=>0
section
variable {fs:List Fc} {name:ByteArray} {n:Int} {i j:Nat}
theorem ii (h:i<fs.length):csA fs name n i=dl fs[i] name n:=by unfold csA;rw [yy h]
theorem xO (hs:bD fs) (hij:i≤j) (hj:j<fs.length):cK (kOf (fs[i]'(by omega))) (kOf fs[j])≤0:=by
 rcases Nat.lt_or_eq_of_le hij with h1 | rfl
 ·exact tD (List.pairwise_iff_getElem.1 hs i j (by omega) hj h1)
 ·rw [nR.self];exact Int.le_refl _
theorem qK (hs:bD fs) (hij:i≤j) (hj:j<fs.length) (h:csA fs name n j<0):csA fs name n i<0:=by
 rw [ii hj,ig] at h
 rw [ii (by omega),ig]
 exact nR.le_lt (xO hs hij hj) h
theorem csA_up (hs:bD fs) (hij:i≤j) (hj:j<fs.length) (h:0<csA fs name n i):0<csA fs name n j:=by
 rw [ii (by omega),ig] at h
 rw [ii hj,ig]
 have h1:=nR.anti (kOf (fs[i]'(by omega))) (bs name,n)
 have h2:=nR.anti (kOf fs[j]) (bs name,n)
 have h3:=nR.lt_le (x:=(bs name,n)) (by omega) (xO hs hij hj)
 omega
theorem oI {p q:Nat} (hs:bD fs) (hp:p=oT fs.length (csA fs name n)) (hpq:p≤q) (hq:q≤fs.length) (h1:∀i,p≤i→i<q→csA fs name n i=0) (h2:q<fs.length→csA fs name n q≠0):(fs.drop p).take (q-p)=bI fs name n:=by
 have e:fs=fs.take p++((fs.drop p).take (q-p)++fs.drop q):=by
  have h3:fs.drop q=(fs.drop p).drop (q-p):=by rw [List.drop_drop];congr 1;omega
  rw [h3,List.take_append_drop,List.take_append_drop]
 have f1:(fs.take p).filter (fun f=>decide (dl f name n=0))=[]:=by
  rw [List.filter_eq_nil_iff]
  intro a ha
  obtain ⟨i,hi,rfl⟩:=List.getElem_of_mem ha
  rw [yF] at hi
  rw [List.getElem_take]
  have:=lm (n:=fs.length) (cs:=csA fs name n) (k:=i) (by omega)
  rw [ii (by omega)] at this
  simp only [yC];omega
 have f2:((fs.drop p).take (q-p)).filter (fun f=>decide (dl f name n=0))=(fs.drop p).take (q-p):=by
  rw [List.filter_eq_self]
  intro a ha
  obtain ⟨i,hi,rfl⟩:=List.getElem_of_mem ha
  rw [yF,List.length_drop] at hi
  rw [List.getElem_take,List.getElem_drop]
  have:=h1 (p+i) (by omega) (by omega)
  rw [ii (by omega)] at this
  simpa using this
 have f3:(fs.drop q).filter (fun f=>decide (dl f name n=0))=[]:=by
  rw [List.filter_eq_nil_iff]
  intro a ha
  obtain ⟨i,hi,rfl⟩:=List.getElem_of_mem ha
  rw [List.length_drop] at hi
  rw [List.getElem_drop]
  have h3:=h2 (by omega)
  have h4:¬csA fs name n q<0:=by
   intro h5
   have h6:=qK hs hpq (show q<fs.length by omega) h5
   have h7:¬csA fs name n p<0:=by rw [hp];exact uF (by omega)
   exact h7 h6
  have h5:=csA_up hs (Nat.le_add_right q i) (show q+i<fs.length by omega) (by omega:0<csA fs name n q)
  rw [ii (by omega)] at h5
  simp only [yC];omega
 unfold bI
 conv=>rhs;rw [e]
 rw [List.filter_append,List.filter_append,f1,f2,f3,List.nil_append,List.append_nil]
end
theorem FRow.lower {base b0 d c:Nat} {w:World} {xs:List FV} {A:Option Addr} (h:FRow base d w xs A c) (hb:b0≤base):FRow b0 d w xs A c:=
 ⟨h.own.lower hb,fun x hx=>⟨(h.deep x hx).1,(h.deep x hx).2.less fun k _ hm=>hm.imp (fun h=>by omega) id⟩⟩
theorem am.none_nil {α:Type} {R:Reader α} {e:TypeId} {w:World} {base B n c:Nat} {xs:List α} (h:am R e w base B (.slice none n c) xs):xs=[]∧c=0:=by
 obtain ⟨cells,how,_⟩:=h
 rcases how.2 with ⟨h1,h2⟩ | ⟨g,cap,cur,hv,_⟩
 ·simp only [yB,true_and] at h1
  exact ⟨List.eq_nil_of_length_eq_zero h2,h1.2⟩
 ·cases hv
theorem am.some_row {α:Type} {R:Reader α} {e:TypeId} {w:World} {base B n c:Nat} {a:Addr} {xs:List α} (h:am R e w base B (.slice (some a) n c) xs):∃g,a=⟨g,0,none⟩∧xs.length≤c∧c≤9223372036854775807:=by
 obtain ⟨cells,how,_⟩:=h
 rcases how.2 with ⟨h1,h2⟩ | ⟨g,cap,cur,hv,_,_,k1,k2,_⟩
 ·cases h1
 ·simp only [yB,yz] at hv
  obtain ⟨rfl,_,rfl⟩:=hv
  exact ⟨g,rfl,k1,by unfold maxLen at k2;omega⟩
theorem ve {w:World} (d:Nat):Calls Tryz.prog 40 #[] w fun z w'=>z=.returned (.pointer (some ⟨w.heap.size,0,none⟩))∧StA (w.heap.size+1) d w' w.heap.size [] none 0∧Below w.heap.size w w':=by
 go_enter Tryz.func40,Tryz.ntmps40
 go_wp2_with fail
 generalize hW:World.alloc _ _=w1
 obtain ⟨hb1,hz⟩:=al1 hW
 have HS1:=ym (n11 hW)
 have HB1:=ym hb1
 clear hW hb1
 go_wp2_with fail
 go_ret
 exact ⟨rfl,⟨HS1.out,by omega,by omega,am.nil _ _ _ _ _,by simp,by simp,List.Pairwise.nil⟩,HB1.out⟩
theorem hU {base d S c:Nat} {xs:List FV} {A:Option Addr} {name:ByteArray} {n:Int} {w:World} (hs:StA base d w S xs A c) (hn:xs.length≤100000) :
 Calls Tryz.prog 14 #[.pointer (some ⟨S,0,none⟩),.string name,.int .i64 n] w fun z w'=>(∃ys A' c',ys.map FV.f=bI (xs.map FV.f) name n∧z=.returned (.slice A' ys.length c')∧FRow w.heap.size d w' ys A' c')∧Below w.heap.size w w':=by
 have HS:=ym hs
 clear hs
 go_enter Tryz.func14,Tryz.ntmps14
 go_upto_region 1 with fail
 generalize hW:World.alloc _ _=w1
 obtain ⟨hb,hz⟩:=al1 hW
 have HP1:=ym (n11 hW)
 have HB1:=ym hb
 have hsz1:=hb.size
 have HS1:=ym (HS.out.later hb)
 clear hW hb
 have HRL:=ym (HS1.out.rl (by omega))
 have hlm:(xs.map FV.f).length=xs.length:=yw _
 have HLM:=ym hlm
 have HOK:Hid (∀f∈xs.map FV.f,FcOk f):=ym (fun f hf=>by obtain ⟨y,hy,rfl⟩:=List.mem_map.1 hf;exact HS.out.ok y hy)
 obtain ⟨p,hp⟩:∃p,p=oT (xs.map FV.f).length (csA (xs.map FV.f) name n):=⟨_,rfl⟩
 have HP:=ym hp
 have hpn:p≤xs.length:=by have:=uH (xs.map FV.f).length (csA (xs.map FV.f) name n);rw [hlm] at this;rw [hp,hlm];exact this
 clear hp hlm
 have k_s:=HS1.out.hd.cell
 have l_s:=HS1.out.hd.lt
 go_upto_region 4 with fail
 go_wp2_with (go_at_call 30;rw [←HLM.out];refine (rL (d:=d) (B:=w1.heap.size) (c:=c) (G:=w.heap.size) (fs:=xs.map FV.f) (name:=name) (n:=n) (A:=A) HRL.out HP1.out HOK.out (by rw [HLM.out];omega) (yo _) (csA (xs.map FV.f) name n) (fun i hi=>ii hi) (fun i j hij hj h=>qK HS.out.sort hij hj h)).mono ?_;rintro z w2 ⟨rfl,hb⟩;rw [←HP.out,HLM.out];have HB2:=ym hb;have hsz2:=hb.size;clear k_s l_s hb)
 have hen:=xL
 generalize (decide (p<xs.length)&&decide (csA (xs.map FV.f) name n p=0))=bq
 go_loopw [10] (fun i wr=>∃q:Nat,p≤q∧q≤xs.length∧i=.int .i64 q∧Hid (∀i,p≤i→i<q→csA (xs.map FV.f) name n i=0)∧Hid (Below w2.heap.size w2 wr)) (fun i _=>xs.length-(intOf i).toNat)
 case atStart=>exact ⟨p,yo _,hpn,rfl,ym (fun i h1 h2=>absurd h2 (by omega)),ym (yq _ _)⟩
 case round=>
  obtain ⟨q,hpq,hq,rfl,HZ,HWR⟩:=hrel
  have HBr:=ym (ac (ac HB1.out HB2.out) HWR.out)
  have HSr:=ym (HS.out.later HBr.out)
  have HPr:=ym ((HP1.out.later HB2.out).later HWR.out)
  have hszr:=HWR.out.size
  have k_s:=HSr.out.hd.cell
  have l_s:=HSr.out.hd.lt
  by_cases hlt:q<xs.length
  ·obtain ⟨g,c9,e9,h1,h2,h3,h4,h5,h6,_⟩:=HSr.out.row.sh bm (by omega)
   simp only [yB,true_and] at e9
   obtain ⟨rfl,rfl⟩:=e9
   obtain ⟨x,hx⟩:∃x,x=xs[q]:=⟨_,rfl⟩
   have c0:wr.cell? ⟨g,q*3,none⟩=some (.string x.f.pr.name):=by rw [hx];exact h5 q hlt 0 _ rfl
   have c1:wr.cell? ⟨g,q*3+1,none⟩=some (.slice x.a x.f.pr.terms.length x.c):=by rw [hx];exact h5 q hlt 1 _ rfl
   have c2:wr.cell? ⟨g,q*3+2,none⟩=some (.int .u32 x.f.o):=by rw [hx];exact h5 q hlt 2 _ rfl
   have HXR:Hid ((aC (d+1)).rd wr wr.heap.size x.f x.cs):=ym (by rw [hx];exact (HSr.out.deep _ (List.getElem_mem hlt)).here)
   have HXA:Hid (csA (xs.map FV.f) name n q=dl x.f name n):=ym (by rw [ii (by rw [HLM.out];exact hlt),List.getElem_map,hx])
   have hI1:(q:Int)<(xs.length:Int):=by omega
   have hI0:(0:Int)≤(q:Int):=Int.natCast_nonneg _
   clear h5 h6 hx
   go_wp2_with fail
   refine (ti (d:=d) (B:=wr.heap.size) (f:=x.f) (vf:=[_,_,_]) (name:=name) (n:=n) HXR.out HPr.out (yo _)).mono ?_
   rintro z w5 ⟨rfl,hb⟩
   have HB5:=ym (ac HWR.out hb)
   have hsz5:=hb.size
   clear c0 c1 c2 k_s l_s hb
   by_cases hz:dl x.f name n=0
   ·have hz':(dl x.f name n==0)=true:=by simpa using hz
    have HN:=ym hz
    generalize dl x.f name n=r at *
    clear hz
    go_wp2_with fail
    go_roundw
    case rel=>exact ⟨q+1,by omega,by omega,by go_num,ym (fun i h1 h2=>by
     rcases Nat.lt_or_ge i q with h | h
     ·exact HZ.out i h1 h
     ·obtain rfl:i=q:=by omega
      rw [HXA.out];exact HN.out),HB5⟩
    case measure=>simp [intOf];omega
   ·have hz':(dl x.f name n==0)=false:=by simpa using hz
    have HN:Hid (q<(xs.map FV.f).length→csA (xs.map FV.f) name n q≠0):=ym (fun _=>by rw [HXA.out];exact hz)
    generalize dl x.f name n=r at *
    clear hz HXA
    have HS5:=ym (HS.out.later (ac (ac HB1.out HB2.out) HB5.out))
    have HCUT:=ym (oI HS.out.sort HP.out hpq (by rw [HLM.out];exact hq) HZ.out HN.out)
    have HLN:Hid ((((xs.map FV.f).drop p).take (q-p)).length=q-p):=ym (by rw [yF,List.length_drop,HLM.out];omega)
    have k_s:=HS5.out.hd.cell
    have l_s:=HS5.out.hd.lt
    go_upto_region 8 with fail
    have hI2:(p:Int)≤(q:Int):=by omega
    have hI3:(q:Int)≤(c:Int):=by omega
    have hI4:(0:Int)≤(p:Int):=Int.natCast_nonneg _
    go_wp2_with fail
    have HA:=im (d:=d) (B:=w5.heap.size) (c:=c-p) (fs:=((xs.map FV.f).drop p).take (q-p)) (A:=some ⟨g,p*3,none⟩) (w:=w5) (by have h:=(HS5.out.rl (by omega)).cut p (q-p) (by rw [HLM.out];omega);rwa [show (0+p*(aC (d+1)).k)=p*3 from by show 0+p*3=_;omega] at h) (fun f hf=>HOK.out f (List.mem_of_mem_drop (List.mem_of_mem_take hf))) (by rw [HLN.out];omega) (yo _)
    rw [HLN.out] at HA
    refine HA.mono ?_
    rintro z w6 ⟨⟨ys,A6,c6,hys,rfl,hrow⟩,hb6⟩
    have HROW:=ym hrow
    have HYS:=ym hys
    have HB6:=ym hb6
    have HYL:Hid (ys.length=q-p):=ym (by rw [←yw FV.f,hys,HLN.out])
    clear hrow hys hb6 HA
    go_wp2_with fail
    go_ret
    exact ⟨⟨ys,A6,c6,by rw [HYS.out,HCUT.out],by rw [HYL.out];rfl,HROW.out.lower (ac (ac (ac HB1.out HB2.out) HB5.out) (yq _ _)).size⟩,ac (ac (ac HB1.out HB2.out) HB5.out) HB6.out⟩
  ·have HN:Hid (q<(xs.map FV.f).length→csA (xs.map FV.f) name n q≠0):=ym (fun h=>by rw [HLM.out] at h;omega)
   rcases A with _ | a
   ·obtain ⟨rfl,rfl⟩:=am.none_nil HSr.out.row
    have hq0:q=0:=by simpa using hq
    have hp0:p=0:=by omega
    subst hq0 hp0
    have HCUT:Hid ([]=bI (([]:List FV).map FV.f) name n):=ym rfl
    clear hpq hq hlt hpn k_s HN HZ HLM hn
    have k_s:∀o:Nat,wr.cell? ⟨S,o,none⟩=(#[.slice none 0 0]:Array Value)[o]?:=HSr.out.hd.cell
    simp only [List.length_nil]
    go_wp2_with fail
    refine (im (d:=d) (B:=wr.heap.size) (c:=0) (fs:=[]) (A:=none) (w:=wr) (fun h=>absurd h (by simp)) (by simp) (by simp) (yo _)).mono ?_
    rintro z w6 ⟨⟨ys,A6,c6,hys,rfl,hrow⟩,hb6⟩
    have HROW:=ym hrow
    have HYS:=ym hys
    have HB6:=ym hb6
    have HYL:Hid (ys.length=0):=ym (by rw [←yw FV.f,hys];rfl)
    clear hrow hys hb6
    go_wp2_with fail
    go_ret
    exact ⟨⟨ys,A6,c6,by rw [HYS.out,HCUT.out],by rw [HYL.out];rfl,HROW.out.lower HBr.out.size⟩,ac HBr.out HB6.out⟩
   ·obtain ⟨g,rfl,hg3,hg4⟩:=am.some_row HSr.out.row
    have HB5:=HWR
    have hsz5:=hszr
    clear k_s l_s
    generalize wr=w5 at *
    have HS5:=ym (HS.out.later (ac (ac HB1.out HB2.out) HB5.out))
    have HCUT:=ym (oI HS.out.sort HP.out hpq (by rw [HLM.out];exact hq) HZ.out HN.out)
    have HLN:Hid ((((xs.map FV.f).drop p).take (q-p)).length=q-p):=ym (by rw [yF,List.length_drop,HLM.out];omega)
    have k_s:=HS5.out.hd.cell
    have l_s:=HS5.out.hd.lt
    go_upto_region 8 with fail
    have hI2:(p:Int)≤(q:Int):=by omega
    have hI3:(q:Int)≤(c:Int):=by omega
    have hI4:(0:Int)≤(p:Int):=Int.natCast_nonneg _
    go_wp2_with fail
    ·have HA:=im (d:=d) (B:=w5.heap.size) (c:=0) (fs:=((xs.map FV.f).drop p).take (q-p)) (A:=some ⟨g,0,none⟩) (w:=w5) (fun h=>by rw [HLN.out] at h;omega) (fun f hf=>HOK.out f (List.mem_of_mem_drop (List.mem_of_mem_take hf))) (by rw [HLN.out];omega) (yo _)
     rw [HLN.out] at HA
     refine HA.mono ?_
     rintro z w6 ⟨⟨ys,A6,c6,hys,rfl,hrow⟩,hb6⟩
     have HROW:=ym hrow
     have HYS:=ym hys
     have HB6:=ym hb6
     have HYL:Hid (ys.length=q-p):=ym (by rw [←yw FV.f,hys,HLN.out])
     clear hrow hys hb6 HA
     go_wp2_with fail
     go_ret
     exact ⟨⟨ys,A6,c6,by rw [HYS.out,HCUT.out],by rw [HYL.out];rfl,HROW.out.lower (ac (ac (ac HB1.out HB2.out) HB5.out) (yq _ _)).size⟩,ac (ac (ac HB1.out HB2.out) HB5.out) HB6.out⟩
    ·have HA:=im (d:=d) (B:=w5.heap.size) (c:=c-p) (fs:=((xs.map FV.f).drop p).take (q-p)) (A:=some ⟨g,p*3,none⟩) (w:=w5) (by have h:=(HS5.out.rl (by omega)).cut p (q-p) (by rw [HLM.out];omega);rwa [show (0+p*(aC (d+1)).k)=p*3 from by show 0+p*3=_;omega] at h) (fun f hf=>HOK.out f (List.mem_of_mem_drop (List.mem_of_mem_take hf))) (by rw [HLN.out];omega) (yo _)
     rw [HLN.out] at HA
     refine HA.mono ?_
     rintro z w6 ⟨⟨ys,A6,c6,hys,rfl,hrow⟩,hb6⟩
     have HROW:=ym hrow
     have HYS:=ym hys
     have HB6:=ym hb6
     have HYL:Hid (ys.length=q-p):=ym (by rw [←yw FV.f,hys,HLN.out])
     clear hrow hys hb6 HA
     go_wp2_with fail
     go_ret
     exact ⟨⟨ys,A6,c6,by rw [HYS.out,HCUT.out],by rw [HYL.out];rfl,HROW.out.lower (ac (ac (ac HB1.out HB2.out) HB5.out) (yq _ _)).size⟩,ac (ac (ac HB1.out HB2.out) HB5.out) HB6.out⟩
end Go.Proofs.YtjpndglegpcdnaaGreat
