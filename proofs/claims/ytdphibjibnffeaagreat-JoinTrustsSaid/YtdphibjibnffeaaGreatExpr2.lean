/- expr: whole, May. -/
import Derived.Test.YtdphibjibnffeaaGreatNames
import Derived.Test.YtdphibjibnffeaaGreatBS
set_option linter.unusedVariables false
set_option linter.unusedSimpArgs false
set_option maxRecDepth 100000
set_option maxHeartbeats 8000000
namespace Go.Proofs.YtdphibjibnffeaaGreat
open Go.ChangeShapes Go.WideShapes Go.ChangeAt Go.RowKit
def kj (names others:List aX):Bool:=names.all (fun s=>decide (s∈others))
theorem nc (L:List aX) (A:Option Addr) (c B G:Nat) (w:World) (hl:RL cU w B (L.map mkS) A) (hB:B≤w.heap.size) (hn:L.length≤1000000) (hs:L.Pairwise (· < ·))
 (hG:w.cell? ⟨G,0,none⟩=some (.slice A L.length c)) :
 bP Tryz.prog cU wS B w 166 #[.pointer (some ⟨G,0,none⟩)] (fun s=>!decide (bs s∈L)):=by
 intro s vs w1 hb hr
 obtain ⟨rfl,hsz⟩:=hr
 have hGl:G<w.heap.size:=block_lt_of_cell hG
 have hG1:w1.cell? ⟨G,0,none⟩=some (.slice A L.length c):=(hb.cell (p:=⟨G,0,none⟩) hGl).trans hG
 have hGl1:G<w1.heap.size:=by have:=hb.size;omega
 have HL:=Lib.hid (hl.keep hb hB)
 have hB1:B≤w1.heap.size:=by have:=hb.size;omega
 clear hl hG
 show Calls Tryz.prog 166 #[.string s,.pointer (some ⟨G,0,none⟩)] w1 _
 go_enter Tryz.func166,Tryz.ntmps166
 go_wp2_with (go_at_call 167;refine (gJ L A c B s _ HL.out hB1 hn hs).mono ?_;rintro e w' ⟨rfl,rfl⟩)
 go_ret
 exact ⟨rfl,Below.refl _ _⟩
theorem nu (M L:List aX) (A' A:Option Addr) (c' c B:Nat) (w:World) (hm:RL cU w B (M.map mkS) A') (hl:RL cU w B (L.map mkS) A) (hB:B≤w.heap.size) (hn':M.length≤1000000) (hn:L.length≤1000000) (hs:L.Pairwise (· < ·)) :
 Calls Tryz.prog 112 #[.slice A' M.length c',.slice A L.length c] w fun e w'=>e=.returned (.bool (kj M L))∧Below w.heap.size w w':=by
 have HB:=Lib.hid (fun o:Obj=>(Below.refl w.heap.size w).alloc (Nat.le_refl _) o)
 have HM:=Lib.hid hm
 have HL:=Lib.hid hl
 clear hm hl
 go_enter Tryz.func112,Tryz.ntmps112
 go_wp2_with fail
 have h:=fe 166 #[.pointer (some ⟨w.heap.size,0,none⟩)] (fun s=>!decide (bs s∈L)) (M.map mkS) A' c' B (w.alloc (.cells #[.slice A L.length c] 44)) (ent Tryz.func166 (by kernel_rfl) rfl)
  (HM.out.keep (HB.out _) hB) (Nat.le_trans hB (HB.out _).size) (by simp;omega) (nc L A c B w.heap.size _ (HL.out.keep (HB.out _) hB) (Nat.le_trans hB (HB.out _).size) hn hs (by go_simp))
 rw [List.length_map] at h
 refine h.mono ?_
 clear h
 rintro e w1 ⟨rfl,hb1⟩
 have hfin:=Lib.hid ((HB.out _).trans (hb1.mono (HB.out _).size))
 clear hb1
 go_wp2_with fail
 go_ret
 exact ⟨ac (by simp [kj,List.all_eq_not_any_not,List.any_map,Function.comp_def,ja]),hfin.out⟩
def jd (t:Tm):Bool:=decide (t.kind=0)&&decide (t.n=0)&&decide (t.s=ByteArray.empty)&&decide (t.l=[])
def dq (o:OpD):Bool:=decide (o.kind=4)||decide (o.kind=5)
def aD (o:OpD):Int:=if o.kind=1 then 0 else if o.kind=3 then 2 else 1
def dA (o:OpD):Bool:=
 if o.kind=1 then decide (o.code=0)&&decide (o.skip=0)&&ff o.term
 else jd o.term &&
  (if o.kind=2 then decide (o.skip=0)&&decide (1≤o.code)&&decide (o.code≤3)
   else if o.kind=3 then decide (o.skip=0)&&decide (1≤o.code)&&decide (o.code≤19)
   else dq o&&decide (o.code=0)&&decide (1≤o.skip))
theorem tP {d B:Nat} {t:Tm} {vs:List Value} {w:World} (ht:RTm w B d t vs) :
 Calls Tryz.prog 287 #[.agg vs.toArray] w fun e w'=>e=.returned (.bool (jd t))∧Below w.heap.size w w':=by
 obtain ⟨A,c,rfl,hc1,hc2,hs,_,_,hl⟩:=ht.cells
 obtain ⟨kind,n,s,l⟩:=t
 dsimp only at hc1 hc2 hs hl
 have HB:=Lib.hid (fun o:Obj=>(Below.refl w.heap.size w).alloc (Nat.le_refl _) o)
 clear ht hl
 go_enter Tryz.func287,Tryz.ntmps287
 go_wp2_with fail
 all_goals go_ret
 all_goals refine ⟨ac ?_,HB.out _⟩
 all_goals
  try simp only [dh,aS,beq_eq_false_iff_ne] at *
  rw [Bool.eq_iff_iff]
  simp [jd,aS, *]
theorem OpR.cells {d B:Nat} {o:OpD} {vs:List Value} {w:World} (h:(OpR d).rd w B o vs) :
 ∃A c,vs=[.int .i64 o.kind,.int .i64 o.term.kind,.int .i64 o.term.n,.string o.term.s,.slice A o.term.l.length c,.int .i64 o.code,.int .i64 o.skip]∧I64 o.kind∧I64 o.code∧I64 o.skip ∧
  RTm w B d o.term [.int .i64 o.term.kind,.int .i64 o.term.n,.string o.term.s,.slice A o.term.l.length c]:=by
 obtain ⟨ts,rfl,h1,h2,h3,h⟩:=h
 have h':=h
 obtain ⟨A,c,rfl,_⟩:=RTm.cells h'
 exact ⟨A,c,rfl,h1,h2,h3,h⟩
theorem pS {d B:Nat} {o:OpD} {vs:List Value} {w:World} (ho:(OpR d).rd w B o vs) :
 Calls Tryz.prog 256 #[.agg vs.toArray] w fun e w'=>e=.returned (.bool (dq o))∧Below w.heap.size w w':=by
 obtain ⟨A,c,rfl,_⟩:=OpR.cells ho
 have HB:=Lib.hid (fun o:Obj=>(Below.refl w.heap.size w).alloc (Nat.le_refl _) o)
 clear ho
 go_enter Tryz.func256,Tryz.ntmps256
 go_wp2_with fail
 all_goals go_ret
 all_goals refine ⟨ac ?_,HB.out _⟩
 all_goals
  rw [Bool.eq_iff_iff]
  simp [dq, *]
theorem nH {d B:Nat} {o:OpD} {vs:List Value} {w:World} (ho:(OpR d).rd w B o vs) :
 Calls Tryz.prog 255 #[.agg vs.toArray] w fun e w'=>e=.returned (.int .i64 (aD o))∧Below w.heap.size w w':=by
 obtain ⟨A,c,rfl,_⟩:=OpR.cells ho
 have HB:=Lib.hid (fun o:Obj=>(Below.refl w.heap.size w).alloc (Nat.le_refl _) o)
 clear ho
 go_enter Tryz.func255,Tryz.ntmps255
 go_wp2_with fail
 all_goals go_ret
 all_goals refine ⟨av ?_,HB.out _⟩
 all_goals
  simp only [beq_iff_eq,beq_eq_false_iff_ne] at *
  simp [aD, *]
theorem sW {d B:Nat} {o:OpD} {vs:List Value} {w:World} (ho:(OpR d).rd w B o vs) (hB:B≤w.heap.size) :
 Calls Tryz.prog 254 #[.agg vs.toArray] w fun e w'=>e=.returned (.bool (dA o))∧Below w.heap.size w w':=by
 have ho0:=ho
 obtain ⟨A,c,rfl,_,_,_,ht⟩:=OpR.cells ho
 have HB:=Lib.hid (fun o:Obj=>(Below.refl w.heap.size w).alloc (Nat.le_refl _) o)
 have HT:=Lib.hid ht
 have HO:=Lib.hid ho0
 clear ho ho0 ht
 have hcases:(o.kind==1)=true∨((o.kind==1)=false∧jd o.term=false)∨((o.kind==1)=false∧jd o.term=true∧(o.kind==2)=true)∨((o.kind==1)=false∧jd o.term=true∧(o.kind==2)=false∧(o.kind==3)=true)∨((o.kind==1)=false∧jd o.term=true∧(o.kind==2)=false∧(o.kind==3)=false):=by
  cases (o.kind==1)<;>cases jd o.term<;>cases (o.kind==2)<;>cases (o.kind==3)<;>simp
 rcases hcases with h1 | ⟨h1,h2⟩ | ⟨h1,h2,h3⟩ | ⟨h1,h2,h3,h4⟩ | ⟨h1,h2,h3,h4⟩
 all_goals
  go_enter Tryz.func254,Tryz.ntmps254
  go_wp2_with (first
   | (go_at_call 124;refine (su (vs:=[_,_,_,_]) (RTm.below (HB.out _) hB HT.out) (Nat.le_trans hB (HB.out _).size)).mono ?_;rintro e w1 ⟨rfl,hb1⟩;have HB1:=Lib.hid hb1;clear hb1)
   | (go_at_call 287;refine (tP (vs:=[_,_,_,_]) (RTm.below (HB.out _) hB HT.out)).mono ?_;rintro e w1 ⟨rfl,hb1⟩;have hc1:=iO hb1;have hz1:w.heap.size<w1.heap.size:=(by have:=hb1.size;simp at this;omega);have HB1:=Lib.hid hb1;clear hb1)
   | (go_at_call 256;refine (pS (d:=d) (B:=B) (vs:=[_,_,_,_,_,_,_]) ((OpR d).keep ((HB.out _).trans (HB1.out.mono (HB.out _).size)) hB HO.out)).mono ?_;rintro e w2 ⟨rfl,hb2⟩;have hc2:=iO hb2;have hz2:w.heap.size<w2.heap.size:=(by have:=hb2.size;omega);have HB2:=Lib.hid hb2;clear hb2))
  all_goals go_ret
  all_goals first
   | refine ⟨ac ?_,HB.out _⟩
   | refine ⟨ac ?_,(HB.out _).trans (HB1.out.mono (HB.out _).size)⟩
   | refine ⟨ac ?_,((HB.out _).trans (HB1.out.mono (HB.out _).size)).trans (HB2.out.mono (by have:=(HB.out (.cells #[.int .i64 o.kind,.int .i64 o.term.kind,.int .i64 o.term.n,.string o.term.s,.slice A o.term.l.length c,.int .i64 o.code,.int .i64 o.skip] 81)).size;have:=HB1.out.size;omega))⟩
  all_goals
   clear HO HT HB
   try clear HB1
   try clear hc1
   try simp only [beq_iff_eq,beq_eq_false_iff_ne] at *
   rw [Bool.eq_iff_iff]
   simp [dA, *]
   try omega
def iU:Nat→Int→List OpD→Bool
 | 0,_,_=>false
 | _+1,t,[]=>decide (t=1)
 | n+1,t,o::r=>
   dA o&&decide (aD o≤t) &&
    (if dq o then decide (o.skip≤r.length)&&iU n 0 (r.take o.skip.toNat)&&iU n (t+(1-aD o)) (r.drop o.skip.toNat)
     else iU n (t+(1-aD o)) r)
theorem fq:∀(n m:Nat) (t:Int) (l:List OpD),l.length<n→l.length<m→iU n t l=iU m t l
 | 0,_,_,_,h,_=>absurd h (by omega)
 | _,0,_,_,_,h=>absurd h (by omega)
 | n+1,m+1,t,[],_,_=>rfl
 | n+1,m+1,t,o::r,h,k=>by
   simp only [List.length_cons] at h k
   have e1:=fq n m 0 (r.take o.skip.toNat) (by rw [List.length_take];omega) (by rw [List.length_take];omega)
   have e2:=fq n m (t+(1-aD o)) (r.drop o.skip.toNat) (by rw [List.length_drop];omega) (by rw [List.length_drop];omega)
   have e3:=fq n m (t+(1-aD o)) r (by omega) (by omega)
   simp only [iU,e1,e2,e3]
def bh (t:Int) (l:List OpD):Bool:=iU (l.length+1) t l
theorem iP (t:Int):bh t []=decide (t=1):=rfl
theorem dK (t:Int) (o:OpD) (r:List OpD):bh t (o::r)=(dA o&&decide (aD o≤t) &&
 (if dq o then decide (o.skip≤r.length)&&bh 0 (r.take o.skip.toNat)&&bh (t+(1-aD o)) (r.drop o.skip.toNat)
  else bh (t+(1-aD o)) r)):=by
 unfold bh
 rw [List.length_cons,iU]
 rw [fq (r.length+1) ((r.take o.skip.toNat).length+1) 0 (r.take o.skip.toNat) (by rw [List.length_take];omega) (by omega)]
 rw [fq (r.length+1) ((r.drop o.skip.toNat).length+1) _ (r.drop o.skip.toNat) (by rw [List.length_drop];omega) (by omega)]
theorem pk (o:OpD):aD o=0∨aD o=1∨aD o=2:=by
 unfold aD;split
 ·simp
 ·split<;>simp
theorem RL.cut {α:Type} {R:Reader α} {w:World} {B:Nat} {xs:List α} {b off:Nat} (h:RL R w B xs (some ⟨b,off,none⟩)) (i n:Nat) (hin:i+n≤xs.length):RL R w B ((xs.drop i).take n) (some ⟨b,off+i*R.k,none⟩):=by
 intro h0
 have hlen:((xs.drop i).take n).length=n:=by simp;omega
 rw [hlen] at h0 ⊢
 obtain ⟨b',off',e,hb,hc⟩:=h (by omega)
 simp only [Option.some.injEq,Addr.mk.injEq,and_true] at e
 obtain ⟨rfl,rfl⟩:=e
 refine ⟨b,off+i*R.k,rfl,hb,fun j hj=>?_⟩
 obtain ⟨vs,hl,⟨x,hx,hr⟩,hv⟩:=hc (i+j) (by omega)
 refine ⟨vs,hl,⟨x,?_,hr⟩,fun m v hm=>?_⟩
 ·rw [List.getElem?_take,if_pos hj,List.getElem?_drop];exact hx
 ·have:=hv m v hm
  rw [Nat.add_mul] at this
  rw [show off+i*R.k+j*R.k+m=off+(i*R.k+j*R.k)+m by omega]
  exact this
theorem sS (d N:Nat):∀(l:List OpD) (A:Option Addr) (c B:Nat) (w:World),l.length≤N→RL (OpR d) w B l A→B≤w.heap.size→l.length≤c→(l.length*56≤140737488351232∧c≤9223372036854775807) →
 Calls Tryz.prog 218 #[.slice A l.length c] w fun e w'=>e=.returned (.bool (bh 0 l))∧Below w.heap.size w w':=by
 induction N with
 | zero=>
   intro l A c B w hN hl hB hc hn
   obtain rfl:l=[]:=List.eq_nil_of_length_eq_zero (by omega)
   show Calls _ _ #[.slice A 0 c] _ _
   go_enter Tryz.func218,Tryz.ntmps218
   go_wp2_with fail
   go_loopw [3,4] (fun t i wr=>i=.int .i64 0∧t=.int .i64 0∧wr=w) (fun _ _ _=>0)
   case atStart=>exact ⟨rfl,rfl,rfl⟩
   case round=>
    obtain ⟨rfl,rfl,rfl⟩:=hrel
    go_wp2_with fail
    go_ret
    exact ⟨rfl,Below.refl _ _⟩
 | succ N ih=>
   intro l A c B w hN hl hB hc hn
   have HI:=Lib.hid ih
   clear ih
   go_enter Tryz.func218,Tryz.ntmps218
   go_wp2_with fail
   go_loopw [3,4] (fun t i wr=>∃(k:Nat) (n:Int),k≤l.length∧i=.int .i64 k∧t=.int .i64 n∧0≤n∧n≤k∧Below w.heap.size w wr∧bh 0 l=bh n (l.drop k)) (fun _ i _=>l.length-(intOf i).toNat)
   case atStart=>exact ⟨0,0,Nat.zero_le _,rfl,rfl,by omega,by omega,Below.refl _ _,rfl⟩
   case round=>
    obtain ⟨k,n,hk,rfl,rfl,hn0,hnk,hbw,heq⟩:=hrel
    have HE:=Lib.hid heq
    clear heq
    by_cases hlt:k<l.length
    ·obtain ⟨b,off,rfl,hb⟩:=hl.base hbw hB (by omega)
     obtain ⟨o,vs,hx,hlen,hcell,hr⟩:=hl.at_ hbw hB hlt
     have hr0:=hr
     obtain ⟨Ao,co,rfl,hk1,hk2,hk3,_⟩:=OpR.cells hr
     have c0:wr.cell? ⟨b,off+k*7,none⟩=some (.int .i64 o.kind):=hcell 0 _ rfl
     have c1:wr.cell? ⟨b,off+k*7+1,none⟩=some (.int .i64 o.term.kind):=hcell 1 _ rfl
     have c2:wr.cell? ⟨b,off+k*7+2,none⟩=some (.int .i64 o.term.n):=hcell 2 _ rfl
     have c3:wr.cell? ⟨b,off+k*7+3,none⟩=some (.string o.term.s):=hcell 3 _ rfl
     have c4:wr.cell? ⟨b,off+k*7+4,none⟩=some (.slice Ao o.term.l.length co):=hcell 4 _ rfl
     have c5:wr.cell? ⟨b,off+k*7+5,none⟩=some (.int .i64 o.code):=hcell 5 _ rfl
     have c6:wr.cell? ⟨b,off+k*7+6,none⟩=some (.int .i64 o.skip):=hcell 6 _ rfl
     have hdrop:l.drop k=o::l.drop (k+1):=by
      obtain ⟨h1,h2⟩:=List.getElem?_eq_some_iff.1 hx
      rw [←h2];exact List.drop_eq_getElem_cons h1
     have HE2:Hid (bh 0 l=(dA o&&decide (aD o≤n) &&
      (if dq o then decide (o.skip≤(l.drop (k+1)).length)&&bh 0 ((l.drop (k+1)).take o.skip.toNat)&&bh (n+(1-aD o)) ((l.drop (k+1)).drop o.skip.toNat)
       else bh (n+(1-aD o)) (l.drop (k+1))))):=by
      rw [←dK,←hdrop];exact HE.out
     have HR:=Lib.hid hr0
     have HBo:=Lib.hid (fun o:Obj=>hbw.alloc hbw.size o)
     have HBr:=Lib.hid (fun o:Obj=>(Below.refl wr.heap.size wr).alloc (Nat.le_refl _) o)
     have hszr:=hbw.size
     have hneeds:=pk o
     clear hcell hlen hx hr hr0 hdrop HE
     go_wp2_with fail
     refine (sW (d:=d) (B:=B) (o:=o) (vs:=[_,_,_,_,_,_,_]) ((OpR d).keep (HBr.out _) (by omega) HR.out) (by simp;omega)).mono ?_
     rintro e w1 ⟨rfl,hb1⟩
     have hc1:=iO hb1
     have hz1:wr.heap.size<w1.heap.size:=(by have:=hb1.size;simp at this;omega)
     have HB1:=Lib.hid ((HBr.out _).trans (hb1.mono (HBr.out _).size))
     clear hb1
     by_cases ha:dA o=true
     ·go_wp2_with fail
      refine (nH (d:=d) (B:=B) (o:=o) (vs:=[_,_,_,_,_,_,_]) ((OpR d).keep HB1.out (by omega) HR.out)).mono ?_
      rintro e w2 ⟨rfl,hb2⟩
      have hc2:=iO hb2
      have hz2:wr.heap.size<w2.heap.size:=(by have:=hb2.size;omega)
      have HB2:=Lib.hid (HB1.out.trans (hb2.mono HB1.out.size))
      clear hb2
      by_cases hnd:n<aD o
      ·go_wp2_with fail
       go_ret
       exact ⟨ac (by rw [HE2.out,show decide (aD o≤n)=false by simpa using hnd];simp),hbw.trans (HB2.out.mono hszr)⟩
      ·have hnd':decide (n<aD o)=false:=by simpa using hnd
       have hle:aD o≤n:=by omega
       go_wp2_with fail
       refine (nH (d:=d) (B:=B) (o:=o) (vs:=[_,_,_,_,_,_,_]) ((OpR d).keep HB2.out (by omega) HR.out)).mono ?_
       rintro e w3 ⟨rfl,hb3⟩
       have hc3:=iO hb3
       have hz3:wr.heap.size<w3.heap.size:=(by have:=hb3.size;omega)
       have HB3:=Lib.hid (HB2.out.trans (hb3.mono HB2.out.size))
       clear hb3
       go_wp2_with fail
       refine (pS (d:=d) (B:=B) (o:=o) (vs:=[_,_,_,_,_,_,_]) ((OpR d).keep HB3.out (by omega) HR.out)).mono ?_
       rintro e w4 ⟨rfl,hb4⟩
       have hc4:=iO hb4
       have hz4:wr.heap.size<w4.heap.size:=(by have:=hb4.size;omega)
       have HB4:=Lib.hid (HB3.out.trans (hb4.mono HB3.out.size))
       clear hb4
       by_cases hlz:dq o=true
       ·have HE3:Hid (bh 0 l=(decide (o.skip≤(l.drop (k+1)).length)&&bh 0 ((l.drop (k+1)).take o.skip.toNat)&&bh (n+(1-aD o)) ((l.drop (k+1)).drop o.skip.toNat))):=by
         have:=HE2.out
         rw [ha,hlz,if_pos rfl,show decide (aD o≤n)=true by simpa using hle,Bool.true_and,Bool.true_and] at this
         exact this
        have hsk1:1≤o.skip:=by
         have h1:=ha
         unfold dA dq at h1
         have h2:=hlz
         unfold dq at h2
         simp only [Bool.or_eq_true,decide_eq_true_eq] at h2
         rw [if_neg (by omega),if_neg (by omega),if_neg (by omega)] at h1
         simp only [Bool.and_eq_true,decide_eq_true_eq] at h1
         omega
        clear HE2
        by_cases hsk:o.skip≤(l.length:Int)-k-1
        ·have hsk':decide ((l.length:Int)-k-1<o.skip)=false:=by simpa using hsk
         have hL:((l.drop (k+1)).take o.skip.toNat).length=o.skip.toNat:=by rw [List.length_take,List.length_drop];omega
         have HL:=Lib.hid hL
         have hcut:=hl.cut (k+1) o.skip.toNat (by omega)
         have HC:=Lib.hid hcut
         clear hL hcut
         go_wp2_with fail
         rw [show ((k:Int)+1+o.skip).toNat-(k+1)=((l.drop (k+1)).take o.skip.toNat).length from by rw [HL.out];omega]
         refine (HI.out ((l.drop (k+1)).take o.skip.toNat) _ (c-(k+1)) B w4 (by rw [HL.out];omega) (HC.out.keep (hbw.trans (HB4.out.mono hszr)) hB) (by omega) (by rw [HL.out];omega) (by rw [HL.out];omega)).mono ?_
         rintro e w5 ⟨rfl,hb5⟩
         have hc5:=iO hb5
         have hz5:wr.heap.size<w5.heap.size:=(by have:=hb5.size;omega)
         have HB5:=Lib.hid (HB4.out.trans (hb5.mono HB4.out.size))
         clear hb5
         by_cases hw:bh 0 ((l.drop (k+1)).take o.skip.toNat)=true
         ·go_wp2_with fail
          go_roundw
          case rel=>exact ⟨k+1+o.skip.toNat,n+(1-aD o),by omega,by go_num,rfl,by omega,by omega,hbw.trans (HB5.out.mono hszr),by
           rw [HE3.out,hw,List.drop_drop,show decide (o.skip≤((l.drop (k+1)).length:Int))=true by rw [List.length_drop];simp;omega]
           rfl⟩
          case measure=>simp [intOf];omega
         ·have hw':bh 0 ((l.drop (k+1)).take o.skip.toNat)=false:=by simpa using hw
          go_wp2_with fail
          go_ret
          exact ⟨ac (by rw [HE3.out,hw'];simp),hbw.trans (HB5.out.mono hszr)⟩
        ·have hsk':decide ((l.length:Int)-k-1<o.skip)=true:=by simp;omega
         go_wp2_with fail
         go_ret
         exact ⟨ac (by rw [HE3.out,show decide (o.skip≤((l.drop (k+1)).length:Int))=false by rw [List.length_drop];simp;omega];rfl),hbw.trans (HB4.out.mono hszr)⟩
       ·have hlz':dq o=false:=by simpa using hlz
        go_wp2_with fail
        go_roundw
        case rel=>exact ⟨k+1,n+(1-aD o),by omega,by go_num,rfl,by omega,by omega,hbw.trans (HB4.out.mono hszr),by
         rw [HE2.out,ha,hlz',show decide (aD o≤n)=true by simpa using hle]
         simp⟩
        case measure=>simp [intOf];omega
     ·have ha':dA o=false:=by simpa using ha
      go_wp2_with fail
      go_ret
      exact ⟨ac (by rw [HE2.out,ha'];rfl),hbw.trans (HB1.out.mono hszr)⟩
    ·go_wp2_with fail
     go_ret
     have hz:l.drop k=[]:=List.drop_eq_nil_iff.2 (by omega)
     exact ⟨ac (by rw [HE.out,hz,iP,Bool.eq_iff_iff];simp),hbw⟩
end Go.Proofs.YtdphibjibnffeaaGreat
