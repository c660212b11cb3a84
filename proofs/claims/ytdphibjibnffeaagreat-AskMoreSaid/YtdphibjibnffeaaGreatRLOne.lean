/- A row of one. -/
import Derived.Test.YtdphibjibnffeaaGreatStL0
import Derived.Test.YtdphibjibnffeaaGreatOwn
set_option linter.unusedVariables false
set_option linter.unusedSimpArgs false
set_option maxRecDepth 100000
set_option maxHeartbeats 8000000
namespace Go.Proofs.YtdphibjibnffeaaGreat
open Go.ChangeShapes Go.WideShapes Go.ChangeAt Go.RowKit
def aJ (e:List OpD):Bool:=decide (e.length≤32)&&bh 0 e
theorem dg {d B:Nat} {e:List OpD} {vs:List Value} {w:World} (he:(ExR d).rd w B e vs) (hB:B≤w.heap.size) :
 Calls Tryz.prog 159 #[.agg vs.toArray] w fun x w'=>x=.returned (.bool (aJ e))∧Below w.heap.size w w':=by
 obtain ⟨_,rfl,A,c,rfl,hc1,hc2,hl⟩:=he
 have HB:=yW (fun o:Obj=>(za w.heap.size w).alloc (yY _) o)
 have HL:=yW hl
 simp only [OpR] at hc2
 clear hl
 by_cases hn:(e.length:Int)≤32
 ·go_enter Tryz.func159,Tryz.ntmps159
  go_wp2_with fail
  refine (vZ d e.length e A c B _ (yY _) (HL.out.keep (HB.out _) hB) (yX hB (HB.out _).size) hc1 (by omega)).mono ?_
  rintro x w1 ⟨rfl,hb1⟩
  have hfin:=yW ((HB.out _).trans (hb1.mono (HB.out _).size))
  clear hb1
  go_wp2_with fail
  go_ret
  exact ⟨ac (by rw [aJ,show decide (e.length≤32)=true by simp;omega];simp),hfin.out⟩
 ·have hn':decide ((e.length:Int)≤32)=false:=by simpa using hn
  go_enter Tryz.func159,Tryz.ntmps159
  go_wp2_with fail
  go_ret
  exact ⟨ac (by rw [aJ,show decide (e.length≤32)=false by simp;omega];simp),HB.out _⟩
def lM (o:OpD):Bool:=decide (o.kind=1)&&decide (o.term.kind=1)
def bQ (e:List OpD):List aS:=(e.filter lM).map (fun o=>bs o.term.s)
def fq (e:List OpD):List aS:=if aJ e then eR (bQ e) else []
theorem mS {e:List OpD} {k:Nat} {o:OpD} (h:e[k]? = some o):bQ (e.take (k+1))=bQ (e.take k)++(if lM o then [bs o.term.s] else []):=by
 obtain ⟨h1,h2⟩:=List.getElem?_eq_some_iff.1 h
 rw [List.take_succ_eq_append_getElem h1,h2]
 by_cases hk:lM o=true
 ·simp [bQ,hk]
 ·simp [bQ,(by simpa using hk:lM o=false)]
theorem gY (e:List OpD):(bQ e).length≤e.length:=by
 unfold bQ;rw [List.length_map];exact List.length_filter_le _ _
theorem mR {d B:Nat} {e:List OpD} {vs:List Value} {w:World} (he:(ExR d).rd w B e vs) (hB:B≤w.heap.size) :
 Calls Tryz.prog 164 #[.agg vs.toArray] w fun x w'=>∃v,x=.returned v∧jt w' w.heap.size v (fq e)∧Below w.heap.size w w':=by
 obtain ⟨i0,hi,hz0,hz1,hz2⟩:=info_parts uF
 have he0:=he
 obtain ⟨_,rfl,A,c,rfl,hc1,hc2,hl⟩:=he
 have HB:=yW (fun o:Obj=>(za w.heap.size w).alloc (yY _) o)
 have HL:=yW hl
 have HE:=yW he0
 simp only [OpR] at hc2
 clear hl he0
 by_cases hm:aJ e=true
 ·have hlen:e.length≤32:=by unfold aJ at hm;simp at hm;exact hm.1
  go_enter Tryz.func164,Tryz.ntmps164
  go_wp2_with fail
  refine (dg (d:=d) (B:=B) (e:=e) (vs:=[_]) ((ExR d).keep (HB.out _) hB HE.out) (yX hB (HB.out _).size)).mono ?_
  rintro x w1 ⟨rfl,hb1⟩
  have hq:w1.cell? ⟨w.heap.size,0,none⟩=some (.slice A e.length c):=(hb1.cell (p:=⟨w.heap.size,0,none⟩) (by simp)).trans (by go_simp)
  have HB1:=yW ((HB.out _).trans (hb1.mono (HB.out _).size))
  clear hb1
  go_wp2_with fail
  go_loopw [3,12] (fun v i wr=>∃k:Nat,k≤e.length∧i=.int .i64 k∧jt wr w.heap.size v (bQ (e.take k))∧Below w.heap.size w wr) (fun _ i _=>e.length-(intOf i).toNat)
  case atStart=>exact ⟨0,yZ _,rfl,World.ownsRow_nil _ _ _ _,HB1.out⟩
  case round=>
   obtain ⟨k,hk,rfl,hown,hbw⟩:=hrel
   by_cases hlt:k<e.length
   ·obtain ⟨b,off,rfl,hb⟩:=HL.out.base hbw hB (by omega)
    obtain ⟨o,vs,hx,hlen',hcell,hr⟩:=HL.out.at_ hbw hB hlt
    obtain ⟨Ao,co,rfl,_⟩:=OpR.cells hr
    have c0:wr.cell? ⟨b,off+k*7,none⟩=some (.int .i64 o.kind):=hcell 0 _ rfl
    have c1:wr.cell? ⟨b,off+k*7+1,none⟩=some (.int .i64 o.term.kind):=hcell 1 _ rfl
    have c2:wr.cell? ⟨b,off+k*7+2,none⟩=some (.int .i64 o.term.n):=hcell 2 _ rfl
    have c3:wr.cell? ⟨b,off+k*7+3,none⟩=some (.string o.term.s):=hcell 3 _ rfl
    have c4:wr.cell? ⟨b,off+k*7+4,none⟩=some (.slice Ao o.term.l.length co):=hcell 4 _ rfl
    have c5:wr.cell? ⟨b,off+k*7+5,none⟩=some (.int .i64 o.code):=hcell 5 _ rfl
    have c6:wr.cell? ⟨b,off+k*7+6,none⟩=some (.int .i64 o.skip):=hcell 6 _ rfl
    have HX:=yW (mS hx)
    have HT:Hid ((bQ (e.take k)).length≤32):=yX (gY _) (by rw [List.length_take];omega)
    have HO:=yW hown
    have HG:=yW (fun g (hg:u3.ownBlock=some g)=>((HO.out.lt g hg).1:w.heap.size≤g))
    have hszr:=hbw.size
    clear hcell hlen' hx hr hown
    have hcases:((o.kind==1)=true∧(o.term.kind==1)=true)∨((o.kind==1)=true∧(o.term.kind==1)=false)∨(o.kind==1)=false:=by
     cases (o.kind==1)<;>cases (o.term.kind==1)<;>simp
    rcases hcases with ⟨h1,h2⟩ | ⟨h1,h2⟩ | h1
    ·have HK:Hid (lM o=true):=by
      show lM o=true
      simp only [beq_iff_eq] at h1 h2
      simp [lM,h1,h2]
     go_wp2_with (at_builtin;refine wpList_append_own _ rfl (.tmp 25) (.tmp 29) 44 rfl w.heap.size 9 i0 (.string ⟨#[]⟩) 1 16 Tryz.underlying44 hi hz0 hz1 hz2 rfl (by decide) _ _ _ rfl (World.ownsRow.alloc (World.ownsRow.alloc HO.out _) _) ⟨wr.heap.size+1,0,none⟩ 1 1 [.string o.term.s] rfl rfl ?c1 ?c2 ?c3 ?c4 ?c5 ?_)
     case c1=>
      intro i u hi
      match i,hi with
      | 0,hi=>
        simp only [List.getElem?_cons_zero,Option.some.injEq] at hi
        subst hi
        simp [Addr.add]
     case c2=>intro u hu;simp at hu;subst hu;rfl
     case c3=>have:=HT.out;unfold maxLen;omega
     case c4=>have:=HT.out;omega
     case c5=>simp;omega
     intro v' w' hown' hgrow _
     have hnew:jt w' w.heap.size v' (bQ (e.take (k+1))):=by
      rw [HX.out,if_pos HK.out]
      unfold jt
      simpa [nQ] using hown'
     have hbelow:Below w.heap.size w w':=by
      refine Below.grown (w:=(wr.alloc _).alloc _) ((hbw.alloc hszr _).alloc (by simp;omega) _) hgrow (by simp;omega) ?_
      intro g hg
      exact HG.out g hg
     clear hown' hgrow
     go_wp2
     go_roundw
     case rel=>exact ⟨k+1,by omega,by go_num,hnew,hbelow⟩
     case measure=>simp [intOf];omega
    all_goals
     have HK:Hid (lM o=false):=by
      show lM o=false
      simp only [beq_iff_eq,beq_eq_false_iff_ne] at *
      simp [lM, *]
     have HN:=yW (fun ob:Obj=>(World.ownsRow.alloc HO.out ob:jt (wr.alloc ob) w.heap.size u3 (bQ (e.take k))))
     have HBel:=yW (fun o:Obj=>hbw.alloc hszr o)
     go_wp2_with fail
     go_roundw
     case rel=>exact ⟨k+1,by omega,by go_num,by rw [HX.out,if_neg (by rw [HK.out];simp),List.append_nil];exact HN.out _,HBel.out _⟩
     case measure=>simp [intOf];omega
   ·have hown':jt wr w.heap.size u3 (bQ e):=by rwa [List.take_of_length_le (by omega)] at hown
    have HO:=yW hown'
    have hle:=gY e
    clear hown hown'
    go_wp2_with fail
    refine (oY _ w.heap.size _ _ HO.out hbw.size (by omega)).mono ?_
    rintro x w1 ⟨rfl,hs1,hb1⟩
    have HS:=yW hs1
    have HB1:=yW (hbw.trans hb1)
    clear hs1 hb1
    go_wp2_with fail
    refine (jw _ w.heap.size _ _ HS.out (by rw [cE];omega)).mono ?_
    rintro x w2 ⟨v',rfl,hs2,hb2⟩
    have HS2:=yW hs2
    have HB2:=yW (HB1.out.trans hb2)
    clear hs2 hb2
    go_wp2_with fail
    go_ret
    exact ⟨_,rfl,by rw [fq,if_pos hm];exact HS2.out,HB2.out⟩
 ·have hm':aJ e=false:=by simpa using hm
  go_enter Tryz.func164,Tryz.ntmps164
  go_wp2_with fail
  refine (dg (d:=d) (B:=B) (e:=e) (vs:=[_]) ((ExR d).keep (HB.out _) hB HE.out) (yX hB (HB.out _).size)).mono ?_
  rintro x w1 ⟨rfl,hb1⟩
  have HB1:=yW ((HB.out _).trans (hb1.mono (HB.out _).size))
  clear hb1
  go_wp2_with fail
  go_ret
  exact ⟨_,rfl,by rw [fq,if_neg hm];exact World.ownsRow_nil _ _ _ _,HB1.out⟩
theorem sF (e:List OpD):(fq e).length≤32:=by
 unfold fq
 split
 ·rename_i h
  unfold aJ at h
  simp only [Bool.and_eq_true,decide_eq_true_eq] at h
  exact yX (ey _) (yX (gY e) h.1)
 ·simp
def yD (e:List OpD):Prop:=∀o∈e,o.term.s.size≤140737488351232
theorem oB {e:List OpD} (h:yD e):∀l∈fq e,l.length≤140737488351232:=by
 intro l hl
 unfold fq at hl
 split at hl
 ·rw [oy] at hl
  unfold bQ at hl
  simp only [List.mem_map,List.mem_filter] at hl
  obtain ⟨o,⟨ho,_⟩,rfl⟩:=hl
  rw [ij]
  exact h o ho
 ·simp at hl
theorem ExR.small {d B:Nat} {e:List OpD} {vs:List Value} {w:World} (he:(ExR d).rd w B e vs):yD e:=by
 obtain ⟨_,_,A,c,_,_,_,hl⟩:=he
 intro o ho
 obtain ⟨i,hi,rfl⟩:=List.getElem_of_mem ho
 obtain ⟨b,off,rfl,hb,hc⟩:=hl (by omega)
 obtain ⟨vs,_,⟨x,hx,hr⟩,_⟩:=hc i hi
 obtain ⟨ts,_,_,_,_,ht⟩:=hr
 obtain ⟨_,_,_,_,_,hs,_⟩:=RTm.cells ht
 rw [List.getElem?_eq_getElem hi] at hx
 simp only [Option.some.injEq] at hx
 rw [hx];exact hs
theorem pB (d:Nat) (L:List aS) (A:Option Addr) (c B G:Nat) (w:World) (hl:RL cX w B (L.map mkS) A) (hB:B≤w.heap.size) (hn:L.length≤1000000) (hs:L.Pairwise (· < ·))
 (hG:w.cell? ⟨G,0,none⟩=some (.slice A L.length c)) :
 bP Tryz.prog (ExR d) cS B w 163 #[.pointer (some ⟨G,0,none⟩)] (fun e=>!kU (fq e) L):=by
 intro e vs w1 hb hr
 have hr0:=hr
 have hsm:=ExR.small hr
 obtain ⟨v,rfl,h3⟩:=hr
 obtain ⟨A1,c1,rfl,_⟩:=h3
 have hGl:G<w.heap.size:=block_lt_of_cell hG
 have hG1:w1.cell? ⟨G,0,none⟩=some (.slice A L.length c):=(hb.cell (p:=⟨G,0,none⟩) hGl).trans hG
 have hGl1:G<w1.heap.size:=by have:=hb.size;omega
 have HL:=yW (hl.keep hb hB)
 have HR:=yW hr0
 have HSM:=yW (oB hsm)
 have hNL:=sF e
 have HS:=yW hs
 have HB:=yW (fun o:Obj=>(za w1.heap.size w1).alloc (yY _) o)
 have hB1:B≤w1.heap.size:=by have:=hb.size;omega
 clear hl hG hb hs hr0
 show Calls Tryz.prog 163 #[.agg #[.slice A1 e.length c1],.pointer (some ⟨G,0,none⟩)] w1 _
 go_enter Tryz.func163,Tryz.ntmps163
 go_wp2_with fail
 have HW:=yW (HB.out (.cells #[.slice A1 e.length c1] 59))
 have x0:(w1.alloc (.cells #[.slice A1 e.length c1] 59)).cell? ⟨w1.heap.size,0,none⟩=some (.slice A1 e.length c1):=by go_simp
 have x1:(w1.alloc (.cells #[.slice A1 e.length c1] 59)).cell? ⟨G,0,none⟩=some (.slice A L.length c):=by go_simp
 generalize (w1.alloc (.cells #[.slice A1 e.length c1] 59))=W at *
 have q0:=cell_regrown x0
 have q1:=cell_regrown x1
 refine cQ (ep W) (by kernel_rfl) (by kernel_rfl) (ep.drew W) ?_
 repeat (refine aQ rfl rfl (fun K hK=>?_);unfold ep;go_big_quiet_op;refine hK _ ?_;clear hK K)
 refine cj rfl rfl (fun K hK=>?_)
 go_wp2_with fail
 refine (mR (d:=d) (B:=B) (e:=e) (vs:=[_]) ((ExR d).keep HW.out.drew hB1 HR.out) (yX hB1 HW.out.size)).mono ?_
 rintro x w2 ⟨v2,rfl,hown,hb2⟩
 obtain ⟨A2,c2,rfl,hc2,hrl⟩:=hown.reads HSM.out (by omega)
 have HB2:=yW (HW.out.trans ((za _ W).drew.trans (hb2.mono (yY _)) |>.mono HW.out.size))
 have HC:=yW (ep.of ((za W.heap.size W).drew.trans (hb2.mono (yY _))))
 have HRL:=yW hrl
 clear hown hb2 hrl
 go_wp2_with fail
 refine ⟨HC.out,?_⟩
 repeat (refine aQ rfl rfl (fun K hK=>?_);unfold ep;go_big_quiet_op;refine hK _ ?_;clear hK K)
 refine cj rfl rfl (fun K hK=>?_)
 go_wp2_with fail
 refine (ou (fq e) L A2 A c2 c w2.heap.size w2 HRL.out ((HL.out.keep HB2.out hB1).wide (yX hB1 HB2.out.size)) (yY _) (by omega) hn HS.out).mono ?_
 rintro x w3 ⟨rfl,hb3⟩
 have HC3:=yW (ep.of (HC.out.below.trans (hb3.mono HC.out.below.size)))
 have HB3:=yW (HB2.out.trans (hb3.mono HB2.out.size))
 clear hb3
 go_wp2_with fail
 refine ⟨HC3.out,?_⟩
 repeat (refine aQ rfl rfl (fun K hK=>?_);unfold ep;go_big_quiet_op;refine hK _ ?_;clear hK K)
 refine kZ (fun _=>?_)
 go_wp2_with fail
 go_ret
 exact ⟨rfl,HB3.out⟩
theorem iR {d B:Nat} {w:World} (hB:B≤w.heap.size):bP Tryz.prog (PrR d) cS B w 66 #[] aK:=fun x vs w1 hb hr=>by
 obtain ⟨v,rfl,_⟩:=id hr
 exact dU (d:=d) (B:=B) (vs:=[_,_]) hr (by have:=hb.size;omega)
theorem iQ {d B:Nat} {w:World} (hB:B≤w.heap.size):bP Tryz.prog (ExR d) cS B w 159 #[] aJ:=fun x vs w1 hb hr=>by
 obtain ⟨v,rfl,_⟩:=id hr
 exact dg (d:=d) (B:=B) (vs:=[_]) hr (by have:=hb.size;omega)
theorem gQ {B:Nat} {w:World}:bP Tryz.prog ScR cS B w 161 #[] cI:=fun x vs w1 hb hr=>by
 obtain ⟨rfl,_⟩:=id hr
 exact ow (B:=B) (vs:=[_,_]) hr
def oC (ps:List Pr):List aS:=eR (ay ps)
def gH (r:Ru):Bool:=(decide (r.body.length≤4)&&r.body.all aK)&&(decide (r.exprs.length≤4)&&r.exprs.all aJ)&&(decide (r.scopes.length≤4)&&r.scopes.all cI)&&r.exprs.all (fun e=>kU (fq e) (oC r.body))
theorem wN {r:Ru} (t1:(decide ((r.body.length:Int)≤4)&&r.body.all aK)=true) (t2:(decide ((r.exprs.length:Int)≤4)&&r.exprs.all aJ)=true)
 (t3:(decide ((r.scopes.length:Int)≤4)&&r.scopes.all cI)=true):gH r = !r.exprs.any (fun e=>!kU (fq e) (eR (ay r.body))):=by
 unfold gH oC
 simp only [jX] at t1 t2 t3
 rw [t1,t2,t3,Bool.true_and,Bool.true_and,Bool.true_and,List.not_any_eq_all_not]
 simp only [Bool.not_not]
theorem rM {r:Ru} (t1:(decide ((r.body.length:Int)≤4)&&r.body.all aK)=false):gH r=false:=by
 unfold gH;simp only [jX] at t1;rw [t1];simp only [Bool.false_and]
theorem rN {r:Ru} (t2:(decide ((r.exprs.length:Int)≤4)&&r.exprs.all aJ)=false):gH r=false:=by
 unfold gH;simp only [jX] at t2;rw [t2];simp only [Bool.false_and,Bool.and_false]
theorem rO {r:Ru} (t3:(decide ((r.scopes.length:Int)≤4)&&r.scopes.all cI)=false):gH r=false:=by
 unfold gH;simp only [jX] at t3;rw [t3];simp only [Bool.false_and,Bool.and_false]
theorem fi:∀(ps:List Pr),(∀p∈ps,p.terms.length≤8)→(ay ps).length≤8*ps.length
 | [],_=>by simp [ay]
 | p::ps,h=>by
   have h1:=fi ps (fun q hq=>h q (by simp [hq]))
   have h2:=h p (by simp)
   have h3:(ch p.terms).length≤p.terms.length:=by unfold ch;rw [List.length_map];exact List.length_filter_le _ _
   have:ay (p::ps)=ch p.terms++ay ps:=by simp [ay]
   rw [this,List.length_append,List.length_cons]
   omega
theorem fX {p:Pr} (h:aK p=true):p.terms.length≤8:=by
 unfold aK at h
 simp only [Bool.and_eq_true,decide_eq_true_eq] at h
 exact h.2.1
def smallP (ps:List Pr):Prop:=∀p∈ps,∀t∈p.terms,t.s.size≤140737488351232
theorem RSl.smallT {d B:Nat} {ts:List Tm} {v:Value} {w:World} (h:RSl (TmR d) w B ts v):∀t∈ts,t.s.size≤140737488351232:=by
 obtain ⟨A,c,_,_,_,hl⟩:=h
 intro t ht
 obtain ⟨i,hi,rfl⟩:=List.getElem_of_mem ht
 obtain ⟨b,off,rfl,hb,hc⟩:=hl (by omega)
 obtain ⟨vs,_,⟨x,hx,hr⟩,_⟩:=hc i hi
 obtain ⟨_,_,_,_,_,hs,_⟩:=RTm.cells hr
 rw [List.getElem?_eq_getElem hi] at hx
 simp only [Option.some.injEq] at hx
 rw [hx];exact hs
theorem RL.smallP {d B:Nat} {ps:List Pr} {A:Option Addr} {w:World} (h:RL (PrR d) w B ps A):smallP ps:=by
 intro p hp
 obtain ⟨i,hi,rfl⟩:=List.getElem_of_mem hp
 obtain ⟨b,off,rfl,hb,hc⟩:=h (by omega)
 obtain ⟨vs,_,⟨x,hx,hr⟩,_⟩:=hc i hi
 obtain ⟨_,_,_,ht⟩:=hr
 rw [List.getElem?_eq_getElem hi] at hx
 simp only [Option.some.injEq] at hx
 rw [hx];exact RSl.smallT ht
theorem fZ {ps:List Pr} (h:smallP ps):∀l∈oC ps,l.length≤140737488351232:=by
 intro l hl
 unfold oC at hl
 rw [oy] at hl
 unfold ay ch at hl
 simp only [List.mem_flatMap,List.mem_map,List.mem_filter] at hl
 obtain ⟨p,hp,t,⟨ht,_⟩,rfl⟩:=hl
 rw [ij]
 exact h p hp t ht
theorem mL {d B:Nat} {r:Ru} {vs:List Value} {w:World} (hr:(RuR d).rd w B r vs) (hB:B≤w.heap.size) :
 Calls Tryz.prog 111 #[.agg vs.toArray] w fun x w'=>x=.returned (.bool (gH r))∧Below w.heap.size w w':=by
 obtain ⟨_,_,_,_,rfl,hs,⟨A0,c0,rfl,h01,h02,hl0⟩,⟨A1,c1,rfl,h11,h12,hl1⟩,⟨A2,c2,rfl,h21,h22,hl2⟩,⟨A3,c3,rfl,h31,h32,hl3⟩⟩:=hr
 simp only [PrR,ExR,ScR] at h12 h22 h32
 have HB:=yW (fun o:Obj=>(za w.heap.size w).alloc (yY _) o)
 have HL1:=yW hl1
 have HL2:=yW hl2
 have HL3:=yW hl3
 have HSM:=yW (fZ (RL.smallP hl1))
 clear hl0 hl1 hl2 hl3
 by_cases t1:(decide ((r.body.length:Int)≤4)&&r.body.all aK)=true
 ·go_enter Tryz.func111,Tryz.ntmps111
  go_wp2_with fail
  refine (kF d 66 aK 4 r.body A1 c1 B _ (ent Tryz.func66 (by kernel_rfl) rfl) (HL1.out.keep (HB.out _) hB) (yX hB (HB.out _).size) (by omega) (iR (yX hB (HB.out _).size))).mono ?_
  rintro x w1 ⟨rfl,hb1⟩
  have hc1:=iZ hb1
  have hz1:w.heap.size<w1.heap.size:=(by have:=hb1.size;simp at this;omega)
  have HB1:=yW ((HB.out _).trans (hb1.mono (HB.out _).size))
  clear hb1
  by_cases t2:(decide ((r.exprs.length:Int)≤4)&&r.exprs.all aJ)=true
  ·go_wp2_with fail
   refine (kD d 159 aJ 4 r.exprs A2 c2 B _ (ent Tryz.func159 (by kernel_rfl) rfl) (HL2.out.keep HB1.out hB) (yX hB HB1.out.size) (by omega) (iQ (yX hB HB1.out.size))).mono ?_
   rintro x w2 ⟨rfl,hb2⟩
   have hc2:=iZ hb2
   have hz2:w.heap.size<w2.heap.size:=(by have:=hb2.size;omega)
   have HB2:=yW (HB1.out.trans (hb2.mono HB1.out.size))
   clear hb2
   by_cases t3:(decide ((r.scopes.length:Int)≤4)&&r.scopes.all cI)=true
   ·go_wp2_with fail
    refine (jB 161 cI 4 r.scopes A3 c3 B _ (ent Tryz.func161 (by kernel_rfl) rfl) (HL3.out.keep HB2.out hB) (yX hB HB2.out.size) (by omega) gQ).mono ?_
    rintro x w3 ⟨rfl,hb3⟩
    have hc3:=iZ hb3
    have hz3:w.heap.size<w3.heap.size:=(by have:=hb3.size;omega)
    have HB3:=yW (HB2.out.trans (hb3.mono HB2.out.size))
    clear hb3
    have hcount:(ay r.body).length≤32:=by
     simp only [Bool.and_eq_true,decide_eq_true_eq,List.all_eq_true] at t1
     have:=fi r.body (fun p hp=>fX (t1.2 p hp))
     omega
    have hlen:(oC r.body).length≤32:=yX (ey _) hcount
    go_wp2_with fail
    refine (lf d r.body A1 c1 B _ (HL1.out.keep HB3.out hB) (yX hB HB3.out.size) (by omega) (by omega)).mono ?_
    rintro x w4 ⟨v4,rfl,hown,hb4⟩
    obtain ⟨A4,c4,rfl,hc4,hrl⟩:=hown.reads HSM.out (by exact yX hlen (by omega))
    have hc4':=iZ hb4
    have hz4:w.heap.size<w4.heap.size:=(by have:=hb4.size;omega)
    have HB4:=yW (HB3.out.trans (hb4.mono HB3.out.size))
    have HRL:=yW hrl
    clear hown hb4 hrl
    go_wp2_with fail
    have HW:=yW (HB4.out.trans ((za w4.heap.size w4).alloc (yY _) (.cells #[.slice A4 (eR (ay r.body)).length c4] 44) |>.mono HB4.out.size))
    have x0:(w4.alloc (.cells #[.slice A4 (eR (ay r.body)).length c4] 44)).cell? ⟨w4.heap.size,0,none⟩=some (.slice A4 (eR (ay r.body)).length c4):=by go_simp
    have hsz:=((za w4.heap.size w4).alloc (yY _) (.cells #[.slice A4 (eR (ay r.body)).length c4] 44)).size
    have HRL':=yW (((HRL.out.keep ((za w4.heap.size w4).alloc (yY _) (.cells #[.slice A4 (eR (ay r.body)).length c4] 44)) (yY _))))
    refine (dE d 163 #[.pointer (some ⟨w4.heap.size,0,none⟩)] (fun e=>!kU (fq e) (eR (ay r.body))) r.exprs A2 c2 _ _ (ent Tryz.func163 (by kernel_rfl) rfl) ((HL2.out.keep HW.out hB).wide (yX hB HW.out.size)) (yY _) (by omega) (pB d (eR (ay r.body)) A4 c4 _ _ _ (HRL'.out.wide hsz) (yY _) (by exact yX hlen (by omega)) (jI _) x0)).mono ?_
    rintro x w5 ⟨rfl,hb5⟩
    have HB5:=yW (HW.out.trans (hb5.mono HW.out.size))
    clear hb5
    go_wp2_with fail
    go_ret
    refine ⟨?_,HB5.out⟩
    rw [wN t1 t2 t3]
    rfl
   ·simp only [Bool.not_eq_true] at t3
    go_wp2_with fail
    refine (jB 161 cI 4 r.scopes A3 c3 B _ (ent Tryz.func161 (by kernel_rfl) rfl) (HL3.out.keep HB2.out hB) (yX hB HB2.out.size) (by omega) gQ).mono ?_
    rintro x w3 ⟨rfl,hb3⟩
    have HB3:=yW (HB2.out.trans (hb3.mono HB2.out.size))
    clear hb3
    go_wp2_with fail
    go_ret
    refine ⟨?_,HB3.out⟩
    rw [rO t3]
    rfl
  ·simp only [Bool.not_eq_true] at t2
   go_wp2_with fail
   refine (kD d 159 aJ 4 r.exprs A2 c2 B _ (ent Tryz.func159 (by kernel_rfl) rfl) (HL2.out.keep HB1.out hB) (yX hB HB1.out.size) (by omega) (iQ (yX hB HB1.out.size))).mono ?_
   rintro x w2 ⟨rfl,hb2⟩
   have HB2:=yW (HB1.out.trans (hb2.mono HB1.out.size))
   clear hb2
   go_wp2_with fail
   go_ret
   refine ⟨?_,HB2.out⟩
   rw [rN t2]
   rfl
 ·simp only [Bool.not_eq_true] at t1
  go_enter Tryz.func111,Tryz.ntmps111
  go_wp2_with fail
  refine (kF d 66 aK 4 r.body A1 c1 B _ (ent Tryz.func66 (by kernel_rfl) rfl) (HL1.out.keep (HB.out _) hB) (yX hB (HB.out _).size) (by omega) (iR (yX hB (HB.out _).size))).mono ?_
  rintro x w1 ⟨rfl,hb1⟩
  have HB1:=yW ((HB.out _).trans (hb1.mono (HB.out _).size))
  clear hb1
  go_wp2_with fail
  go_ret
  refine ⟨?_,HB1.out⟩
  rw [rM t1]
  rfl
theorem RL.one {α:Type} {R:Reader α} {w:World} {B b:Nat} {x:α} {vs:List Value} (hb:b<B) (h:R.rd w B x vs) (hc:∀j v,vs[j]? = some v→w.cell? ⟨b,j,none⟩=some v):RL R w B [x] (some ⟨b,0,none⟩):=by
 intro _
 refine ⟨b,0,rfl,hb,fun i hi=>?_⟩
 have hi0:i=0:=by simp at hi;omega
 subst hi0
 refine ⟨vs,R.len h,⟨x,rfl,h⟩,fun j v hv=>?_⟩
 have e:0+0*R.k+j=j:=by omega
 rw [e]
 exact hc j v hv
end Go.Proofs.YtdphibjibnffeaaGreat
