/- rule: MayQuery, May. -/
import Derived.Test.YtjpndglegpcdnaaGreatMapF
import Derived.Test.YtjpndglegpcdnaaGreatHasSet
set_option linter.unusedVariables false
set_option linter.unusedSimpArgs false
set_option maxRecDepth 100000
set_option maxHeartbeats 8000000
namespace Go.Proofs.YtjpndglegpcdnaaGreat
open Go.ChangeShapes Go.WideShapes Go.ChangeAt Go.RowKit
theorem tH (e:List OpD):(fw e).length≤32:=by
 unfold fw
 split
 ·rename_i h
  unfold aP at h
  simp only [Ag,Am] at h
  exact zU (eD _) (zU (io e) h.1)
 ·simp
def zA (e:List OpD):Prop:=∀o∈e,o.term.s.size≤140737488351232
theorem pD {e:List OpD} (h:zA e):∀l∈fw e,l.length≤140737488351232:=by
 intro l hl
 unfold fw at hl
 split at hl
 ·rw [lI] at hl
  unfold bX at hl
  simp only [List.mem_map,List.mem_filter] at hl
  obtain ⟨o,⟨ho,_⟩,rfl⟩:=hl
  rw [iE]
  exact h o ho
 ·simp at hl
theorem ExR.small {d B:Nat} {e:List OpD} {vs:List Value} {w:World} (he:(ExR d).rd w B e vs):zA e:=by
 obtain ⟨_,_,A,c,_,_,_,hl⟩:=he
 intro o ho
 obtain ⟨i,hi,rfl⟩:=List.getElem_of_mem ho
 obtain ⟨b,off,rfl,hb,hc⟩:=hl (by omega)
 obtain ⟨vs,_,⟨x,hx,hr⟩,_⟩:=hc i hi
 obtain ⟨ts,_,_,_,_,ht⟩:=hr
 obtain ⟨_,_,_,_,_,hs,_⟩:=RTm.cells ht
 rw [Ah hi] at hx
 simp only [Ai] at hx
 rw [hx];exact hs
theorem qy (d:Nat) (L:List aZ) (A:Option Addr) (c B G:Nat) (w:World) (hl:RL cU w B (L.map mkS) A) (hB:B≤w.heap.size) (hn:L.length≤1000000) (hs:L.Pairwise (· < ·))
 (hG:w.cell? ⟨G,0,none⟩=some (.slice A L.length c)) :
 bV Tryz.prog (ExR d) cV B w 113 #[.pointer (some ⟨G,0,none⟩)] (fun e=>!iR (fw e) L):=by
 intro e vs w1 hb hr
 have hr0:=hr
 have hsm:=ExR.small hr
 obtain ⟨v,rfl,h3⟩:=hr
 obtain ⟨A1,c1,rfl,_⟩:=h3
 have hGl:G<w.heap.size:=block_lt_of_cell hG
 have hG1:w1.cell? ⟨G,0,none⟩=some (.slice A L.length c):=(hb.cell (p:=⟨G,0,none⟩) hGl).trans hG
 have hGl1:G<w1.heap.size:=by have:=hb.size;omega
 have HL:=zT (hl.keep hb hB)
 have HR:=zT hr0
 have HSM:=zT (pD hsm)
 have hNL:=tH e
 have HS:=zT hs
 have HB:=zT (fun o:Obj=>(zX w1.heap.size w1).alloc (zV _) o)
 have hB1:B≤w1.heap.size:=by have:=hb.size;omega
 clear hl hG hb hs hr0
 show Calls Tryz.prog 113 #[.agg #[.slice A1 e.length c1],.pointer (some ⟨G,0,none⟩)] w1 _
 go_enter Tryz.func113,Tryz.ntmps113
 go_wp2_with fail
 have HW:=zT (HB.out (.cells #[.slice A1 e.length c1] 102))
 have x0:(w1.alloc (.cells #[.slice A1 e.length c1] 102)).cell? ⟨w1.heap.size,0,none⟩=some (.slice A1 e.length c1):=by go_simp
 have x1:(w1.alloc (.cells #[.slice A1 e.length c1] 102)).cell? ⟨G,0,none⟩=some (.slice A L.length c):=by go_simp
 generalize (w1.alloc (.cells #[.slice A1 e.length c1] 102))=W at *
 have q0:=cell_regrown x0
 have q1:=cell_regrown x1
 refine cS (er W) (by kernel_rfl) (by kernel_rfl) (er.drew W) ?_
 repeat (refine aX rfl rfl (fun K hK=>?_);unfold er;go_big_quiet_op;refine hK _ ?_;clear hK K)
 refine cB rfl rfl (fun K hK=>?_)
 go_wp2_with fail
 refine (nL (d:=d) (B:=B) (e:=e) (vs:=[_]) ((ExR d).keep HW.out.drew hB1 HR.out) (zU hB1 HW.out.size)).mono ?_
 rintro x w2 ⟨v2,rfl,hown,hb2⟩
 obtain ⟨A2,c2,rfl,hc2,hrl⟩:=hown.reads HSM.out (by omega)
 have HB2:=zT (HW.out.trans ((zX _ W).drew.trans (hb2.mono (zV _)) |>.mono HW.out.size))
 have HC:=zT (er.of ((zX W.heap.size W).drew.trans (hb2.mono (zV _))))
 have HRL:=zT hrl
 clear hown hb2 hrl
 go_wp2_with fail
 refine ⟨HC.out,?_⟩
 repeat (refine aX rfl rfl (fun K hK=>?_);unfold er;go_big_quiet_op;refine hK _ ?_;clear hK K)
 refine cB rfl rfl (fun K hK=>?_)
 go_wp2_with fail
 refine (pt (fw e) L A2 A c2 c w2.heap.size w2 HRL.out ((HL.out.keep HB2.out hB1).wide (zU hB1 HB2.out.size)) (zV _) (by omega) hn HS.out).mono ?_
 rintro x w3 ⟨rfl,hb3⟩
 have HC3:=zT (er.of (HC.out.below.trans (hb3.mono HC.out.below.size)))
 have HB3:=zT (HB2.out.trans (hb3.mono HB2.out.size))
 clear hb3
 go_wp2_with fail
 refine ⟨HC3.out,?_⟩
 repeat (refine aX rfl rfl (fun K hK=>?_);unfold er;go_big_quiet_op;refine hK _ ?_;clear hK K)
 refine lJ (fun _=>?_)
 go_wp2_with fail
 go_ret
 exact ⟨rfl,HB3.out⟩
theorem jh {d B:Nat} {w:World} (hB:B≤w.heap.size):bV Tryz.prog (PrR d) cV B w 81 #[] aD:=fun x vs w1 hb hr=>by
 obtain ⟨v,rfl,_⟩:=id hr
 exact di (d:=d) (B:=B) (vs:=[_,_]) hr (by have:=hb.size;omega)
theorem jg {d B:Nat} {w:World} (hB:B≤w.heap.size):bV Tryz.prog (ExR d) cV B w 109 #[] aP:=fun x vs w1 hb hr=>by
 obtain ⟨v,rfl,_⟩:=id hr
 exact dh (d:=d) (B:=B) (vs:=[_]) hr (by have:=hb.size;omega)
theorem hI {B:Nat} {w:World}:bV Tryz.prog ScR cV B w 111 #[] cO:=fun x vs w1 hb hr=>by
 obtain ⟨rfl,_⟩:=id hr
 exact px (B:=B) (vs:=[_,_]) hr
def pE (ps:List Pr):List aZ:=eq (aA ps)
def gP (r:Ru):Bool:=(decide (r.body.length≤4)&&r.body.all aD)&&(decide (r.exprs.length≤4)&&r.exprs.all aP)&&(decide (r.scopes.length≤4)&&r.scopes.all cO)&&r.exprs.all (fun e=>iR (fw e) (pE r.body))
theorem xO {r:Ru} (t1:(decide ((r.body.length:Int)≤4)&&r.body.all aD)=true) (t2:(decide ((r.exprs.length:Int)≤4)&&r.exprs.all aP)=true)
 (t3:(decide ((r.scopes.length:Int)≤4)&&r.scopes.all cO)=true):gP r = !r.exprs.any (fun e=>!iR (fw e) (eq (aA r.body))):=by
 unfold gP pE
 simp only [kE] at t1 t2 t3
 rw [t1,t2,t3,Bool.true_and,Bool.true_and,Bool.true_and,List.not_any_eq_all_not]
 simp only [Bool.not_not]
theorem sS {r:Ru} (t1:(decide ((r.body.length:Int)≤4)&&r.body.all aD)=false):gP r=false:=by
 unfold gP;simp only [kE] at t1;rw [t1];simp only [Bool.false_and]
theorem sU {r:Ru} (t2:(decide ((r.exprs.length:Int)≤4)&&r.exprs.all aP)=false):gP r=false:=by
 unfold gP;simp only [kE] at t2;rw [t2];simp only [Bool.false_and,Bool.and_false]
theorem sV {r:Ru} (t3:(decide ((r.scopes.length:Int)≤4)&&r.scopes.all cO)=false):gP r=false:=by
 unfold gP;simp only [kE] at t3;rw [t3];simp only [Bool.false_and,Bool.and_false]
theorem fl:∀(ps:List Pr),(∀p∈ps,p.terms.length≤8)→(aA ps).length≤8*ps.length
 | [],_=>by simp [aA]
 | p::ps,h=>by
   have h1:=fl ps (fun q hq=>h q (by simp [hq]))
   have h2:=h p (by simp)
   have h3:(cA p.terms).length≤p.terms.length:=by unfold cA;rw [Ad];exact List.length_filter_le _ _
   have:aA (p::ps)=cA p.terms++aA ps:=by simp [aA]
   rw [this,Ac,Aw]
   omega
theorem gc {p:Pr} (h:aD p=true):p.terms.length≤8:=by
 unfold aD at h
 simp only [Ag,Am] at h
 exact h.2.1
def smallP (ps:List Pr):Prop:=∀p∈ps,∀t∈p.terms,t.s.size≤140737488351232
theorem RSl.smallT {d B:Nat} {ts:List Tm} {v:Value} {w:World} (h:RSl (TmR d) w B ts v):∀t∈ts,t.s.size≤140737488351232:=by
 obtain ⟨A,c,_,_,_,hl⟩:=h
 intro t ht
 obtain ⟨i,hi,rfl⟩:=List.getElem_of_mem ht
 obtain ⟨b,off,rfl,hb,hc⟩:=hl (by omega)
 obtain ⟨vs,_,⟨x,hx,hr⟩,_⟩:=hc i hi
 obtain ⟨_,_,_,_,_,hs,_⟩:=RTm.cells hr
 rw [Ah hi] at hx
 simp only [Ai] at hx
 rw [hx];exact hs
theorem RL.smallP {d B:Nat} {ps:List Pr} {A:Option Addr} {w:World} (h:RL (PrR d) w B ps A):smallP ps:=by
 intro p hp
 obtain ⟨i,hi,rfl⟩:=List.getElem_of_mem hp
 obtain ⟨b,off,rfl,hb,hc⟩:=h (by omega)
 obtain ⟨vs,_,⟨x,hx,hr⟩,_⟩:=hc i hi
 obtain ⟨_,_,_,ht⟩:=hr
 rw [Ah hi] at hx
 simp only [Ai] at hx
 rw [hx];exact RSl.smallT ht
theorem gg {ps:List Pr} (h:smallP ps):∀l∈pE ps,l.length≤140737488351232:=by
 intro l hl
 unfold pE at hl
 rw [lI] at hl
 unfold aA cA at hl
 simp only [List.mem_flatMap,List.mem_map,List.mem_filter] at hl
 obtain ⟨p,hp,t,⟨ht,_⟩,rfl⟩:=hl
 rw [iE]
 exact h p hp t ht
theorem nE {d B:Nat} {r:Ru} {vs:List Value} {w:World} (hr:(RuR d).rd w B r vs) (hB:B≤w.heap.size) :
 Calls Tryz.prog 88 #[.agg vs.toArray] w fun x w'=>x=.returned (.bool (gP r))∧Below w.heap.size w w':=by
 obtain ⟨_,_,_,_,rfl,hs,⟨A0,c0,rfl,h01,h02,hl0⟩,⟨A1,c1,rfl,h11,h12,hl1⟩,⟨A2,c2,rfl,h21,h22,hl2⟩,⟨A3,c3,rfl,h31,h32,hl3⟩⟩:=hr
 simp only [PrR,ExR,ScR] at h12 h22 h32
 have HB:=zT (fun o:Obj=>(zX w.heap.size w).alloc (zV _) o)
 have HL1:=zT hl1
 have HL2:=zT hl2
 have HL3:=zT hl3
 have HSM:=zT (gg (RL.smallP hl1))
 clear hl0 hl1 hl2 hl3
 by_cases t1:(decide ((r.body.length:Int)≤4)&&r.body.all aD)=true
 ·go_enter Tryz.func88,Tryz.ntmps88
  go_wp2_with fail
  refine (lq d 81 aD 4 r.body A1 c1 B _ (ent Tryz.func81 (by kernel_rfl) rfl) (HL1.out.keep (HB.out _) hB) (zU hB (HB.out _).size) (by omega) (jh (zU hB (HB.out _).size))).mono ?_
  rintro x w1 ⟨rfl,hb1⟩
  have hc1:=jq hb1
  have hz1:w.heap.size<w1.heap.size:=(by have:=hb1.size;simp at this;omega)
  have HB1:=zT ((HB.out _).trans (hb1.mono (HB.out _).size))
  clear hb1
  by_cases t2:(decide ((r.exprs.length:Int)≤4)&&r.exprs.all aP)=true
  ·go_wp2_with fail
   refine (ln d 109 aP 4 r.exprs A2 c2 B _ (ent Tryz.func109 (by kernel_rfl) rfl) (HL2.out.keep HB1.out hB) (zU hB HB1.out.size) (by omega) (jg (zU hB HB1.out.size))).mono ?_
   rintro x w2 ⟨rfl,hb2⟩
   have hc2:=jq hb2
   have hz2:w.heap.size<w2.heap.size:=(by have:=hb2.size;omega)
   have HB2:=zT (HB1.out.trans (hb2.mono HB1.out.size))
   clear hb2
   by_cases t3:(decide ((r.scopes.length:Int)≤4)&&r.scopes.all cO)=true
   ·go_wp2_with fail
    refine (jW 111 cO 4 r.scopes A3 c3 B _ (ent Tryz.func111 (by kernel_rfl) rfl) (HL3.out.keep HB2.out hB) (zU hB HB2.out.size) (by omega) hI).mono ?_
    rintro x w3 ⟨rfl,hb3⟩
    have hc3:=jq hb3
    have hz3:w.heap.size<w3.heap.size:=(by have:=hb3.size;omega)
    have HB3:=zT (HB2.out.trans (hb3.mono HB2.out.size))
    clear hb3
    have hcount:(aA r.body).length≤32:=by
     simp only [Ag,Am,List.all_eq_true] at t1
     have:=fl r.body (fun p hp=>gc (t1.2 p hp))
     omega
    have hlen:(pE r.body).length≤32:=zU (eD _) hcount
    go_wp2_with fail
    refine (lN d r.body A1 c1 B _ (HL1.out.keep HB3.out hB) (zU hB HB3.out.size) (by omega) (by omega)).mono ?_
    rintro x w4 ⟨v4,rfl,hown,hb4⟩
    obtain ⟨A4,c4,rfl,hc4,hrl⟩:=hown.reads HSM.out (by exact zU hlen (by omega))
    have hc4':=jq hb4
    have hz4:w.heap.size<w4.heap.size:=(by have:=hb4.size;omega)
    have HB4:=zT (HB3.out.trans (hb4.mono HB3.out.size))
    have HRL:=zT hrl
    clear hown hb4 hrl
    go_wp2_with fail
    have HW:=zT (HB4.out.trans ((zX w4.heap.size w4).alloc (zV _) (.cells #[.slice A4 (eq (aA r.body)).length c4] 112) |>.mono HB4.out.size))
    have x0:(w4.alloc (.cells #[.slice A4 (eq (aA r.body)).length c4] 112)).cell? ⟨w4.heap.size,0,none⟩=some (.slice A4 (eq (aA r.body)).length c4):=by go_simp
    have hsz:=((zX w4.heap.size w4).alloc (zV _) (.cells #[.slice A4 (eq (aA r.body)).length c4] 112)).size
    have HRL':=zT (((HRL.out.keep ((zX w4.heap.size w4).alloc (zV _) (.cells #[.slice A4 (eq (aA r.body)).length c4] 112)) (zV _))))
    refine (dG d 113 #[.pointer (some ⟨w4.heap.size,0,none⟩)] (fun e=>!iR (fw e) (eq (aA r.body))) r.exprs A2 c2 _ _ (ent Tryz.func113 (by kernel_rfl) rfl) ((HL2.out.keep HW.out hB).wide (zU hB HW.out.size)) (zV _) (by omega) (qy d (eq (aA r.body)) A4 c4 _ _ _ (HRL'.out.wide hsz) (zV _) (by exact zU hlen (by omega)) (kj _) x0)).mono ?_
    rintro x w5 ⟨rfl,hb5⟩
    have HB5:=zT (HW.out.trans (hb5.mono HW.out.size))
    clear hb5
    go_wp2_with fail
    go_ret
    refine ⟨?_,HB5.out⟩
    rw [xO t1 t2 t3]
    rfl
   ·simp only [Bool.not_eq_true] at t3
    go_wp2_with fail
    refine (jW 111 cO 4 r.scopes A3 c3 B _ (ent Tryz.func111 (by kernel_rfl) rfl) (HL3.out.keep HB2.out hB) (zU hB HB2.out.size) (by omega) hI).mono ?_
    rintro x w3 ⟨rfl,hb3⟩
    have HB3:=zT (HB2.out.trans (hb3.mono HB2.out.size))
    clear hb3
    go_wp2_with fail
    go_ret
    refine ⟨?_,HB3.out⟩
    rw [sV t3]
    rfl
  ·simp only [Bool.not_eq_true] at t2
   go_wp2_with fail
   refine (ln d 109 aP 4 r.exprs A2 c2 B _ (ent Tryz.func109 (by kernel_rfl) rfl) (HL2.out.keep HB1.out hB) (zU hB HB1.out.size) (by omega) (jg (zU hB HB1.out.size))).mono ?_
   rintro x w2 ⟨rfl,hb2⟩
   have HB2:=zT (HB1.out.trans (hb2.mono HB1.out.size))
   clear hb2
   go_wp2_with fail
   go_ret
   refine ⟨?_,HB2.out⟩
   rw [sU t2]
   rfl
 ·simp only [Bool.not_eq_true] at t1
  go_enter Tryz.func88,Tryz.ntmps88
  go_wp2_with fail
  refine (lq d 81 aD 4 r.body A1 c1 B _ (ent Tryz.func81 (by kernel_rfl) rfl) (HL1.out.keep (HB.out _) hB) (zU hB (HB.out _).size) (by omega) (jh (zU hB (HB.out _).size))).mono ?_
  rintro x w1 ⟨rfl,hb1⟩
  have HB1:=zT ((HB.out _).trans (hb1.mono (HB.out _).size))
  clear hb1
  go_wp2_with fail
  go_ret
  refine ⟨?_,HB1.out⟩
  rw [sS t1]
  rfl
def bg (r:Ru):Bool:=r.head.name.toList.isEmpty&&decide (r.head.terms.length=0)&&decide (1≤r.body.length+r.exprs.length)&&gP r
def aQ (r:Ru):Bool:=aD r.head&&decide (1≤r.body.length)&&gP r&&iR (eq (aA [r.head])) (eq (aA r.body))
theorem lK {P:Program} {ops:Array Oper} {C:World→Prop} {Qf:Act→World→Prop} {o:Oper} {rest:List Oper} {a a':Act} {w:World} (hw:Region.wanted o (yielded ops a.tmps)=false) (ha:a.put o.dst undef=a') (h:gV P ops C Qf rest a' w):gV P ops C Qf (o::rest) a w:=
 yw hw (ha▸h)
theorem qw {r:Ru} (h:gP r=true):(aA r.body).length≤32:=by
 unfold gP at h
 simp only [Ag,Am,List.all_eq_true] at h
 obtain ⟨⟨⟨⟨h1,h2⟩,_⟩,_⟩,_⟩:=h
 have:=fl r.body (fun p hp=>gc (h2 p hp))
 omega
theorem pw {d B:Nat} {r:Ru} {vs:List Value} {w:World} (hr:(RuR d).rd w B r vs) (hB:B≤w.heap.size) :
 Calls Tryz.prog 75 #[.agg vs.toArray] w fun x w'=>x=.returned (.bool (bg r))∧Below w.heap.size w w':=by
 have HR:=zT hr
 obtain ⟨_,_,_,_,rfl,hs,⟨A0,c0,rfl,h01,h02,hl0⟩,⟨A1,c1,rfl,h11,h12,hl1⟩,⟨A2,c2,rfl,h21,h22,hl2⟩,⟨A3,c3,rfl,h31,h32,hl3⟩⟩:=hr
 simp only [PrR,ExR,ScR,TmR] at h02 h12 h22 h32
 have HB:=zT (fun o:Obj=>(zX w.heap.size w).alloc (zV _) o)
 clear hl0 hl1 hl2 hl3
 by_cases t1:r.head.name.toList.isEmpty=true
 ·by_cases t2:r.head.terms.length=0
  ·by_cases t3:1≤r.body.length+r.exprs.length
   ·have u2:((r.head.terms.length:Int)==0)=true:=by simp [t2]
    have T2:=zT t2
    clear t2
    have u3:((r.body.length:Int)+(r.exprs.length:Int)≥1):=by omega
    go_enter Tryz.func75,Tryz.ntmps75
    go_wp2_with fail
    refine (nE (d:=d) (B:=B) (r:=r) (vs:=[_,_,_,_,_]) ((RuR d).keep (HB.out _) hB HR.out) (zU hB (HB.out _).size)).mono ?_
    rintro x w1 ⟨rfl,hb1⟩
    have HB1:=zT ((HB.out _).trans (hb1.mono (HB.out _).size))
    clear hb1
    go_wp2_with fail
    go_ret
    exact ⟨ae (by simp [bg,t1,T2.out,t3]),HB1.out⟩
   ·have u2:((r.head.terms.length:Int)==0)=true:=by simp [t2]
    have T2:=zT t2
    clear t2
    have u3:¬((r.body.length:Int)+(r.exprs.length:Int)≥1):=by omega
    go_enter Tryz.func75,Tryz.ntmps75
    go_wp2_with fail
    go_ret
    exact ⟨ae (by simp [bg,t3]),HB.out _⟩
  ·have u2:((r.head.terms.length:Int)==0)=false:=by simp [t2]
   go_enter Tryz.func75,Tryz.ntmps75
   go_wp2_with fail
   go_ret
   exact ⟨ae (by simp [bg,t2]),HB.out _⟩
 ·simp only [Bool.not_eq_true] at t1
  go_enter Tryz.func75,Tryz.ntmps75
  go_wp2_with fail
  go_ret
  exact ⟨ae (by simp [bg,t1]),HB.out _⟩
theorem lF {d B:Nat} {r:Ru} {vs:List Value} {w:World} (hr:(RuR d).rd w B r vs) (hB:B≤w.heap.size) :
 Calls Tryz.prog 64 #[.agg vs.toArray] w fun x w'=>x=.returned (.bool (aQ r))∧Below w.heap.size w w':=by
 have HR:=zT hr
 obtain ⟨_,_,_,_,rfl,hs,⟨A0,c0,rfl,h01,h02,hl0⟩,⟨A1,c1,rfl,h11,h12,hl1⟩,⟨A2,c2,rfl,h21,h22,hl2⟩,⟨A3,c3,rfl,h31,h32,hl3⟩⟩:=hr
 simp only [PrR,ExR,ScR,TmR] at h02 h12 h22 h32
 have HB:=zT (fun o:Obj=>(zX w.heap.size w).alloc (zV _) o)
 have HP:=zT (show (PrR d).rd w B r.head [.string r.head.name,.slice A0 r.head.terms.length c0] from ⟨_,rfl,hs,_,_,rfl,h01,h02,hl0⟩)
 have HL1:=zT hl1
 clear hl0 hl1 hl2 hl3
 have e1:((r.body.length:Int)≥1)↔(1≤r.body.length):=by omega
 by_cases t1:aD r.head=true
 ·by_cases t2:1≤r.body.length
  ·by_cases t3:gP r=true
   ·have u2:((r.body.length:Int)≥1):=by omega
    go_enter Tryz.func64,Tryz.ntmps64
    go_wp2_with fail
    have HW:=zT (HB.out (.cells #[.string r.head.name,.slice A0 r.head.terms.length c0,.slice A1 r.body.length c1,.slice A2 r.exprs.length c2,.slice A3 r.scopes.length c3] 58))
    have x0:(w.alloc (.cells #[.string r.head.name,.slice A0 r.head.terms.length c0,.slice A1 r.body.length c1,.slice A2 r.exprs.length c2,.slice A3 r.scopes.length c3] 58)).cell? ⟨w.heap.size,0,none⟩=some (.string r.head.name):=by go_simp
    have x1:(w.alloc (.cells #[.string r.head.name,.slice A0 r.head.terms.length c0,.slice A1 r.body.length c1,.slice A2 r.exprs.length c2,.slice A3 r.scopes.length c3] 58)).cell? ⟨w.heap.size,1,none⟩=some (.slice A0 r.head.terms.length c0):=by go_simp
    have x2:(w.alloc (.cells #[.string r.head.name,.slice A0 r.head.terms.length c0,.slice A1 r.body.length c1,.slice A2 r.exprs.length c2,.slice A3 r.scopes.length c3] 58)).cell? ⟨w.heap.size,2,none⟩=some (.slice A1 r.body.length c1):=by go_simp
    have x3:(w.alloc (.cells #[.string r.head.name,.slice A0 r.head.terms.length c0,.slice A1 r.body.length c1,.slice A2 r.exprs.length c2,.slice A3 r.scopes.length c3] 58)).cell? ⟨w.heap.size,3,none⟩=some (.slice A2 r.exprs.length c2):=by go_simp
    have x4:(w.alloc (.cells #[.string r.head.name,.slice A0 r.head.terms.length c0,.slice A1 r.body.length c1,.slice A2 r.exprs.length c2,.slice A3 r.scopes.length c3] 58)).cell? ⟨w.heap.size,4,none⟩=some (.slice A3 r.scopes.length c3):=by go_simp
    generalize (w.alloc (.cells #[.string r.head.name,.slice A0 r.head.terms.length c0,.slice A1 r.body.length c1,.slice A2 r.exprs.length c2,.slice A3 r.scopes.length c3] 58))=W at *
    have q0:=cell_regrown x0
    have q1:=cell_regrown x1
    have q2:=cell_regrown x2
    have q3:=cell_regrown x3
    have q4:=cell_regrown x4
    refine cS (er W) (by kernel_rfl) (by kernel_rfl) (er.drew W) ?_
    repeat (refine aX rfl rfl (fun K hK=>?_);unfold er;go_big_quiet_op;refine hK _ ?_;clear hK K)
    refine cB rfl rfl (fun K hK=>?_)
    go_wp2_with fail
    refine (di (d:=d) (B:=B) (vs:=[_,_]) ((PrR d).keep HW.out.drew hB HP.out) (zU hB HW.out.size)).mono ?_
    rintro x w1 ⟨rfl,hb1⟩
    have HB1:=zT (HW.out.trans ((zX _ W).drew.trans (hb1.mono (zV _)) |>.mono HW.out.size))
    have HC:=zT (er.of ((zX W.heap.size W).drew.trans (hb1.mono (zV _))))
    clear hb1
    rw [t1]
    go_wp2_with fail
    refine ⟨HC.out,?_⟩
    repeat (refine aX rfl rfl (fun K hK=>?_);unfold er;go_big_quiet_op;refine hK _ ?_;clear hK K)
    refine cB rfl rfl (fun K hK=>?_)
    go_wp2_with fail
    refine (nE (d:=d) (B:=B) (r:=r) (vs:=[_,_,_,_,_]) ((RuR d).keep HB1.out hB HR.out) (zU hB HB1.out.size)).mono ?_
    rintro x w2 ⟨rfl,hb2⟩
    have HB2:=zT (HB1.out.trans (hb2.mono HB1.out.size))
    have HC2:=zT (er.of (HC.out.below.trans (hb2.mono HC.out.below.size)))
    clear hb2
    rw [t3]
    go_wp2_with fail
    refine ⟨HC2.out,?_⟩
    repeat (refine aX rfl rfl (fun K hK=>?_);unfold er;go_big_quiet_op;refine hK _ ?_;clear hK K)
    refine cB rfl rfl (fun K hK=>?_)
    go_wp2_with fail
    have HW3:=zT (HB2.out.trans ((zX w2.heap.size w2).alloc (zV _) (.cells #[.string r.head.name,.slice A0 r.head.terms.length c0] 26) |>.mono HB2.out.size))
    have HC3:=zT (er.of (HC2.out.below.trans ((zX w2.heap.size w2).alloc (zV _) (.cells #[.string r.head.name,.slice A0 r.head.terms.length c0] 26) |>.mono HC2.out.below.size)))
    have y0:(w2.alloc (.cells #[.string r.head.name,.slice A0 r.head.terms.length c0] 26)).cell? ⟨w2.heap.size,0,none⟩=some (.string r.head.name):=by go_simp
    have y1:(w2.alloc (.cells #[.string r.head.name,.slice A0 r.head.terms.length c0] 26)).cell? ⟨w2.heap.size,1,none⟩=some (.slice A0 r.head.terms.length c0):=by go_simp
    have ysz:w2.heap.size<(w2.alloc (.cells #[.string r.head.name,.slice A0 r.head.terms.length c0] 26)).heap.size:=by go_simp
    refine ⟨HC3.out,?_⟩
    generalize (w2.alloc (.cells #[.string r.head.name,.slice A0 r.head.terms.length c0] 26))=w3 at *
    have HO:=zT (RL.one (x:=r.head) (b:=w2.heap.size) ysz ((PrR d).wide (zU hB HW3.out.size) ((PrR d).keep HW3.out hB HP.out)) (fun j v hv=>by
     rcases j with _ | _ | j
     ·simp only [Av,Ai] at hv;rw [←hv];exact y0
     ·simp only [List.getElem?_cons_succ,Av,Ai] at hv;rw [←hv];exact y1
     ·simp at hv))
    have hcount1:(aA [r.head]).length≤8:=by
     have:=fl [r.head] (fun p hp=>by simp at hp;rw [hp];exact gc t1)
     simpa using this
    have hcount2:=qw t3
    have hlen1:(eq (aA [r.head])).length≤8:=zU (eD _) hcount1
    have hlen2:(eq (aA r.body)).length≤32:=zU (eD _) hcount2
    have HSM1:=zT (gg (RL.smallP HO.out))
    have HSM2:=zT (gg (RL.smallP HL1.out))
    clear y0 y1
    refine cB rfl rfl (fun K hK=>?_)
    go_wp2_with fail
    refine (lN d [r.head] (some ⟨w2.heap.size,0,none⟩) 1 _ _ HO.out (zV _) (by simp) (by omega)).mono ?_
    rintro x w4 ⟨v4,rfl,hown,hb4⟩
    obtain ⟨A4,c4,rfl,hc4,hrl⟩:=hown.reads HSM1.out (by omega)
    have HB4:=zT (HW3.out.trans (hb4.mono HW3.out.size))
    have HC4:=zT (er.of (HC3.out.below.trans (hb4.mono HC3.out.below.size)))
    have HRL:=zT hrl
    clear hown hb4 hrl
    go_wp2_with fail
    refine ⟨HC4.out,?_⟩
    repeat (refine aX rfl rfl (fun K hK=>?_);unfold er;go_big_quiet_op;refine hK _ ?_;clear hK K)
    refine cB rfl rfl (fun K hK=>?_)
    go_wp2_with fail
    refine (lN d r.body A1 c1 B _ (HL1.out.keep HB4.out hB) (zU hB HB4.out.size) (by omega) (by omega)).mono ?_
    rintro x w5 ⟨v5,rfl,hown,hb5⟩
    obtain ⟨A5,c5,rfl,hc5,hrl⟩:=hown.reads HSM2.out (by exact zU hlen2 (by omega))
    have HB5:=zT (HB4.out.trans (hb5.mono HB4.out.size))
    have HC5:=zT (er.of (HC4.out.below.trans (hb5.mono HC4.out.below.size)))
    have HRL4:=zT ((HRL.out.keep hb5 (zV _)).wide hb5.size)
    have HRL5:=zT hrl
    clear hown hb5 hrl
    go_wp2_with fail
    refine ⟨HC5.out,?_⟩
    repeat (refine aX rfl rfl (fun K hK=>?_);unfold er;go_big_quiet_op;refine hK _ ?_;clear hK K)
    refine cB rfl rfl (fun K hK=>?_)
    go_wp2_with fail
    refine (pt (eq (aA [r.head])) (eq (aA r.body)) A4 A5 c4 c5 _ _ HRL4.out HRL5.out (zV _) (by omega) (by exact zU hlen2 (by omega)) (kj _)).mono ?_
    rintro x w6 ⟨rfl,hb6⟩
    have HB6:=zT (HB5.out.trans (hb6.mono HB5.out.size))
    have HC6:=zT (er.of (HC5.out.below.trans (hb6.mono HC5.out.below.size)))
    clear hb6
    go_wp2_with fail
    refine ⟨HC6.out,?_⟩
    repeat (refine aX rfl rfl (fun K hK=>?_);unfold er;go_big_quiet_op;refine hK _ ?_;clear hK K)
    refine lJ (fun _=>?_)
    go_wp2_with fail
    go_ret
    exact ⟨ae (by simp [aQ,t1,t2,t3]),HB6.out⟩
   ·simp only [Bool.not_eq_true] at t3
    have u2:((r.body.length:Int)≥1):=by omega
    go_enter Tryz.func64,Tryz.ntmps64
    go_wp2_with fail
    have HW:=zT (HB.out (.cells #[.string r.head.name,.slice A0 r.head.terms.length c0,.slice A1 r.body.length c1,.slice A2 r.exprs.length c2,.slice A3 r.scopes.length c3] 58))
    have x0:(w.alloc (.cells #[.string r.head.name,.slice A0 r.head.terms.length c0,.slice A1 r.body.length c1,.slice A2 r.exprs.length c2,.slice A3 r.scopes.length c3] 58)).cell? ⟨w.heap.size,0,none⟩=some (.string r.head.name):=by go_simp
    have x1:(w.alloc (.cells #[.string r.head.name,.slice A0 r.head.terms.length c0,.slice A1 r.body.length c1,.slice A2 r.exprs.length c2,.slice A3 r.scopes.length c3] 58)).cell? ⟨w.heap.size,1,none⟩=some (.slice A0 r.head.terms.length c0):=by go_simp
    have x2:(w.alloc (.cells #[.string r.head.name,.slice A0 r.head.terms.length c0,.slice A1 r.body.length c1,.slice A2 r.exprs.length c2,.slice A3 r.scopes.length c3] 58)).cell? ⟨w.heap.size,2,none⟩=some (.slice A1 r.body.length c1):=by go_simp
    have x3:(w.alloc (.cells #[.string r.head.name,.slice A0 r.head.terms.length c0,.slice A1 r.body.length c1,.slice A2 r.exprs.length c2,.slice A3 r.scopes.length c3] 58)).cell? ⟨w.heap.size,3,none⟩=some (.slice A2 r.exprs.length c2):=by go_simp
    have x4:(w.alloc (.cells #[.string r.head.name,.slice A0 r.head.terms.length c0,.slice A1 r.body.length c1,.slice A2 r.exprs.length c2,.slice A3 r.scopes.length c3] 58)).cell? ⟨w.heap.size,4,none⟩=some (.slice A3 r.scopes.length c3):=by go_simp
    generalize (w.alloc (.cells #[.string r.head.name,.slice A0 r.head.terms.length c0,.slice A1 r.body.length c1,.slice A2 r.exprs.length c2,.slice A3 r.scopes.length c3] 58))=W at *
    have q0:=cell_regrown x0
    have q1:=cell_regrown x1
    have q2:=cell_regrown x2
    have q3:=cell_regrown x3
    have q4:=cell_regrown x4
    refine cS (er W) (by kernel_rfl) (by kernel_rfl) (er.drew W) ?_
    repeat (refine aX rfl rfl (fun K hK=>?_);unfold er;go_big_quiet_op;refine hK _ ?_;clear hK K)
    refine cB rfl rfl (fun K hK=>?_)
    go_wp2_with fail
    refine (di (d:=d) (B:=B) (vs:=[_,_]) ((PrR d).keep HW.out.drew hB HP.out) (zU hB HW.out.size)).mono ?_
    rintro x w1 ⟨rfl,hb1⟩
    have HB1:=zT (HW.out.trans ((zX _ W).drew.trans (hb1.mono (zV _)) |>.mono HW.out.size))
    have HC:=zT (er.of ((zX W.heap.size W).drew.trans (hb1.mono (zV _))))
    clear hb1
    rw [t1]
    go_wp2_with fail
    refine ⟨HC.out,?_⟩
    repeat (refine aX rfl rfl (fun K hK=>?_);unfold er;go_big_quiet_op;refine hK _ ?_;clear hK K)
    refine cB rfl rfl (fun K hK=>?_)
    go_wp2_with fail
    refine (nE (d:=d) (B:=B) (r:=r) (vs:=[_,_,_,_,_]) ((RuR d).keep HB1.out hB HR.out) (zU hB HB1.out.size)).mono ?_
    rintro x w2 ⟨rfl,hb2⟩
    have HB2:=zT (HB1.out.trans (hb2.mono HB1.out.size))
    have HC2:=zT (er.of (HC.out.below.trans (hb2.mono HC.out.below.size)))
    clear hb2
    rw [t3]
    go_wp2_with fail
    refine ⟨HC2.out,?_⟩
    repeat first | (refine aX rfl rfl (fun K hK=>?_);unfold er;go_big_quiet_op;refine hK _ ?_;clear hK K) | (refine lK (a':=?_) rfl ?_ ?_;rotate_left;focus (dsimp only [Act.put];simp only [List.setIfInBounds_toArray,List.set_cons_succ,List.set_cons_zero];rfl))
    refine lJ (fun _=>?_)
    go_wp2_with fail
    go_ret
    exact ⟨ae (by simp [aQ,t3]),HB2.out⟩
  ·have u2:¬((r.body.length:Int)≥1):=by omega
   go_enter Tryz.func64,Tryz.ntmps64
   go_wp2_with fail
   have HW:=zT (HB.out (.cells #[.string r.head.name,.slice A0 r.head.terms.length c0,.slice A1 r.body.length c1,.slice A2 r.exprs.length c2,.slice A3 r.scopes.length c3] 58))
   have x0:(w.alloc (.cells #[.string r.head.name,.slice A0 r.head.terms.length c0,.slice A1 r.body.length c1,.slice A2 r.exprs.length c2,.slice A3 r.scopes.length c3] 58)).cell? ⟨w.heap.size,0,none⟩=some (.string r.head.name):=by go_simp
   have x1:(w.alloc (.cells #[.string r.head.name,.slice A0 r.head.terms.length c0,.slice A1 r.body.length c1,.slice A2 r.exprs.length c2,.slice A3 r.scopes.length c3] 58)).cell? ⟨w.heap.size,1,none⟩=some (.slice A0 r.head.terms.length c0):=by go_simp
   have x2:(w.alloc (.cells #[.string r.head.name,.slice A0 r.head.terms.length c0,.slice A1 r.body.length c1,.slice A2 r.exprs.length c2,.slice A3 r.scopes.length c3] 58)).cell? ⟨w.heap.size,2,none⟩=some (.slice A1 r.body.length c1):=by go_simp
   have x3:(w.alloc (.cells #[.string r.head.name,.slice A0 r.head.terms.length c0,.slice A1 r.body.length c1,.slice A2 r.exprs.length c2,.slice A3 r.scopes.length c3] 58)).cell? ⟨w.heap.size,3,none⟩=some (.slice A2 r.exprs.length c2):=by go_simp
   have x4:(w.alloc (.cells #[.string r.head.name,.slice A0 r.head.terms.length c0,.slice A1 r.body.length c1,.slice A2 r.exprs.length c2,.slice A3 r.scopes.length c3] 58)).cell? ⟨w.heap.size,4,none⟩=some (.slice A3 r.scopes.length c3):=by go_simp
   generalize (w.alloc (.cells #[.string r.head.name,.slice A0 r.head.terms.length c0,.slice A1 r.body.length c1,.slice A2 r.exprs.length c2,.slice A3 r.scopes.length c3] 58))=W at *
   have q0:=cell_regrown x0
   have q1:=cell_regrown x1
   have q2:=cell_regrown x2
   have q3:=cell_regrown x3
   have q4:=cell_regrown x4
   refine cS (er W) (by kernel_rfl) (by kernel_rfl) (er.drew W) ?_
   repeat (refine aX rfl rfl (fun K hK=>?_);unfold er;go_big_quiet_op;refine hK _ ?_;clear hK K)
   refine cB rfl rfl (fun K hK=>?_)
   go_wp2_with fail
   refine (di (d:=d) (B:=B) (vs:=[_,_]) ((PrR d).keep HW.out.drew hB HP.out) (zU hB HW.out.size)).mono ?_
   rintro x w1 ⟨rfl,hb1⟩
   have HB1:=zT (HW.out.trans ((zX _ W).drew.trans (hb1.mono (zV _)) |>.mono HW.out.size))
   have HC:=zT (er.of ((zX W.heap.size W).drew.trans (hb1.mono (zV _))))
   clear hb1
   rw [t1]
   go_wp2_with fail
   refine ⟨HC.out,?_⟩
   repeat first | (refine aX rfl rfl (fun K hK=>?_);unfold er;go_big_quiet_op;refine hK _ ?_;clear hK K) | (refine lK (a':=?_) rfl ?_ ?_;rotate_left;focus (dsimp only [Act.put];simp only [List.setIfInBounds_toArray,List.set_cons_succ,List.set_cons_zero];rfl))
   refine lJ (fun _=>?_)
   go_wp2_with fail
   go_ret
   exact ⟨ae (by simp [aQ,t2]),HB1.out⟩
 ·simp only [Bool.not_eq_true] at t1
  go_enter Tryz.func64,Tryz.ntmps64
  go_wp2_with fail
  have HW:=zT (HB.out (.cells #[.string r.head.name,.slice A0 r.head.terms.length c0,.slice A1 r.body.length c1,.slice A2 r.exprs.length c2,.slice A3 r.scopes.length c3] 58))
  have x0:(w.alloc (.cells #[.string r.head.name,.slice A0 r.head.terms.length c0,.slice A1 r.body.length c1,.slice A2 r.exprs.length c2,.slice A3 r.scopes.length c3] 58)).cell? ⟨w.heap.size,0,none⟩=some (.string r.head.name):=by go_simp
  have x1:(w.alloc (.cells #[.string r.head.name,.slice A0 r.head.terms.length c0,.slice A1 r.body.length c1,.slice A2 r.exprs.length c2,.slice A3 r.scopes.length c3] 58)).cell? ⟨w.heap.size,1,none⟩=some (.slice A0 r.head.terms.length c0):=by go_simp
  have x2:(w.alloc (.cells #[.string r.head.name,.slice A0 r.head.terms.length c0,.slice A1 r.body.length c1,.slice A2 r.exprs.length c2,.slice A3 r.scopes.length c3] 58)).cell? ⟨w.heap.size,2,none⟩=some (.slice A1 r.body.length c1):=by go_simp
  have x3:(w.alloc (.cells #[.string r.head.name,.slice A0 r.head.terms.length c0,.slice A1 r.body.length c1,.slice A2 r.exprs.length c2,.slice A3 r.scopes.length c3] 58)).cell? ⟨w.heap.size,3,none⟩=some (.slice A2 r.exprs.length c2):=by go_simp
  have x4:(w.alloc (.cells #[.string r.head.name,.slice A0 r.head.terms.length c0,.slice A1 r.body.length c1,.slice A2 r.exprs.length c2,.slice A3 r.scopes.length c3] 58)).cell? ⟨w.heap.size,4,none⟩=some (.slice A3 r.scopes.length c3):=by go_simp
  generalize (w.alloc (.cells #[.string r.head.name,.slice A0 r.head.terms.length c0,.slice A1 r.body.length c1,.slice A2 r.exprs.length c2,.slice A3 r.scopes.length c3] 58))=W at *
  have q0:=cell_regrown x0
  have q1:=cell_regrown x1
  have q2:=cell_regrown x2
  have q3:=cell_regrown x3
  have q4:=cell_regrown x4
  refine cS (er W) (by kernel_rfl) (by kernel_rfl) (er.drew W) ?_
  repeat (refine aX rfl rfl (fun K hK=>?_);unfold er;go_big_quiet_op;refine hK _ ?_;clear hK K)
  refine cB rfl rfl (fun K hK=>?_)
  go_wp2_with fail
  refine (di (d:=d) (B:=B) (vs:=[_,_]) ((PrR d).keep HW.out.drew hB HP.out) (zU hB HW.out.size)).mono ?_
  rintro x w1 ⟨rfl,hb1⟩
  have HB1:=zT (HW.out.trans ((zX _ W).drew.trans (hb1.mono (zV _)) |>.mono HW.out.size))
  have HC:=zT (er.of ((zX W.heap.size W).drew.trans (hb1.mono (zV _))))
  clear hb1
  rw [t1]
  go_wp2_with fail
  refine ⟨HC.out,?_⟩
  repeat first | (refine aX rfl rfl (fun K hK=>?_);unfold er;go_big_quiet_op;refine hK _ ?_;clear hK K) | (refine lK (a':=?_) rfl ?_ ?_;rotate_left;focus (dsimp only [Act.put];simp only [List.setIfInBounds_toArray,List.set_cons_succ,List.set_cons_zero];rfl))
  refine lJ (fun _=>?_)
  go_wp2_with fail
  go_ret
  exact ⟨ae (by simp [aQ,t1]),HB1.out⟩
end Go.Proofs.YtjpndglegpcdnaaGreat
