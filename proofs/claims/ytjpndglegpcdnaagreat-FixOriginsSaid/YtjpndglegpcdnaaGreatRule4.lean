/- rule: MayQuery, May. -/
import Derived.Test.YtjpndglegpcdnaaGreatMapF
import Derived.Test.YtjpndglegpcdnaaGreatHasSet
set_option linter.unusedVariables false
set_option linter.unusedSimpArgs false
set_option maxRecDepth 100000
set_option maxHeartbeats 8000000
namespace Go.Proofs.YtjpndglegpcdnaaGreat
open Go.ChangeShapes Go.WideShapes Go.ChangeAt Go.RowKit
theorem ti (e:List OpD):(fz e).length≤32:=by
 unfold fz
 split
 ·rename_i h
  unfold aO at h
  simp only [zC,zH] at h
  exact zv (eF _) (zv (ic e) h.1)
 ·simp
def zb (e:List OpD):Prop:=∀o∈e,o.term.s.size≤140737488351232
theorem pk {e:List OpD} (h:zb e):∀l∈fz e,l.length≤140737488351232:=by
 intro l hl
 unfold fz at hl
 split at hl
 ·rw [lu] at hl
  unfold bY at hl
  simp only [List.mem_map,List.mem_filter] at hl
  obtain ⟨o,⟨ho,_⟩,rfl⟩:=hl
  rw [ir]
  exact h o ho
 ·simp at hl
theorem ExR.small {d B:Nat} {e:List OpD} {vs:List Value} {w:World} (he:(ExR d).rd w B e vs):zb e:=by
 obtain ⟨_,_,A,c,_,_,_,hl⟩:=he
 intro o ho
 obtain ⟨i,hi,rfl⟩:=List.getElem_of_mem ho
 obtain ⟨b,off,rfl,hb,hc⟩:=hl (by omega)
 obtain ⟨vs,_,⟨x,hx,hr⟩,_⟩:=hc i hi
 obtain ⟨ts,_,_,_,_,ht⟩:=hr
 obtain ⟨_,_,_,_,_,hs,_⟩:=RTm.cells ht
 rw [zD hi] at hx
 simp only [zE] at hx
 rw [hx];exact hs
theorem qm (d:Nat) (L:List aY) (A:Option Addr) (c B G:Nat) (w:World) (hl:RL cV w B (L.map mkS) A) (hB:B≤w.heap.size) (hn:L.length≤1000000) (hs:L.Pairwise (· < ·))
 (hG:w.cell? ⟨G,0,none⟩=some (.slice A L.length c)) :
 bW Tryz.prog (ExR d) cW B w 113 #[.pointer (some ⟨G,0,none⟩)] (fun e=>!iI (fz e) L):=by
 intro e vs w1 hb hr
 have hr0:=hr
 have hsm:=ExR.small hr
 obtain ⟨v,rfl,h3⟩:=hr
 obtain ⟨A1,c1,rfl,_⟩:=h3
 have hGl:G<w.heap.size:=block_lt_of_cell hG
 have hG1:w1.cell? ⟨G,0,none⟩=some (.slice A L.length c):=(hb.cell (p:=⟨G,0,none⟩) hGl).trans hG
 have hGl1:G<w1.heap.size:=by have:=hb.size;omega
 have HL:=zu (hl.keep hb hB)
 have HR:=zu hr0
 have HSM:=zu (pk hsm)
 have hNL:=ti e
 have HS:=zu hs
 have HB:=zu (fun o:Obj=>(zy w1.heap.size w1).alloc (zw _) o)
 have hB1:B≤w1.heap.size:=by have:=hb.size;omega
 clear hl hG hb hs hr0
 show Calls Tryz.prog 113 #[.agg #[.slice A1 e.length c1],.pointer (some ⟨G,0,none⟩)] w1 _
 go_enter Tryz.func113,Tryz.ntmps113
 go_wp2_with fail
 have HW:=zu (HB.out (.cells #[.slice A1 e.length c1] 102))
 have x0:(w1.alloc (.cells #[.slice A1 e.length c1] 102)).cell? ⟨w1.heap.size,0,none⟩=some (.slice A1 e.length c1):=by go_simp
 have x1:(w1.alloc (.cells #[.slice A1 e.length c1] 102)).cell? ⟨G,0,none⟩=some (.slice A L.length c):=by go_simp
 generalize (w1.alloc (.cells #[.slice A1 e.length c1] 102))=W at *
 have q0:=cell_regrown x0
 have q1:=cell_regrown x1
 refine cS (ez W) (by kernel_rfl) (by kernel_rfl) (ez.drew W) ?_
 repeat (refine aX rfl rfl (fun K hK=>?_);unfold ez;go_big_quiet_op;refine hK _ ?_;clear hK K)
 refine cA rfl rfl (fun K hK=>?_)
 go_wp2_with fail
 refine (ny (d:=d) (B:=B) (e:=e) (vs:=[_]) ((ExR d).keep HW.out.drew hB1 HR.out) (zv hB1 HW.out.size)).mono ?_
 rintro x w2 ⟨v2,rfl,hown,hb2⟩
 obtain ⟨A2,c2,rfl,hc2,hrl⟩:=hown.reads HSM.out (by omega)
 have HB2:=zu (HW.out.trans ((zy _ W).drew.trans (hb2.mono (zw _)) |>.mono HW.out.size))
 have HC:=zu (ez.of ((zy W.heap.size W).drew.trans (hb2.mono (zw _))))
 have HRL:=zu hrl
 clear hown hb2 hrl
 go_wp2_with fail
 refine ⟨HC.out,?_⟩
 repeat (refine aX rfl rfl (fun K hK=>?_);unfold ez;go_big_quiet_op;refine hK _ ?_;clear hK K)
 refine cA rfl rfl (fun K hK=>?_)
 go_wp2_with fail
 refine (oZ (fz e) L A2 A c2 c w2.heap.size w2 HRL.out ((HL.out.keep HB2.out hB1).wide (zv hB1 HB2.out.size)) (zw _) (by omega) hn HS.out).mono ?_
 rintro x w3 ⟨rfl,hb3⟩
 have HC3:=zu (ez.of (HC.out.below.trans (hb3.mono HC.out.below.size)))
 have HB3:=zu (HB2.out.trans (hb3.mono HB2.out.size))
 clear hb3
 go_wp2_with fail
 refine ⟨HC3.out,?_⟩
 repeat (refine aX rfl rfl (fun K hK=>?_);unfold ez;go_big_quiet_op;refine hK _ ?_;clear hK K)
 refine lv (fun _=>?_)
 go_wp2_with fail
 go_ret
 exact ⟨rfl,HB3.out⟩
theorem iZ {d B:Nat} {w:World} (hB:B≤w.heap.size):bW Tryz.prog (PrR d) cW B w 81 #[] aE:=fun x vs w1 hb hr=>by
 obtain ⟨v,rfl,_⟩:=id hr
 exact dl (d:=d) (B:=B) (vs:=[_,_]) hr (by have:=hb.size;omega)
theorem iY {d B:Nat} {w:World} (hB:B≤w.heap.size):bW Tryz.prog (ExR d) cW B w 109 #[] aO:=fun x vs w1 hb hr=>by
 obtain ⟨v,rfl,_⟩:=id hr
 exact dj (d:=d) (B:=B) (vs:=[_]) hr (by have:=hb.size;omega)
theorem gW {B:Nat} {w:World}:bW Tryz.prog ScR cW B w 111 #[] cM:=fun x vs w1 hb hr=>by
 obtain ⟨rfl,_⟩:=id hr
 exact pg (B:=B) (vs:=[_,_]) hr
def pl (ps:List Pr):List aY:=ey (az ps)
def gL (r:Ru):Bool:=(decide (r.body.length≤4)&&r.body.all aE)&&(decide (r.exprs.length≤4)&&r.exprs.all aO)&&(decide (r.scopes.length≤4)&&r.scopes.all cM)&&r.exprs.all (fun e=>iI (fz e) (pl r.body))
theorem xn {r:Ru} (t1:(decide ((r.body.length:Int)≤4)&&r.body.all aE)=true) (t2:(decide ((r.exprs.length:Int)≤4)&&r.exprs.all aO)=true)
 (t3:(decide ((r.scopes.length:Int)≤4)&&r.scopes.all cM)=true):gL r = !r.exprs.any (fun e=>!iI (fz e) (ey (az r.body))):=by
 unfold gL pl
 simp only [kl] at t1 t2 t3
 rw [t1,t2,t3,Bool.true_and,Bool.true_and,Bool.true_and,List.not_any_eq_all_not]
 simp only [Bool.not_not]
theorem sC {r:Ru} (t1:(decide ((r.body.length:Int)≤4)&&r.body.all aE)=false):gL r=false:=by
 unfold gL;simp only [kl] at t1;rw [t1];simp only [Bool.false_and]
theorem sD {r:Ru} (t2:(decide ((r.exprs.length:Int)≤4)&&r.exprs.all aO)=false):gL r=false:=by
 unfold gL;simp only [kl] at t2;rw [t2];simp only [Bool.false_and,Bool.and_false]
theorem sE {r:Ru} (t3:(decide ((r.scopes.length:Int)≤4)&&r.scopes.all cM)=false):gL r=false:=by
 unfold gL;simp only [kl] at t3;rw [t3];simp only [Bool.false_and,Bool.and_false]
theorem fp:∀(ps:List Pr),(∀p∈ps,p.terms.length≤8)→(az ps).length≤8*ps.length
 | [],_=>by simp [az]
 | p::ps,h=>by
   have h1:=fp ps (fun q hq=>h q (by simp [hq]))
   have h2:=h p (by simp)
   have h3:(cw p.terms).length≤p.terms.length:=by unfold cw;rw [zB];exact List.length_filter_le _ _
   have:az (p::ps)=cw p.terms++az ps:=by simp [az]
   rw [this,zA,zJ]
   omega
theorem gd {p:Pr} (h:aE p=true):p.terms.length≤8:=by
 unfold aE at h
 simp only [zC,zH] at h
 exact h.2.1
def smallP (ps:List Pr):Prop:=∀p∈ps,∀t∈p.terms,t.s.size≤140737488351232
theorem RSl.smallT {d B:Nat} {ts:List Tm} {v:Value} {w:World} (h:RSl (TmR d) w B ts v):∀t∈ts,t.s.size≤140737488351232:=by
 obtain ⟨A,c,_,_,_,hl⟩:=h
 intro t ht
 obtain ⟨i,hi,rfl⟩:=List.getElem_of_mem ht
 obtain ⟨b,off,rfl,hb,hc⟩:=hl (by omega)
 obtain ⟨vs,_,⟨x,hx,hr⟩,_⟩:=hc i hi
 obtain ⟨_,_,_,_,_,hs,_⟩:=RTm.cells hr
 rw [zD hi] at hx
 simp only [zE] at hx
 rw [hx];exact hs
theorem RL.smallP {d B:Nat} {ps:List Pr} {A:Option Addr} {w:World} (h:RL (PrR d) w B ps A):smallP ps:=by
 intro p hp
 obtain ⟨i,hi,rfl⟩:=List.getElem_of_mem hp
 obtain ⟨b,off,rfl,hb,hc⟩:=h (by omega)
 obtain ⟨vs,_,⟨x,hx,hr⟩,_⟩:=hc i hi
 obtain ⟨_,_,_,ht⟩:=hr
 rw [zD hi] at hx
 simp only [zE] at hx
 rw [hx];exact RSl.smallT ht
theorem gg {ps:List Pr} (h:smallP ps):∀l∈pl ps,l.length≤140737488351232:=by
 intro l hl
 unfold pl at hl
 rw [lu] at hl
 unfold az cw at hl
 simp only [List.mem_flatMap,List.mem_map,List.mem_filter] at hl
 obtain ⟨p,hp,t,⟨ht,_⟩,rfl⟩:=hl
 rw [ir]
 exact h p hp t ht
theorem nl {d B:Nat} {r:Ru} {vs:List Value} {w:World} (hr:(RuR d).rd w B r vs) (hB:B≤w.heap.size) :
 Calls Tryz.prog 88 #[.agg vs.toArray] w fun x w'=>x=.returned (.bool (gL r))∧Below w.heap.size w w':=by
 obtain ⟨_,_,_,_,rfl,hs,⟨A0,c0,rfl,h01,h02,hl0⟩,⟨A1,c1,rfl,h11,h12,hl1⟩,⟨A2,c2,rfl,h21,h22,hl2⟩,⟨A3,c3,rfl,h31,h32,hl3⟩⟩:=hr
 simp only [PrR,ExR,ScR] at h12 h22 h32
 have HB:=zu (fun o:Obj=>(zy w.heap.size w).alloc (zw _) o)
 have HL1:=zu hl1
 have HL2:=zu hl2
 have HL3:=zu hl3
 have HSM:=zu (gg (RL.smallP hl1))
 clear hl0 hl1 hl2 hl3
 by_cases t1:(decide ((r.body.length:Int)≤4)&&r.body.all aE)=true
 ·go_enter Tryz.func88,Tryz.ntmps88
  go_wp2_with fail
  refine (kV d 81 aE 4 r.body A1 c1 B _ (ent Tryz.func81 (by kernel_rfl) rfl) (HL1.out.keep (HB.out _) hB) (zv hB (HB.out _).size) (by omega) (iZ (zv hB (HB.out _).size))).mono ?_
  rintro x w1 ⟨rfl,hb1⟩
  have hc1:=kF hb1
  have hz1:w.heap.size<w1.heap.size:=(by have:=hb1.size;simp at this;omega)
  have HB1:=zu ((HB.out _).trans (hb1.mono (HB.out _).size))
  clear hb1
  by_cases t2:(decide ((r.exprs.length:Int)≤4)&&r.exprs.all aO)=true
  ·go_wp2_with fail
   refine (kT d 109 aO 4 r.exprs A2 c2 B _ (ent Tryz.func109 (by kernel_rfl) rfl) (HL2.out.keep HB1.out hB) (zv hB HB1.out.size) (by omega) (iY (zv hB HB1.out.size))).mono ?_
   rintro x w2 ⟨rfl,hb2⟩
   have hc2:=kF hb2
   have hz2:w.heap.size<w2.heap.size:=(by have:=hb2.size;omega)
   have HB2:=zu (HB1.out.trans (hb2.mono HB1.out.size))
   clear hb2
   by_cases t3:(decide ((r.scopes.length:Int)≤4)&&r.scopes.all cM)=true
   ·go_wp2_with fail
    refine (jK 111 cM 4 r.scopes A3 c3 B _ (ent Tryz.func111 (by kernel_rfl) rfl) (HL3.out.keep HB2.out hB) (zv hB HB2.out.size) (by omega) gW).mono ?_
    rintro x w3 ⟨rfl,hb3⟩
    have hc3:=kF hb3
    have hz3:w.heap.size<w3.heap.size:=(by have:=hb3.size;omega)
    have HB3:=zu (HB2.out.trans (hb3.mono HB2.out.size))
    clear hb3
    have hcount:(az r.body).length≤32:=by
     simp only [zC,zH,List.all_eq_true] at t1
     have:=fp r.body (fun p hp=>gd (t1.2 p hp))
     omega
    have hlen:(pl r.body).length≤32:=zv (eF _) hcount
    go_wp2_with fail
    refine (ly d r.body A1 c1 B _ (HL1.out.keep HB3.out hB) (zv hB HB3.out.size) (by omega) (by omega)).mono ?_
    rintro x w4 ⟨v4,rfl,hown,hb4⟩
    obtain ⟨A4,c4,rfl,hc4,hrl⟩:=hown.reads HSM.out (by exact zv hlen (by omega))
    have hc4':=kF hb4
    have hz4:w.heap.size<w4.heap.size:=(by have:=hb4.size;omega)
    have HB4:=zu (HB3.out.trans (hb4.mono HB3.out.size))
    have HRL:=zu hrl
    clear hown hb4 hrl
    go_wp2_with fail
    have HW:=zu (HB4.out.trans ((zy w4.heap.size w4).alloc (zw _) (.cells #[.slice A4 (ey (az r.body)).length c4] 112) |>.mono HB4.out.size))
    have x0:(w4.alloc (.cells #[.slice A4 (ey (az r.body)).length c4] 112)).cell? ⟨w4.heap.size,0,none⟩=some (.slice A4 (ey (az r.body)).length c4):=by go_simp
    have hsz:=((zy w4.heap.size w4).alloc (zw _) (.cells #[.slice A4 (ey (az r.body)).length c4] 112)).size
    have HRL':=zu (((HRL.out.keep ((zy w4.heap.size w4).alloc (zw _) (.cells #[.slice A4 (ey (az r.body)).length c4] 112)) (zw _))))
    refine (dL d 113 #[.pointer (some ⟨w4.heap.size,0,none⟩)] (fun e=>!iI (fz e) (ey (az r.body))) r.exprs A2 c2 _ _ (ent Tryz.func113 (by kernel_rfl) rfl) ((HL2.out.keep HW.out hB).wide (zv hB HW.out.size)) (zw _) (by omega) (qm d (ey (az r.body)) A4 c4 _ _ _ (HRL'.out.wide hsz) (zw _) (by exact zv hlen (by omega)) (jQ _) x0)).mono ?_
    rintro x w5 ⟨rfl,hb5⟩
    have HB5:=zu (HW.out.trans (hb5.mono HW.out.size))
    clear hb5
    go_wp2_with fail
    go_ret
    refine ⟨?_,HB5.out⟩
    rw [xn t1 t2 t3]
    rfl
   ·simp only [Bool.not_eq_true] at t3
    go_wp2_with fail
    refine (jK 111 cM 4 r.scopes A3 c3 B _ (ent Tryz.func111 (by kernel_rfl) rfl) (HL3.out.keep HB2.out hB) (zv hB HB2.out.size) (by omega) gW).mono ?_
    rintro x w3 ⟨rfl,hb3⟩
    have HB3:=zu (HB2.out.trans (hb3.mono HB2.out.size))
    clear hb3
    go_wp2_with fail
    go_ret
    refine ⟨?_,HB3.out⟩
    rw [sE t3]
    rfl
  ·simp only [Bool.not_eq_true] at t2
   go_wp2_with fail
   refine (kT d 109 aO 4 r.exprs A2 c2 B _ (ent Tryz.func109 (by kernel_rfl) rfl) (HL2.out.keep HB1.out hB) (zv hB HB1.out.size) (by omega) (iY (zv hB HB1.out.size))).mono ?_
   rintro x w2 ⟨rfl,hb2⟩
   have HB2:=zu (HB1.out.trans (hb2.mono HB1.out.size))
   clear hb2
   go_wp2_with fail
   go_ret
   refine ⟨?_,HB2.out⟩
   rw [sD t2]
   rfl
 ·simp only [Bool.not_eq_true] at t1
  go_enter Tryz.func88,Tryz.ntmps88
  go_wp2_with fail
  refine (kV d 81 aE 4 r.body A1 c1 B _ (ent Tryz.func81 (by kernel_rfl) rfl) (HL1.out.keep (HB.out _) hB) (zv hB (HB.out _).size) (by omega) (iZ (zv hB (HB.out _).size))).mono ?_
  rintro x w1 ⟨rfl,hb1⟩
  have HB1:=zu ((HB.out _).trans (hb1.mono (HB.out _).size))
  clear hb1
  go_wp2_with fail
  go_ret
  refine ⟨?_,HB1.out⟩
  rw [sC t1]
  rfl
def bg (r:Ru):Bool:=r.head.name.toList.isEmpty&&decide (r.head.terms.length=0)&&decide (1≤r.body.length+r.exprs.length)&&gL r
def aP (r:Ru):Bool:=aE r.head&&decide (1≤r.body.length)&&gL r&&iI (ey (az [r.head])) (ey (az r.body))
theorem lw {P:Program} {ops:Array Oper} {C:World→Prop} {Qf:Act→World→Prop} {o:Oper} {rest:List Oper} {a a':Act} {w:World} (hw:Region.wanted o (yielded ops a.tmps)=false) (ha:a.put o.dst undef=a') (h:gR P ops C Qf rest a' w):gR P ops C Qf (o::rest) a w:=
 xU hw (ha▸h)
theorem qk {r:Ru} (h:gL r=true):(az r.body).length≤32:=by
 unfold gL at h
 simp only [zC,zH,List.all_eq_true] at h
 obtain ⟨⟨⟨⟨h1,h2⟩,_⟩,_⟩,_⟩:=h
 have:=fp r.body (fun p hp=>gd (h2 p hp))
 omega
theorem pf {d B:Nat} {r:Ru} {vs:List Value} {w:World} (hr:(RuR d).rd w B r vs) (hB:B≤w.heap.size) :
 Calls Tryz.prog 75 #[.agg vs.toArray] w fun x w'=>x=.returned (.bool (bg r))∧Below w.heap.size w w':=by
 have HR:=zu hr
 obtain ⟨_,_,_,_,rfl,hs,⟨A0,c0,rfl,h01,h02,hl0⟩,⟨A1,c1,rfl,h11,h12,hl1⟩,⟨A2,c2,rfl,h21,h22,hl2⟩,⟨A3,c3,rfl,h31,h32,hl3⟩⟩:=hr
 simp only [PrR,ExR,ScR,TmR] at h02 h12 h22 h32
 have HB:=zu (fun o:Obj=>(zy w.heap.size w).alloc (zw _) o)
 clear hl0 hl1 hl2 hl3
 by_cases t1:r.head.name.toList.isEmpty=true
 ·by_cases t2:r.head.terms.length=0
  ·by_cases t3:1≤r.body.length+r.exprs.length
   ·have u2:((r.head.terms.length:Int)==0)=true:=by simp [t2]
    have T2:=zu t2
    clear t2
    have u3:((r.body.length:Int)+(r.exprs.length:Int)≥1):=by omega
    go_enter Tryz.func75,Tryz.ntmps75
    go_wp2_with fail
    refine (nl (d:=d) (B:=B) (r:=r) (vs:=[_,_,_,_,_]) ((RuR d).keep (HB.out _) hB HR.out) (zv hB (HB.out _).size)).mono ?_
    rintro x w1 ⟨rfl,hb1⟩
    have HB1:=zu ((HB.out _).trans (hb1.mono (HB.out _).size))
    clear hb1
    go_wp2_with fail
    go_ret
    exact ⟨ac (by simp [bg,t1,T2.out,t3]),HB1.out⟩
   ·have u2:((r.head.terms.length:Int)==0)=true:=by simp [t2]
    have T2:=zu t2
    clear t2
    have u3:¬((r.body.length:Int)+(r.exprs.length:Int)≥1):=by omega
    go_enter Tryz.func75,Tryz.ntmps75
    go_wp2_with fail
    go_ret
    exact ⟨ac (by simp [bg,t3]),HB.out _⟩
  ·have u2:((r.head.terms.length:Int)==0)=false:=by simp [t2]
   go_enter Tryz.func75,Tryz.ntmps75
   go_wp2_with fail
   go_ret
   exact ⟨ac (by simp [bg,t2]),HB.out _⟩
 ·simp only [Bool.not_eq_true] at t1
  go_enter Tryz.func75,Tryz.ntmps75
  go_wp2_with fail
  go_ret
  exact ⟨ac (by simp [bg,t1]),HB.out _⟩
theorem lq {d B:Nat} {r:Ru} {vs:List Value} {w:World} (hr:(RuR d).rd w B r vs) (hB:B≤w.heap.size) :
 Calls Tryz.prog 64 #[.agg vs.toArray] w fun x w'=>x=.returned (.bool (aP r))∧Below w.heap.size w w':=by
 have HR:=zu hr
 obtain ⟨_,_,_,_,rfl,hs,⟨A0,c0,rfl,h01,h02,hl0⟩,⟨A1,c1,rfl,h11,h12,hl1⟩,⟨A2,c2,rfl,h21,h22,hl2⟩,⟨A3,c3,rfl,h31,h32,hl3⟩⟩:=hr
 simp only [PrR,ExR,ScR,TmR] at h02 h12 h22 h32
 have HB:=zu (fun o:Obj=>(zy w.heap.size w).alloc (zw _) o)
 have HP:=zu (show (PrR d).rd w B r.head [.string r.head.name,.slice A0 r.head.terms.length c0] from ⟨_,rfl,hs,_,_,rfl,h01,h02,hl0⟩)
 have HL1:=zu hl1
 clear hl0 hl1 hl2 hl3
 have e1:((r.body.length:Int)≥1)↔(1≤r.body.length):=by omega
 by_cases t1:aE r.head=true
 ·by_cases t2:1≤r.body.length
  ·by_cases t3:gL r=true
   ·have u2:((r.body.length:Int)≥1):=by omega
    go_enter Tryz.func64,Tryz.ntmps64
    go_wp2_with fail
    have HW:=zu (HB.out (.cells #[.string r.head.name,.slice A0 r.head.terms.length c0,.slice A1 r.body.length c1,.slice A2 r.exprs.length c2,.slice A3 r.scopes.length c3] 58))
    have x0:(w.alloc (.cells #[.string r.head.name,.slice A0 r.head.terms.length c0,.slice A1 r.body.length c1,.slice A2 r.exprs.length c2,.slice A3 r.scopes.length c3] 58)).cell? ⟨w.heap.size,0,none⟩=some (.string r.head.name):=by go_simp
    have x1:(w.alloc (.cells #[.string r.head.name,.slice A0 r.head.terms.length c0,.slice A1 r.body.length c1,.slice A2 r.exprs.length c2,.slice A3 r.scopes.length c3] 58)).cell? ⟨w.heap.size,1,none⟩=some (.slice A0 r.head.terms.length c0):=by go_simp
    have x2:(w.alloc (.cells #[.string r.head.name,.slice A0 r.head.terms.length c0,.slice A1 r.body.length c1,.slice A2 r.exprs.length c2,.slice A3 r.scopes.length c3] 58)).cell? ⟨w.heap.size,2,none⟩=some (.slice A1 r.body.length c1):=by go_simp
    have x3:(w.alloc (.cells #[.string r.head.name,.slice A0 r.head.terms.length c0,.slice A1 r.body.length c1,.slice A2 r.exprs.length c2,.slice A3 r.scopes.length c3] 58)).cell? ⟨w.heap.size,3,none⟩=some (.slice A2 r.exprs.length c2):=by go_simp
    have x4:(w.alloc (.cells #[.string r.head.name,.slice A0 r.head.terms.length c0,.slice A1 r.body.length c1,.slice A2 r.exprs.length c2,.slice A3 r.scopes.length c3] 58)).cell? ⟨w.heap.size,4,none⟩=some (.slice A3 r.scopes.length c3):=by go_simp
    generalize (w.alloc (.cells #[.string r.head.name,.slice A0 r.head.terms.length c0,.slice A1 r.body.length c1,.slice A2 r.exprs.length c2,.slice A3 r.scopes.length c3] 58))=W at *
    have q0:=cell_regrown x0
    have q1:=cell_regrown x1
    have q2:=cell_regrown x2
    have q3:=cell_regrown x3
    have q4:=cell_regrown x4
    refine cS (ez W) (by kernel_rfl) (by kernel_rfl) (ez.drew W) ?_
    repeat (refine aX rfl rfl (fun K hK=>?_);unfold ez;go_big_quiet_op;refine hK _ ?_;clear hK K)
    refine cA rfl rfl (fun K hK=>?_)
    go_wp2_with fail
    refine (dl (d:=d) (B:=B) (vs:=[_,_]) ((PrR d).keep HW.out.drew hB HP.out) (zv hB HW.out.size)).mono ?_
    rintro x w1 ⟨rfl,hb1⟩
    have HB1:=zu (HW.out.trans ((zy _ W).drew.trans (hb1.mono (zw _)) |>.mono HW.out.size))
    have HC:=zu (ez.of ((zy W.heap.size W).drew.trans (hb1.mono (zw _))))
    clear hb1
    rw [t1]
    go_wp2_with fail
    refine ⟨HC.out,?_⟩
    repeat (refine aX rfl rfl (fun K hK=>?_);unfold ez;go_big_quiet_op;refine hK _ ?_;clear hK K)
    refine cA rfl rfl (fun K hK=>?_)
    go_wp2_with fail
    refine (nl (d:=d) (B:=B) (r:=r) (vs:=[_,_,_,_,_]) ((RuR d).keep HB1.out hB HR.out) (zv hB HB1.out.size)).mono ?_
    rintro x w2 ⟨rfl,hb2⟩
    have HB2:=zu (HB1.out.trans (hb2.mono HB1.out.size))
    have HC2:=zu (ez.of (HC.out.below.trans (hb2.mono HC.out.below.size)))
    clear hb2
    rw [t3]
    go_wp2_with fail
    refine ⟨HC2.out,?_⟩
    repeat (refine aX rfl rfl (fun K hK=>?_);unfold ez;go_big_quiet_op;refine hK _ ?_;clear hK K)
    refine cA rfl rfl (fun K hK=>?_)
    go_wp2_with fail
    have HW3:=zu (HB2.out.trans ((zy w2.heap.size w2).alloc (zw _) (.cells #[.string r.head.name,.slice A0 r.head.terms.length c0] 26) |>.mono HB2.out.size))
    have HC3:=zu (ez.of (HC2.out.below.trans ((zy w2.heap.size w2).alloc (zw _) (.cells #[.string r.head.name,.slice A0 r.head.terms.length c0] 26) |>.mono HC2.out.below.size)))
    have y0:(w2.alloc (.cells #[.string r.head.name,.slice A0 r.head.terms.length c0] 26)).cell? ⟨w2.heap.size,0,none⟩=some (.string r.head.name):=by go_simp
    have y1:(w2.alloc (.cells #[.string r.head.name,.slice A0 r.head.terms.length c0] 26)).cell? ⟨w2.heap.size,1,none⟩=some (.slice A0 r.head.terms.length c0):=by go_simp
    have ysz:w2.heap.size<(w2.alloc (.cells #[.string r.head.name,.slice A0 r.head.terms.length c0] 26)).heap.size:=by go_simp
    refine ⟨HC3.out,?_⟩
    generalize (w2.alloc (.cells #[.string r.head.name,.slice A0 r.head.terms.length c0] 26))=w3 at *
    have HO:=zu (RL.one (x:=r.head) (b:=w2.heap.size) ysz ((PrR d).wide (zv hB HW3.out.size) ((PrR d).keep HW3.out hB HP.out)) (fun j v hv=>by
     rcases j with _ | _ | j
     ·simp only [zI,zE] at hv;rw [←hv];exact y0
     ·simp only [List.getElem?_cons_succ,zI,zE] at hv;rw [←hv];exact y1
     ·simp at hv))
    have hcount1:(az [r.head]).length≤8:=by
     have:=fp [r.head] (fun p hp=>by simp at hp;rw [hp];exact gd t1)
     simpa using this
    have hcount2:=qk t3
    have hlen1:(ey (az [r.head])).length≤8:=zv (eF _) hcount1
    have hlen2:(ey (az r.body)).length≤32:=zv (eF _) hcount2
    have HSM1:=zu (gg (RL.smallP HO.out))
    have HSM2:=zu (gg (RL.smallP HL1.out))
    clear y0 y1
    refine cA rfl rfl (fun K hK=>?_)
    go_wp2_with fail
    refine (ly d [r.head] (some ⟨w2.heap.size,0,none⟩) 1 _ _ HO.out (zw _) (by simp) (by omega)).mono ?_
    rintro x w4 ⟨v4,rfl,hown,hb4⟩
    obtain ⟨A4,c4,rfl,hc4,hrl⟩:=hown.reads HSM1.out (by omega)
    have HB4:=zu (HW3.out.trans (hb4.mono HW3.out.size))
    have HC4:=zu (ez.of (HC3.out.below.trans (hb4.mono HC3.out.below.size)))
    have HRL:=zu hrl
    clear hown hb4 hrl
    go_wp2_with fail
    refine ⟨HC4.out,?_⟩
    repeat (refine aX rfl rfl (fun K hK=>?_);unfold ez;go_big_quiet_op;refine hK _ ?_;clear hK K)
    refine cA rfl rfl (fun K hK=>?_)
    go_wp2_with fail
    refine (ly d r.body A1 c1 B _ (HL1.out.keep HB4.out hB) (zv hB HB4.out.size) (by omega) (by omega)).mono ?_
    rintro x w5 ⟨v5,rfl,hown,hb5⟩
    obtain ⟨A5,c5,rfl,hc5,hrl⟩:=hown.reads HSM2.out (by exact zv hlen2 (by omega))
    have HB5:=zu (HB4.out.trans (hb5.mono HB4.out.size))
    have HC5:=zu (ez.of (HC4.out.below.trans (hb5.mono HC4.out.below.size)))
    have HRL4:=zu ((HRL.out.keep hb5 (zw _)).wide hb5.size)
    have HRL5:=zu hrl
    clear hown hb5 hrl
    go_wp2_with fail
    refine ⟨HC5.out,?_⟩
    repeat (refine aX rfl rfl (fun K hK=>?_);unfold ez;go_big_quiet_op;refine hK _ ?_;clear hK K)
    refine cA rfl rfl (fun K hK=>?_)
    go_wp2_with fail
    refine (oZ (ey (az [r.head])) (ey (az r.body)) A4 A5 c4 c5 _ _ HRL4.out HRL5.out (zw _) (by omega) (by exact zv hlen2 (by omega)) (jQ _)).mono ?_
    rintro x w6 ⟨rfl,hb6⟩
    have HB6:=zu (HB5.out.trans (hb6.mono HB5.out.size))
    have HC6:=zu (ez.of (HC5.out.below.trans (hb6.mono HC5.out.below.size)))
    clear hb6
    go_wp2_with fail
    refine ⟨HC6.out,?_⟩
    repeat (refine aX rfl rfl (fun K hK=>?_);unfold ez;go_big_quiet_op;refine hK _ ?_;clear hK K)
    refine lv (fun _=>?_)
    go_wp2_with fail
    go_ret
    exact ⟨ac (by simp [aP,t1,t2,t3]),HB6.out⟩
   ·simp only [Bool.not_eq_true] at t3
    have u2:((r.body.length:Int)≥1):=by omega
    go_enter Tryz.func64,Tryz.ntmps64
    go_wp2_with fail
    have HW:=zu (HB.out (.cells #[.string r.head.name,.slice A0 r.head.terms.length c0,.slice A1 r.body.length c1,.slice A2 r.exprs.length c2,.slice A3 r.scopes.length c3] 58))
    have x0:(w.alloc (.cells #[.string r.head.name,.slice A0 r.head.terms.length c0,.slice A1 r.body.length c1,.slice A2 r.exprs.length c2,.slice A3 r.scopes.length c3] 58)).cell? ⟨w.heap.size,0,none⟩=some (.string r.head.name):=by go_simp
    have x1:(w.alloc (.cells #[.string r.head.name,.slice A0 r.head.terms.length c0,.slice A1 r.body.length c1,.slice A2 r.exprs.length c2,.slice A3 r.scopes.length c3] 58)).cell? ⟨w.heap.size,1,none⟩=some (.slice A0 r.head.terms.length c0):=by go_simp
    have x2:(w.alloc (.cells #[.string r.head.name,.slice A0 r.head.terms.length c0,.slice A1 r.body.length c1,.slice A2 r.exprs.length c2,.slice A3 r.scopes.length c3] 58)).cell? ⟨w.heap.size,2,none⟩=some (.slice A1 r.body.length c1):=by go_simp
    have x3:(w.alloc (.cells #[.string r.head.name,.slice A0 r.head.terms.length c0,.slice A1 r.body.length c1,.slice A2 r.exprs.length c2,.slice A3 r.scopes.length c3] 58)).cell? ⟨w.heap.size,3,none⟩=some (.slice A2 r.exprs.length c2):=by go_simp
    have x4:(w.alloc (.cells #[.string r.head.name,.slice A0 r.head.terms.length c0,.slice A1 r.body.length c1,.slice A2 r.exprs.length c2,.slice A3 r.scopes.length c3] 58)).cell? ⟨w.heap.size,4,none⟩=some (.slice A3 r.scopes.length c3):=by go_simp
    generalize (w.alloc (.cells #[.string r.head.name,.slice A0 r.head.terms.length c0,.slice A1 r.body.length c1,.slice A2 r.exprs.length c2,.slice A3 r.scopes.length c3] 58))=W at *
    have q0:=cell_regrown x0
    have q1:=cell_regrown x1
    have q2:=cell_regrown x2
    have q3:=cell_regrown x3
    have q4:=cell_regrown x4
    refine cS (ez W) (by kernel_rfl) (by kernel_rfl) (ez.drew W) ?_
    repeat (refine aX rfl rfl (fun K hK=>?_);unfold ez;go_big_quiet_op;refine hK _ ?_;clear hK K)
    refine cA rfl rfl (fun K hK=>?_)
    go_wp2_with fail
    refine (dl (d:=d) (B:=B) (vs:=[_,_]) ((PrR d).keep HW.out.drew hB HP.out) (zv hB HW.out.size)).mono ?_
    rintro x w1 ⟨rfl,hb1⟩
    have HB1:=zu (HW.out.trans ((zy _ W).drew.trans (hb1.mono (zw _)) |>.mono HW.out.size))
    have HC:=zu (ez.of ((zy W.heap.size W).drew.trans (hb1.mono (zw _))))
    clear hb1
    rw [t1]
    go_wp2_with fail
    refine ⟨HC.out,?_⟩
    repeat (refine aX rfl rfl (fun K hK=>?_);unfold ez;go_big_quiet_op;refine hK _ ?_;clear hK K)
    refine cA rfl rfl (fun K hK=>?_)
    go_wp2_with fail
    refine (nl (d:=d) (B:=B) (r:=r) (vs:=[_,_,_,_,_]) ((RuR d).keep HB1.out hB HR.out) (zv hB HB1.out.size)).mono ?_
    rintro x w2 ⟨rfl,hb2⟩
    have HB2:=zu (HB1.out.trans (hb2.mono HB1.out.size))
    have HC2:=zu (ez.of (HC.out.below.trans (hb2.mono HC.out.below.size)))
    clear hb2
    rw [t3]
    go_wp2_with fail
    refine ⟨HC2.out,?_⟩
    repeat first | (refine aX rfl rfl (fun K hK=>?_);unfold ez;go_big_quiet_op;refine hK _ ?_;clear hK K) | (refine lw (a':=?_) rfl ?_ ?_;rotate_left;focus (dsimp only [Act.put];simp only [List.setIfInBounds_toArray,List.set_cons_succ,List.set_cons_zero];rfl))
    refine lv (fun _=>?_)
    go_wp2_with fail
    go_ret
    exact ⟨ac (by simp [aP,t3]),HB2.out⟩
  ·have u2:¬((r.body.length:Int)≥1):=by omega
   go_enter Tryz.func64,Tryz.ntmps64
   go_wp2_with fail
   have HW:=zu (HB.out (.cells #[.string r.head.name,.slice A0 r.head.terms.length c0,.slice A1 r.body.length c1,.slice A2 r.exprs.length c2,.slice A3 r.scopes.length c3] 58))
   have x0:(w.alloc (.cells #[.string r.head.name,.slice A0 r.head.terms.length c0,.slice A1 r.body.length c1,.slice A2 r.exprs.length c2,.slice A3 r.scopes.length c3] 58)).cell? ⟨w.heap.size,0,none⟩=some (.string r.head.name):=by go_simp
   have x1:(w.alloc (.cells #[.string r.head.name,.slice A0 r.head.terms.length c0,.slice A1 r.body.length c1,.slice A2 r.exprs.length c2,.slice A3 r.scopes.length c3] 58)).cell? ⟨w.heap.size,1,none⟩=some (.slice A0 r.head.terms.length c0):=by go_simp
   have x2:(w.alloc (.cells #[.string r.head.name,.slice A0 r.head.terms.length c0,.slice A1 r.body.length c1,.slice A2 r.exprs.length c2,.slice A3 r.scopes.length c3] 58)).cell? ⟨w.heap.size,2,none⟩=some (.slice A1 r.body.length c1):=by go_simp
   have x3:(w.alloc (.cells #[.string r.head.name,.slice A0 r.head.terms.length c0,.slice A1 r.body.length c1,.slice A2 r.exprs.length c2,.slice A3 r.scopes.length c3] 58)).cell? ⟨w.heap.size,3,none⟩=some (.slice A2 r.exprs.length c2):=by go_simp
   have x4:(w.alloc (.cells #[.string r.head.name,.slice A0 r.head.terms.length c0,.slice A1 r.body.length c1,.slice A2 r.exprs.length c2,.slice A3 r.scopes.length c3] 58)).cell? ⟨w.heap.size,4,none⟩=some (.slice A3 r.scopes.length c3):=by go_simp
   generalize (w.alloc (.cells #[.string r.head.name,.slice A0 r.head.terms.length c0,.slice A1 r.body.length c1,.slice A2 r.exprs.length c2,.slice A3 r.scopes.length c3] 58))=W at *
   have q0:=cell_regrown x0
   have q1:=cell_regrown x1
   have q2:=cell_regrown x2
   have q3:=cell_regrown x3
   have q4:=cell_regrown x4
   refine cS (ez W) (by kernel_rfl) (by kernel_rfl) (ez.drew W) ?_
   repeat (refine aX rfl rfl (fun K hK=>?_);unfold ez;go_big_quiet_op;refine hK _ ?_;clear hK K)
   refine cA rfl rfl (fun K hK=>?_)
   go_wp2_with fail
   refine (dl (d:=d) (B:=B) (vs:=[_,_]) ((PrR d).keep HW.out.drew hB HP.out) (zv hB HW.out.size)).mono ?_
   rintro x w1 ⟨rfl,hb1⟩
   have HB1:=zu (HW.out.trans ((zy _ W).drew.trans (hb1.mono (zw _)) |>.mono HW.out.size))
   have HC:=zu (ez.of ((zy W.heap.size W).drew.trans (hb1.mono (zw _))))
   clear hb1
   rw [t1]
   go_wp2_with fail
   refine ⟨HC.out,?_⟩
   repeat first | (refine aX rfl rfl (fun K hK=>?_);unfold ez;go_big_quiet_op;refine hK _ ?_;clear hK K) | (refine lw (a':=?_) rfl ?_ ?_;rotate_left;focus (dsimp only [Act.put];simp only [List.setIfInBounds_toArray,List.set_cons_succ,List.set_cons_zero];rfl))
   refine lv (fun _=>?_)
   go_wp2_with fail
   go_ret
   exact ⟨ac (by simp [aP,t2]),HB1.out⟩
 ·simp only [Bool.not_eq_true] at t1
  go_enter Tryz.func64,Tryz.ntmps64
  go_wp2_with fail
  have HW:=zu (HB.out (.cells #[.string r.head.name,.slice A0 r.head.terms.length c0,.slice A1 r.body.length c1,.slice A2 r.exprs.length c2,.slice A3 r.scopes.length c3] 58))
  have x0:(w.alloc (.cells #[.string r.head.name,.slice A0 r.head.terms.length c0,.slice A1 r.body.length c1,.slice A2 r.exprs.length c2,.slice A3 r.scopes.length c3] 58)).cell? ⟨w.heap.size,0,none⟩=some (.string r.head.name):=by go_simp
  have x1:(w.alloc (.cells #[.string r.head.name,.slice A0 r.head.terms.length c0,.slice A1 r.body.length c1,.slice A2 r.exprs.length c2,.slice A3 r.scopes.length c3] 58)).cell? ⟨w.heap.size,1,none⟩=some (.slice A0 r.head.terms.length c0):=by go_simp
  have x2:(w.alloc (.cells #[.string r.head.name,.slice A0 r.head.terms.length c0,.slice A1 r.body.length c1,.slice A2 r.exprs.length c2,.slice A3 r.scopes.length c3] 58)).cell? ⟨w.heap.size,2,none⟩=some (.slice A1 r.body.length c1):=by go_simp
  have x3:(w.alloc (.cells #[.string r.head.name,.slice A0 r.head.terms.length c0,.slice A1 r.body.length c1,.slice A2 r.exprs.length c2,.slice A3 r.scopes.length c3] 58)).cell? ⟨w.heap.size,3,none⟩=some (.slice A2 r.exprs.length c2):=by go_simp
  have x4:(w.alloc (.cells #[.string r.head.name,.slice A0 r.head.terms.length c0,.slice A1 r.body.length c1,.slice A2 r.exprs.length c2,.slice A3 r.scopes.length c3] 58)).cell? ⟨w.heap.size,4,none⟩=some (.slice A3 r.scopes.length c3):=by go_simp
  generalize (w.alloc (.cells #[.string r.head.name,.slice A0 r.head.terms.length c0,.slice A1 r.body.length c1,.slice A2 r.exprs.length c2,.slice A3 r.scopes.length c3] 58))=W at *
  have q0:=cell_regrown x0
  have q1:=cell_regrown x1
  have q2:=cell_regrown x2
  have q3:=cell_regrown x3
  have q4:=cell_regrown x4
  refine cS (ez W) (by kernel_rfl) (by kernel_rfl) (ez.drew W) ?_
  repeat (refine aX rfl rfl (fun K hK=>?_);unfold ez;go_big_quiet_op;refine hK _ ?_;clear hK K)
  refine cA rfl rfl (fun K hK=>?_)
  go_wp2_with fail
  refine (dl (d:=d) (B:=B) (vs:=[_,_]) ((PrR d).keep HW.out.drew hB HP.out) (zv hB HW.out.size)).mono ?_
  rintro x w1 ⟨rfl,hb1⟩
  have HB1:=zu (HW.out.trans ((zy _ W).drew.trans (hb1.mono (zw _)) |>.mono HW.out.size))
  have HC:=zu (ez.of ((zy W.heap.size W).drew.trans (hb1.mono (zw _))))
  clear hb1
  rw [t1]
  go_wp2_with fail
  refine ⟨HC.out,?_⟩
  repeat first | (refine aX rfl rfl (fun K hK=>?_);unfold ez;go_big_quiet_op;refine hK _ ?_;clear hK K) | (refine lw (a':=?_) rfl ?_ ?_;rotate_left;focus (dsimp only [Act.put];simp only [List.setIfInBounds_toArray,List.set_cons_succ,List.set_cons_zero];rfl))
  refine lv (fun _=>?_)
  go_wp2_with fail
  go_ret
  exact ⟨ac (by simp [aP,t1]),HB1.out⟩
end Go.Proofs.YtjpndglegpcdnaaGreat
