/- rule: MayQuery, May. -/
import Derived.Test.YtjpndglegpcdnaaGreatRule2
import Derived.Test.YtjpndglegpcdnaaGreatMeet
set_option linter.unusedVariables false
set_option linter.unusedSimpArgs false
set_option maxRecDepth 100000
set_option maxHeartbeats 8000000
namespace Go.Proofs.YtjpndglegpcdnaaGreat
open Go.ChangeShapes Go.WideShapes Go.ChangeAt Go.RowKit
theorem iM {d B:Nat} {w:World} (hB:B≤w.heap.size):bS Tryz.prog (PrR d) cS B w 81 #[] aB:=fun x vs w1 hb hr=>by
 obtain ⟨v,rfl,_⟩:=id hr
 exact cZ (d:=d) (B:=B) (vs:=[_,_]) hr (by have:=hb.size;omega)
theorem iL {d B:Nat} {w:World} (hB:B≤w.heap.size):bS Tryz.prog (ExR d) cS B w 109 #[] aK:=fun x vs w1 hb hr=>by
 obtain ⟨v,rfl,_⟩:=id hr
 exact cY (d:=d) (B:=B) (vs:=[_]) hr (by have:=hb.size;omega)
theorem gN {B:Nat} {w:World}:bS Tryz.prog ScR cS B w 111 #[] cJ:=fun x vs w1 hb hr=>by
 obtain ⟨rfl,_⟩:=id hr
 exact oG (B:=B) (vs:=[_,_]) hr
def oK (ps:List Pr):List aW:=ef (ax ps)
def gA (r:Ru):Bool:=(decide (r.body.length≤4)&&r.body.all aB)&&(decide (r.exprs.length≤4)&&r.exprs.all aK)&&(decide (r.scopes.length≤4)&&r.scopes.all cJ)&&r.exprs.all (fun e=>iy (fk e) (oK r.body))
theorem vX {r:Ru} (t1:(decide ((r.body.length:Int)≤4)&&r.body.all aB)=true) (t2:(decide ((r.exprs.length:Int)≤4)&&r.exprs.all aK)=true)
 (t3:(decide ((r.scopes.length:Int)≤4)&&r.scopes.all cJ)=true):gA r = !r.exprs.any (fun e=>!iy (fk e) (ef (ax r.body))):=by
 unfold gA oK
 simp only [jY] at t1 t2 t3
 rw [t1,t2,t3,Bool.true_and,Bool.true_and,Bool.true_and,List.not_any_eq_all_not]
 simp only [Bool.not_not]
theorem rH {r:Ru} (t1:(decide ((r.body.length:Int)≤4)&&r.body.all aB)=false):gA r=false:=by
 unfold gA;simp only [jY] at t1;rw [t1];simp only [Bool.false_and]
theorem rI {r:Ru} (t2:(decide ((r.exprs.length:Int)≤4)&&r.exprs.all aK)=false):gA r=false:=by
 unfold gA;simp only [jY] at t2;rw [t2];simp only [Bool.false_and,Bool.and_false]
theorem rJ {r:Ru} (t3:(decide ((r.scopes.length:Int)≤4)&&r.scopes.all cJ)=false):gA r=false:=by
 unfold gA;simp only [jY] at t3;rw [t3];simp only [Bool.false_and,Bool.and_false]
theorem fd:∀(ps:List Pr),(∀p∈ps,p.terms.length≤8)→(ax ps).length≤8*ps.length
 | [],_=>by simp [ax]
 | p::ps,h=>by
   have h1:=fd ps (fun q hq=>h q (by simp [hq]))
   have h2:=h p (by simp)
   have h3:(cm p.terms).length≤p.terms.length:=by unfold cm;rw [yw];exact List.length_filter_le _ _
   have:ax (p::ps)=cm p.terms++ax ps:=by simp [ax]
   rw [this,yv,yE]
   omega
theorem fN {p:Pr} (h:aB p=true):p.terms.length≤8:=by
 unfold aB at h
 simp only [yx,yC] at h
 exact h.2.1
def smallP (ps:List Pr):Prop:=∀p∈ps,∀t∈p.terms,t.s.size≤140737488351232
theorem RSl.smallT {d B:Nat} {ts:List Tm} {v:Value} {w:World} (h:RSl (TmR d) w B ts v):∀t∈ts,t.s.size≤140737488351232:=by
 obtain ⟨A,c,_,_,_,hl⟩:=h
 intro t ht
 obtain ⟨i,hi,rfl⟩:=List.getElem_of_mem ht
 obtain ⟨b,off,rfl,hb,hc⟩:=hl (by omega)
 obtain ⟨vs,_,⟨x,hx,hr⟩,_⟩:=hc i hi
 obtain ⟨_,_,_,_,_,hs,_⟩:=RTm.cells hr
 rw [yy hi] at hx
 simp only [yz] at hx
 rw [hx];exact hs
theorem RL.smallP {d B:Nat} {ps:List Pr} {A:Option Addr} {w:World} (h:RL (PrR d) w B ps A):smallP ps:=by
 intro p hp
 obtain ⟨i,hi,rfl⟩:=List.getElem_of_mem hp
 obtain ⟨b,off,rfl,hb,hc⟩:=h (by omega)
 obtain ⟨vs,_,⟨x,hx,hr⟩,_⟩:=hc i hi
 obtain ⟨_,_,_,ht⟩:=hr
 rw [yy hi] at hx
 simp only [yz] at hx
 rw [hx];exact RSl.smallT ht
theorem fS {ps:List Pr} (h:smallP ps):∀l∈oK ps,l.length≤140737488351232:=by
 intro l hl
 unfold oK at hl
 rw [lc] at hl
 unfold ax cm at hl
 simp only [List.mem_flatMap,List.mem_map,List.mem_filter] at hl
 obtain ⟨p,hp,t,⟨ht,_⟩,rfl⟩:=hl
 rw [ie]
 exact h p hp t ht
theorem mR {d B:Nat} {r:Ru} {vs:List Value} {w:World} (hr:(RuR d).rd w B r vs) (hB:B≤w.heap.size) :
 Calls Tryz.prog 88 #[.agg vs.toArray] w fun x w'=>x=.returned (.bool (gA r))∧Below w.heap.size w w':=by
 obtain ⟨_,_,_,_,rfl,hs,⟨A0,c0,rfl,h01,h02,hl0⟩,⟨A1,c1,rfl,h11,h12,hl1⟩,⟨A2,c2,rfl,h21,h22,hl2⟩,⟨A3,c3,rfl,h31,h32,hl3⟩⟩:=hr
 simp only [PrR,ExR,ScR] at h12 h22 h32
 have HB:=ym (fun o:Obj=>(yq w.heap.size w).alloc (yo _) o)
 have HL1:=ym hl1
 have HL2:=ym hl2
 have HL3:=ym hl3
 have HSM:=ym (fS (RL.smallP hl1))
 clear hl0 hl1 hl2 hl3
 by_cases t1:(decide ((r.body.length:Int)≤4)&&r.body.all aB)=true
 ·go_enter Tryz.func88,Tryz.ntmps88
  go_wp2_with fail
  refine (kI d 81 aB 4 r.body A1 c1 B _ (ent Tryz.func81 (by kernel_rfl) rfl) (HL1.out.keep (HB.out _) hB) (yn hB (HB.out _).size) (by omega) (iM (yn hB (HB.out _).size))).mono ?_
  rintro x w1 ⟨rfl,hb1⟩
  have hc1:=ku hb1
  have hz1:w.heap.size<w1.heap.size:=(by have:=hb1.size;simp at this;omega)
  have HB1:=ym ((HB.out _).trans (hb1.mono (HB.out _).size))
  clear hb1
  by_cases t2:(decide ((r.exprs.length:Int)≤4)&&r.exprs.all aK)=true
  ·go_wp2_with fail
   refine (kF d 109 aK 4 r.exprs A2 c2 B _ (ent Tryz.func109 (by kernel_rfl) rfl) (HL2.out.keep HB1.out hB) (yn hB HB1.out.size) (by omega) (iL (yn hB HB1.out.size))).mono ?_
   rintro x w2 ⟨rfl,hb2⟩
   have hc2:=ku hb2
   have hz2:w.heap.size<w2.heap.size:=(by have:=hb2.size;omega)
   have HB2:=ym (HB1.out.trans (hb2.mono HB1.out.size))
   clear hb2
   by_cases t3:(decide ((r.scopes.length:Int)≤4)&&r.scopes.all cJ)=true
   ·go_wp2_with fail
    refine (jx 111 cJ 4 r.scopes A3 c3 B _ (ent Tryz.func111 (by kernel_rfl) rfl) (HL3.out.keep HB2.out hB) (yn hB HB2.out.size) (by omega) gN).mono ?_
    rintro x w3 ⟨rfl,hb3⟩
    have hc3:=ku hb3
    have hz3:w.heap.size<w3.heap.size:=(by have:=hb3.size;omega)
    have HB3:=ym (HB2.out.trans (hb3.mono HB2.out.size))
    clear hb3
    have hcount:(ax r.body).length≤32:=by
     simp only [yx,yC,List.all_eq_true] at t1
     have:=fd r.body (fun p hp=>fN (t1.2 p hp))
     omega
    have hlen:(oK r.body).length≤32:=yn (eu _) hcount
    go_wp2_with fail
    refine (lj d r.body A1 c1 B _ (HL1.out.keep HB3.out hB) (yn hB HB3.out.size) (by omega) (by omega)).mono ?_
    rintro x w4 ⟨v4,rfl,hown,hb4⟩
    obtain ⟨A4,c4,rfl,hc4,hrl⟩:=hown.reads HSM.out (by exact yn hlen (by omega))
    have hc4':=ku hb4
    have hz4:w.heap.size<w4.heap.size:=(by have:=hb4.size;omega)
    have HB4:=ym (HB3.out.trans (hb4.mono HB3.out.size))
    have HRL:=ym hrl
    clear hown hb4 hrl
    go_wp2_with fail
    have HW:=ym (HB4.out.trans ((yq w4.heap.size w4).alloc (yo _) (.cells #[.slice A4 (ef (ax r.body)).length c4] 112) |>.mono HB4.out.size))
    have x0:(w4.alloc (.cells #[.slice A4 (ef (ax r.body)).length c4] 112)).cell? ⟨w4.heap.size,0,none⟩=some (.slice A4 (ef (ax r.body)).length c4):=by go_simp
    have hsz:=((yq w4.heap.size w4).alloc (yo _) (.cells #[.slice A4 (ef (ax r.body)).length c4] 112)).size
    have HRL':=ym (((HRL.out.keep ((yq w4.heap.size w4).alloc (yo _) (.cells #[.slice A4 (ef (ax r.body)).length c4] 112)) (yo _))))
    refine (dB d 113 #[.pointer (some ⟨w4.heap.size,0,none⟩)] (fun e=>!iy (fk e) (ef (ax r.body))) r.exprs A2 c2 _ _ (ent Tryz.func113 (by kernel_rfl) rfl) ((HL2.out.keep HW.out hB).wide (yn hB HW.out.size)) (yo _) (by omega) (pG d (ef (ax r.body)) A4 c4 _ _ _ (HRL'.out.wide hsz) (yo _) (by exact yn hlen (by omega)) (jG _) x0)).mono ?_
    rintro x w5 ⟨rfl,hb5⟩
    have HB5:=ym (HW.out.trans (hb5.mono HW.out.size))
    clear hb5
    go_wp2_with fail
    go_ret
    refine ⟨?_,HB5.out⟩
    rw [vX t1 t2 t3]
    rfl
   ·simp only [Bool.not_eq_true] at t3
    go_wp2_with fail
    refine (jx 111 cJ 4 r.scopes A3 c3 B _ (ent Tryz.func111 (by kernel_rfl) rfl) (HL3.out.keep HB2.out hB) (yn hB HB2.out.size) (by omega) gN).mono ?_
    rintro x w3 ⟨rfl,hb3⟩
    have HB3:=ym (HB2.out.trans (hb3.mono HB2.out.size))
    clear hb3
    go_wp2_with fail
    go_ret
    refine ⟨?_,HB3.out⟩
    rw [rJ t3]
    rfl
  ·simp only [Bool.not_eq_true] at t2
   go_wp2_with fail
   refine (kF d 109 aK 4 r.exprs A2 c2 B _ (ent Tryz.func109 (by kernel_rfl) rfl) (HL2.out.keep HB1.out hB) (yn hB HB1.out.size) (by omega) (iL (yn hB HB1.out.size))).mono ?_
   rintro x w2 ⟨rfl,hb2⟩
   have HB2:=ym (HB1.out.trans (hb2.mono HB1.out.size))
   clear hb2
   go_wp2_with fail
   go_ret
   refine ⟨?_,HB2.out⟩
   rw [rI t2]
   rfl
 ·simp only [Bool.not_eq_true] at t1
  go_enter Tryz.func88,Tryz.ntmps88
  go_wp2_with fail
  refine (kI d 81 aB 4 r.body A1 c1 B _ (ent Tryz.func81 (by kernel_rfl) rfl) (HL1.out.keep (HB.out _) hB) (yn hB (HB.out _).size) (by omega) (iM (yn hB (HB.out _).size))).mono ?_
  rintro x w1 ⟨rfl,hb1⟩
  have HB1:=ym ((HB.out _).trans (hb1.mono (HB.out _).size))
  clear hb1
  go_wp2_with fail
  go_ret
  refine ⟨?_,HB1.out⟩
  rw [rH t1]
  rfl
def aZ (r:Ru):Bool:=r.head.name.toList.isEmpty&&decide (r.head.terms.length=0)&&decide (1≤r.body.length+r.exprs.length)&&gA r
def aM (r:Ru):Bool:=aB r.head&&decide (1≤r.body.length)&&gA r&&iy (ef (ax [r.head])) (ef (ax r.body))
theorem lg {P:Program} {ops:Array Oper} {C:World→Prop} {Qf:Act→World→Prop} {o:Oper} {rest:List Oper} {a a':Act} {w:World} (hw:Region.wanted o (yielded ops a.tmps)=false) (ha:a.put o.dst undef=a') (h:gG P ops C Qf rest a' w):gG P ops C Qf (o::rest) a w:=
 wQ hw (ha▸h)
theorem pF {r:Ru} (h:gA r=true):(ax r.body).length≤32:=by
 unfold gA at h
 simp only [yx,yC,List.all_eq_true] at h
 obtain ⟨⟨⟨⟨h1,h2⟩,_⟩,_⟩,_⟩:=h
 have:=fd r.body (fun p hp=>fN (h2 p hp))
 omega
theorem oF {d B:Nat} {r:Ru} {vs:List Value} {w:World} (hr:(RuR d).rd w B r vs) (hB:B≤w.heap.size) :
 Calls Tryz.prog 75 #[.agg vs.toArray] w fun x w'=>x=.returned (.bool (aZ r))∧Below w.heap.size w w':=by
 have HR:=ym hr
 obtain ⟨_,_,_,_,rfl,hs,⟨A0,c0,rfl,h01,h02,hl0⟩,⟨A1,c1,rfl,h11,h12,hl1⟩,⟨A2,c2,rfl,h21,h22,hl2⟩,⟨A3,c3,rfl,h31,h32,hl3⟩⟩:=hr
 simp only [PrR,ExR,ScR,TmR] at h02 h12 h22 h32
 have HB:=ym (fun o:Obj=>(yq w.heap.size w).alloc (yo _) o)
 clear hl0 hl1 hl2 hl3
 by_cases t1:r.head.name.toList.isEmpty=true
 ·by_cases t2:r.head.terms.length=0
  ·by_cases t3:1≤r.body.length+r.exprs.length
   ·have u2:((r.head.terms.length:Int)==0)=true:=by simp [t2]
    have T2:=ym t2
    clear t2
    have u3:((r.body.length:Int)+(r.exprs.length:Int)≥1):=by omega
    go_enter Tryz.func75,Tryz.ntmps75
    go_wp2_with fail
    refine (mR (d:=d) (B:=B) (r:=r) (vs:=[_,_,_,_,_]) ((RuR d).keep (HB.out _) hB HR.out) (yn hB (HB.out _).size)).mono ?_
    rintro x w1 ⟨rfl,hb1⟩
    have HB1:=ym ((HB.out _).trans (hb1.mono (HB.out _).size))
    clear hb1
    go_wp2_with fail
    go_ret
    exact ⟨ae (by simp [aZ,t1,T2.out,t3]),HB1.out⟩
   ·have u2:((r.head.terms.length:Int)==0)=true:=by simp [t2]
    have T2:=ym t2
    clear t2
    have u3:¬((r.body.length:Int)+(r.exprs.length:Int)≥1):=by omega
    go_enter Tryz.func75,Tryz.ntmps75
    go_wp2_with fail
    go_ret
    exact ⟨ae (by simp [aZ,t3]),HB.out _⟩
  ·have u2:((r.head.terms.length:Int)==0)=false:=by simp [t2]
   go_enter Tryz.func75,Tryz.ntmps75
   go_wp2_with fail
   go_ret
   exact ⟨ae (by simp [aZ,t2]),HB.out _⟩
 ·simp only [Bool.not_eq_true] at t1
  go_enter Tryz.func75,Tryz.ntmps75
  go_wp2_with fail
  go_ret
  exact ⟨ae (by simp [aZ,t1]),HB.out _⟩
theorem kZ {d B:Nat} {r:Ru} {vs:List Value} {w:World} (hr:(RuR d).rd w B r vs) (hB:B≤w.heap.size) :
 Calls Tryz.prog 64 #[.agg vs.toArray] w fun x w'=>x=.returned (.bool (aM r))∧Below w.heap.size w w':=by
 have HR:=ym hr
 obtain ⟨_,_,_,_,rfl,hs,⟨A0,c0,rfl,h01,h02,hl0⟩,⟨A1,c1,rfl,h11,h12,hl1⟩,⟨A2,c2,rfl,h21,h22,hl2⟩,⟨A3,c3,rfl,h31,h32,hl3⟩⟩:=hr
 simp only [PrR,ExR,ScR,TmR] at h02 h12 h22 h32
 have HB:=ym (fun o:Obj=>(yq w.heap.size w).alloc (yo _) o)
 have HP:=ym (show (PrR d).rd w B r.head [.string r.head.name,.slice A0 r.head.terms.length c0] from ⟨_,rfl,hs,_,_,rfl,h01,h02,hl0⟩)
 have HL1:=ym hl1
 clear hl0 hl1 hl2 hl3
 have e1:((r.body.length:Int)≥1)↔(1≤r.body.length):=by omega
 by_cases t1:aB r.head=true
 ·by_cases t2:1≤r.body.length
  ·by_cases t3:gA r=true
   ·have u2:((r.body.length:Int)≥1):=by omega
    go_enter Tryz.func64,Tryz.ntmps64
    go_wp2_with fail
    have HW:=ym (HB.out (.cells #[.string r.head.name,.slice A0 r.head.terms.length c0,.slice A1 r.body.length c1,.slice A2 r.exprs.length c2,.slice A3 r.scopes.length c3] 58))
    have x0:(w.alloc (.cells #[.string r.head.name,.slice A0 r.head.terms.length c0,.slice A1 r.body.length c1,.slice A2 r.exprs.length c2,.slice A3 r.scopes.length c3] 58)).cell? ⟨w.heap.size,0,none⟩=some (.string r.head.name):=by go_simp
    have x1:(w.alloc (.cells #[.string r.head.name,.slice A0 r.head.terms.length c0,.slice A1 r.body.length c1,.slice A2 r.exprs.length c2,.slice A3 r.scopes.length c3] 58)).cell? ⟨w.heap.size,1,none⟩=some (.slice A0 r.head.terms.length c0):=by go_simp
    have x2:(w.alloc (.cells #[.string r.head.name,.slice A0 r.head.terms.length c0,.slice A1 r.body.length c1,.slice A2 r.exprs.length c2,.slice A3 r.scopes.length c3] 58)).cell? ⟨w.heap.size,2,none⟩=some (.slice A1 r.body.length c1):=by go_simp
    have x3:(w.alloc (.cells #[.string r.head.name,.slice A0 r.head.terms.length c0,.slice A1 r.body.length c1,.slice A2 r.exprs.length c2,.slice A3 r.scopes.length c3] 58)).cell? ⟨w.heap.size,3,none⟩=some (.slice A2 r.exprs.length c2):=by go_simp
    have x4:(w.alloc (.cells #[.string r.head.name,.slice A0 r.head.terms.length c0,.slice A1 r.body.length c1,.slice A2 r.exprs.length c2,.slice A3 r.scopes.length c3] 58)).cell? ⟨w.heap.size,4,none⟩=some (.slice A3 r.scopes.length c3):=by go_simp
    generalize (w.alloc (.cells #[.string r.head.name,.slice A0 r.head.terms.length c0,.slice A1 r.body.length c1,.slice A2 r.exprs.length c2,.slice A3 r.scopes.length c3] 58))=W at *
    have q0:=cell_regrown x0
    have q1:=cell_regrown x1
    have q2:=cell_regrown x2
    have q3:=cell_regrown x3
    have q4:=cell_regrown x4
    refine cP (eh W) (by kernel_rfl) (by kernel_rfl) (eh.drew W) ?_
    repeat (refine aV rfl rfl (fun K hK=>?_);unfold eh;go_big_quiet_op;refine hK _ ?_;clear hK K)
    refine cw rfl rfl (fun K hK=>?_)
    go_wp2_with fail
    refine (cZ (d:=d) (B:=B) (vs:=[_,_]) ((PrR d).keep HW.out.drew hB HP.out) (yn hB HW.out.size)).mono ?_
    rintro x w1 ⟨rfl,hb1⟩
    have HB1:=ym (HW.out.trans ((yq _ W).drew.trans (hb1.mono (yo _)) |>.mono HW.out.size))
    have HC:=ym (eh.of ((yq W.heap.size W).drew.trans (hb1.mono (yo _))))
    clear hb1
    rw [t1]
    go_wp2_with fail
    refine ⟨HC.out,?_⟩
    repeat (refine aV rfl rfl (fun K hK=>?_);unfold eh;go_big_quiet_op;refine hK _ ?_;clear hK K)
    refine cw rfl rfl (fun K hK=>?_)
    go_wp2_with fail
    refine (mR (d:=d) (B:=B) (r:=r) (vs:=[_,_,_,_,_]) ((RuR d).keep HB1.out hB HR.out) (yn hB HB1.out.size)).mono ?_
    rintro x w2 ⟨rfl,hb2⟩
    have HB2:=ym (HB1.out.trans (hb2.mono HB1.out.size))
    have HC2:=ym (eh.of (HC.out.below.trans (hb2.mono HC.out.below.size)))
    clear hb2
    rw [t3]
    go_wp2_with fail
    refine ⟨HC2.out,?_⟩
    repeat (refine aV rfl rfl (fun K hK=>?_);unfold eh;go_big_quiet_op;refine hK _ ?_;clear hK K)
    refine cw rfl rfl (fun K hK=>?_)
    go_wp2_with fail
    have HW3:=ym (HB2.out.trans ((yq w2.heap.size w2).alloc (yo _) (.cells #[.string r.head.name,.slice A0 r.head.terms.length c0] 26) |>.mono HB2.out.size))
    have HC3:=ym (eh.of (HC2.out.below.trans ((yq w2.heap.size w2).alloc (yo _) (.cells #[.string r.head.name,.slice A0 r.head.terms.length c0] 26) |>.mono HC2.out.below.size)))
    have y0:(w2.alloc (.cells #[.string r.head.name,.slice A0 r.head.terms.length c0] 26)).cell? ⟨w2.heap.size,0,none⟩=some (.string r.head.name):=by go_simp
    have y1:(w2.alloc (.cells #[.string r.head.name,.slice A0 r.head.terms.length c0] 26)).cell? ⟨w2.heap.size,1,none⟩=some (.slice A0 r.head.terms.length c0):=by go_simp
    have ysz:w2.heap.size<(w2.alloc (.cells #[.string r.head.name,.slice A0 r.head.terms.length c0] 26)).heap.size:=by go_simp
    refine ⟨HC3.out,?_⟩
    generalize (w2.alloc (.cells #[.string r.head.name,.slice A0 r.head.terms.length c0] 26))=w3 at *
    have HO:=ym (RL.one (x:=r.head) (b:=w2.heap.size) ysz ((PrR d).wide (yn hB HW3.out.size) ((PrR d).keep HW3.out hB HP.out)) (fun j v hv=>by
     rcases j with _ | _ | j
     ·simp only [yD,yz] at hv;rw [←hv];exact y0
     ·simp only [List.getElem?_cons_succ,yD,yz] at hv;rw [←hv];exact y1
     ·simp at hv))
    have hcount1:(ax [r.head]).length≤8:=by
     have:=fd [r.head] (fun p hp=>by simp at hp;rw [hp];exact fN t1)
     simpa using this
    have hcount2:=pF t3
    have hlen1:(ef (ax [r.head])).length≤8:=yn (eu _) hcount1
    have hlen2:(ef (ax r.body)).length≤32:=yn (eu _) hcount2
    have HSM1:=ym (fS (RL.smallP HO.out))
    have HSM2:=ym (fS (RL.smallP HL1.out))
    clear y0 y1
    refine cw rfl rfl (fun K hK=>?_)
    go_wp2_with fail
    refine (lj d [r.head] (some ⟨w2.heap.size,0,none⟩) 1 _ _ HO.out (yo _) (by simp) (by omega)).mono ?_
    rintro x w4 ⟨v4,rfl,hown,hb4⟩
    obtain ⟨A4,c4,rfl,hc4,hrl⟩:=hown.reads HSM1.out (by omega)
    have HB4:=ym (HW3.out.trans (hb4.mono HW3.out.size))
    have HC4:=ym (eh.of (HC3.out.below.trans (hb4.mono HC3.out.below.size)))
    have HRL:=ym hrl
    clear hown hb4 hrl
    go_wp2_with fail
    refine ⟨HC4.out,?_⟩
    repeat (refine aV rfl rfl (fun K hK=>?_);unfold eh;go_big_quiet_op;refine hK _ ?_;clear hK K)
    refine cw rfl rfl (fun K hK=>?_)
    go_wp2_with fail
    refine (lj d r.body A1 c1 B _ (HL1.out.keep HB4.out hB) (yn hB HB4.out.size) (by omega) (by omega)).mono ?_
    rintro x w5 ⟨v5,rfl,hown,hb5⟩
    obtain ⟨A5,c5,rfl,hc5,hrl⟩:=hown.reads HSM2.out (by exact yn hlen2 (by omega))
    have HB5:=ym (HB4.out.trans (hb5.mono HB4.out.size))
    have HC5:=ym (eh.of (HC4.out.below.trans (hb5.mono HC4.out.below.size)))
    have HRL4:=ym ((HRL.out.keep hb5 (yo _)).wide hb5.size)
    have HRL5:=ym hrl
    clear hown hb5 hrl
    go_wp2_with fail
    refine ⟨HC5.out,?_⟩
    repeat (refine aV rfl rfl (fun K hK=>?_);unfold eh;go_big_quiet_op;refine hK _ ?_;clear hK K)
    refine cw rfl rfl (fun K hK=>?_)
    go_wp2_with fail
    refine (oC (ef (ax [r.head])) (ef (ax r.body)) A4 A5 c4 c5 _ _ HRL4.out HRL5.out (yo _) (by omega) (by exact yn hlen2 (by omega)) (jG _)).mono ?_
    rintro x w6 ⟨rfl,hb6⟩
    have HB6:=ym (HB5.out.trans (hb6.mono HB5.out.size))
    have HC6:=ym (eh.of (HC5.out.below.trans (hb6.mono HC5.out.below.size)))
    clear hb6
    go_wp2_with fail
    refine ⟨HC6.out,?_⟩
    repeat (refine aV rfl rfl (fun K hK=>?_);unfold eh;go_big_quiet_op;refine hK _ ?_;clear hK K)
    refine ld (fun _=>?_)
    go_wp2_with fail
    go_ret
    exact ⟨ae (by simp [aM,t1,t2,t3]),HB6.out⟩
   ·simp only [Bool.not_eq_true] at t3
    have u2:((r.body.length:Int)≥1):=by omega
    go_enter Tryz.func64,Tryz.ntmps64
    go_wp2_with fail
    have HW:=ym (HB.out (.cells #[.string r.head.name,.slice A0 r.head.terms.length c0,.slice A1 r.body.length c1,.slice A2 r.exprs.length c2,.slice A3 r.scopes.length c3] 58))
    have x0:(w.alloc (.cells #[.string r.head.name,.slice A0 r.head.terms.length c0,.slice A1 r.body.length c1,.slice A2 r.exprs.length c2,.slice A3 r.scopes.length c3] 58)).cell? ⟨w.heap.size,0,none⟩=some (.string r.head.name):=by go_simp
    have x1:(w.alloc (.cells #[.string r.head.name,.slice A0 r.head.terms.length c0,.slice A1 r.body.length c1,.slice A2 r.exprs.length c2,.slice A3 r.scopes.length c3] 58)).cell? ⟨w.heap.size,1,none⟩=some (.slice A0 r.head.terms.length c0):=by go_simp
    have x2:(w.alloc (.cells #[.string r.head.name,.slice A0 r.head.terms.length c0,.slice A1 r.body.length c1,.slice A2 r.exprs.length c2,.slice A3 r.scopes.length c3] 58)).cell? ⟨w.heap.size,2,none⟩=some (.slice A1 r.body.length c1):=by go_simp
    have x3:(w.alloc (.cells #[.string r.head.name,.slice A0 r.head.terms.length c0,.slice A1 r.body.length c1,.slice A2 r.exprs.length c2,.slice A3 r.scopes.length c3] 58)).cell? ⟨w.heap.size,3,none⟩=some (.slice A2 r.exprs.length c2):=by go_simp
    have x4:(w.alloc (.cells #[.string r.head.name,.slice A0 r.head.terms.length c0,.slice A1 r.body.length c1,.slice A2 r.exprs.length c2,.slice A3 r.scopes.length c3] 58)).cell? ⟨w.heap.size,4,none⟩=some (.slice A3 r.scopes.length c3):=by go_simp
    generalize (w.alloc (.cells #[.string r.head.name,.slice A0 r.head.terms.length c0,.slice A1 r.body.length c1,.slice A2 r.exprs.length c2,.slice A3 r.scopes.length c3] 58))=W at *
    have q0:=cell_regrown x0
    have q1:=cell_regrown x1
    have q2:=cell_regrown x2
    have q3:=cell_regrown x3
    have q4:=cell_regrown x4
    refine cP (eh W) (by kernel_rfl) (by kernel_rfl) (eh.drew W) ?_
    repeat (refine aV rfl rfl (fun K hK=>?_);unfold eh;go_big_quiet_op;refine hK _ ?_;clear hK K)
    refine cw rfl rfl (fun K hK=>?_)
    go_wp2_with fail
    refine (cZ (d:=d) (B:=B) (vs:=[_,_]) ((PrR d).keep HW.out.drew hB HP.out) (yn hB HW.out.size)).mono ?_
    rintro x w1 ⟨rfl,hb1⟩
    have HB1:=ym (HW.out.trans ((yq _ W).drew.trans (hb1.mono (yo _)) |>.mono HW.out.size))
    have HC:=ym (eh.of ((yq W.heap.size W).drew.trans (hb1.mono (yo _))))
    clear hb1
    rw [t1]
    go_wp2_with fail
    refine ⟨HC.out,?_⟩
    repeat (refine aV rfl rfl (fun K hK=>?_);unfold eh;go_big_quiet_op;refine hK _ ?_;clear hK K)
    refine cw rfl rfl (fun K hK=>?_)
    go_wp2_with fail
    refine (mR (d:=d) (B:=B) (r:=r) (vs:=[_,_,_,_,_]) ((RuR d).keep HB1.out hB HR.out) (yn hB HB1.out.size)).mono ?_
    rintro x w2 ⟨rfl,hb2⟩
    have HB2:=ym (HB1.out.trans (hb2.mono HB1.out.size))
    have HC2:=ym (eh.of (HC.out.below.trans (hb2.mono HC.out.below.size)))
    clear hb2
    rw [t3]
    go_wp2_with fail
    refine ⟨HC2.out,?_⟩
    repeat first | (refine aV rfl rfl (fun K hK=>?_);unfold eh;go_big_quiet_op;refine hK _ ?_;clear hK K) | (refine lg (a':=?_) rfl ?_ ?_;rotate_left;focus (dsimp only [Act.put];simp only [List.setIfInBounds_toArray,List.set_cons_succ,List.set_cons_zero];rfl))
    refine ld (fun _=>?_)
    go_wp2_with fail
    go_ret
    exact ⟨ae (by simp [aM,t3]),HB2.out⟩
  ·have u2:¬((r.body.length:Int)≥1):=by omega
   go_enter Tryz.func64,Tryz.ntmps64
   go_wp2_with fail
   have HW:=ym (HB.out (.cells #[.string r.head.name,.slice A0 r.head.terms.length c0,.slice A1 r.body.length c1,.slice A2 r.exprs.length c2,.slice A3 r.scopes.length c3] 58))
   have x0:(w.alloc (.cells #[.string r.head.name,.slice A0 r.head.terms.length c0,.slice A1 r.body.length c1,.slice A2 r.exprs.length c2,.slice A3 r.scopes.length c3] 58)).cell? ⟨w.heap.size,0,none⟩=some (.string r.head.name):=by go_simp
   have x1:(w.alloc (.cells #[.string r.head.name,.slice A0 r.head.terms.length c0,.slice A1 r.body.length c1,.slice A2 r.exprs.length c2,.slice A3 r.scopes.length c3] 58)).cell? ⟨w.heap.size,1,none⟩=some (.slice A0 r.head.terms.length c0):=by go_simp
   have x2:(w.alloc (.cells #[.string r.head.name,.slice A0 r.head.terms.length c0,.slice A1 r.body.length c1,.slice A2 r.exprs.length c2,.slice A3 r.scopes.length c3] 58)).cell? ⟨w.heap.size,2,none⟩=some (.slice A1 r.body.length c1):=by go_simp
   have x3:(w.alloc (.cells #[.string r.head.name,.slice A0 r.head.terms.length c0,.slice A1 r.body.length c1,.slice A2 r.exprs.length c2,.slice A3 r.scopes.length c3] 58)).cell? ⟨w.heap.size,3,none⟩=some (.slice A2 r.exprs.length c2):=by go_simp
   have x4:(w.alloc (.cells #[.string r.head.name,.slice A0 r.head.terms.length c0,.slice A1 r.body.length c1,.slice A2 r.exprs.length c2,.slice A3 r.scopes.length c3] 58)).cell? ⟨w.heap.size,4,none⟩=some (.slice A3 r.scopes.length c3):=by go_simp
   generalize (w.alloc (.cells #[.string r.head.name,.slice A0 r.head.terms.length c0,.slice A1 r.body.length c1,.slice A2 r.exprs.length c2,.slice A3 r.scopes.length c3] 58))=W at *
   have q0:=cell_regrown x0
   have q1:=cell_regrown x1
   have q2:=cell_regrown x2
   have q3:=cell_regrown x3
   have q4:=cell_regrown x4
   refine cP (eh W) (by kernel_rfl) (by kernel_rfl) (eh.drew W) ?_
   repeat (refine aV rfl rfl (fun K hK=>?_);unfold eh;go_big_quiet_op;refine hK _ ?_;clear hK K)
   refine cw rfl rfl (fun K hK=>?_)
   go_wp2_with fail
   refine (cZ (d:=d) (B:=B) (vs:=[_,_]) ((PrR d).keep HW.out.drew hB HP.out) (yn hB HW.out.size)).mono ?_
   rintro x w1 ⟨rfl,hb1⟩
   have HB1:=ym (HW.out.trans ((yq _ W).drew.trans (hb1.mono (yo _)) |>.mono HW.out.size))
   have HC:=ym (eh.of ((yq W.heap.size W).drew.trans (hb1.mono (yo _))))
   clear hb1
   rw [t1]
   go_wp2_with fail
   refine ⟨HC.out,?_⟩
   repeat first | (refine aV rfl rfl (fun K hK=>?_);unfold eh;go_big_quiet_op;refine hK _ ?_;clear hK K) | (refine lg (a':=?_) rfl ?_ ?_;rotate_left;focus (dsimp only [Act.put];simp only [List.setIfInBounds_toArray,List.set_cons_succ,List.set_cons_zero];rfl))
   refine ld (fun _=>?_)
   go_wp2_with fail
   go_ret
   exact ⟨ae (by simp [aM,t2]),HB1.out⟩
 ·simp only [Bool.not_eq_true] at t1
  go_enter Tryz.func64,Tryz.ntmps64
  go_wp2_with fail
  have HW:=ym (HB.out (.cells #[.string r.head.name,.slice A0 r.head.terms.length c0,.slice A1 r.body.length c1,.slice A2 r.exprs.length c2,.slice A3 r.scopes.length c3] 58))
  have x0:(w.alloc (.cells #[.string r.head.name,.slice A0 r.head.terms.length c0,.slice A1 r.body.length c1,.slice A2 r.exprs.length c2,.slice A3 r.scopes.length c3] 58)).cell? ⟨w.heap.size,0,none⟩=some (.string r.head.name):=by go_simp
  have x1:(w.alloc (.cells #[.string r.head.name,.slice A0 r.head.terms.length c0,.slice A1 r.body.length c1,.slice A2 r.exprs.length c2,.slice A3 r.scopes.length c3] 58)).cell? ⟨w.heap.size,1,none⟩=some (.slice A0 r.head.terms.length c0):=by go_simp
  have x2:(w.alloc (.cells #[.string r.head.name,.slice A0 r.head.terms.length c0,.slice A1 r.body.length c1,.slice A2 r.exprs.length c2,.slice A3 r.scopes.length c3] 58)).cell? ⟨w.heap.size,2,none⟩=some (.slice A1 r.body.length c1):=by go_simp
  have x3:(w.alloc (.cells #[.string r.head.name,.slice A0 r.head.terms.length c0,.slice A1 r.body.length c1,.slice A2 r.exprs.length c2,.slice A3 r.scopes.length c3] 58)).cell? ⟨w.heap.size,3,none⟩=some (.slice A2 r.exprs.length c2):=by go_simp
  have x4:(w.alloc (.cells #[.string r.head.name,.slice A0 r.head.terms.length c0,.slice A1 r.body.length c1,.slice A2 r.exprs.length c2,.slice A3 r.scopes.length c3] 58)).cell? ⟨w.heap.size,4,none⟩=some (.slice A3 r.scopes.length c3):=by go_simp
  generalize (w.alloc (.cells #[.string r.head.name,.slice A0 r.head.terms.length c0,.slice A1 r.body.length c1,.slice A2 r.exprs.length c2,.slice A3 r.scopes.length c3] 58))=W at *
  have q0:=cell_regrown x0
  have q1:=cell_regrown x1
  have q2:=cell_regrown x2
  have q3:=cell_regrown x3
  have q4:=cell_regrown x4
  refine cP (eh W) (by kernel_rfl) (by kernel_rfl) (eh.drew W) ?_
  repeat (refine aV rfl rfl (fun K hK=>?_);unfold eh;go_big_quiet_op;refine hK _ ?_;clear hK K)
  refine cw rfl rfl (fun K hK=>?_)
  go_wp2_with fail
  refine (cZ (d:=d) (B:=B) (vs:=[_,_]) ((PrR d).keep HW.out.drew hB HP.out) (yn hB HW.out.size)).mono ?_
  rintro x w1 ⟨rfl,hb1⟩
  have HB1:=ym (HW.out.trans ((yq _ W).drew.trans (hb1.mono (yo _)) |>.mono HW.out.size))
  have HC:=ym (eh.of ((yq W.heap.size W).drew.trans (hb1.mono (yo _))))
  clear hb1
  rw [t1]
  go_wp2_with fail
  refine ⟨HC.out,?_⟩
  repeat first | (refine aV rfl rfl (fun K hK=>?_);unfold eh;go_big_quiet_op;refine hK _ ?_;clear hK K) | (refine lg (a':=?_) rfl ?_ ?_;rotate_left;focus (dsimp only [Act.put];simp only [List.setIfInBounds_toArray,List.set_cons_succ,List.set_cons_zero];rfl))
  refine ld (fun _=>?_)
  go_wp2_with fail
  go_ret
  exact ⟨ae (by simp [aM,t1]),HB1.out⟩
end Go.Proofs.YtjpndglegpcdnaaGreat
