/- rule: MayQuery, May. -/
import Derived.Test.YtdphibjibnffeaaGreatRule2
import Derived.Test.YtdphibjibnffeaaGreatHasSet
set_option linter.unusedVariables false
set_option linter.unusedSimpArgs false
set_option maxRecDepth 100000
set_option maxHeartbeats 8000000
namespace Go.Proofs.YtdphibjibnffeaaGreat
open Go.ChangeShapes Go.WideShapes Go.ChangeAt Go.RowKit
theorem jf {d B:Nat} {w:World} (hB:B≤w.heap.size):bS Tryz.prog (PrR d) cV B w 66 #[] aE:=fun x vs w1 hb hr=>by
 obtain ⟨v,rfl,_⟩:=id hr
 exact dg (d:=d) (B:=B) (vs:=[_,_]) hr (by have:=hb.size;omega)
theorem je {d B:Nat} {w:World} (hB:B≤w.heap.size):bS Tryz.prog (ExR d) cV B w 159 #[] aN:=fun x vs w1 hb hr=>by
 obtain ⟨v,rfl,_⟩:=id hr
 exact df (d:=d) (B:=B) (vs:=[_]) hr (by have:=hb.size;omega)
theorem ia {B:Nat} {w:World}:bS Tryz.prog ScR cV B w 161 #[] cO:=fun x vs w1 hb hr=>by
 obtain ⟨rfl,_⟩:=id hr
 exact pt (B:=B) (vs:=[_,_]) hr
def px (ps:List Pr):List aZ:=ep (aA ps)
def gR (r:Ru):Bool:=(decide (r.body.length≤4)&&r.body.all aE)&&(decide (r.exprs.length≤4)&&r.exprs.all aN)&&(decide (r.scopes.length≤4)&&r.scopes.all cO)&&r.exprs.all (fun e=>iM (fy e) (px r.body))
theorem xD {r:Ru} (t1:(decide ((r.body.length:Int)≤4)&&r.body.all aE)=true) (t2:(decide ((r.exprs.length:Int)≤4)&&r.exprs.all aN)=true)
 (t3:(decide ((r.scopes.length:Int)≤4)&&r.scopes.all cO)=true):gR r = !r.exprs.any (fun e=>!iM (fy e) (ep (aA r.body))):=by
 unfold gR px
 simp only [kx] at t1 t2 t3
 rw [t1,t2,t3,Bool.true_and,Bool.true_and,Bool.true_and,List.not_any_eq_all_not]
 simp only [Bool.not_not]
theorem sK {r:Ru} (t1:(decide ((r.body.length:Int)≤4)&&r.body.all aE)=false):gR r=false:=by
 unfold gR;simp only [kx] at t1;rw [t1];simp only [Bool.false_and]
theorem sL {r:Ru} (t2:(decide ((r.exprs.length:Int)≤4)&&r.exprs.all aN)=false):gR r=false:=by
 unfold gR;simp only [kx] at t2;rw [t2];simp only [Bool.false_and,Bool.and_false]
theorem sM {r:Ru} (t3:(decide ((r.scopes.length:Int)≤4)&&r.scopes.all cO)=false):gR r=false:=by
 unfold gR;simp only [kx] at t3;rw [t3];simp only [Bool.false_and,Bool.and_false]
theorem fo:∀(ps:List Pr),(∀p∈ps,p.terms.length≤8)→(aA ps).length≤8*ps.length
 | [],_=>by simp [aA]
 | p::ps,h=>by
   have h1:=fo ps (fun q hq=>h q (by simp [hq]))
   have h2:=h p (by simp)
   have h3:(cA p.terms).length≤p.terms.length:=by unfold cA;rw [List.length_map];exact List.length_filter_le _ _
   have:aA (p::ps)=cA p.terms++aA ps:=by simp [aA]
   rw [this,List.length_append,List.length_cons]
   omega
theorem gh {p:Pr} (h:aE p=true):p.terms.length≤8:=by
 unfold aE at h
 simp only [Bool.and_eq_true,decide_eq_true_eq] at h
 exact h.2.1
def smallP (ps:List Pr):Prop:=∀p∈ps,∀t∈p.terms,t.s.size≤140737488351232
theorem RSl.smallT {d B:Nat} {ts:List Tm} {v:Value} {w:World} (h:RSl (TmR d) w B ts v):∀t∈ts,t.s.size≤140737488351232:=by
 obtain ⟨A,c,_,_,_,hl⟩:=h
 intro t ht
 obtain ⟨i,hi,rfl⟩:=List.getElem_of_mem ht
 obtain ⟨b,off,rfl,hb,hc⟩:=hl (by omega)
 obtain ⟨vs,_,⟨x,hx,hr⟩,_⟩:=hc i hi
 obtain ⟨_,_,_,_,_,hs,_⟩:=RTm.cells hr
 rw [List.getElem?_eq_getElem hi] at hx
 simp only [Option.some.injEq] at hx
 rw [hx];exact hs
theorem RL.smallP {d B:Nat} {ps:List Pr} {A:Option Addr} {w:World} (h:RL (PrR d) w B ps A):smallP ps:=by
 intro p hp
 obtain ⟨i,hi,rfl⟩:=List.getElem_of_mem hp
 obtain ⟨b,off,rfl,hb,hc⟩:=h (by omega)
 obtain ⟨vs,_,⟨x,hx,hr⟩,_⟩:=hc i hi
 obtain ⟨_,_,_,ht⟩:=hr
 rw [List.getElem?_eq_getElem hi] at hx
 simp only [Option.some.injEq] at hx
 rw [hx];exact RSl.smallT ht
theorem gm {ps:List Pr} (h:smallP ps):∀l∈px ps,l.length≤140737488351232:=by
 intro l hl
 unfold px at hl
 rw [lA] at hl
 unfold aA cA at hl
 simp only [List.mem_flatMap,List.mem_map,List.mem_filter] at hl
 obtain ⟨p,hp,t,⟨ht,_⟩,rfl⟩:=hl
 rw [iA]
 exact h p hp t ht
theorem nw {d B:Nat} {r:Ru} {vs:List Value} {w:World} (hr:(RuR d).rd w B r vs) (hB:B≤w.heap.size) :
 Calls Tryz.prog 111 #[.agg vs.toArray] w fun x w'=>x=.returned (.bool (gR r))∧Below w.heap.size w w':=by
 obtain ⟨_,_,_,_,rfl,hs,⟨A0,c0,rfl,h01,h02,hl0⟩,⟨A1,c1,rfl,h11,h12,hl1⟩,⟨A2,c2,rfl,h21,h22,hl2⟩,⟨A3,c3,rfl,h31,h32,hl3⟩⟩:=hr
 simp only [PrR,ExR,ScR] at h12 h22 h32
 have HB:=zE (fun o:Obj=>(zI w.heap.size w).alloc (zG _) o)
 have HL1:=zE hl1
 have HL2:=zE hl2
 have HL3:=zE hl3
 have HSM:=zE (gm (RL.smallP hl1))
 clear hl0 hl1 hl2 hl3
 by_cases t1:(decide ((r.body.length:Int)≤4)&&r.body.all aE)=true
 ·go_enter Tryz.func111,Tryz.ntmps111
  go_wp2_with fail
  refine (lh d 66 aE 4 r.body A1 c1 B _ (ent Tryz.func66 (by kernel_rfl) rfl) (HL1.out.keep (HB.out _) hB) (zF hB (HB.out _).size) (by omega) (jf (zF hB (HB.out _).size))).mono ?_
  rintro x w1 ⟨rfl,hb1⟩
  have hc1:=jm hb1
  have hz1:w.heap.size<w1.heap.size:=(by have:=hb1.size;simp at this;omega)
  have HB1:=zE ((HB.out _).trans (hb1.mono (HB.out _).size))
  clear hb1
  by_cases t2:(decide ((r.exprs.length:Int)≤4)&&r.exprs.all aN)=true
  ·go_wp2_with fail
   refine (ld d 159 aN 4 r.exprs A2 c2 B _ (ent Tryz.func159 (by kernel_rfl) rfl) (HL2.out.keep HB1.out hB) (zF hB HB1.out.size) (by omega) (je (zF hB HB1.out.size))).mono ?_
   rintro x w2 ⟨rfl,hb2⟩
   have hc2:=jm hb2
   have hz2:w.heap.size<w2.heap.size:=(by have:=hb2.size;omega)
   have HB2:=zE (HB1.out.trans (hb2.mono HB1.out.size))
   clear hb2
   by_cases t3:(decide ((r.scopes.length:Int)≤4)&&r.scopes.all cO)=true
   ·go_wp2_with fail
    refine (jT 161 cO 4 r.scopes A3 c3 B _ (ent Tryz.func161 (by kernel_rfl) rfl) (HL3.out.keep HB2.out hB) (zF hB HB2.out.size) (by omega) ia).mono ?_
    rintro x w3 ⟨rfl,hb3⟩
    have hc3:=jm hb3
    have hz3:w.heap.size<w3.heap.size:=(by have:=hb3.size;omega)
    have HB3:=zE (HB2.out.trans (hb3.mono HB2.out.size))
    clear hb3
    have hcount:(aA r.body).length≤32:=by
     simp only [Bool.and_eq_true,decide_eq_true_eq,List.all_eq_true] at t1
     have:=fo r.body (fun p hp=>gh (t1.2 p hp))
     omega
    have hlen:(px r.body).length≤32:=zF (eC _) hcount
    go_wp2_with fail
    refine (lF d r.body A1 c1 B _ (HL1.out.keep HB3.out hB) (zF hB HB3.out.size) (by omega) (by omega)).mono ?_
    rintro x w4 ⟨v4,rfl,hown,hb4⟩
    obtain ⟨A4,c4,rfl,hc4,hrl⟩:=hown.reads HSM.out (by exact zF hlen (by omega))
    have hc4':=jm hb4
    have hz4:w.heap.size<w4.heap.size:=(by have:=hb4.size;omega)
    have HB4:=zE (HB3.out.trans (hb4.mono HB3.out.size))
    have HRL:=zE hrl
    clear hown hb4 hrl
    go_wp2_with fail
    have HW:=zE (HB4.out.trans ((zI w4.heap.size w4).alloc (zG _) (.cells #[.slice A4 (ep (aA r.body)).length c4] 44) |>.mono HB4.out.size))
    have x0:(w4.alloc (.cells #[.slice A4 (ep (aA r.body)).length c4] 44)).cell? ⟨w4.heap.size,0,none⟩=some (.slice A4 (ep (aA r.body)).length c4):=by go_simp
    have hsz:=((zI w4.heap.size w4).alloc (zG _) (.cells #[.slice A4 (ep (aA r.body)).length c4] 44)).size
    have HRL':=zE (((HRL.out.keep ((zI w4.heap.size w4).alloc (zG _) (.cells #[.slice A4 (ep (aA r.body)).length c4] 44)) (zG _))))
    refine (dG d 163 #[.pointer (some ⟨w4.heap.size,0,none⟩)] (fun e=>!iM (fy e) (ep (aA r.body))) r.exprs A2 c2 _ _ (ent Tryz.func163 (by kernel_rfl) rfl) ((HL2.out.keep HW.out hB).wide (zF hB HW.out.size)) (zG _) (by omega) (qt d (ep (aA r.body)) A4 c4 _ _ _ (HRL'.out.wide hsz) (zG _) (by exact zF hlen (by omega)) (kc _) x0)).mono ?_
    rintro x w5 ⟨rfl,hb5⟩
    have HB5:=zE (HW.out.trans (hb5.mono HW.out.size))
    clear hb5
    go_wp2_with fail
    go_ret
    refine ⟨?_,HB5.out⟩
    rw [xD t1 t2 t3]
    rfl
   ·simp only [Bool.not_eq_true] at t3
    go_wp2_with fail
    refine (jT 161 cO 4 r.scopes A3 c3 B _ (ent Tryz.func161 (by kernel_rfl) rfl) (HL3.out.keep HB2.out hB) (zF hB HB2.out.size) (by omega) ia).mono ?_
    rintro x w3 ⟨rfl,hb3⟩
    have HB3:=zE (HB2.out.trans (hb3.mono HB2.out.size))
    clear hb3
    go_wp2_with fail
    go_ret
    refine ⟨?_,HB3.out⟩
    rw [sM t3]
    rfl
  ·simp only [Bool.not_eq_true] at t2
   go_wp2_with fail
   refine (ld d 159 aN 4 r.exprs A2 c2 B _ (ent Tryz.func159 (by kernel_rfl) rfl) (HL2.out.keep HB1.out hB) (zF hB HB1.out.size) (by omega) (je (zF hB HB1.out.size))).mono ?_
   rintro x w2 ⟨rfl,hb2⟩
   have HB2:=zE (HB1.out.trans (hb2.mono HB1.out.size))
   clear hb2
   go_wp2_with fail
   go_ret
   refine ⟨?_,HB2.out⟩
   rw [sL t2]
   rfl
 ·simp only [Bool.not_eq_true] at t1
  go_enter Tryz.func111,Tryz.ntmps111
  go_wp2_with fail
  refine (lh d 66 aE 4 r.body A1 c1 B _ (ent Tryz.func66 (by kernel_rfl) rfl) (HL1.out.keep (HB.out _) hB) (zF hB (HB.out _).size) (by omega) (jf (zF hB (HB.out _).size))).mono ?_
  rintro x w1 ⟨rfl,hb1⟩
  have HB1:=zE ((HB.out _).trans (hb1.mono (HB.out _).size))
  clear hb1
  go_wp2_with fail
  go_ret
  refine ⟨?_,HB1.out⟩
  rw [sK t1]
  rfl
def bf (r:Ru):Bool:=r.head.name.toList.isEmpty&&decide (r.head.terms.length=0)&&decide (1≤r.body.length+r.exprs.length)&&gR r
def aP (r:Ru):Bool:=aE r.head&&decide (1≤r.body.length)&&gR r&&iM (ep (aA [r.head])) (ep (aA r.body))
theorem lC {P:Program} {ops:Array Oper} {C:World→Prop} {Qf:Act→World→Prop} {o:Oper} {rest:List Oper} {a a':Act} {w:World} (hw:Region.wanted o (yielded ops a.tmps)=false) (ha:a.put o.dst undef=a') (h:gX P ops C Qf rest a' w):gX P ops C Qf (o::rest) a w:=
 yi hw (ha▸h)
theorem qr {r:Ru} (h:gR r=true):(aA r.body).length≤32:=by
 unfold gR at h
 simp only [Bool.and_eq_true,decide_eq_true_eq,List.all_eq_true] at h
 obtain ⟨⟨⟨⟨h1,h2⟩,_⟩,_⟩,_⟩:=h
 have:=fo r.body (fun p hp=>gh (h2 p hp))
 omega
theorem pq {d B:Nat} {r:Ru} {vs:List Value} {w:World} (hr:(RuR d).rd w B r vs) (hB:B≤w.heap.size) :
 Calls Tryz.prog 54 #[.agg vs.toArray] w fun x w'=>x=.returned (.bool (bf r))∧Below w.heap.size w w':=by
 have HR:=zE hr
 obtain ⟨_,_,_,_,rfl,hs,⟨A0,c0,rfl,h01,h02,hl0⟩,⟨A1,c1,rfl,h11,h12,hl1⟩,⟨A2,c2,rfl,h21,h22,hl2⟩,⟨A3,c3,rfl,h31,h32,hl3⟩⟩:=hr
 simp only [PrR,ExR,ScR,TmR] at h02 h12 h22 h32
 have HB:=zE (fun o:Obj=>(zI w.heap.size w).alloc (zG _) o)
 clear hl0 hl1 hl2 hl3
 by_cases t1:r.head.name.toList.isEmpty=true
 ·by_cases t2:r.head.terms.length=0
  ·by_cases t3:1≤r.body.length+r.exprs.length
   ·have u2:((r.head.terms.length:Int)==0)=true:=by simp [t2]
    have T2:=zE t2
    clear t2
    have u3:((r.body.length:Int)+(r.exprs.length:Int)≥1):=by omega
    go_enter Tryz.func54,Tryz.ntmps54
    go_wp2_with fail
    refine (nw (d:=d) (B:=B) (r:=r) (vs:=[_,_,_,_,_]) ((RuR d).keep (HB.out _) hB HR.out) (zF hB (HB.out _).size)).mono ?_
    rintro x w1 ⟨rfl,hb1⟩
    have HB1:=zE ((HB.out _).trans (hb1.mono (HB.out _).size))
    clear hb1
    go_wp2_with fail
    go_ret
    exact ⟨ae (by simp [bf,t1,T2.out,t3]),HB1.out⟩
   ·have u2:((r.head.terms.length:Int)==0)=true:=by simp [t2]
    have T2:=zE t2
    clear t2
    have u3:¬((r.body.length:Int)+(r.exprs.length:Int)≥1):=by omega
    go_enter Tryz.func54,Tryz.ntmps54
    go_wp2_with fail
    go_ret
    exact ⟨ae (by simp [bf,t3]),HB.out _⟩
  ·have u2:((r.head.terms.length:Int)==0)=false:=by simp [t2]
   go_enter Tryz.func54,Tryz.ntmps54
   go_wp2_with fail
   go_ret
   exact ⟨ae (by simp [bf,t2]),HB.out _⟩
 ·simp only [Bool.not_eq_true] at t1
  go_enter Tryz.func54,Tryz.ntmps54
  go_wp2_with fail
  go_ret
  exact ⟨ae (by simp [bf,t1]),HB.out _⟩
theorem ly {d B:Nat} {r:Ru} {vs:List Value} {w:World} (hr:(RuR d).rd w B r vs) (hB:B≤w.heap.size) :
 Calls Tryz.prog 53 #[.agg vs.toArray] w fun x w'=>x=.returned (.bool (aP r))∧Below w.heap.size w w':=by
 have HR:=zE hr
 obtain ⟨_,_,_,_,rfl,hs,⟨A0,c0,rfl,h01,h02,hl0⟩,⟨A1,c1,rfl,h11,h12,hl1⟩,⟨A2,c2,rfl,h21,h22,hl2⟩,⟨A3,c3,rfl,h31,h32,hl3⟩⟩:=hr
 simp only [PrR,ExR,ScR,TmR] at h02 h12 h22 h32
 have HB:=zE (fun o:Obj=>(zI w.heap.size w).alloc (zG _) o)
 have HP:=zE (show (PrR d).rd w B r.head [.string r.head.name,.slice A0 r.head.terms.length c0] from ⟨_,rfl,hs,_,_,rfl,h01,h02,hl0⟩)
 have HL1:=zE hl1
 clear hl0 hl1 hl2 hl3
 have e1:((r.body.length:Int)≥1)↔(1≤r.body.length):=by omega
 by_cases t1:aE r.head=true
 ·by_cases t2:1≤r.body.length
  ·by_cases t3:gR r=true
   ·have u2:((r.body.length:Int)≥1):=by omega
    go_enter Tryz.func53,Tryz.ntmps53
    go_wp2_with fail
    have HW:=zE (HB.out (.cells #[.string r.head.name,.slice A0 r.head.terms.length c0,.slice A1 r.body.length c1,.slice A2 r.exprs.length c2,.slice A3 r.scopes.length c3] 30))
    have x0:(w.alloc (.cells #[.string r.head.name,.slice A0 r.head.terms.length c0,.slice A1 r.body.length c1,.slice A2 r.exprs.length c2,.slice A3 r.scopes.length c3] 30)).cell? ⟨w.heap.size,0,none⟩=some (.string r.head.name):=by go_simp
    have x1:(w.alloc (.cells #[.string r.head.name,.slice A0 r.head.terms.length c0,.slice A1 r.body.length c1,.slice A2 r.exprs.length c2,.slice A3 r.scopes.length c3] 30)).cell? ⟨w.heap.size,1,none⟩=some (.slice A0 r.head.terms.length c0):=by go_simp
    have x2:(w.alloc (.cells #[.string r.head.name,.slice A0 r.head.terms.length c0,.slice A1 r.body.length c1,.slice A2 r.exprs.length c2,.slice A3 r.scopes.length c3] 30)).cell? ⟨w.heap.size,2,none⟩=some (.slice A1 r.body.length c1):=by go_simp
    have x3:(w.alloc (.cells #[.string r.head.name,.slice A0 r.head.terms.length c0,.slice A1 r.body.length c1,.slice A2 r.exprs.length c2,.slice A3 r.scopes.length c3] 30)).cell? ⟨w.heap.size,3,none⟩=some (.slice A2 r.exprs.length c2):=by go_simp
    have x4:(w.alloc (.cells #[.string r.head.name,.slice A0 r.head.terms.length c0,.slice A1 r.body.length c1,.slice A2 r.exprs.length c2,.slice A3 r.scopes.length c3] 30)).cell? ⟨w.heap.size,4,none⟩=some (.slice A3 r.scopes.length c3):=by go_simp
    generalize (w.alloc (.cells #[.string r.head.name,.slice A0 r.head.terms.length c0,.slice A1 r.body.length c1,.slice A2 r.exprs.length c2,.slice A3 r.scopes.length c3] 30))=W at *
    have q0:=cell_regrown x0
    have q1:=cell_regrown x1
    have q2:=cell_regrown x2
    have q3:=cell_regrown x3
    have q4:=cell_regrown x4
    refine cS (eq W) (by kernel_rfl) (by kernel_rfl) (eq.drew W) ?_
    repeat (refine aY rfl rfl (fun K hK=>?_);unfold eq;go_big_quiet_op;refine hK _ ?_;clear hK K)
    refine cB rfl rfl (fun K hK=>?_)
    go_wp2_with fail
    refine (dg (d:=d) (B:=B) (vs:=[_,_]) ((PrR d).keep HW.out.drew hB HP.out) (zF hB HW.out.size)).mono ?_
    rintro x w1 ⟨rfl,hb1⟩
    have HB1:=zE (HW.out.trans ((zI _ W).drew.trans (hb1.mono (zG _)) |>.mono HW.out.size))
    have HC:=zE (eq.of ((zI W.heap.size W).drew.trans (hb1.mono (zG _))))
    clear hb1
    rw [t1]
    go_wp2_with fail
    refine ⟨HC.out,?_⟩
    repeat (refine aY rfl rfl (fun K hK=>?_);unfold eq;go_big_quiet_op;refine hK _ ?_;clear hK K)
    refine cB rfl rfl (fun K hK=>?_)
    go_wp2_with fail
    refine (nw (d:=d) (B:=B) (r:=r) (vs:=[_,_,_,_,_]) ((RuR d).keep HB1.out hB HR.out) (zF hB HB1.out.size)).mono ?_
    rintro x w2 ⟨rfl,hb2⟩
    have HB2:=zE (HB1.out.trans (hb2.mono HB1.out.size))
    have HC2:=zE (eq.of (HC.out.below.trans (hb2.mono HC.out.below.size)))
    clear hb2
    rw [t3]
    go_wp2_with fail
    refine ⟨HC2.out,?_⟩
    repeat (refine aY rfl rfl (fun K hK=>?_);unfold eq;go_big_quiet_op;refine hK _ ?_;clear hK K)
    refine cB rfl rfl (fun K hK=>?_)
    go_wp2_with fail
    have HW3:=zE (HB2.out.trans ((zI w2.heap.size w2).alloc (zG _) (.cells #[.string r.head.name,.slice A0 r.head.terms.length c0] 25) |>.mono HB2.out.size))
    have HC3:=zE (eq.of (HC2.out.below.trans ((zI w2.heap.size w2).alloc (zG _) (.cells #[.string r.head.name,.slice A0 r.head.terms.length c0] 25) |>.mono HC2.out.below.size)))
    have y0:(w2.alloc (.cells #[.string r.head.name,.slice A0 r.head.terms.length c0] 25)).cell? ⟨w2.heap.size,0,none⟩=some (.string r.head.name):=by go_simp
    have y1:(w2.alloc (.cells #[.string r.head.name,.slice A0 r.head.terms.length c0] 25)).cell? ⟨w2.heap.size,1,none⟩=some (.slice A0 r.head.terms.length c0):=by go_simp
    have ysz:w2.heap.size<(w2.alloc (.cells #[.string r.head.name,.slice A0 r.head.terms.length c0] 25)).heap.size:=by go_simp
    refine ⟨HC3.out,?_⟩
    generalize (w2.alloc (.cells #[.string r.head.name,.slice A0 r.head.terms.length c0] 25))=w3 at *
    have HO:=zE (RL.one (x:=r.head) (b:=w2.heap.size) ysz ((PrR d).wide (zF hB HW3.out.size) ((PrR d).keep HW3.out hB HP.out)) (fun j v hv=>by
     rcases j with _ | _ | j
     ·simp only [List.getElem?_cons_zero,Option.some.injEq] at hv;rw [←hv];exact y0
     ·simp only [List.getElem?_cons_succ,List.getElem?_cons_zero,Option.some.injEq] at hv;rw [←hv];exact y1
     ·simp at hv))
    have hcount1:(aA [r.head]).length≤8:=by
     have:=fo [r.head] (fun p hp=>by simp at hp;rw [hp];exact gh t1)
     simpa using this
    have hcount2:=qr t3
    have hlen1:(ep (aA [r.head])).length≤8:=zF (eC _) hcount1
    have hlen2:(ep (aA r.body)).length≤32:=zF (eC _) hcount2
    have HSM1:=zE (gm (RL.smallP HO.out))
    have HSM2:=zE (gm (RL.smallP HL1.out))
    clear y0 y1
    refine cB rfl rfl (fun K hK=>?_)
    go_wp2_with fail
    refine (lF d [r.head] (some ⟨w2.heap.size,0,none⟩) 1 _ _ HO.out (zG _) (by simp) (by omega)).mono ?_
    rintro x w4 ⟨v4,rfl,hown,hb4⟩
    obtain ⟨A4,c4,rfl,hc4,hrl⟩:=hown.reads HSM1.out (by omega)
    have HB4:=zE (HW3.out.trans (hb4.mono HW3.out.size))
    have HC4:=zE (eq.of (HC3.out.below.trans (hb4.mono HC3.out.below.size)))
    have HRL:=zE hrl
    clear hown hb4 hrl
    go_wp2_with fail
    refine ⟨HC4.out,?_⟩
    repeat (refine aY rfl rfl (fun K hK=>?_);unfold eq;go_big_quiet_op;refine hK _ ?_;clear hK K)
    refine cB rfl rfl (fun K hK=>?_)
    go_wp2_with fail
    refine (lF d r.body A1 c1 B _ (HL1.out.keep HB4.out hB) (zF hB HB4.out.size) (by omega) (by omega)).mono ?_
    rintro x w5 ⟨v5,rfl,hown,hb5⟩
    obtain ⟨A5,c5,rfl,hc5,hrl⟩:=hown.reads HSM2.out (by exact zF hlen2 (by omega))
    have HB5:=zE (HB4.out.trans (hb5.mono HB4.out.size))
    have HC5:=zE (eq.of (HC4.out.below.trans (hb5.mono HC4.out.below.size)))
    have HRL4:=zE ((HRL.out.keep hb5 (zG _)).wide hb5.size)
    have HRL5:=zE hrl
    clear hown hb5 hrl
    go_wp2_with fail
    refine ⟨HC5.out,?_⟩
    repeat (refine aY rfl rfl (fun K hK=>?_);unfold eq;go_big_quiet_op;refine hK _ ?_;clear hK K)
    refine cB rfl rfl (fun K hK=>?_)
    go_wp2_with fail
    refine (pn (ep (aA [r.head])) (ep (aA r.body)) A4 A5 c4 c5 _ _ HRL4.out HRL5.out (zG _) (by omega) (by exact zF hlen2 (by omega)) (kc _)).mono ?_
    rintro x w6 ⟨rfl,hb6⟩
    have HB6:=zE (HB5.out.trans (hb6.mono HB5.out.size))
    have HC6:=zE (eq.of (HC5.out.below.trans (hb6.mono HC5.out.below.size)))
    clear hb6
    go_wp2_with fail
    refine ⟨HC6.out,?_⟩
    repeat (refine aY rfl rfl (fun K hK=>?_);unfold eq;go_big_quiet_op;refine hK _ ?_;clear hK K)
    refine lB (fun _=>?_)
    go_wp2_with fail
    go_ret
    exact ⟨ae (by simp [aP,t1,t2,t3]),HB6.out⟩
   ·simp only [Bool.not_eq_true] at t3
    have u2:((r.body.length:Int)≥1):=by omega
    go_enter Tryz.func53,Tryz.ntmps53
    go_wp2_with fail
    have HW:=zE (HB.out (.cells #[.string r.head.name,.slice A0 r.head.terms.length c0,.slice A1 r.body.length c1,.slice A2 r.exprs.length c2,.slice A3 r.scopes.length c3] 30))
    have x0:(w.alloc (.cells #[.string r.head.name,.slice A0 r.head.terms.length c0,.slice A1 r.body.length c1,.slice A2 r.exprs.length c2,.slice A3 r.scopes.length c3] 30)).cell? ⟨w.heap.size,0,none⟩=some (.string r.head.name):=by go_simp
    have x1:(w.alloc (.cells #[.string r.head.name,.slice A0 r.head.terms.length c0,.slice A1 r.body.length c1,.slice A2 r.exprs.length c2,.slice A3 r.scopes.length c3] 30)).cell? ⟨w.heap.size,1,none⟩=some (.slice A0 r.head.terms.length c0):=by go_simp
    have x2:(w.alloc (.cells #[.string r.head.name,.slice A0 r.head.terms.length c0,.slice A1 r.body.length c1,.slice A2 r.exprs.length c2,.slice A3 r.scopes.length c3] 30)).cell? ⟨w.heap.size,2,none⟩=some (.slice A1 r.body.length c1):=by go_simp
    have x3:(w.alloc (.cells #[.string r.head.name,.slice A0 r.head.terms.length c0,.slice A1 r.body.length c1,.slice A2 r.exprs.length c2,.slice A3 r.scopes.length c3] 30)).cell? ⟨w.heap.size,3,none⟩=some (.slice A2 r.exprs.length c2):=by go_simp
    have x4:(w.alloc (.cells #[.string r.head.name,.slice A0 r.head.terms.length c0,.slice A1 r.body.length c1,.slice A2 r.exprs.length c2,.slice A3 r.scopes.length c3] 30)).cell? ⟨w.heap.size,4,none⟩=some (.slice A3 r.scopes.length c3):=by go_simp
    generalize (w.alloc (.cells #[.string r.head.name,.slice A0 r.head.terms.length c0,.slice A1 r.body.length c1,.slice A2 r.exprs.length c2,.slice A3 r.scopes.length c3] 30))=W at *
    have q0:=cell_regrown x0
    have q1:=cell_regrown x1
    have q2:=cell_regrown x2
    have q3:=cell_regrown x3
    have q4:=cell_regrown x4
    refine cS (eq W) (by kernel_rfl) (by kernel_rfl) (eq.drew W) ?_
    repeat (refine aY rfl rfl (fun K hK=>?_);unfold eq;go_big_quiet_op;refine hK _ ?_;clear hK K)
    refine cB rfl rfl (fun K hK=>?_)
    go_wp2_with fail
    refine (dg (d:=d) (B:=B) (vs:=[_,_]) ((PrR d).keep HW.out.drew hB HP.out) (zF hB HW.out.size)).mono ?_
    rintro x w1 ⟨rfl,hb1⟩
    have HB1:=zE (HW.out.trans ((zI _ W).drew.trans (hb1.mono (zG _)) |>.mono HW.out.size))
    have HC:=zE (eq.of ((zI W.heap.size W).drew.trans (hb1.mono (zG _))))
    clear hb1
    rw [t1]
    go_wp2_with fail
    refine ⟨HC.out,?_⟩
    repeat (refine aY rfl rfl (fun K hK=>?_);unfold eq;go_big_quiet_op;refine hK _ ?_;clear hK K)
    refine cB rfl rfl (fun K hK=>?_)
    go_wp2_with fail
    refine (nw (d:=d) (B:=B) (r:=r) (vs:=[_,_,_,_,_]) ((RuR d).keep HB1.out hB HR.out) (zF hB HB1.out.size)).mono ?_
    rintro x w2 ⟨rfl,hb2⟩
    have HB2:=zE (HB1.out.trans (hb2.mono HB1.out.size))
    have HC2:=zE (eq.of (HC.out.below.trans (hb2.mono HC.out.below.size)))
    clear hb2
    rw [t3]
    go_wp2_with fail
    refine ⟨HC2.out,?_⟩
    repeat first | (refine aY rfl rfl (fun K hK=>?_);unfold eq;go_big_quiet_op;refine hK _ ?_;clear hK K) | (refine lC (a':=?_) rfl ?_ ?_;rotate_left;focus (dsimp only [Act.put];simp only [List.setIfInBounds_toArray,List.set_cons_succ,List.set_cons_zero];rfl))
    refine lB (fun _=>?_)
    go_wp2_with fail
    go_ret
    exact ⟨ae (by simp [aP,t3]),HB2.out⟩
  ·have u2:¬((r.body.length:Int)≥1):=by omega
   go_enter Tryz.func53,Tryz.ntmps53
   go_wp2_with fail
   have HW:=zE (HB.out (.cells #[.string r.head.name,.slice A0 r.head.terms.length c0,.slice A1 r.body.length c1,.slice A2 r.exprs.length c2,.slice A3 r.scopes.length c3] 30))
   have x0:(w.alloc (.cells #[.string r.head.name,.slice A0 r.head.terms.length c0,.slice A1 r.body.length c1,.slice A2 r.exprs.length c2,.slice A3 r.scopes.length c3] 30)).cell? ⟨w.heap.size,0,none⟩=some (.string r.head.name):=by go_simp
   have x1:(w.alloc (.cells #[.string r.head.name,.slice A0 r.head.terms.length c0,.slice A1 r.body.length c1,.slice A2 r.exprs.length c2,.slice A3 r.scopes.length c3] 30)).cell? ⟨w.heap.size,1,none⟩=some (.slice A0 r.head.terms.length c0):=by go_simp
   have x2:(w.alloc (.cells #[.string r.head.name,.slice A0 r.head.terms.length c0,.slice A1 r.body.length c1,.slice A2 r.exprs.length c2,.slice A3 r.scopes.length c3] 30)).cell? ⟨w.heap.size,2,none⟩=some (.slice A1 r.body.length c1):=by go_simp
   have x3:(w.alloc (.cells #[.string r.head.name,.slice A0 r.head.terms.length c0,.slice A1 r.body.length c1,.slice A2 r.exprs.length c2,.slice A3 r.scopes.length c3] 30)).cell? ⟨w.heap.size,3,none⟩=some (.slice A2 r.exprs.length c2):=by go_simp
   have x4:(w.alloc (.cells #[.string r.head.name,.slice A0 r.head.terms.length c0,.slice A1 r.body.length c1,.slice A2 r.exprs.length c2,.slice A3 r.scopes.length c3] 30)).cell? ⟨w.heap.size,4,none⟩=some (.slice A3 r.scopes.length c3):=by go_simp
   generalize (w.alloc (.cells #[.string r.head.name,.slice A0 r.head.terms.length c0,.slice A1 r.body.length c1,.slice A2 r.exprs.length c2,.slice A3 r.scopes.length c3] 30))=W at *
   have q0:=cell_regrown x0
   have q1:=cell_regrown x1
   have q2:=cell_regrown x2
   have q3:=cell_regrown x3
   have q4:=cell_regrown x4
   refine cS (eq W) (by kernel_rfl) (by kernel_rfl) (eq.drew W) ?_
   repeat (refine aY rfl rfl (fun K hK=>?_);unfold eq;go_big_quiet_op;refine hK _ ?_;clear hK K)
   refine cB rfl rfl (fun K hK=>?_)
   go_wp2_with fail
   refine (dg (d:=d) (B:=B) (vs:=[_,_]) ((PrR d).keep HW.out.drew hB HP.out) (zF hB HW.out.size)).mono ?_
   rintro x w1 ⟨rfl,hb1⟩
   have HB1:=zE (HW.out.trans ((zI _ W).drew.trans (hb1.mono (zG _)) |>.mono HW.out.size))
   have HC:=zE (eq.of ((zI W.heap.size W).drew.trans (hb1.mono (zG _))))
   clear hb1
   rw [t1]
   go_wp2_with fail
   refine ⟨HC.out,?_⟩
   repeat first | (refine aY rfl rfl (fun K hK=>?_);unfold eq;go_big_quiet_op;refine hK _ ?_;clear hK K) | (refine lC (a':=?_) rfl ?_ ?_;rotate_left;focus (dsimp only [Act.put];simp only [List.setIfInBounds_toArray,List.set_cons_succ,List.set_cons_zero];rfl))
   refine lB (fun _=>?_)
   go_wp2_with fail
   go_ret
   exact ⟨ae (by simp [aP,t2]),HB1.out⟩
 ·simp only [Bool.not_eq_true] at t1
  go_enter Tryz.func53,Tryz.ntmps53
  go_wp2_with fail
  have HW:=zE (HB.out (.cells #[.string r.head.name,.slice A0 r.head.terms.length c0,.slice A1 r.body.length c1,.slice A2 r.exprs.length c2,.slice A3 r.scopes.length c3] 30))
  have x0:(w.alloc (.cells #[.string r.head.name,.slice A0 r.head.terms.length c0,.slice A1 r.body.length c1,.slice A2 r.exprs.length c2,.slice A3 r.scopes.length c3] 30)).cell? ⟨w.heap.size,0,none⟩=some (.string r.head.name):=by go_simp
  have x1:(w.alloc (.cells #[.string r.head.name,.slice A0 r.head.terms.length c0,.slice A1 r.body.length c1,.slice A2 r.exprs.length c2,.slice A3 r.scopes.length c3] 30)).cell? ⟨w.heap.size,1,none⟩=some (.slice A0 r.head.terms.length c0):=by go_simp
  have x2:(w.alloc (.cells #[.string r.head.name,.slice A0 r.head.terms.length c0,.slice A1 r.body.length c1,.slice A2 r.exprs.length c2,.slice A3 r.scopes.length c3] 30)).cell? ⟨w.heap.size,2,none⟩=some (.slice A1 r.body.length c1):=by go_simp
  have x3:(w.alloc (.cells #[.string r.head.name,.slice A0 r.head.terms.length c0,.slice A1 r.body.length c1,.slice A2 r.exprs.length c2,.slice A3 r.scopes.length c3] 30)).cell? ⟨w.heap.size,3,none⟩=some (.slice A2 r.exprs.length c2):=by go_simp
  have x4:(w.alloc (.cells #[.string r.head.name,.slice A0 r.head.terms.length c0,.slice A1 r.body.length c1,.slice A2 r.exprs.length c2,.slice A3 r.scopes.length c3] 30)).cell? ⟨w.heap.size,4,none⟩=some (.slice A3 r.scopes.length c3):=by go_simp
  generalize (w.alloc (.cells #[.string r.head.name,.slice A0 r.head.terms.length c0,.slice A1 r.body.length c1,.slice A2 r.exprs.length c2,.slice A3 r.scopes.length c3] 30))=W at *
  have q0:=cell_regrown x0
  have q1:=cell_regrown x1
  have q2:=cell_regrown x2
  have q3:=cell_regrown x3
  have q4:=cell_regrown x4
  refine cS (eq W) (by kernel_rfl) (by kernel_rfl) (eq.drew W) ?_
  repeat (refine aY rfl rfl (fun K hK=>?_);unfold eq;go_big_quiet_op;refine hK _ ?_;clear hK K)
  refine cB rfl rfl (fun K hK=>?_)
  go_wp2_with fail
  refine (dg (d:=d) (B:=B) (vs:=[_,_]) ((PrR d).keep HW.out.drew hB HP.out) (zF hB HW.out.size)).mono ?_
  rintro x w1 ⟨rfl,hb1⟩
  have HB1:=zE (HW.out.trans ((zI _ W).drew.trans (hb1.mono (zG _)) |>.mono HW.out.size))
  have HC:=zE (eq.of ((zI W.heap.size W).drew.trans (hb1.mono (zG _))))
  clear hb1
  rw [t1]
  go_wp2_with fail
  refine ⟨HC.out,?_⟩
  repeat first | (refine aY rfl rfl (fun K hK=>?_);unfold eq;go_big_quiet_op;refine hK _ ?_;clear hK K) | (refine lC (a':=?_) rfl ?_ ?_;rotate_left;focus (dsimp only [Act.put];simp only [List.setIfInBounds_toArray,List.set_cons_succ,List.set_cons_zero];rfl))
  refine lB (fun _=>?_)
  go_wp2_with fail
  go_ret
  exact ⟨ae (by simp [aP,t1]),HB1.out⟩
end Go.Proofs.YtdphibjibnffeaaGreat
