/- The arguments of a statement, opened to plain data. -/
import Derived.Test.YtdphibjibnffeaaGreatRule4
import Derived.Deep.Slices
import Derived.Deep.Fields
import Derived.ChangeSame
import Derived.SizedLaws
import Derived.Below
set_option linter.unusedVariables false
set_option linter.unusedSimpArgs false
set_option maxRecDepth 100000
set_option maxHeartbeats 8000000
namespace Go.Proofs.YtdphibjibnffeaaGreat
open Go.ChangeShapes Go.WideShapes Go.ChangeAt Go.RowKit
theorem RTm.deep {w:World} {B:Nat}:∀{d:Nat} {t:Tm} {vs:List Value},RTm w B d t vs→RTm w B (d+1) t vs
 | 0,_,_,h=>h.elim
 | d+1,t,vs,⟨A,c,e,h1,h2,h3,h4,h5,h6⟩=>⟨A,c,e,h1,h2,h3,h4,h5,h6.mono fun i vs _ ⟨x,hx,hr⟩=>⟨x,hx,RTm.deep hr⟩⟩
theorem RTm.deeper {w:World} {B:Nat} {d D:Nat} {t:Tm} {vs:List Value} (hd:d≤D) (h:RTm w B d t vs):RTm w B D t vs:=by
 induction D with
 | zero=> have:d=0:=by omega
          subst this;exact h
 | succ D ih=>
   by_cases he:d=D+1
   ·subst he;exact h
   ·exact RTm.deep (ih (by omega))
theorem kc {α:Type}:∀(n:Nat) (P:Nat→α→Prop),(∀i,i<n→∃a,P i a)→∃xs:List α,xs.length=n∧∀i,i<n→∃a,xs[i]? = some a∧P i a
 | 0,_,_=>⟨[],rfl,fun _ h=>by omega⟩
 | n+1,P,h=>by
   obtain ⟨xs,hl,hx⟩:=kc n P (fun i hi=>h i (by omega))
   obtain ⟨a,ha⟩:=h n (by omega)
   refine ⟨xs++[a],by simp [hl],fun i hi=>?_⟩
   by_cases hin:i<n
   ·obtain ⟨b,hb,hp⟩:=hx i hin
    exact ⟨b,by rw [List.getElem?_append_left (by omega)];exact hb,hp⟩
   ·have:i=n:=by omega
    subst this
    exact ⟨a,by rw [List.getElem?_append_right (by omega)];simp [hl],ha⟩
def Ok {H:Type} (P:Program) (t:TypeId) (d:DataW H):Prop:=∀n∈d.weights P t,n≤reachBytes
section
variable {H:Type} {enc:TypeId × Value→H} {P:Program} {w:World} {base:Nat} {held:Bool}
theorem ck {t:TypeId} {fs:Array Field} {fuel:Nat} {cs:List Value} {x:DataW H × List MemPlace} (ht:P.underlying t=some (.struct fs)) (h:DataW.trod enc P w base (fun _=>true) held fuel t cs=some x) (ho:Ok P t x.1) :
 cs.length=P.cellsOf t∧∃n,fuel=n+1∧∀(j:Nat) (f:Field) (ty:TypeId) (off C:Nat),fs[j]? = some f→f.type=ty→f.offset=off→P.cellsOf ty=C→∃y,DataW.trod enc P w base (fun _=>true) held n ty ((cs.drop off).take C)=some y∧Ok P ty y.1:=by
 obtain ⟨xs,n,hn,hx,hc,hl,hf⟩:=DataW.trod_struct ht h
 refine ⟨hc,n,hn,fun j f ty off C hj h1 h2 h3=>?_⟩
 subst h1 h2 h3
 have hjl:j<fs.size:=(Array.getElem?_eq_some_iff.1 hj).1
 have hys:xs[j]? = some (xs[j]'(by omega)):=List.getElem?_eq_getElem (by omega)
 refine ⟨_,(hf j f hj).trans hys,fun m hm=>ho m ?_⟩
 rw [hx]
 simp only [DataW.weights,ht]
 refine DataW.weights_mem_each (j:=j) (t:=f.type) (d:=(xs[j]'(by omega)).1) ?_ ?_ m hm
 ·rw [List.getElem?_map,Array.getElem?_toList,hj];rfl
 ·rw [List.getElem?_map,hys];rfl
theorem gA {e:TypeId}:∀{l:List (DataW H)} {d:DataW H},d∈l→∀n∈d.weights P e,n∈DataW.weightsAll P e l
 | a::l,d,hd,n,hn=>by
   simp only [DataW.weightsAll,List.mem_append]
   rcases List.mem_cons.1 hd with rfl | hd
   ·exact .inl hn
   ·exact .inr (gA hd n hn)
theorem gc {t:TypeId} {fuel:Nat} {cs:List Value} {x:DataW H × List MemPlace} (ht:P.underlying t=some (.int .i64)) (h:DataW.trod enc P w base (fun _=>true) held fuel t cs=some x):∃n,cs=[.int .i64 n]∧I64 n:=by
 obtain ⟨n,hcs,_,hwf⟩:=DataW.trod_int ht h
 refine ⟨n,hcs,?_⟩
 simp only [Lit.wf] at hwf
 unfold I64
 revert hwf
 have e1:IntKind.i64.signed=true:=rfl
 have e2:IntKind.i64.bits=64:=rfl
 simp [IntKind.min,IntKind.max,e1,e2]
theorem gN {t:TypeId} {fuel:Nat} {cs:List Value} {x:DataW H × List MemPlace} (ht:P.underlying t=some .string) (h:DataW.trod enc P w base (fun _=>true) held fuel t cs=some x) (ho:Ok P t x.1):∃s:ByteArray,cs=[.string s]∧s.size≤140737488351232:=by
 obtain ⟨s,hcs,hx,_⟩:=DataW.trod_string ht h
 refine ⟨s,hcs,?_⟩
 have:=ho s.data.toList.length (by rw [hx];simp [DataW.weights])
 simpa [reachBytes] using this
theorem kJ {α:Type} (R:Reader α) {D:Nat} {t e:TypeId} {fuel:Nat} {cs:List Value} {x:DataW H × List MemPlace} (ht:P.underlying t=some (.slice e)) (hC:P.cellsOf e=R.k) (hk:0<R.k) {B:Nat} (hb1:P.bytesOf e=B)
 (h:DataW.trod enc P w base (fun _=>true) held fuel t cs=some x) (ho:Ok P t x.1) (hD:fuel≤D+1)
 (hel:∀n,n≤D→∀cs x,DataW.trod enc P w base (fun _=>true) held n e cs=some x→Ok P e x.1→∃a,R.rd w w.heap.size a cs) :
 ∃(xs:List α) (A:Option Addr) (c:Nat),cs=[.slice A xs.length c]∧xs.length≤c∧c*B≤140737488351232∧RL R w w.heap.size xs A:=by
 rcases DataW.trod_slice ht h with ⟨hcs,_⟩ | ⟨a,len,cap,elems,rest,n,hn,hcs,hx,_,hl,_,hlen,hat,hsp,_⟩
 ·exact ⟨[],none,0,hcs,by simp,by simp,fun h0=>by simp at h0⟩
 have hrl:=(hsp rfl).1
 have hcap:cap*P.bytesOf e≤reachBytes:=by
  have:=ho ((elems.length+rest.length)*P.bytesOf e) (by rw [hx];simp [DataW.weights,ht])
  have e1:elems.length+rest.length=cap:=by omega
  rwa [e1] at this
 have hcapk:cap*B≤140737488351232:=by rw [hb1] at hcap;exact hcap
 have hE:∀i,i<len→∃a':α,∃cs',w.cells? base (a.add (i*P.cellsOf e)) (P.cellsOf e)=some cs'∧R.rd w w.heap.size a' cs':=by
  intro i hi
  have h1:=hat i hi
  have hg:elems[i]? = some (elems[i]'(by omega)):=List.getElem?_eq_getElem (by omega)
  rw [hg] at h1
  cases hc:w.cells? base (a.add (i*P.cellsOf e)) (P.cellsOf e) with
  | none=>rw [hc] at h1;simp at h1
  | some cs'=>
    rw [hc] at h1
    simp only [Option.bind_some] at h1
    obtain ⟨a',ha'⟩:=hel n (by omega) cs' _ h1 (fun m hm=>ho m (by
     rw [hx]
     simp only [DataW.weights,ht,List.mem_cons,List.mem_append]
     exact .inr (.inl (gA (List.mem_map.2 ⟨_,List.getElem_mem (by omega),rfl⟩) m hm))))
    exact ⟨a',cs',rfl,ha'⟩
 obtain ⟨xs,hxl,hxs⟩:=kc len _ hE
 refine ⟨xs,some a,cap,by rw [hcs,hxl],by omega,hcapk,fun h0=>?_⟩
 rw [hxl] at h0
 obtain ⟨a0,_,cs0,hc0,hr0⟩:=hxs 0 h0
 obtain ⟨_,hcl0,hat0⟩:=World.cells?_some hc0
 have hcell0:=hat0 0 (by omega)
 have e0:cs0[0]? = some (cs0[0]'(by omega)):=List.getElem?_eq_getElem (by omega)
 rw [e0] at hcell0
 have hsz:a.block<w.heap.size:=by
  have:=block_lt_of_cell hcell0
  simpa [Addr.add] using this
 have hspot:a.spot=none:=by simpa [Addr.add] using World.cell?_spot hcell0
 obtain ⟨b,off,spot⟩:=a
 dsimp only at hspot hsz
 subst hspot
 refine ⟨b,off,rfl,hsz,fun i hi=>?_⟩
 rw [hxl] at hi
 obtain ⟨ai,hai,csi,hci,hri⟩:=hxs i hi
 obtain ⟨_,hcl,hati⟩:=World.cells?_some hci
 refine ⟨csi,by omega,⟨ai,hai,hri⟩,fun j v hj=>?_⟩
 have hjl:j<csi.length:=(List.getElem?_eq_some_iff.1 hj).1
 have:=hati j (by omega)
 rw [hj] at this
 rw [←this,hC]
 congr 1
 simp only [Addr.add]
 split<;>split<;>simp_all<;>omega
theorem ik {α:Type} (R:Reader α) {D:Nat} {t e:TypeId} {fuel:Nat} {cs:List Value} {x:DataW H × List MemPlace} (ht:P.underlying t=some (.slice e)) (hC:P.cellsOf e=R.k) (hk:0<R.k) {B:Nat} (hb0:8*R.k≤B) (hb1:P.bytesOf e=B)
 (h:DataW.trod enc P w base (fun _=>true) held fuel t cs=some x) (ho:Ok P t x.1) (hD:fuel≤D+1)
 (hel:∀n,n≤D→∀cs x,DataW.trod enc P w base (fun _=>true) held n e cs=some x→Ok P e x.1→∃a,R.rd w w.heap.size a cs) :
 ∃xs v,cs=[v]∧RSl R w w.heap.size xs v:=by
 obtain ⟨xs,A,c,e1,h1,h2,h3⟩:=kJ R ht hC hk hb1 h ho hD hel
 exact ⟨xs,_,e1,A,c,rfl,h1,⟨Nat.le_trans (Nat.mul_le_mul h1 hb0) h2,by
  have:=Nat.le_mul_of_pos_right c (show 0<B by omega)
  omega⟩,h3⟩
theorem fl:Tryz.prog.cellsOf 3=1:=by kernel_rfl
theorem oP:Tryz.prog.cellsOf 2=1:=by kernel_rfl
theorem fm:Tryz.prog.cellsOf 9=1:=by kernel_rfl
theorem jS:Tryz.prog.cellsOf 23=1:=by kernel_rfl
theorem oO:Tryz.prog.cellsOf 26=1:=by kernel_rfl
theorem oN:Tryz.prog.cellsOf 27=1:=by kernel_rfl
theorem sM:Tryz.prog.cellsOf 57=1:=by kernel_rfl
theorem mR:Tryz.prog.cellsOf 28=1:=by kernel_rfl
theorem fU:Tryz.prog.cellsOf 79=4:=by kernel_rfl
theorem fT:Tryz.prog.cellsOf 25=2:=by kernel_rfl
theorem pY:Tryz.prog.cellsOf 81=7:=by kernel_rfl
theorem lA:Tryz.prog.cellsOf 59=1:=by kernel_rfl
theorem jR:Tryz.prog.cellsOf 213=2:=by kernel_rfl
theorem qY:Tryz.prog.cellsOf 30=5:=by kernel_rfl
theorem pQ:∀(n:Nat) (cs:List Value) (x:DataW H × List MemPlace),DataW.trod enc Tryz.prog w base (fun _=>true) held n 79 cs=some x→Ok Tryz.prog 79 x.1→∃t,RTm w w.heap.size n t cs
 | 0,cs,x,h,_=>by simp [DataW.trod] at h
 | n+1,cs,x,h,ho=>by
   obtain ⟨hc,n',hn,hf⟩:=ck (Tryz.underlying79) h ho
   have hn':n'=n:=by omega
   subst hn'
   have hc4:cs.length=4:=hc.trans fU
   match cs,hc4 with
   | [c0,c1,c2,c3],_=>
     obtain ⟨_,h0,_⟩:=hf 0 _ _ _ _ rfl rfl rfl fl
     obtain ⟨_,h1,_⟩:=hf 1 _ _ _ _ rfl rfl rfl oP
     obtain ⟨_,h2,o2⟩:=hf 2 _ _ _ _ rfl rfl rfl fm
     obtain ⟨_,h3,o3⟩:=hf 3 _ _ _ _ rfl rfl rfl jS
     obtain ⟨k0,e0,i0⟩:=gc (Tryz.underlying3) h0
     obtain ⟨k1,e1,i1⟩:=gc (Tryz.underlying2) h1
     obtain ⟨s2,e2,i2⟩:=gN (Tryz.underlying9) h2 o2
     obtain ⟨xs,A,c,e3,g1,g2,hrl⟩:=kJ (TmR n') (D:=n') (B:=56) (Tryz.underlying23) fU (by simp [TmR]) (by kernel_rfl) h3 o3 (by omega) (fun m hm cs x hx ho=>by
      obtain ⟨t,ht⟩:=pQ m cs x hx ho
      exact ⟨t,RTm.deeper hm ht⟩)
     replace e0:[c0]=_:=e0
     replace e1:[c1]=_:=e1
     replace e2:[c2]=_:=e2
     replace e3:[c3]=_:=e3
     simp only [List.cons.injEq,and_true] at e0 e1 e2 e3
     subst e0 e1 e2 e3
     exact ⟨⟨k0,k1,s2,xs⟩,A,c,rfl,g1,(show xs.length*40≤140737488351232∧c≤9223372036854775807 from ⟨by omega,by omega⟩),i2,i0,i1,hrl⟩
theorem sa {n D:Nat} {cs:List Value} {x:DataW H × List MemPlace} (h:DataW.trod enc Tryz.prog w base (fun _=>true) held n 23 cs=some x) (ho:Ok Tryz.prog 23 x.1) (hD:n≤D):∃ts v,cs=[v]∧RSl (TmR D) w w.heap.size ts v:=
 ik (TmR D) (D:=D) (B:=56) (Tryz.underlying23) fU (by simp [TmR]) (by simp [TmR]) (by kernel_rfl) h ho (by omega) (fun m hm cs x hx ho=>by
  obtain ⟨t,ht⟩:=pQ m cs x hx ho
  exact ⟨t,RTm.deeper hm ht⟩)
theorem kQ {n D:Nat} {cs:List Value} {x:DataW H × List MemPlace} (h:DataW.trod enc Tryz.prog w base (fun _=>true) held n 25 cs=some x) (ho:Ok Tryz.prog 25 x.1) (hD:n≤D):∃p,(PrR D).rd w w.heap.size p cs:=by
 obtain ⟨hc,n',hn,hf⟩:=ck (Tryz.underlying25) h ho
 have hcl:=hc.trans fT
 match cs,hcl with
 | [c0,c1],_=>
   obtain ⟨_,h0,o0⟩:=hf 0 _ _ _ _ rfl rfl rfl fm
   obtain ⟨_,h1,o1⟩:=hf 1 _ _ _ _ rfl rfl rfl jS
   obtain ⟨s0,e0,i0⟩:=gN (Tryz.underlying9) h0 o0
   obtain ⟨xs,v,e1,g1⟩:=sa (D:=D) h1 o1 (by omega)
   replace e0:[c0]=_:=e0
   replace e1:[c1]=_:=e1
   simp only [List.cons.injEq,and_true] at e0 e1
   subst e0 e1
   exact ⟨⟨s0,xs⟩,_,rfl,i0,g1⟩
theorem rL {n D:Nat} {cs:List Value} {x:DataW H × List MemPlace} (h:DataW.trod enc Tryz.prog w base (fun _=>true) held n 26 cs=some x) (ho:Ok Tryz.prog 26 x.1) (hD:n≤D):∃ts v,cs=[v]∧RSl (PrR D) w w.heap.size ts v:=
 ik (PrR D) (D:=D) (B:=40) (Tryz.underlying26) fT (by simp [PrR]) (by simp [PrR]) (by kernel_rfl) h ho (by omega) (fun m hm cs x hx ho=>kQ hx ho hm)
theorem op_open {n D:Nat} {cs:List Value} {x:DataW H × List MemPlace} (h:DataW.trod enc Tryz.prog w base (fun _=>true) held n 81 cs=some x) (ho:Ok Tryz.prog 81 x.1) (hD:n≤D):∃o,(OpR D).rd w w.heap.size o cs:=by
 obtain ⟨hc,n',hn,hf⟩:=ck (Tryz.underlying81) h ho
 have hcl:=hc.trans pY
 match cs,hcl with
 | [c0,c1,c2,c3,c4,c5,c6],_=>
   obtain ⟨_,h0,_⟩:=hf 0 _ _ _ _ rfl rfl rfl fl
   obtain ⟨_,h1,o1⟩:=hf 1 _ _ _ _ rfl rfl rfl fU
   obtain ⟨_,h2,_⟩:=hf 2 _ _ _ _ rfl rfl rfl fl
   obtain ⟨_,h3,_⟩:=hf 3 _ _ _ _ rfl rfl rfl fl
   obtain ⟨k0,e0,i0⟩:=gc (Tryz.underlying3) h0
   obtain ⟨k2,e2,i2⟩:=gc (Tryz.underlying3) h2
   obtain ⟨k3,e3,i3⟩:=gc (Tryz.underlying3) h3
   obtain ⟨t,ht⟩:=pQ _ _ _ h1 o1
   replace e0:[c0]=_:=e0
   replace e2:[c5]=_:=e2
   replace e3:[c6]=_:=e3
   replace ht:RTm w w.heap.size n' t [c1,c2,c3,c4]:=ht
   simp only [List.cons.injEq,and_true] at e0 e2 e3
   subst e0 e2 e3
   exact ⟨⟨k0,t,k2,k3⟩,_,rfl,i0,i2,i3,RTm.deeper (by omega) ht⟩
theorem vQ {n D:Nat} {cs:List Value} {x:DataW H × List MemPlace} (h:DataW.trod enc Tryz.prog w base (fun _=>true) held n 57 cs=some x) (ho:Ok Tryz.prog 57 x.1) (hD:n≤D):∃ts v,cs=[v]∧RSl (OpR D) w w.heap.size ts v:=
 ik (OpR D) (D:=D) (B:=80) (Tryz.underlying57) pY (by simp [OpR]) (by simp [OpR]) (by kernel_rfl) h ho (by omega) (fun m hm cs x hx ho=>op_open hx ho hm)
theorem tf {n D:Nat} {cs:List Value} {x:DataW H × List MemPlace} (h:DataW.trod enc Tryz.prog w base (fun _=>true) held n 59 cs=some x) (ho:Ok Tryz.prog 59 x.1) (hD:n≤D):∃o,(ExR D).rd w w.heap.size o cs:=by
 obtain ⟨hc,n',hn,hf⟩:=ck (Tryz.underlying59) h ho
 have hcl:=hc.trans lA
 match cs,hcl with
 | [c0],_=>
   obtain ⟨_,h0,o0⟩:=hf 0 _ _ _ _ rfl rfl rfl sM
   obtain ⟨xs,v,e0,g⟩:=vQ (D:=D) h0 o0 (by omega)
   exact ⟨xs,v,e0,g⟩
theorem rj {n D:Nat} {cs:List Value} {x:DataW H × List MemPlace} (h:DataW.trod enc Tryz.prog w base (fun _=>true) held n 27 cs=some x) (ho:Ok Tryz.prog 27 x.1) (hD:n≤D):∃ts v,cs=[v]∧RSl (ExR D) w w.heap.size ts v:=
 ik (ExR D) (D:=D) (B:=24) (Tryz.underlying27) lA (by simp [ExR]) (by simp [ExR]) (by kernel_rfl) h ho (by omega) (fun m hm cs x hx ho=>tf hx ho hm)
theorem rS {n:Nat} {cs:List Value} {x:DataW H × List MemPlace} (h:DataW.trod enc Tryz.prog w base (fun _=>true) held n 213 cs=some x) (ho:Ok Tryz.prog 213 x.1):∃o,ScR.rd w w.heap.size o cs:=by
 obtain ⟨hc,n',hn,hf⟩:=ck (Tryz.underlying213) h ho
 have hcl:=hc.trans jR
 match cs,hcl with
 | [c0,c1],_=>
   obtain ⟨_,h0,_⟩:=hf 0 _ _ _ _ rfl rfl rfl fl
   obtain ⟨_,h1,o1⟩:=hf 1 _ _ _ _ rfl rfl rfl fm
   obtain ⟨k0,e0,i0⟩:=gc (Tryz.underlying3) h0
   obtain ⟨s1,e1,i1⟩:=gN (Tryz.underlying9) h1 o1
   replace e0:[c0]=_:=e0
   replace e1:[c1]=_:=e1
   simp only [List.cons.injEq,and_true] at e0 e1
   subst e0 e1
   exact ⟨⟨k0,s1⟩,rfl,i0,i1⟩
theorem pK {n:Nat} {cs:List Value} {x:DataW H × List MemPlace} (h:DataW.trod enc Tryz.prog w base (fun _=>true) held n 28 cs=some x) (ho:Ok Tryz.prog 28 x.1):∃ts v,cs=[v]∧RSl ScR w w.heap.size ts v:=
 ik ScR (D:=n) (B:=24) (Tryz.underlying28) jR (by simp [ScR]) (by simp [ScR]) (by kernel_rfl) h ho (by omega) (fun m hm cs x hx ho=>rS hx ho)
theorem un {n D:Nat} {cs:List Value} {x:DataW H × List MemPlace} (h:DataW.trod enc Tryz.prog w base (fun _=>true) held n 30 cs=some x) (ho:Ok Tryz.prog 30 x.1) (hD:n≤D):∃r,(RuR D).rd w w.heap.size r cs:=by
 obtain ⟨hc,n',hn,hf⟩:=ck (Tryz.underlying30) h ho
 have hcl:=hc.trans qY
 match cs,hcl with
 | [c0,c1,c2,c3,c4],_=>
   obtain ⟨_,h0,o0⟩:=hf 0 _ _ _ _ rfl rfl rfl fT
   obtain ⟨_,h1,o1⟩:=hf 1 _ _ _ _ rfl rfl rfl oO
   obtain ⟨_,h2,o2⟩:=hf 2 _ _ _ _ rfl rfl rfl oN
   obtain ⟨_,h3,o3⟩:=hf 3 _ _ _ _ rfl rfl rfl mR
   obtain ⟨p,hp⟩:=kQ (D:=D) h0 o0 (by omega)
   obtain ⟨b,v1,e1,g1⟩:=rL (D:=D) h1 o1 (by omega)
   obtain ⟨es,v2,e2,g2⟩:=rj (D:=D) h2 o2 (by omega)
   obtain ⟨ss,v3,e3,g3⟩:=pK h3 o3
   replace hp:(PrR D).rd w w.heap.size p [c0,c1]:=hp
   obtain ⟨v0,e0,gs,g0⟩:=hp
   replace e1:[c2]=_:=e1
   replace e2:[c3]=_:=e2
   replace e3:[c4]=_:=e3
   simp only [List.cons.injEq,and_true] at e0 e1 e2 e3
   obtain ⟨rfl,rfl⟩:=e0
   subst e1 e2 e3
   exact ⟨⟨p,b,es,ss⟩,_,_,_,_,rfl,gs,g0,g1,g2,g3⟩
end
end Go.Proofs.YtdphibjibnffeaaGreat
