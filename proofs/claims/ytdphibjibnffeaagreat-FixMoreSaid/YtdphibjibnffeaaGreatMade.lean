/- viaticumlaw18: few, Many, Made; viaticumlaw19.few. Printed by mk_made.py. -/
import Derived.Test.YtdphibjibnffeaaGreatRule4
import Derived.Deep.Slices
import Derived.Deep.Fields
import Derived.ChangeSame
import Derived.SizedLaws
import Derived.Below
import Derived.Test.YtdphibjibnffeaaGreatScope
import Derived.Test.YtdphibjibnffeaaGreatRs3
set_option linter.unusedVariables false
set_option linter.unusedSimpArgs false
set_option maxRecDepth 100000
set_option maxHeartbeats 8000000
namespace Go.Proofs.YtdphibjibnffeaaGreat
open Go.ChangeShapes Go.WideShapes Go.ChangeAt Go.RowKit
theorem RTm.deep {w:World} {B:Nat}:∀{d:Nat} {t:Tm} {vs:List Value},RTm w B d t vs→RTm w B (d+1) t vs
 | 0,_,_,h=>h.elim
 | d+1,t,vs,⟨A,c,e,h1,h2,h3,h4,h5,h6⟩=>⟨A,c,e,h1,h2,h3,h4,h5,h6.mono fun i vs _ ⟨x,hx,hr⟩=>⟨x,hx,RTm.deep hr⟩⟩
theorem RTm.deeper {w:World} {B:Nat} {d D:Nat} {t:Tm} {vs:List Value} (hd:d≤D) (h:RTm w B d t vs):RTm w B D t vs:=by
 induction D with
 | zero=> have:d=0:=by omega
          subst this;exact h
 | succ D ih=>
   by_cases he:d=D+1
   ·subst he;exact h
   ·exact RTm.deep (ih (by omega))
theorem la {α:Type}:∀(n:Nat) (P:Nat→α→Prop),(∀i,i<n→∃a,P i a)→∃xs:List α,xs.length=n∧∀i,i<n→∃a,xs[i]? = some a∧P i a
 | 0,_,_=>⟨[],rfl,fun _ h=>by omega⟩
 | n+1,P,h=>by
   obtain ⟨xs,hl,hx⟩:=la n P (fun i hi=>h i (by omega))
   obtain ⟨a,ha⟩:=h n (by omega)
   refine ⟨xs++[a],by simp [hl],fun i hi=>?_⟩
   by_cases hin:i<n
   ·obtain ⟨b,hb,hp⟩:=hx i hin
    exact ⟨b,by rw [List.getElem?_append_left (by omega)];exact hb,hp⟩
   ·have:i=n:=by omega
    subst this
    exact ⟨a,by rw [List.getElem?_append_right (by omega)];simp [hl],ha⟩
def Ok {H:Type} (P:Program) (t:TypeId) (d:DataW H):Prop:=∀n∈d.weights P t,n≤reachBytes
section
variable {H:Type} {enc:TypeId × Value→H} {P:Program} {w:World} {base:Nat} {held:Bool}
theorem bg {t:TypeId} {fs:Array Field} {fuel:Nat} {cs:List Value} {x:DataW H × List MemPlace} (ht:P.underlying t=some (.struct fs)) (h:DataW.trod enc P w base (fun _=>true) held fuel t cs=some x) (ho:Ok P t x.1) :
 cs.length=P.cellsOf t∧∃n,fuel=n+1∧∀(j:Nat) (f:Field) (ty:TypeId) (off C:Nat),fs[j]? = some f→f.type=ty→f.offset=off→P.cellsOf ty=C→∃y,DataW.trod enc P w base (fun _=>true) held n ty ((cs.drop off).take C)=some y∧Ok P ty y.1:=by
 obtain ⟨xs,n,hn,hx,hc,hl,hf⟩:=DataW.trod_struct ht h
 refine ⟨hc,n,hn,fun j f ty off C hj h1 h2 h3=>?_⟩
 subst h1 h2 h3
 have hjl:j<fs.size:=(Array.getElem?_eq_some_iff.1 hj).1
 have hys:xs[j]? = some (xs[j]'(by omega)):=List.getElem?_eq_getElem (by omega)
 refine ⟨_,(hf j f hj).trans hys,fun m hm=>ho m ?_⟩
 rw [hx]
 simp only [DataW.weights,ht]
 refine DataW.weights_mem_each (j:=j) (t:=f.type) (d:=(xs[j]'(by omega)).1) ?_ ?_ m hm
 ·rw [List.getElem?_map,Array.getElem?_toList,hj];rfl
 ·rw [List.getElem?_map,hys];rfl
theorem ib {e:TypeId}:∀{l:List (DataW H)} {d:DataW H},d∈l→∀n∈d.weights P e,n∈DataW.weightsAll P e l
 | a::l,d,hd,n,hn=>by
   simp only [DataW.weightsAll,List.mem_append]
   rcases List.mem_cons.1 hd with rfl | hd
   ·exact .inl hn
   ·exact .inr (ib hd n hn)
theorem gO {t:TypeId} {fuel:Nat} {cs:List Value} {x:DataW H × List MemPlace} (ht:P.underlying t=some (.int .i64)) (h:DataW.trod enc P w base (fun _=>true) held fuel t cs=some x):∃n,cs=[.int .i64 n]∧I64 n:=by
 obtain ⟨n,hcs,_,hwf⟩:=DataW.trod_int ht h
 refine ⟨n,hcs,?_⟩
 simp only [Lit.wf] at hwf
 unfold I64
 revert hwf
 have e1:IntKind.i64.signed=true:=rfl
 have e2:IntKind.i64.bits=64:=rfl
 simp [IntKind.min,IntKind.max,e1,e2]
theorem iq {t:TypeId} {fuel:Nat} {cs:List Value} {x:DataW H × List MemPlace} (ht:P.underlying t=some .string) (h:DataW.trod enc P w base (fun _=>true) held fuel t cs=some x) (ho:Ok P t x.1):∃s:ByteArray,cs=[.string s]∧s.size≤140737488351232:=by
 obtain ⟨s,hcs,hx,_⟩:=DataW.trod_string ht h
 refine ⟨s,hcs,?_⟩
 have:=ho s.data.toList.length (by rw [hx];simp [DataW.weights])
 simpa [reachBytes] using this
theorem go {α:Type} (R:Reader α) {D:Nat} {t e:TypeId} {fuel:Nat} {cs:List Value} {x:DataW H × List MemPlace} (ht:P.underlying t=some (.slice e)) (hC:P.cellsOf e=R.k) (hk:0<R.k) {B:Nat} (hb1:P.bytesOf e=B)
 (h:DataW.trod enc P w base (fun _=>true) held fuel t cs=some x) (ho:Ok P t x.1) (hD:fuel≤D+1)
 (hel:∀n,n≤D→∀cs x,DataW.trod enc P w base (fun _=>true) held n e cs=some x→Ok P e x.1→∃a,R.rd w w.heap.size a cs) :
 ∃(xs:List α) (A:Option Addr) (c:Nat),cs=[.slice A xs.length c]∧xs.length≤c∧c*B≤140737488351232∧RL R w w.heap.size xs A:=by
 rcases DataW.trod_slice ht h with ⟨hcs,_⟩ | ⟨a,len,cap,elems,rest,n,hn,hcs,hx,_,hl,_,hlen,hat,hsp,_⟩
 ·exact ⟨[],none,0,hcs,by simp,by simp,fun h0=>by simp at h0⟩
 have hrl:=(hsp rfl).1
 have hcap:cap*P.bytesOf e≤reachBytes:=by
  have:=ho ((elems.length+rest.length)*P.bytesOf e) (by rw [hx];simp [DataW.weights,ht])
  have e1:elems.length+rest.length=cap:=by omega
  rwa [e1] at this
 have hcapk:cap*B≤140737488351232:=by rw [hb1] at hcap;exact hcap
 have hE:∀i,i<len→∃a':α,∃cs',w.cells? base (a.add (i*P.cellsOf e)) (P.cellsOf e)=some cs'∧R.rd w w.heap.size a' cs':=by
  intro i hi
  have h1:=hat i hi
  have hg:elems[i]? = some (elems[i]'(by omega)):=List.getElem?_eq_getElem (by omega)
  rw [hg] at h1
  cases hc:w.cells? base (a.add (i*P.cellsOf e)) (P.cellsOf e) with
  | none=>rw [hc] at h1;simp at h1
  | some cs'=>
    rw [hc] at h1
    simp only [Option.bind_some] at h1
    obtain ⟨a',ha'⟩:=hel n (by omega) cs' _ h1 (fun m hm=>ho m (by
     rw [hx]
     simp only [DataW.weights,ht,List.mem_cons,List.mem_append]
     exact .inr (.inl (ib (List.mem_map.2 ⟨_,List.getElem_mem (by omega),rfl⟩) m hm))))
    exact ⟨a',cs',rfl,ha'⟩
 obtain ⟨xs,hxl,hxs⟩:=la len _ hE
 refine ⟨xs,some a,cap,by rw [hcs,hxl],by omega,hcapk,fun h0=>?_⟩
 rw [hxl] at h0
 obtain ⟨a0,_,cs0,hc0,hr0⟩:=hxs 0 h0
 obtain ⟨_,hcl0,hat0⟩:=World.cells?_some hc0
 have hcell0:=hat0 0 (by omega)
 have e0:cs0[0]? = some (cs0[0]'(by omega)):=List.getElem?_eq_getElem (by omega)
 rw [e0] at hcell0
 have hsz:a.block<w.heap.size:=by
  have:=block_lt_of_cell hcell0
  simpa [Addr.add] using this
 have hspot:a.spot=none:=by simpa [Addr.add] using World.cell?_spot hcell0
 obtain ⟨b,off,spot⟩:=a
 dsimp only at hspot hsz
 subst hspot
 refine ⟨b,off,rfl,hsz,fun i hi=>?_⟩
 rw [hxl] at hi
 obtain ⟨ai,hai,csi,hci,hri⟩:=hxs i hi
 obtain ⟨_,hcl,hati⟩:=World.cells?_some hci
 refine ⟨csi,by omega,⟨ai,hai,hri⟩,fun j v hj=>?_⟩
 have hjl:j<csi.length:=(List.getElem?_eq_some_iff.1 hj).1
 have:=hati j (by omega)
 rw [hj] at this
 rw [←this,hC]
 congr 1
 simp only [Addr.add]
 split<;>split<;>simp_all<;>omega
theorem iR {α:Type} (R:Reader α) {D:Nat} {t e:TypeId} {fuel:Nat} {cs:List Value} {x:DataW H × List MemPlace} (ht:P.underlying t=some (.slice e)) (hC:P.cellsOf e=R.k) (hk:0<R.k) {B:Nat} (hb0:8*R.k≤B) (hb1:P.bytesOf e=B)
 (h:DataW.trod enc P w base (fun _=>true) held fuel t cs=some x) (ho:Ok P t x.1) (hD:fuel≤D+1)
 (hel:∀n,n≤D→∀cs x,DataW.trod enc P w base (fun _=>true) held n e cs=some x→Ok P e x.1→∃a,R.rd w w.heap.size a cs) :
 ∃xs v,cs=[v]∧RSl R w w.heap.size xs v:=by
 obtain ⟨xs,A,c,e1,h1,h2,h3⟩:=go R ht hC hk hb1 h ho hD hel
 exact ⟨xs,_,e1,A,c,rfl,h1,⟨zF (Nat.mul_le_mul h1 hb0) h2,by
  have:=Nat.le_mul_of_pos_right c (show 0<B by omega)
  omega⟩,h3⟩
theorem dr:Tryz.prog.cellsOf 3=1:=by kernel_rfl
theorem qy:Tryz.prog.cellsOf 2=1:=by kernel_rfl
theorem fJ:Tryz.prog.cellsOf 9=1:=by kernel_rfl
theorem ii:Tryz.prog.cellsOf 23=1:=by kernel_rfl
theorem qw:Tryz.prog.cellsOf 26=1:=by kernel_rfl
theorem qv:Tryz.prog.cellsOf 27=1:=by kernel_rfl
theorem uM:Tryz.prog.cellsOf 57=1:=by kernel_rfl
theorem oD:Tryz.prog.cellsOf 28=1:=by kernel_rfl
theorem eI:Tryz.prog.cellsOf 79=4:=by kernel_rfl
theorem dL:Tryz.prog.cellsOf 25=2:=by kernel_rfl
theorem rE:Tryz.prog.cellsOf 81=7:=by kernel_rfl
theorem mC:Tryz.prog.cellsOf 59=1:=by kernel_rfl
theorem kQ:Tryz.prog.cellsOf 213=2:=by kernel_rfl
theorem mD:Tryz.prog.cellsOf 30=5:=by kernel_rfl
theorem oc:∀(n:Nat) (cs:List Value) (x:DataW H × List MemPlace),DataW.trod enc Tryz.prog w base (fun _=>true) held n 79 cs=some x→Ok Tryz.prog 79 x.1→∃t,RTm w w.heap.size n t cs
 | 0,cs,x,h,_=>by simp [DataW.trod] at h
 | n+1,cs,x,h,ho=>by
   obtain ⟨hc,n',hn,hf⟩:=bg (Tryz.underlying79) h ho
   have hn':n'=n:=by omega
   subst hn'
   have hc4:cs.length=4:=hc.trans eI
   match cs,hc4 with
   | [c0,c1,c2,c3],_=>
     obtain ⟨_,h0,_⟩:=hf 0 _ _ _ _ rfl rfl rfl dr
     obtain ⟨_,h1,_⟩:=hf 1 _ _ _ _ rfl rfl rfl qy
     obtain ⟨_,h2,o2⟩:=hf 2 _ _ _ _ rfl rfl rfl fJ
     obtain ⟨_,h3,o3⟩:=hf 3 _ _ _ _ rfl rfl rfl ii
     obtain ⟨k0,e0,i0⟩:=gO (Tryz.underlying3) h0
     obtain ⟨k1,e1,i1⟩:=gO (Tryz.underlying2) h1
     obtain ⟨s2,e2,i2⟩:=iq (Tryz.underlying9) h2 o2
     obtain ⟨xs,A,c,e3,g1,g2,hrl⟩:=go (TmR n') (D:=n') (B:=56) (Tryz.underlying23) eI (by simp [TmR]) (by kernel_rfl) h3 o3 (by omega) (fun m hm cs x hx ho=>by
      obtain ⟨t,ht⟩:=oc m cs x hx ho
      exact ⟨t,RTm.deeper hm ht⟩)
     replace e0:[c0]=_:=e0
     replace e1:[c1]=_:=e1
     replace e2:[c2]=_:=e2
     replace e3:[c3]=_:=e3
     simp only [List.cons.injEq,and_true] at e0 e1 e2 e3
     subst e0 e1 e2 e3
     exact ⟨⟨k0,k1,s2,xs⟩,A,c,rfl,g1,(show xs.length*40≤140737488351232∧c≤9223372036854775807 from ⟨by omega,by omega⟩),i2,i0,i1,hrl⟩
theorem tY {n D:Nat} {cs:List Value} {x:DataW H × List MemPlace} (h:DataW.trod enc Tryz.prog w base (fun _=>true) held n 23 cs=some x) (ho:Ok Tryz.prog 23 x.1) (hD:n≤D):∃ts v,cs=[v]∧RSl (TmR D) w w.heap.size ts v:=
 iR (TmR D) (D:=D) (B:=56) (Tryz.underlying23) eI (by simp [TmR]) (by simp [TmR]) (by kernel_rfl) h ho (by omega) (fun m hm cs x hx ho=>by
  obtain ⟨t,ht⟩:=oc m cs x hx ho
  exact ⟨t,RTm.deeper hm ht⟩)
theorem lK {n D:Nat} {cs:List Value} {x:DataW H × List MemPlace} (h:DataW.trod enc Tryz.prog w base (fun _=>true) held n 25 cs=some x) (ho:Ok Tryz.prog 25 x.1) (hD:n≤D):∃p,(PrR D).rd w w.heap.size p cs:=by
 obtain ⟨hc,n',hn,hf⟩:=bg (Tryz.underlying25) h ho
 have hcl:=hc.trans dL
 match cs,hcl with
 | [c0,c1],_=>
   obtain ⟨_,h0,o0⟩:=hf 0 _ _ _ _ rfl rfl rfl fJ
   obtain ⟨_,h1,o1⟩:=hf 1 _ _ _ _ rfl rfl rfl ii
   obtain ⟨s0,e0,i0⟩:=iq (Tryz.underlying9) h0 o0
   obtain ⟨xs,v,e1,g1⟩:=tY (D:=D) h1 o1 (by omega)
   replace e0:[c0]=_:=e0
   replace e1:[c1]=_:=e1
   simp only [List.cons.injEq,and_true] at e0 e1
   subst e0 e1
   exact ⟨⟨s0,xs⟩,_,rfl,i0,g1⟩
theorem tH {n D:Nat} {cs:List Value} {x:DataW H × List MemPlace} (h:DataW.trod enc Tryz.prog w base (fun _=>true) held n 26 cs=some x) (ho:Ok Tryz.prog 26 x.1) (hD:n≤D):∃ts v,cs=[v]∧RSl (PrR D) w w.heap.size ts v:=
 iR (PrR D) (D:=D) (B:=40) (Tryz.underlying26) dL (by simp [PrR]) (by simp [PrR]) (by kernel_rfl) h ho (by omega) (fun m hm cs x hx ho=>lK hx ho hm)
theorem op_open {n D:Nat} {cs:List Value} {x:DataW H × List MemPlace} (h:DataW.trod enc Tryz.prog w base (fun _=>true) held n 81 cs=some x) (ho:Ok Tryz.prog 81 x.1) (hD:n≤D):∃o,(OpR D).rd w w.heap.size o cs:=by
 obtain ⟨hc,n',hn,hf⟩:=bg (Tryz.underlying81) h ho
 have hcl:=hc.trans rE
 match cs,hcl with
 | [c0,c1,c2,c3,c4,c5,c6],_=>
   obtain ⟨_,h0,_⟩:=hf 0 _ _ _ _ rfl rfl rfl dr
   obtain ⟨_,h1,o1⟩:=hf 1 _ _ _ _ rfl rfl rfl eI
   obtain ⟨_,h2,_⟩:=hf 2 _ _ _ _ rfl rfl rfl dr
   obtain ⟨_,h3,_⟩:=hf 3 _ _ _ _ rfl rfl rfl dr
   obtain ⟨k0,e0,i0⟩:=gO (Tryz.underlying3) h0
   obtain ⟨k2,e2,i2⟩:=gO (Tryz.underlying3) h2
   obtain ⟨k3,e3,i3⟩:=gO (Tryz.underlying3) h3
   obtain ⟨t,ht⟩:=oc _ _ _ h1 o1
   replace e0:[c0]=_:=e0
   replace e2:[c5]=_:=e2
   replace e3:[c6]=_:=e3
   replace ht:RTm w w.heap.size n' t [c1,c2,c3,c4]:=ht
   simp only [List.cons.injEq,and_true] at e0 e2 e3
   subst e0 e2 e3
   exact ⟨⟨k0,t,k2,k3⟩,_,rfl,i0,i2,i3,RTm.deeper (by omega) ht⟩
theorem yn {n D:Nat} {cs:List Value} {x:DataW H × List MemPlace} (h:DataW.trod enc Tryz.prog w base (fun _=>true) held n 57 cs=some x) (ho:Ok Tryz.prog 57 x.1) (hD:n≤D):∃ts v,cs=[v]∧RSl (OpR D) w w.heap.size ts v:=
 iR (OpR D) (D:=D) (B:=80) (Tryz.underlying57) rE (by simp [OpR]) (by simp [OpR]) (by kernel_rfl) h ho (by omega) (fun m hm cs x hx ho=>op_open hx ho hm)
theorem uZ {n D:Nat} {cs:List Value} {x:DataW H × List MemPlace} (h:DataW.trod enc Tryz.prog w base (fun _=>true) held n 59 cs=some x) (ho:Ok Tryz.prog 59 x.1) (hD:n≤D):∃o,(ExR D).rd w w.heap.size o cs:=by
 obtain ⟨hc,n',hn,hf⟩:=bg (Tryz.underlying59) h ho
 have hcl:=hc.trans mC
 match cs,hcl with
 | [c0],_=>
   obtain ⟨_,h0,o0⟩:=hf 0 _ _ _ _ rfl rfl rfl uM
   obtain ⟨xs,v,e0,g⟩:=yn (D:=D) h0 o0 (by omega)
   exact ⟨xs,v,e0,g⟩
theorem sX {n D:Nat} {cs:List Value} {x:DataW H × List MemPlace} (h:DataW.trod enc Tryz.prog w base (fun _=>true) held n 27 cs=some x) (ho:Ok Tryz.prog 27 x.1) (hD:n≤D):∃ts v,cs=[v]∧RSl (ExR D) w w.heap.size ts v:=
 iR (ExR D) (D:=D) (B:=24) (Tryz.underlying27) mC (by simp [ExR]) (by simp [ExR]) (by kernel_rfl) h ho (by omega) (fun m hm cs x hx ho=>uZ hx ho hm)
theorem tQ {n:Nat} {cs:List Value} {x:DataW H × List MemPlace} (h:DataW.trod enc Tryz.prog w base (fun _=>true) held n 213 cs=some x) (ho:Ok Tryz.prog 213 x.1):∃o,ScR.rd w w.heap.size o cs:=by
 obtain ⟨hc,n',hn,hf⟩:=bg (Tryz.underlying213) h ho
 have hcl:=hc.trans kQ
 match cs,hcl with
 | [c0,c1],_=>
   obtain ⟨_,h0,_⟩:=hf 0 _ _ _ _ rfl rfl rfl dr
   obtain ⟨_,h1,o1⟩:=hf 1 _ _ _ _ rfl rfl rfl fJ
   obtain ⟨k0,e0,i0⟩:=gO (Tryz.underlying3) h0
   obtain ⟨s1,e1,i1⟩:=iq (Tryz.underlying9) h1 o1
   replace e0:[c0]=_:=e0
   replace e1:[c1]=_:=e1
   simp only [List.cons.injEq,and_true] at e0 e1
   subst e0 e1
   exact ⟨⟨k0,s1⟩,rfl,i0,i1⟩
theorem ro {n:Nat} {cs:List Value} {x:DataW H × List MemPlace} (h:DataW.trod enc Tryz.prog w base (fun _=>true) held n 28 cs=some x) (ho:Ok Tryz.prog 28 x.1):∃ts v,cs=[v]∧RSl ScR w w.heap.size ts v:=
 iR ScR (D:=n) (B:=24) (Tryz.underlying28) kQ (by simp [ScR]) (by simp [ScR]) (by kernel_rfl) h ho (by omega) (fun m hm cs x hx ho=>tQ hx ho)
theorem wH {n D:Nat} {cs:List Value} {x:DataW H × List MemPlace} (h:DataW.trod enc Tryz.prog w base (fun _=>true) held n 30 cs=some x) (ho:Ok Tryz.prog 30 x.1) (hD:n≤D):∃r,(RuR D).rd w w.heap.size r cs:=by
 obtain ⟨hc,n',hn,hf⟩:=bg (Tryz.underlying30) h ho
 have hcl:=hc.trans mD
 match cs,hcl with
 | [c0,c1,c2,c3,c4],_=>
   obtain ⟨_,h0,o0⟩:=hf 0 _ _ _ _ rfl rfl rfl dL
   obtain ⟨_,h1,o1⟩:=hf 1 _ _ _ _ rfl rfl rfl qw
   obtain ⟨_,h2,o2⟩:=hf 2 _ _ _ _ rfl rfl rfl qv
   obtain ⟨_,h3,o3⟩:=hf 3 _ _ _ _ rfl rfl rfl oD
   obtain ⟨p,hp⟩:=lK (D:=D) h0 o0 (by omega)
   obtain ⟨b,v1,e1,g1⟩:=tH (D:=D) h1 o1 (by omega)
   obtain ⟨es,v2,e2,g2⟩:=sX (D:=D) h2 o2 (by omega)
   obtain ⟨ss,v3,e3,g3⟩:=ro h3 o3
   replace hp:(PrR D).rd w w.heap.size p [c0,c1]:=hp
   obtain ⟨v0,e0,gs,g0⟩:=hp
   replace e1:[c2]=_:=e1
   replace e2:[c3]=_:=e2
   replace e3:[c4]=_:=e3
   simp only [List.cons.injEq,and_true] at e0 e1 e2 e3
   obtain ⟨rfl,rfl⟩:=e0
   subst e1 e2 e3
   exact ⟨⟨p,b,es,ss⟩,_,_,_,_,rfl,gs,g0,g1,g2,g3⟩
end
theorem yE:∀(dp:Nat),dp≤6→∀(d B:Nat) (ts:List Tm) (A:Option Addr) (c:Nat) (n0:Int) (w:World),RL (TmR d) w B ts A→B≤w.heap.size→ts.length≤140737488351232→0≤n0→n0<100 →
 Calls Tryz.prog 151 #[.slice A ts.length c,.int .i64 n0,.int .i64 (dp:Int)] w fun e w'=>(∃m:Int,e=.returned (.int .i64 m)∧0≤m∧m≤100)∧Below w.heap.size w w':=by
 intro dp
 induction dp with
 | zero=>
   intro _ d B ts A c n0 w hl hB hn h0 h1
   have hdp0:¬(((0:Nat):Int) > 0):=by omega
   go_enter Tryz.func151,Tryz.ntmps151
   go_wp2_with fail
   go_loopw [1,11] (fun v i wr=>∃(k:Nat) (n:Int),k≤ts.length∧i=.int .i64 k∧v=.int .i64 n∧0≤n∧n<100∧Below w.heap.size w wr) (fun _ i _=>ts.length-(intOf i).toNat)
   case atStart=>exact ⟨0,n0,zH _,rfl,rfl,h0,h1,zI _ _⟩
   case round=>
    obtain ⟨k,n,hk,rfl,rfl,hn0,hn1,hbw⟩:=hrel
    by_cases hlt:k<ts.length
    ·obtain ⟨b,off,rfl,hb⟩:=hl.base hbw hB (by omega)
     obtain ⟨t,vs,hx,hlen,hcell,hr⟩:=hl.at0 hbw hB hlt
     obtain ⟨Ax,cx,rfl,g1,g2,g3,g4,g5,hrl⟩:=RTm.cells hr
     have c0:wr.cell? ⟨b,off+k*4,none⟩=some (.int .i64 t.kind):=hcell 0 _ rfl
     have c1:wr.cell? ⟨b,off+k*4+1,none⟩=some (.int .i64 t.n):=hcell 1 _ rfl
     have c2:wr.cell? ⟨b,off+k*4+2,none⟩=some (.string t.s):=hcell 2 _ rfl
     have c3:wr.cell? ⟨b,off+k*4+3,none⟩=some (.slice Ax t.l.length cx):=hcell 3 _ rfl
     have hszr:=hbw.size
     have HB:=zE (fun o:Obj=>hbw.alloc hszr o)
     clear hcell hlen hx hr
     go_wp2_with fail
     ·go_ret
      exact ⟨⟨100,rfl,by omega,by omega⟩,HB.out _⟩
     ·go_roundw
      case rel=>exact ⟨k+1,_,by omega,by go_num,rfl,by omega,by omega,HB.out _⟩
      case measure=>simp [intOf];omega
     ·go_ret
      exact ⟨⟨100,rfl,by omega,by omega⟩,HB.out _⟩
    ·go_wp2_with fail
     go_ret
     exact ⟨⟨n,rfl,hn0,by omega⟩,hbw⟩
 | succ dp ih=>
   intro hdp d B ts A c n0 w hl hB hn h0 h1
   have IH:=zE (ih (by omega))
   clear ih
   have hdp0:((dp+1:Nat):Int) > 0:=by omega
   have hdp1:(((dp+1:Nat):Int)==0)=false:=by simp;omega
   have hdp2:((dp+1:Nat):Int)-1=(dp:Int):=by omega
   have hdp3:((dp+1:Nat):Int)≤6:=by omega
   have HDP:=zE hdp2
   generalize hD:((dp+1:Nat):Int)=D at *
   clear hD hdp2
   go_enter Tryz.func151,Tryz.ntmps151
   go_wp2_with fail
   go_loopw [1,11] (fun v i wr=>∃(k:Nat) (n:Int),k≤ts.length∧i=.int .i64 k∧v=.int .i64 n∧0≤n∧n<100∧Below w.heap.size w wr) (fun _ i _=>ts.length-(intOf i).toNat)
   case atStart=>exact ⟨0,n0,zH _,rfl,rfl,h0,h1,zI _ _⟩
   case round=>
    obtain ⟨k,n,hk,rfl,rfl,hn0,hn1,hbw⟩:=hrel
    by_cases hlt:k<ts.length
    ·obtain ⟨b,off,rfl,hb⟩:=hl.base hbw hB (by omega)
     obtain ⟨t,vs,hx,hlen,hcell,hr⟩:=hl.at0 hbw hB hlt
     obtain ⟨Ax,cx,rfl,g1,g2,g3,g4,g5,hrl⟩:=RTm.cells hr
     have c0:wr.cell? ⟨b,off+k*4,none⟩=some (.int .i64 t.kind):=hcell 0 _ rfl
     have c1:wr.cell? ⟨b,off+k*4+1,none⟩=some (.int .i64 t.n):=hcell 1 _ rfl
     have c2:wr.cell? ⟨b,off+k*4+2,none⟩=some (.string t.s):=hcell 2 _ rfl
     have c3:wr.cell? ⟨b,off+k*4+3,none⟩=some (.slice Ax t.l.length cx):=hcell 3 _ rfl
     have hszr:=hbw.size
     have HB:=zE (fun o:Obj=>hbw.alloc hszr o)
     clear hcell hlen hx hr
     go_wp2_with fail
     ·rw [HDP.out]
      refine (IH.out (d-1) B t.l Ax cx _ _ ((jL.rl hrl).keep (HB.out _) hB) (zF hB (HB.out _).size) (by omega) (by omega) (by omega)).mono ?_
      rintro e w1 ⟨⟨m,rfl,hm0,hm1⟩,hb1⟩
      have HB1:=zE ((HB.out _).trans (hb1.mono (HB.out _).size))
      clear hb1
      go_wp2_with fail
      ·go_roundw
       case rel=>exact ⟨k+1,m,by omega,by go_num,rfl,by omega,by omega,HB1.out⟩
       case measure=>simp [intOf];omega
      ·go_ret
       exact ⟨⟨100,rfl,by omega,by omega⟩,HB1.out⟩
     ·go_ret
      exact ⟨⟨100,rfl,by omega,by omega⟩,HB.out _⟩
    ·go_wp2_with fail
     go_ret
     exact ⟨⟨n,rfl,hn0,by omega⟩,hbw⟩
theorem ie {d B:Nat} {t:Tm} {vs:List Value} {w:World} (hr:RTm w B d t vs) (hB:B≤w.heap.size) :
 Calls Tryz.prog 102 #[.agg vs.toArray] w fun e w'=>(∃m:Int,e=.returned (.int .i64 m)∧0≤m∧m≤100)∧Below w.heap.size w w':=by
 have HR:=zE hr
 obtain ⟨Ax,cx,rfl,g1,g2,g3,g4,g5,hrl⟩:=RTm.cells hr
 have HB:=zE (fun o:Obj=>(zI w.heap.size w).alloc (zG _) o)
 clear hr hrl
 go_enter Tryz.func102,Tryz.ntmps102
 go_wp2_with fail
 have HW:=zE ((HB.out (.cells #[.int .i64 t.kind,.int .i64 t.n,.string t.s,.slice Ax t.l.length cx] 79)).trans ((zI (w.alloc (.cells #[.int .i64 t.kind,.int .i64 t.n,.string t.s,.slice Ax t.l.length cx] 79)).heap.size (w.alloc (.cells #[.int .i64 t.kind,.int .i64 t.n,.string t.s,.slice Ax t.l.length cx] 79))).alloc (zG _) (.cells #[.int .i64 t.kind,.int .i64 t.n,.string t.s,.slice Ax t.l.length cx] 79) |>.mono (HB.out (.cells #[.int .i64 t.kind,.int .i64 t.n,.string t.s,.slice Ax t.l.length cx] 79)).size))
 have y0:((w.alloc (.cells #[.int .i64 t.kind,.int .i64 t.n,.string t.s,.slice Ax t.l.length cx] 79)).alloc (.cells #[.int .i64 t.kind,.int .i64 t.n,.string t.s,.slice Ax t.l.length cx] 79)).cell? ⟨w.heap.size+1,0,none⟩=some (.int .i64 t.kind):=by go_simp
 have y1:((w.alloc (.cells #[.int .i64 t.kind,.int .i64 t.n,.string t.s,.slice Ax t.l.length cx] 79)).alloc (.cells #[.int .i64 t.kind,.int .i64 t.n,.string t.s,.slice Ax t.l.length cx] 79)).cell? ⟨w.heap.size+1,1,none⟩=some (.int .i64 t.n):=by go_simp
 have y2:((w.alloc (.cells #[.int .i64 t.kind,.int .i64 t.n,.string t.s,.slice Ax t.l.length cx] 79)).alloc (.cells #[.int .i64 t.kind,.int .i64 t.n,.string t.s,.slice Ax t.l.length cx] 79)).cell? ⟨w.heap.size+1,2,none⟩=some (.string t.s):=by go_simp
 have y3:((w.alloc (.cells #[.int .i64 t.kind,.int .i64 t.n,.string t.s,.slice Ax t.l.length cx] 79)).alloc (.cells #[.int .i64 t.kind,.int .i64 t.n,.string t.s,.slice Ax t.l.length cx] 79)).cell? ⟨w.heap.size+1,3,none⟩=some (.slice Ax t.l.length cx):=by go_simp
 have ysz:w.heap.size+1<((w.alloc (.cells #[.int .i64 t.kind,.int .i64 t.n,.string t.s,.slice Ax t.l.length cx] 79)).alloc (.cells #[.int .i64 t.kind,.int .i64 t.n,.string t.s,.slice Ax t.l.length cx] 79)).heap.size:=by go_simp
 generalize ((w.alloc (.cells #[.int .i64 t.kind,.int .i64 t.n,.string t.s,.slice Ax t.l.length cx] 79)).alloc (.cells #[.int .i64 t.kind,.int .i64 t.n,.string t.s,.slice Ax t.l.length cx] 79))=W at *
 have hl:RL (TmR d) W W.heap.size [t] (some ⟨w.heap.size+1,0,none⟩):=RL.one (x:=t) ysz ((TmR d).wide (zF hB HW.out.size) ((TmR d).keep HW.out hB HR.out)) (fun j v hv=>by
  rcases j with _ | _ | _ | _ | j
  ·simp only [List.getElem?_cons_zero,Option.some.injEq] at hv;rw [←hv];exact y0
  ·simp only [List.getElem?_cons_succ,List.getElem?_cons_zero,Option.some.injEq] at hv;rw [←hv];exact y1
  ·simp only [List.getElem?_cons_succ,List.getElem?_cons_zero,Option.some.injEq] at hv;rw [←hv];exact y2
  ·simp only [List.getElem?_cons_succ,List.getElem?_cons_zero,Option.some.injEq] at hv;rw [←hv];exact y3
  ·simp at hv)
 refine (yE 6 (by omega) d _ [t] _ 1 0 W hl (zG _) (by simp) (by omega) (by omega)).mono ?_
 rintro e w1 ⟨⟨m,rfl,hm0,hm1⟩,hb1⟩
 have HB1:=zE (HW.out.trans (hb1.mono HW.out.size))
 clear hb1
 go_wp2_with fail
 go_ret
 exact ⟨⟨m,rfl,hm0,hm1⟩,HB1.out⟩
theorem nf {d B:Nat} {r:Ru} {vs:List Value} {w:World} (hr:(RuR d).rd w B r vs) (hB:B≤w.heap.size) :
 Calls Tryz.prog 48 #[.agg vs.toArray] w fun x w'=>(∃m:Int,x=.returned (.int .i64 m)∧0≤m∧m≤400)∧Below w.heap.size w w':=by
 obtain ⟨_,_,_,_,rfl,hs,⟨A0,c0,rfl,h01,h02,hl0⟩,⟨A1,c1,rfl,h11,h12,hl1⟩,⟨A2,c2,rfl,h21,h22,hl2⟩,⟨A3,c3,rfl,h31,h32,hl3⟩⟩:=hr
 simp only [PrR,ExR,ScR,TmR] at h02 h12 h22 h32
 have HB:=zE (fun o:Obj=>(zI w.heap.size w).alloc (zG _) o)
 have HL1:=zE hl1
 have HL2:=zE hl2
 clear hl1 hl2 hl3
 go_enter Tryz.func48,Tryz.ntmps48
 go_wp2_with fail
 have HW:=zE (HB.out (.cells #[.string r.head.name,.slice A0 r.head.terms.length c0,.slice A1 r.body.length c1,.slice A2 r.exprs.length c2,.slice A3 r.scopes.length c3] 30))
 have x2:(w.alloc (.cells #[.string r.head.name,.slice A0 r.head.terms.length c0,.slice A1 r.body.length c1,.slice A2 r.exprs.length c2,.slice A3 r.scopes.length c3] 30)).cell? ⟨w.heap.size,2,none⟩=some (.slice A1 r.body.length c1):=by go_simp
 have x3:(w.alloc (.cells #[.string r.head.name,.slice A0 r.head.terms.length c0,.slice A1 r.body.length c1,.slice A2 r.exprs.length c2,.slice A3 r.scopes.length c3] 30)).cell? ⟨w.heap.size,3,none⟩=some (.slice A2 r.exprs.length c2):=by go_simp
 have xsz:w.heap.size<(w.alloc (.cells #[.string r.head.name,.slice A0 r.head.terms.length c0,.slice A1 r.body.length c1,.slice A2 r.exprs.length c2,.slice A3 r.scopes.length c3] 30)).heap.size:=by go_simp
 generalize (w.alloc (.cells #[.string r.head.name,.slice A0 r.head.terms.length c0,.slice A1 r.body.length c1,.slice A2 r.exprs.length c2,.slice A3 r.scopes.length c3] 30))=W at *
 have hl0':=hl0.keep HW.out hB
 have hBW:=zF hB HW.out.size
 have HLW1:=zE (HL1.out.keep HW.out hB)
 have HLW2:=zE (HL2.out.keep HW.out hB)
 clear hl0 HL1 HL2 HB
 go_loopw [3,26] (fun v i wr=>∃(k:Nat) (n:Int),k≤r.head.terms.length∧i=.int .i64 k∧v=.int .i64 n∧0≤n∧n≤140737488351232+101*k∧Below W.heap.size W wr) (fun _ i _=>r.head.terms.length-(intOf i).toNat)
 case atStart=>exact ⟨0,_,zH _,rfl,rfl,by omega,by omega,zI _ _⟩
 case round=>
  obtain ⟨k,n,hk,rfl,rfl,hn0,hn1,hbw⟩:=hrel
  by_cases hlt:k<r.head.terms.length
  ·obtain ⟨b,off,rfl,hb⟩:=hl0'.base hbw hBW (by omega)
   obtain ⟨t,vs,hx,hlen,hcell,hr⟩:=hl0'.at_ hbw hBW hlt
   obtain ⟨Ax,cx,rfl,g1,g2,g3,g4,g5,hrl⟩:=RTm.cells hr
   have c0:wr.cell? ⟨b,off+k*4,none⟩=some (.int .i64 t.kind):=hcell 0 _ rfl
   have c1:wr.cell? ⟨b,off+k*4+1,none⟩=some (.int .i64 t.n):=hcell 1 _ rfl
   have c2:wr.cell? ⟨b,off+k*4+2,none⟩=some (.string t.s):=hcell 2 _ rfl
   have c3:wr.cell? ⟨b,off+k*4+3,none⟩=some (.slice Ax t.l.length cx):=hcell 3 _ rfl
   have hszr:=hbw.size
   have HB:=zE (fun o:Obj=>hbw.alloc hszr o)
   have HB0:=zE (fun o:Obj=>(zI wr.heap.size wr).alloc (zG _) o)
   have HR:=zE hr
   clear hcell hlen hx hr
   go_wp2_with fail
   refine (ie (d:=d) (B:=B) (t:=t) (vs:=[_,_,_,_]) ((TmR d).keep (HB0.out _) (zF hBW hszr) HR.out) (zF hBW (HB.out _).size)).mono ?_
   rintro e w1 ⟨⟨m,rfl,hm0,hm1⟩,hb1⟩
   have HB1:=zE ((HB.out _).trans (hb1.mono (HB.out _).size))
   clear hb1
   go_wp2_with fail
   go_roundw
   case rel=>exact ⟨k+1,_,by omega,by go_num,rfl,by omega,by omega,HB1.out⟩
   case measure=>simp [intOf];omega
  ·clear hl0'
   have hn2:n≤140737488351232+101*(r.head.terms.length:Int):=by omega
   have z2:wr.cell? ⟨w.heap.size,2,none⟩=some (.slice A1 r.body.length c1):=(jm hbw _ _ xsz).trans x2
   clear hn1
   go_wp2_with fail
   clear z2 hk hlt
   go_loopw [3,38] (fun v i wr=>∃(k:Nat) (n:Int),k≤r.body.length∧i=.int .i64 k∧v=.int .i64 n∧0≤n∧n≤150737488351232+101*(r.head.terms.length:Int)+k∧Below W.heap.size W wr) (fun _ i _=>r.body.length-(intOf i).toNat)
   case atStart=>exact ⟨0,_,zH _,rfl,rfl,hn0,by omega,hbw⟩
   case round=>
    clear hbw hn0 hn2
    obtain ⟨k,n,hk,rfl,rfl,hn0,hn1,hbw⟩:=hrel
    by_cases hlt:k<r.body.length
    ·obtain ⟨b,off,rfl,hb⟩:=HLW1.out.base hbw hBW (by omega)
     obtain ⟨p,vs,hx,hlen,hcell,hr⟩:=HLW1.out.at0 hbw hBW hlt
     obtain ⟨_,rfl,hs,A',c',rfl,hc1,hc2,hl'⟩:=hr
     simp only [TmR] at hc2
     have c0:wr.cell? ⟨b,off+k*2,none⟩=some (.string p.name):=hcell 0 _ rfl
     have c1:wr.cell? ⟨b,off+k*2+1,none⟩=some (.slice A' p.terms.length c'):=hcell 1 _ rfl
     have hszr:=hbw.size
     have HB:=zE (fun o:Obj=>hbw.alloc hszr o)
     clear hcell hlen hx
     go_wp2_with fail
     have hn3:n+(1+(p.terms.length:Int))≤150737488351232+101*(r.head.terms.length:Int)+k+(1+(p.terms.length:Int)):=by omega
     have hbw2:Below W.heap.size W (wr.alloc (.cells #[.string p.name,.slice A' p.terms.length c'] 25)):=HB.out _
     generalize (wr.alloc (.cells #[.string p.name,.slice A' p.terms.length c'] 25))=W2 at *
     go_loopw [3,51] (fun v i wr2=>∃(j:Nat) (n2:Int),j≤p.terms.length∧i=.int .i64 j∧v=.int .i64 n2∧0≤n2∧((j=0∧n2=n+(1+(p.terms.length:Int)))∨n2≤400)∧Below W.heap.size W wr2) (fun _ i _=>p.terms.length-(intOf i).toNat)
     case atStart=>exact ⟨0,_,zH _,rfl,rfl,by omega,.inl ⟨rfl,rfl⟩,hbw2⟩
     case round=>
      clear hbw2 hbw hszr c0 c1 HB
      obtain ⟨j,n2,hj,rfl,rfl,hn20,hn21,hbw⟩:=hrel
      by_cases hlt2:j<p.terms.length
      ·obtain ⟨b',off',rfl,hb'⟩:=hl'.base hbw hBW (by omega)
       obtain ⟨t,vs,hx,hlen,hcell,hr⟩:=hl'.at_ hbw hBW hlt2
       obtain ⟨Ax,cx,rfl,g1,g2,g3,g4,g5,hrl⟩:=RTm.cells hr
       have c0:wr.cell? ⟨b',off'+j*4,none⟩=some (.int .i64 t.kind):=hcell 0 _ rfl
       have c1:wr.cell? ⟨b',off'+j*4+1,none⟩=some (.int .i64 t.n):=hcell 1 _ rfl
       have c2:wr.cell? ⟨b',off'+j*4+2,none⟩=some (.string t.s):=hcell 2 _ rfl
       have c3:wr.cell? ⟨b',off'+j*4+3,none⟩=some (.slice Ax t.l.length cx):=hcell 3 _ rfl
       have hszr:=hbw.size
       have HB:=zE (fun o:Obj=>hbw.alloc hszr o)
       have HB0:=zE (fun o:Obj=>(zI wr.heap.size wr).alloc (zG _) o)
       have HR:=zE hr
       clear hcell hlen hx hr
       go_wp2_with fail
       refine (ie (d:=d) (B:=B) (t:=t) (vs:=[_,_,_,_]) ((TmR d).keep (HB0.out _) (zF hBW hszr) HR.out) (zF hBW (HB.out _).size)).mono ?_
       rintro e w1 ⟨⟨m,rfl,hm0,hm1⟩,hb1⟩
       have HB1:=zE ((HB.out _).trans (hb1.mono (HB.out _).size))
       clear hb1
       go_wp2_with fail
       ·go_ret
        exact ⟨⟨_,rfl,by omega,by omega⟩,HW.out.trans (HB1.out.mono HW.out.size)⟩
       ·go_roundw
        case rel=>exact ⟨j+1,_,by omega,by go_num,rfl,by omega,.inr (by omega),HB1.out⟩
        case measure=>simp [intOf];omega
      ·go_wp2_with fail
       go_roundw
       case rel=>exact ⟨k+1,n2,by omega,by go_num,rfl,by omega,by omega,hbw⟩
       case measure=>simp [intOf];omega
    ·have z3:wr.cell? ⟨w.heap.size,3,none⟩=some (.slice A2 r.exprs.length c2):=(jm hbw _ _ xsz).trans x3
     have hn2:n≤160737488351232+101*(r.head.terms.length:Int):=by omega
     clear hn1
     go_wp2_with fail
     clear z3 hk hlt
     go_loopw [3,66] (fun v i wr=>∃(k:Nat) (n:Int),k≤r.exprs.length∧i=.int .i64 k∧v=.int .i64 n∧0≤n∧n≤160737488351232+101*(r.head.terms.length:Int)+k∧Below W.heap.size W wr) (fun _ i _=>r.exprs.length-(intOf i).toNat)
     case atStart=>exact ⟨0,_,zH _,rfl,rfl,hn0,by omega,hbw⟩
     case round=>
      clear hbw hn0 hn2
      obtain ⟨k,n,hk,rfl,rfl,hn0,hn1,hbw⟩:=hrel
      by_cases hlt:k<r.exprs.length
      ·obtain ⟨b,off,rfl,hb⟩:=HLW2.out.base hbw hBW (by omega)
       obtain ⟨p,vs,hx,hlen,hcell,hr⟩:=HLW2.out.at0 hbw hBW hlt
       obtain ⟨_,rfl,A',c',rfl,hc1,hc2,hl'⟩:=hr
       simp only [OpR] at hc2
       have c0:wr.cell? ⟨b,off+k*1,none⟩=some (.slice A' p.length c'):=hcell 0 _ rfl
       rw [Nat.mul_one] at c0
       have hszr:=hbw.size
       have HB:=zE (fun o:Obj=>hbw.alloc hszr o)
       clear hcell hlen hx
       go_wp2_with fail
       have hn3:n+(1+(p.length:Int))≤160737488351232+101*(r.head.terms.length:Int)+k+(1+(p.length:Int)):=by omega
       have hbw2:Below W.heap.size W (wr.alloc (.cells #[.slice A' p.length c'] 59)):=HB.out _
       generalize (wr.alloc (.cells #[.slice A' p.length c'] 59))=W2 at *
       go_loopw [3,79] (fun v i wr2=>∃(j:Nat) (n2:Int),j≤p.length∧i=.int .i64 j∧v=.int .i64 n2∧0≤n2∧((j=0∧n2=n+(1+(p.length:Int)))∨n2≤400)∧Below W.heap.size W wr2) (fun _ i _=>p.length-(intOf i).toNat)
       case atStart=>exact ⟨0,_,zH _,rfl,rfl,by omega,.inl ⟨rfl,rfl⟩,hbw2⟩
       case round=>
        clear hbw2 hbw hszr c0 HB
        obtain ⟨j,n2,hj,rfl,rfl,hn20,hn21,hbw⟩:=hrel
        by_cases hlt2:j<p.length
        ·obtain ⟨b',off',rfl,hb'⟩:=hl'.base hbw hBW (by omega)
         obtain ⟨o,vs,hx,hlen,hcell,hr⟩:=hl'.at_ hbw hBW hlt2
         obtain ⟨ts,rfl,i1,i2,i3,ht⟩:=hr
         have hr:=ht
         obtain ⟨Ax,cx,rfl,g1,g2,g3,g4,g5,hrl⟩:=RTm.cells ht
         have c0:wr.cell? ⟨b',off'+j*7,none⟩=some (.int .i64 o.kind):=hcell 0 _ rfl
         have c1:wr.cell? ⟨b',off'+j*7+1,none⟩=some (.int .i64 o.term.kind):=hcell 1 _ rfl
         have c2:wr.cell? ⟨b',off'+j*7+2,none⟩=some (.int .i64 o.term.n):=hcell 2 _ rfl
         have c3:wr.cell? ⟨b',off'+j*7+3,none⟩=some (.string o.term.s):=hcell 3 _ rfl
         have c4:wr.cell? ⟨b',off'+j*7+4,none⟩=some (.slice Ax o.term.l.length cx):=hcell 4 _ rfl
         have c5:wr.cell? ⟨b',off'+j*7+5,none⟩=some (.int .i64 o.code):=hcell 5 _ rfl
         have c6:wr.cell? ⟨b',off'+j*7+6,none⟩=some (.int .i64 o.skip):=hcell 6 _ rfl
         have hszr:=hbw.size
         have HB:=zE (fun o:Obj=>hbw.alloc hszr o)
         have HB0:=zE (fun o:Obj=>(zI wr.heap.size wr).alloc (zG _) o)
         have HR:=zE hr
         clear hcell hlen hx hr
         go_wp2_with fail
         refine (ie (d:=d) (B:=B) (t:=o.term) (vs:=[_,_,_,_]) ((TmR d).keep (HB0.out _) (zF hBW hszr) HR.out) (zF hBW (HB.out _).size)).mono ?_
         rintro e w1 ⟨⟨m,rfl,hm0,hm1⟩,hb1⟩
         have HB1:=zE ((HB.out _).trans (hb1.mono (HB.out _).size))
         clear hb1
         go_wp2_with fail
         ·go_ret
          exact ⟨⟨_,rfl,by omega,by omega⟩,HW.out.trans (HB1.out.mono HW.out.size)⟩
         ·go_roundw
          case rel=>exact ⟨j+1,_,by omega,by go_num,rfl,by omega,.inr (by omega),HB1.out⟩
          case measure=>simp [intOf];omega
        ·go_wp2_with fail
         go_roundw
         case rel=>exact ⟨k+1,n2,by omega,by go_num,rfl,by omega,by omega,hbw⟩
         case measure=>simp [intOf];omega
      ·go_wp2_with fail
       go_ret
       exact ⟨⟨_,rfl,by omega,by omega⟩,HW.out.trans (hbw.mono HW.out.size)⟩
theorem nU {α:Type} {R:Reader α} (w:World) (B:Nat):RSl R w B [] (.slice none 0 0):=⟨none,0,rfl,by simp,by simp,fun h=>absurd h (by simp)⟩
theorem tO {d B:Nat} {w:World} {f:Fc} {A:Option Addr} {c:Nat} (h:(ay d).rd w B f [.string f.pr.name,.slice A f.pr.terms.length c,.int .u32 f.o]):(RuR d).rd w B ⟨f.pr,[],[],[]⟩ [.string f.pr.name,.slice A f.pr.terms.length c,.slice none 0 0,.slice none 0 0,.slice none 0 0]:=by
 obtain ⟨v,e,⟨v2,e2,h1,h2⟩,_⟩:=h
 simp only [List.cons.injEq,and_true,true_and] at e e2
 obtain rfl:=e
 obtain rfl:=e2
 exact ⟨_,_,_,_,rfl,h1,h2,nU _ _,nU _ _,nU _ _⟩
theorem vc {d B c:Nat} {l:List Fc} {A:Option Addr} {w:World} (hl:RL (ay (d+1)) w B l A) (hB:B≤w.heap.size) (hn:l.length≤140737488351232) :
 Calls Tryz.prog 101 #[.slice A l.length c] w fun z w'=>(∃q,z=.returned (.bool q)∧(q=true→l.length≤600))∧Below w.heap.size w w':=by
 have HL:=zE hl
 clear hl
 go_enter Tryz.func101,Tryz.ntmps101
 go_wp2_with fail
 go_loopw [3,8] (fun u i wr=>∃(k:Nat) (n:Int),k≤l.length∧i=.int .i64 k∧u=.int .i64 n∧(k:Int)≤n∧n≤600∧Hid (Below w.heap.size w wr)) (fun _ i _=>l.length-(intOf i).toNat)
 case atStart=>exact ⟨0,0,zH _,rfl,rfl,by omega,by omega,zE (zI _ _)⟩
 case round=>
  obtain ⟨k,n,hk,rfl,rfl,hkn,hn6,HW⟩:=hrel
  have hszr:=HW.out.size
  by_cases hlt:k<l.length
  ·obtain ⟨b,off,rfl,hob⟩:=HL.out.base HW.out hB (by omega)
   obtain ⟨x,vs,hx,hlen,hcell,hr⟩:=HL.out.at_ HW.out hB hlt
   obtain ⟨Ax,cx,rfl,_⟩:=aO hr
   have c0:wr.cell? ⟨b,off+k*3,none⟩=some (.string x.pr.name):=hcell 0 _ rfl
   have c1:wr.cell? ⟨b,off+k*3+1,none⟩=some (.slice Ax x.pr.terms.length cx):=hcell 1 _ rfl
   have c2:wr.cell? ⟨b,off+k*3+2,none⟩=some (.int .u32 x.o):=hcell 2 _ rfl
   have HX:=zE hx
   have HR:=zE hr
   clear hx hr hcell hlen
   go_wp2_with fail
   generalize hW2:World.alloc _ _=w2
   obtain ⟨hb2,hz2⟩:=al1 hW2
   have HB2:=zE hb2
   have hsz2:=hb2.size
   clear hW2 hz2 hb2 c0 c1 c2
   refine (nf (d:=d+1) (B:=B) (r:=⟨x.pr,[],[],[]⟩) (vs:=[_,_,_,_,_]) (tO ((ay (d+1)).keep HB2.out (zF hB hszr) HR.out)) (by omega)).mono ?_
   rintro z w3 ⟨⟨m,rfl,hm0,hm1⟩,hb3⟩
   have HB3:=zE (ab HW.out (ab HB2.out hb3))
   clear hb3
   by_cases hg:600<n+(1+m)
   ·go_wp2_with fail
    go_ret
    exact ⟨⟨false,rfl,by simp⟩,HB3.out⟩
   ·go_wp2_with fail
    go_roundw
    case rel=>exact ⟨k+1,n+(1+m),by omega,by go_num,rfl,by omega,by omega,HB3⟩
    case measure=>simp [intOf];omega
  ·go_wp2_with fail
   go_ret
   exact ⟨⟨true,rfl,fun _=>by omega⟩,HW.out⟩
theorem tv {d B c:Nat} {l:List Fc} {A:Option Addr} {w:World} (hl:RL (ay (d+1)) w B l A) (hB:B≤w.heap.size) (hn:l.length≤140737488351232) :
 Calls Tryz.prog 47 #[.slice A l.length c] w fun z w'=>(∃q:Int,z=.returned (.int .i64 q)∧(q=0→l.length≤600))∧Below w.heap.size w w':=by
 go_enter Tryz.func47,Tryz.ntmps47
 go_wp2_with fail
 refine (vc hl hB hn).mono ?_
 rintro z w1 ⟨⟨q,rfl,hq⟩,hb⟩
 cases q
 ·go_wp2_with fail
  go_ret
  exact ⟨⟨1,rfl,by omega⟩,hb⟩
 ·go_wp2_with fail
  go_ret
  exact ⟨⟨0,rfl,fun _=>hq trivial⟩,hb⟩
structure TwoS (d B:Nat) (w:World) (S:Nat) (xs:List FV) (A:Option Addr) (c M:Nat) (ys:List FV) (A':Option Addr) (c':Nat):Prop where
 s:StA (M+1) d w S xs A c
 m:DSt (M+1) d B w M ys A' c'
 ap:∀k,(Value.slice A xs.length c).ownBlock=some k→(Value.slice A' ys.length c').ownBlock≠some k
 ne:S<M
 hB:B≤S
section
variable {d B S M c c' c2:Nat} {w w':World} {xs ys xs2 ys2:List FV} {A A' A2:Option Addr}
theorem TwoS.later (h:TwoS d B w S xs A c M ys A' c') (hb:Below w.heap.size w w'):TwoS d B w' S xs A c M ys A' c':=⟨h.s.later hb,h.m.later hb,h.ap,h.ne,h.hB⟩
end
end Go.Proofs.YtdphibjibnffeaaGreat
