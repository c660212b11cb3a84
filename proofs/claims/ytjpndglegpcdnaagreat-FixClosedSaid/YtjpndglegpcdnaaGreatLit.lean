/- Data that the program writes down: what its cells read as. -/
import Derived.Test.YtjpndglegpcdnaaGreatScopeL
import Derived.Deep.Slices
import Derived.Deep.Fields
import Derived.ChangeSame
import Derived.SizedLaws
import Derived.Below
import Derived.Test.YtjpndglegpcdnaaGreatRs3
import Derived.Test.YtjpndglegpcdnaaGreatRs2
set_option linter.unusedVariables false
set_option linter.unusedSimpArgs false
set_option maxRecDepth 100000
set_option maxHeartbeats 8000000
namespace Go.Proofs.YtjpndglegpcdnaaGreat
open Go.ChangeShapes Go.WideShapes Go.ChangeAt Go.RowKit
theorem RTm.deep {w:World} {B:Nat}:∀{d:Nat} {t:Tm} {vs:List Value},RTm w B d t vs→RTm w B (d+1) t vs
 | 0,_,_,h=>h.elim
 | d+1,t,vs,⟨A,c,e,h1,h2,h3,h4,h5,h6⟩=>⟨A,c,e,h1,h2,h3,h4,h5,h6.mono fun i vs _ ⟨x,hx,hr⟩=>⟨x,hx,RTm.deep hr⟩⟩
theorem RTm.deeper {w:World} {B:Nat} {d D:Nat} {t:Tm} {vs:List Value} (hd:d≤D) (h:RTm w B d t vs):RTm w B D t vs:=by
 induction D with
 | zero=> have:d=0:=by omega
          subst this;exact h
 | succ D ih=>
   by_cases he:d=D+1
   ·subst he;exact h
   ·exact RTm.deep (ih (by omega))
theorem ls {α:Type}:∀(n:Nat) (P:Nat→α→Prop),(∀i,i<n→∃a,P i a)→∃xs:List α,xs.length=n∧∀i,i<n→∃a,xs[i]? = some a∧P i a
 | 0,_,_=>⟨[],rfl,fun _ h=>by omega⟩
 | n+1,P,h=>by
   obtain ⟨xs,hl,hx⟩:=ls n P (fun i hi=>h i (by omega))
   obtain ⟨a,ha⟩:=h n (by omega)
   refine ⟨xs++[a],by simp [hl],fun i hi=>?_⟩
   by_cases hin:i<n
   ·obtain ⟨b,hb,hp⟩:=hx i hin
    exact ⟨b,by rw [List.getElem?_append_left (by omega)];exact hb,hp⟩
   ·have:i=n:=by omega
    subst this
    exact ⟨a,by rw [List.getElem?_append_right (by omega)];simp [hl],ha⟩
def Ok {H:Type} (P:Program) (t:TypeId) (d:DataW H):Prop:=∀n∈d.weights P t,n≤reachBytes
section
variable {H:Type} {enc:TypeId × Value→H} {P:Program} {w:World} {base:Nat} {held:Bool}
theorem bi {t:TypeId} {fs:Array Field} {fuel:Nat} {cs:List Value} {x:DataW H × List MemPlace} (ht:P.underlying t=some (.struct fs)) (h:DataW.trod enc P w base (fun _=>true) held fuel t cs=some x) (ho:Ok P t x.1) :
 cs.length=P.cellsOf t∧∃n,fuel=n+1∧∀(j:Nat) (f:Field) (ty:TypeId) (off C:Nat),fs[j]? = some f→f.type=ty→f.offset=off→P.cellsOf ty=C→∃y,DataW.trod enc P w base (fun _=>true) held n ty ((cs.drop off).take C)=some y∧Ok P ty y.1:=by
 obtain ⟨xs,n,hn,hx,hc,hl,hf⟩:=DataW.trod_struct ht h
 refine ⟨hc,n,hn,fun j f ty off C hj h1 h2 h3=>?_⟩
 subst h1 h2 h3
 have hjl:j<fs.size:=(Array.getElem?_eq_some_iff.1 hj).1
 have hys:xs[j]? = some (xs[j]'(by omega)):=AO (by omega)
 refine ⟨_,(hf j f hj).trans hys,fun m hm=>ho m ?_⟩
 rw [hx]
 simp only [DataW.weights,ht]
 refine DataW.weights_mem_each (j:=j) (t:=f.type) (d:=(xs[j]'(by omega)).1) ?_ ?_ m hm
 ·rw [List.getElem?_map,Array.getElem?_toList,hj];rfl
 ·rw [List.getElem?_map,hys];rfl
theorem ig {e:TypeId}:∀{l:List (DataW H)} {d:DataW H},d∈l→∀n∈d.weights P e,n∈DataW.weightsAll P e l
 | a::l,d,hd,n,hn=>by
   simp only [DataW.weightsAll,List.mem_append]
   rcases List.mem_cons.1 hd with rfl | hd
   ·exact .inl hn
   ·exact .inr (ig hd n hn)
theorem gQ {t:TypeId} {fuel:Nat} {cs:List Value} {x:DataW H × List MemPlace} (ht:P.underlying t=some (.int .i64)) (h:DataW.trod enc P w base (fun _=>true) held fuel t cs=some x):∃n,cs=[.int .i64 n]∧I64 n:=by
 obtain ⟨n,hcs,_,hwf⟩:=DataW.trod_int ht h
 refine ⟨n,hcs,?_⟩
 simp only [Lit.wf] at hwf
 unfold I64
 revert hwf
 have e1:IntKind.i64.signed=true:=rfl
 have e2:IntKind.i64.bits=64:=rfl
 simp [IntKind.min,IntKind.max,e1,e2]
theorem iz {t:TypeId} {fuel:Nat} {cs:List Value} {x:DataW H × List MemPlace} (ht:P.underlying t=some .string) (h:DataW.trod enc P w base (fun _=>true) held fuel t cs=some x) (ho:Ok P t x.1):∃s:ByteArray,cs=[.string s]∧s.size≤140737488351232:=by
 obtain ⟨s,hcs,hx,_⟩:=DataW.trod_string ht h
 refine ⟨s,hcs,?_⟩
 have:=ho s.data.toList.length (by rw [hx];simp [DataW.weights])
 simpa [reachBytes] using this
theorem gr {α:Type} (R:Reader α) {D:Nat} {t e:TypeId} {fuel:Nat} {cs:List Value} {x:DataW H × List MemPlace} (ht:P.underlying t=some (.slice e)) (hC:P.cellsOf e=R.k) (hk:0<R.k) {B:Nat} (hb1:P.bytesOf e=B)
 (h:DataW.trod enc P w base (fun _=>true) held fuel t cs=some x) (ho:Ok P t x.1) (hD:fuel≤D+1)
 (hel:∀n,n≤D→∀cs x,DataW.trod enc P w base (fun _=>true) held n e cs=some x→Ok P e x.1→∃a,R.rd w w.heap.size a cs) :
 ∃(xs:List α) (A:Option Addr) (c:Nat),cs=[.slice A xs.length c]∧xs.length≤c∧c*B≤140737488351232∧RL R w w.heap.size xs A:=by
 rcases DataW.trod_slice ht h with ⟨hcs,_⟩ | ⟨a,len,cap,elems,rest,n,hn,hcs,hx,_,hl,_,hlen,hat,hsp,_⟩
 ·exact ⟨[],none,0,hcs,by simp,by simp,fun h0=>by simp at h0⟩
 have hrl:=(hsp rfl).1
 have hcap:cap*P.bytesOf e≤reachBytes:=by
  have:=ho ((elems.length+rest.length)*P.bytesOf e) (by rw [hx];simp [DataW.weights,ht])
  have e1:elems.length+rest.length=cap:=by omega
  rwa [e1] at this
 have hcapk:cap*B≤140737488351232:=by rw [hb1] at hcap;exact hcap
 have hE:∀i,i<len→∃a':α,∃cs',w.cells? base (a.add (i*P.cellsOf e)) (P.cellsOf e)=some cs'∧R.rd w w.heap.size a' cs':=by
  intro i hi
  have h1:=hat i hi
  have hg:elems[i]? = some (elems[i]'(by omega)):=AO (by omega)
  rw [hg] at h1
  cases hc:w.cells? base (a.add (i*P.cellsOf e)) (P.cellsOf e) with
  | none=>rw [hc] at h1;simp at h1
  | some cs'=>
    rw [hc] at h1
    simp only [Option.bind_some] at h1
    obtain ⟨a',ha'⟩:=hel n (by omega) cs' _ h1 (fun m hm=>ho m (by
     rw [hx]
     simp only [DataW.weights,ht,List.mem_cons,List.mem_append]
     exact .inr (.inl (ig (List.mem_map.2 ⟨_,List.getElem_mem (by omega),rfl⟩) m hm))))
    exact ⟨a',cs',rfl,ha'⟩
 obtain ⟨xs,hxl,hxs⟩:=ls len _ hE
 refine ⟨xs,some a,cap,by rw [hcs,hxl],by omega,hcapk,fun h0=>?_⟩
 rw [hxl] at h0
 obtain ⟨a0,_,cs0,hc0,hr0⟩:=hxs 0 h0
 obtain ⟨_,hcl0,hat0⟩:=World.cells?_some hc0
 have hcell0:=hat0 0 (by omega)
 have e0:cs0[0]? = some (cs0[0]'(by omega)):=AO (by omega)
 rw [e0] at hcell0
 have hsz:a.block<w.heap.size:=by
  have:=block_lt_of_cell hcell0
  simpa [Addr.add] using this
 have hspot:a.spot=none:=by simpa [Addr.add] using World.cell?_spot hcell0
 obtain ⟨b,off,spot⟩:=a
 dsimp only at hspot hsz
 subst hspot
 refine ⟨b,off,rfl,hsz,fun i hi=>?_⟩
 rw [hxl] at hi
 obtain ⟨ai,hai,csi,hci,hri⟩:=hxs i hi
 obtain ⟨_,hcl,hati⟩:=World.cells?_some hci
 refine ⟨csi,by omega,⟨ai,hai,hri⟩,fun j v hj=>?_⟩
 have hjl:j<csi.length:=(List.getElem?_eq_some_iff.1 hj).1
 have:=hati j (by omega)
 rw [hj] at this
 rw [←this,hC]
 congr 1
 simp only [Addr.add]
 split<;>split<;>simp_all<;>omega
theorem jc {α:Type} (R:Reader α) {D:Nat} {t e:TypeId} {fuel:Nat} {cs:List Value} {x:DataW H × List MemPlace} (ht:P.underlying t=some (.slice e)) (hC:P.cellsOf e=R.k) (hk:0<R.k) {B:Nat} (hb0:8*R.k≤B) (hb1:P.bytesOf e=B)
 (h:DataW.trod enc P w base (fun _=>true) held fuel t cs=some x) (ho:Ok P t x.1) (hD:fuel≤D+1)
 (hel:∀n,n≤D→∀cs x,DataW.trod enc P w base (fun _=>true) held n e cs=some x→Ok P e x.1→∃a,R.rd w w.heap.size a cs) :
 ∃xs v,cs=[v]∧RSl R w w.heap.size xs v:=by
 obtain ⟨xs,A,c,e1,h1,h2,h3⟩:=gr R ht hC hk hb1 h ho hD hel
 exact ⟨xs,_,e1,A,c,rfl,h1,⟨AF (Nat.mul_le_mul h1 hb0) h2,by
  have:=Nat.le_mul_of_pos_right c (show 0<B by omega)
  omega⟩,h3⟩
theorem dy:Tryz.prog.cellsOf 3=1:=by kernel_rfl
theorem qP:Tryz.prog.cellsOf 2=1:=by kernel_rfl
theorem fQ:Tryz.prog.cellsOf 9=1:=by kernel_rfl
theorem il:Tryz.prog.cellsOf 24=1:=by kernel_rfl
theorem qO:Tryz.prog.cellsOf 54=1:=by kernel_rfl
theorem qN:Tryz.prog.cellsOf 55=1:=by kernel_rfl
theorem vg:Tryz.prog.cellsOf 100=1:=by kernel_rfl
theorem oR:Tryz.prog.cellsOf 56=1:=by kernel_rfl
theorem eM:Tryz.prog.cellsOf 29=4:=by kernel_rfl
theorem dR:Tryz.prog.cellsOf 26=2:=by kernel_rfl
theorem rW:Tryz.prog.cellsOf 104=7:=by kernel_rfl
theorem mT:Tryz.prog.cellsOf 102=1:=by kernel_rfl
theorem li:Tryz.prog.cellsOf 166=2:=by kernel_rfl
theorem mU:Tryz.prog.cellsOf 58=5:=by kernel_rfl
theorem oA:∀(n:Nat) (cs:List Value) (x:DataW H × List MemPlace),DataW.trod enc Tryz.prog w base (fun _=>true) held n 29 cs=some x→Ok Tryz.prog 29 x.1→∃t,RTm w w.heap.size n t cs
 | 0,cs,x,h,_=>by simp [DataW.trod] at h
 | n+1,cs,x,h,ho=>by
   obtain ⟨hc,n',hn,hf⟩:=bi (Tryz.underlying29) h ho
   have hn':n'=n:=by omega
   subst hn'
   have hc4:cs.length=4:=hc.trans eM
   match cs,hc4 with
   | [c0,c1,c2,c3],_=>
     obtain ⟨_,h0,_⟩:=hf 0 _ _ _ _ rfl rfl rfl dy
     obtain ⟨_,h1,_⟩:=hf 1 _ _ _ _ rfl rfl rfl qP
     obtain ⟨_,h2,o2⟩:=hf 2 _ _ _ _ rfl rfl rfl fQ
     obtain ⟨_,h3,o3⟩:=hf 3 _ _ _ _ rfl rfl rfl il
     obtain ⟨k0,e0,i0⟩:=gQ (Tryz.underlying3) h0
     obtain ⟨k1,e1,i1⟩:=gQ (Tryz.underlying2) h1
     obtain ⟨s2,e2,i2⟩:=iz (Tryz.underlying9) h2 o2
     obtain ⟨xs,A,c,e3,g1,g2,hrl⟩:=gr (TmR n') (D:=n') (B:=56) (Tryz.underlying24) eM (by simp [TmR]) (by kernel_rfl) h3 o3 (by omega) (fun m hm cs x hx ho=>by
      obtain ⟨t,ht⟩:=oA m cs x hx ho
      exact ⟨t,RTm.deeper hm ht⟩)
     replace e0:[c0]=_:=e0
     replace e1:[c1]=_:=e1
     replace e2:[c2]=_:=e2
     replace e3:[c3]=_:=e3
     simp only [List.cons.injEq,and_true] at e0 e1 e2 e3
     subst e0 e1 e2 e3
     exact ⟨⟨k0,k1,s2,xs⟩,A,c,rfl,g1,(show xs.length*40≤140737488351232∧c≤9223372036854775807 from ⟨by omega,by omega⟩),i2,i0,i1,hrl⟩
theorem ut {n D:Nat} {cs:List Value} {x:DataW H × List MemPlace} (h:DataW.trod enc Tryz.prog w base (fun _=>true) held n 24 cs=some x) (ho:Ok Tryz.prog 24 x.1) (hD:n≤D):∃ts v,cs=[v]∧RSl (TmR D) w w.heap.size ts v:=
 jc (TmR D) (D:=D) (B:=56) (Tryz.underlying24) eM (by simp [TmR]) (by simp [TmR]) (by kernel_rfl) h ho (by omega) (fun m hm cs x hx ho=>by
  obtain ⟨t,ht⟩:=oA m cs x hx ho
  exact ⟨t,RTm.deeper hm ht⟩)
theorem lY {n D:Nat} {cs:List Value} {x:DataW H × List MemPlace} (h:DataW.trod enc Tryz.prog w base (fun _=>true) held n 26 cs=some x) (ho:Ok Tryz.prog 26 x.1) (hD:n≤D):∃p,(PrR D).rd w w.heap.size p cs:=by
 obtain ⟨hc,n',hn,hf⟩:=bi (Tryz.underlying26) h ho
 have hcl:=hc.trans dR
 match cs,hcl with
 | [c0,c1],_=>
   obtain ⟨_,h0,o0⟩:=hf 0 _ _ _ _ rfl rfl rfl fQ
   obtain ⟨_,h1,o1⟩:=hf 1 _ _ _ _ rfl rfl rfl il
   obtain ⟨s0,e0,i0⟩:=iz (Tryz.underlying9) h0 o0
   obtain ⟨xs,v,e1,g1⟩:=ut (D:=D) h1 o1 (by omega)
   replace e0:[c0]=_:=e0
   replace e1:[c1]=_:=e1
   simp only [List.cons.injEq,and_true] at e0 e1
   subst e0 e1
   exact ⟨⟨s0,xs⟩,_,rfl,i0,g1⟩
theorem tY {n D:Nat} {cs:List Value} {x:DataW H × List MemPlace} (h:DataW.trod enc Tryz.prog w base (fun _=>true) held n 54 cs=some x) (ho:Ok Tryz.prog 54 x.1) (hD:n≤D):∃ts v,cs=[v]∧RSl (PrR D) w w.heap.size ts v:=
 jc (PrR D) (D:=D) (B:=40) (Tryz.underlying54) dR (by simp [PrR]) (by simp [PrR]) (by kernel_rfl) h ho (by omega) (fun m hm cs x hx ho=>lY hx ho hm)
theorem op_open {n D:Nat} {cs:List Value} {x:DataW H × List MemPlace} (h:DataW.trod enc Tryz.prog w base (fun _=>true) held n 104 cs=some x) (ho:Ok Tryz.prog 104 x.1) (hD:n≤D):∃o,(OpR D).rd w w.heap.size o cs:=by
 obtain ⟨hc,n',hn,hf⟩:=bi (Tryz.underlying104) h ho
 have hcl:=hc.trans rW
 match cs,hcl with
 | [c0,c1,c2,c3,c4,c5,c6],_=>
   obtain ⟨_,h0,_⟩:=hf 0 _ _ _ _ rfl rfl rfl dy
   obtain ⟨_,h1,o1⟩:=hf 1 _ _ _ _ rfl rfl rfl eM
   obtain ⟨_,h2,_⟩:=hf 2 _ _ _ _ rfl rfl rfl dy
   obtain ⟨_,h3,_⟩:=hf 3 _ _ _ _ rfl rfl rfl dy
   obtain ⟨k0,e0,i0⟩:=gQ (Tryz.underlying3) h0
   obtain ⟨k2,e2,i2⟩:=gQ (Tryz.underlying3) h2
   obtain ⟨k3,e3,i3⟩:=gQ (Tryz.underlying3) h3
   obtain ⟨t,ht⟩:=oA _ _ _ h1 o1
   replace e0:[c0]=_:=e0
   replace e2:[c5]=_:=e2
   replace e3:[c6]=_:=e3
   replace ht:RTm w w.heap.size n' t [c1,c2,c3,c4]:=ht
   simp only [List.cons.injEq,and_true] at e0 e2 e3
   subst e0 e2 e3
   exact ⟨⟨k0,t,k2,k3⟩,_,rfl,i0,i2,i3,RTm.deeper (by omega) ht⟩
theorem yV {n D:Nat} {cs:List Value} {x:DataW H × List MemPlace} (h:DataW.trod enc Tryz.prog w base (fun _=>true) held n 100 cs=some x) (ho:Ok Tryz.prog 100 x.1) (hD:n≤D):∃ts v,cs=[v]∧RSl (OpR D) w w.heap.size ts v:=
 jc (OpR D) (D:=D) (B:=80) (Tryz.underlying100) rW (by simp [OpR]) (by simp [OpR]) (by kernel_rfl) h ho (by omega) (fun m hm cs x hx ho=>op_open hx ho hm)
theorem vD {n D:Nat} {cs:List Value} {x:DataW H × List MemPlace} (h:DataW.trod enc Tryz.prog w base (fun _=>true) held n 102 cs=some x) (ho:Ok Tryz.prog 102 x.1) (hD:n≤D):∃o,(ExR D).rd w w.heap.size o cs:=by
 obtain ⟨hc,n',hn,hf⟩:=bi (Tryz.underlying102) h ho
 have hcl:=hc.trans mT
 match cs,hcl with
 | [c0],_=>
   obtain ⟨_,h0,o0⟩:=hf 0 _ _ _ _ rfl rfl rfl vg
   obtain ⟨xs,v,e0,g⟩:=yV (D:=D) h0 o0 (by omega)
   exact ⟨xs,v,e0,g⟩
theorem tv {n D:Nat} {cs:List Value} {x:DataW H × List MemPlace} (h:DataW.trod enc Tryz.prog w base (fun _=>true) held n 55 cs=some x) (ho:Ok Tryz.prog 55 x.1) (hD:n≤D):∃ts v,cs=[v]∧RSl (ExR D) w w.heap.size ts v:=
 jc (ExR D) (D:=D) (B:=24) (Tryz.underlying55) mT (by simp [ExR]) (by simp [ExR]) (by kernel_rfl) h ho (by omega) (fun m hm cs x hx ho=>vD hx ho hm)
theorem ui {n:Nat} {cs:List Value} {x:DataW H × List MemPlace} (h:DataW.trod enc Tryz.prog w base (fun _=>true) held n 166 cs=some x) (ho:Ok Tryz.prog 166 x.1):∃o,ScR.rd w w.heap.size o cs:=by
 obtain ⟨hc,n',hn,hf⟩:=bi (Tryz.underlying166) h ho
 have hcl:=hc.trans li
 match cs,hcl with
 | [c0,c1],_=>
   obtain ⟨_,h0,_⟩:=hf 0 _ _ _ _ rfl rfl rfl dy
   obtain ⟨_,h1,o1⟩:=hf 1 _ _ _ _ rfl rfl rfl fQ
   obtain ⟨k0,e0,i0⟩:=gQ (Tryz.underlying3) h0
   obtain ⟨s1,e1,i1⟩:=iz (Tryz.underlying9) h1 o1
   replace e0:[c0]=_:=e0
   replace e1:[c1]=_:=e1
   simp only [List.cons.injEq,and_true] at e0 e1
   subst e0 e1
   exact ⟨⟨k0,s1⟩,rfl,i0,i1⟩
theorem rK {n:Nat} {cs:List Value} {x:DataW H × List MemPlace} (h:DataW.trod enc Tryz.prog w base (fun _=>true) held n 56 cs=some x) (ho:Ok Tryz.prog 56 x.1):∃ts v,cs=[v]∧RSl ScR w w.heap.size ts v:=
 jc ScR (D:=n) (B:=24) (Tryz.underlying56) li (by simp [ScR]) (by simp [ScR]) (by kernel_rfl) h ho (by omega) (fun m hm cs x hx ho=>ui hx ho)
theorem xm {n D:Nat} {cs:List Value} {x:DataW H × List MemPlace} (h:DataW.trod enc Tryz.prog w base (fun _=>true) held n 58 cs=some x) (ho:Ok Tryz.prog 58 x.1) (hD:n≤D):∃r,(RuR D).rd w w.heap.size r cs:=by
 obtain ⟨hc,n',hn,hf⟩:=bi (Tryz.underlying58) h ho
 have hcl:=hc.trans mU
 match cs,hcl with
 | [c0,c1,c2,c3,c4],_=>
   obtain ⟨_,h0,o0⟩:=hf 0 _ _ _ _ rfl rfl rfl dR
   obtain ⟨_,h1,o1⟩:=hf 1 _ _ _ _ rfl rfl rfl qO
   obtain ⟨_,h2,o2⟩:=hf 2 _ _ _ _ rfl rfl rfl qN
   obtain ⟨_,h3,o3⟩:=hf 3 _ _ _ _ rfl rfl rfl oR
   obtain ⟨p,hp⟩:=lY (D:=D) h0 o0 (by omega)
   obtain ⟨b,v1,e1,g1⟩:=tY (D:=D) h1 o1 (by omega)
   obtain ⟨es,v2,e2,g2⟩:=tv (D:=D) h2 o2 (by omega)
   obtain ⟨ss,v3,e3,g3⟩:=rK h3 o3
   replace hp:(PrR D).rd w w.heap.size p [c0,c1]:=hp
   obtain ⟨v0,e0,gs,g0⟩:=hp
   replace e1:[c2]=_:=e1
   replace e2:[c3]=_:=e2
   replace e3:[c4]=_:=e3
   simp only [List.cons.injEq,and_true] at e0 e1 e2 e3
   obtain ⟨rfl,rfl⟩:=e0
   subst e1 e2 e3
   exact ⟨⟨p,b,es,ss⟩,_,_,_,_,rfl,gs,g0,g1,g2,g3⟩
end
theorem zl:∀(dp:Nat),dp≤6→∀(d B:Nat) (ts:List Tm) (A:Option Addr) (c:Nat) (n0:Int) (w:World),RL (TmR d) w B ts A→B≤w.heap.size→ts.length≤140737488351232→0≤n0→n0<100 →
 Calls Tryz.prog 72 #[.slice A ts.length c,.int .i64 n0,.int .i64 (dp:Int)] w fun e w'=>(∃m:Int,e=.returned (.int .i64 m)∧0≤m∧m≤100)∧Below w.heap.size w w':=by
 intro dp
 induction dp with
 | zero=>
   intro _ d B ts A c n0 w hl hB hn h0 h1
   have hdp0:¬(((0:Nat):Int) > 0):=by omega
   go_enter Tryz.func72,Tryz.ntmps72
   go_wp2_with fail
   go_loopw [1,11] (fun v i wr=>∃(k:Nat) (n:Int),k≤ts.length∧i=.int .i64 k∧v=.int .i64 n∧0≤n∧n<100∧Below w.heap.size w wr) (fun _ i _=>ts.length-(intOf i).toNat)
   case atStart=>exact ⟨0,n0,AH _,rfl,rfl,h0,h1,AI _ _⟩
   case round=>
    obtain ⟨k,n,hk,rfl,rfl,hn0,hn1,hbw⟩:=hrel
    by_cases hlt:k<ts.length
    ·obtain ⟨b,off,rfl,hb⟩:=hl.base hbw hB (by omega)
     obtain ⟨t,vs,hx,hlen,hcell,hr⟩:=hl.at0 hbw hB hlt
     obtain ⟨Ax,cx,rfl,g1,g2,g3,g4,g5,hrl⟩:=RTm.cells hr
     have c0:wr.cell? ⟨b,off+k*4,none⟩=some (.int .i64 t.kind):=hcell 0 _ rfl
     have c1:wr.cell? ⟨b,off+k*4+1,none⟩=some (.int .i64 t.n):=hcell 1 _ rfl
     have c2:wr.cell? ⟨b,off+k*4+2,none⟩=some (.string t.s):=hcell 2 _ rfl
     have c3:wr.cell? ⟨b,off+k*4+3,none⟩=some (.slice Ax t.l.length cx):=hcell 3 _ rfl
     have hszr:=hbw.size
     have HB:=AE (fun o:Obj=>hbw.alloc hszr o)
     clear hcell hlen hx hr
     go_wp2_with fail
     ·go_ret
      exact ⟨⟨100,rfl,by omega,by omega⟩,HB.out _⟩
     ·go_roundw
      case rel=>exact ⟨k+1,_,by omega,by go_num,rfl,by omega,by omega,HB.out _⟩
      case measure=>simp [intOf];omega
     ·go_ret
      exact ⟨⟨100,rfl,by omega,by omega⟩,HB.out _⟩
    ·go_wp2_with fail
     go_ret
     exact ⟨⟨n,rfl,hn0,by omega⟩,hbw⟩
 | succ dp ih=>
   intro hdp d B ts A c n0 w hl hB hn h0 h1
   have IH:=AE (ih (by omega))
   clear ih
   have hdp0:((dp+1:Nat):Int) > 0:=by omega
   have hdp1:(((dp+1:Nat):Int)==0)=false:=by simp;omega
   have hdp2:((dp+1:Nat):Int)-1=(dp:Int):=by omega
   have hdp3:((dp+1:Nat):Int)≤6:=by omega
   have HDP:=AE hdp2
   generalize hD:((dp+1:Nat):Int)=D at *
   clear hD hdp2
   go_enter Tryz.func72,Tryz.ntmps72
   go_wp2_with fail
   go_loopw [1,11] (fun v i wr=>∃(k:Nat) (n:Int),k≤ts.length∧i=.int .i64 k∧v=.int .i64 n∧0≤n∧n<100∧Below w.heap.size w wr) (fun _ i _=>ts.length-(intOf i).toNat)
   case atStart=>exact ⟨0,n0,AH _,rfl,rfl,h0,h1,AI _ _⟩
   case round=>
    obtain ⟨k,n,hk,rfl,rfl,hn0,hn1,hbw⟩:=hrel
    by_cases hlt:k<ts.length
    ·obtain ⟨b,off,rfl,hb⟩:=hl.base hbw hB (by omega)
     obtain ⟨t,vs,hx,hlen,hcell,hr⟩:=hl.at0 hbw hB hlt
     obtain ⟨Ax,cx,rfl,g1,g2,g3,g4,g5,hrl⟩:=RTm.cells hr
     have c0:wr.cell? ⟨b,off+k*4,none⟩=some (.int .i64 t.kind):=hcell 0 _ rfl
     have c1:wr.cell? ⟨b,off+k*4+1,none⟩=some (.int .i64 t.n):=hcell 1 _ rfl
     have c2:wr.cell? ⟨b,off+k*4+2,none⟩=some (.string t.s):=hcell 2 _ rfl
     have c3:wr.cell? ⟨b,off+k*4+3,none⟩=some (.slice Ax t.l.length cx):=hcell 3 _ rfl
     have hszr:=hbw.size
     have HB:=AE (fun o:Obj=>hbw.alloc hszr o)
     clear hcell hlen hx hr
     go_wp2_with fail
     ·rw [HDP.out]
      refine (IH.out (d-1) B t.l Ax cx _ _ ((jt.rl hrl).keep (HB.out _) hB) (AF hB (HB.out _).size) (by omega) (by omega) (by omega)).mono ?_
      rintro e w1 ⟨⟨m,rfl,hm0,hm1⟩,hb1⟩
      have HB1:=AE ((HB.out _).trans (hb1.mono (HB.out _).size))
      clear hb1
      go_wp2_with fail
      ·go_roundw
       case rel=>exact ⟨k+1,m,by omega,by go_num,rfl,by omega,by omega,HB1.out⟩
       case measure=>simp [intOf];omega
      ·go_ret
       exact ⟨⟨100,rfl,by omega,by omega⟩,HB1.out⟩
     ·go_ret
      exact ⟨⟨100,rfl,by omega,by omega⟩,HB.out _⟩
    ·go_wp2_with fail
     go_ret
     exact ⟨⟨n,rfl,hn0,by omega⟩,hbw⟩
theorem ij {d B:Nat} {t:Tm} {vs:List Value} {w:World} (hr:RTm w B d t vs) (hB:B≤w.heap.size) :
 Calls Tryz.prog 52 #[.agg vs.toArray] w fun e w'=>(∃m:Int,e=.returned (.int .i64 m)∧0≤m∧m≤100)∧Below w.heap.size w w':=by
 have HR:=AE hr
 obtain ⟨Ax,cx,rfl,g1,g2,g3,g4,g5,hrl⟩:=RTm.cells hr
 have HB:=AE (fun o:Obj=>(AI w.heap.size w).alloc (AG _) o)
 clear hr hrl
 go_enter Tryz.func52,Tryz.ntmps52
 go_wp2_with fail
 have HW:=AE ((HB.out (.cells #[.int .i64 t.kind,.int .i64 t.n,.string t.s,.slice Ax t.l.length cx] 29)).trans ((AI (w.alloc (.cells #[.int .i64 t.kind,.int .i64 t.n,.string t.s,.slice Ax t.l.length cx] 29)).heap.size (w.alloc (.cells #[.int .i64 t.kind,.int .i64 t.n,.string t.s,.slice Ax t.l.length cx] 29))).alloc (AG _) (.cells #[.int .i64 t.kind,.int .i64 t.n,.string t.s,.slice Ax t.l.length cx] 29) |>.mono (HB.out (.cells #[.int .i64 t.kind,.int .i64 t.n,.string t.s,.slice Ax t.l.length cx] 29)).size))
 have y0:((w.alloc (.cells #[.int .i64 t.kind,.int .i64 t.n,.string t.s,.slice Ax t.l.length cx] 29)).alloc (.cells #[.int .i64 t.kind,.int .i64 t.n,.string t.s,.slice Ax t.l.length cx] 29)).cell? ⟨w.heap.size+1,0,none⟩=some (.int .i64 t.kind):=by go_simp
 have y1:((w.alloc (.cells #[.int .i64 t.kind,.int .i64 t.n,.string t.s,.slice Ax t.l.length cx] 29)).alloc (.cells #[.int .i64 t.kind,.int .i64 t.n,.string t.s,.slice Ax t.l.length cx] 29)).cell? ⟨w.heap.size+1,1,none⟩=some (.int .i64 t.n):=by go_simp
 have y2:((w.alloc (.cells #[.int .i64 t.kind,.int .i64 t.n,.string t.s,.slice Ax t.l.length cx] 29)).alloc (.cells #[.int .i64 t.kind,.int .i64 t.n,.string t.s,.slice Ax t.l.length cx] 29)).cell? ⟨w.heap.size+1,2,none⟩=some (.string t.s):=by go_simp
 have y3:((w.alloc (.cells #[.int .i64 t.kind,.int .i64 t.n,.string t.s,.slice Ax t.l.length cx] 29)).alloc (.cells #[.int .i64 t.kind,.int .i64 t.n,.string t.s,.slice Ax t.l.length cx] 29)).cell? ⟨w.heap.size+1,3,none⟩=some (.slice Ax t.l.length cx):=by go_simp
 have ysz:w.heap.size+1<((w.alloc (.cells #[.int .i64 t.kind,.int .i64 t.n,.string t.s,.slice Ax t.l.length cx] 29)).alloc (.cells #[.int .i64 t.kind,.int .i64 t.n,.string t.s,.slice Ax t.l.length cx] 29)).heap.size:=by go_simp
 generalize ((w.alloc (.cells #[.int .i64 t.kind,.int .i64 t.n,.string t.s,.slice Ax t.l.length cx] 29)).alloc (.cells #[.int .i64 t.kind,.int .i64 t.n,.string t.s,.slice Ax t.l.length cx] 29))=W at *
 have hl:RL (TmR d) W W.heap.size [t] (some ⟨w.heap.size+1,0,none⟩):=RL.one (x:=t) ysz ((TmR d).wide (AF hB HW.out.size) ((TmR d).keep HW.out hB HR.out)) (fun j v hv=>by
  rcases j with _ | _ | _ | _ | j
  ·simp only [AU,AP] at hv;rw [←hv];exact y0
  ·simp only [List.getElem?_cons_succ,AU,AP] at hv;rw [←hv];exact y1
  ·simp only [List.getElem?_cons_succ,AU,AP] at hv;rw [←hv];exact y2
  ·simp only [List.getElem?_cons_succ,AU,AP] at hv;rw [←hv];exact y3
  ·simp at hv)
 refine (zl 6 (by omega) d _ [t] _ 1 0 W hl (AG _) (by simp) (by omega) (by omega)).mono ?_
 rintro e w1 ⟨⟨m,rfl,hm0,hm1⟩,hb1⟩
 have HB1:=AE (HW.out.trans (hb1.mono HW.out.size))
 clear hb1
 go_wp2_with fail
 go_ret
 exact ⟨⟨m,rfl,hm0,hm1⟩,HB1.out⟩
theorem nz {d B:Nat} {r:Ru} {vs:List Value} {w:World} (hr:(RuR d).rd w B r vs) (hB:B≤w.heap.size) :
 Calls Tryz.prog 32 #[.agg vs.toArray] w fun x w'=>(∃m:Int,x=.returned (.int .i64 m)∧0≤m∧m≤400)∧Below w.heap.size w w':=by
 obtain ⟨_,_,_,_,rfl,hs,⟨A0,c0,rfl,h01,h02,hl0⟩,⟨A1,c1,rfl,h11,h12,hl1⟩,⟨A2,c2,rfl,h21,h22,hl2⟩,⟨A3,c3,rfl,h31,h32,hl3⟩⟩:=hr
 simp only [PrR,ExR,ScR,TmR] at h02 h12 h22 h32
 have HB:=AE (fun o:Obj=>(AI w.heap.size w).alloc (AG _) o)
 have HL1:=AE hl1
 have HL2:=AE hl2
 clear hl1 hl2 hl3
 go_enter Tryz.func32,Tryz.ntmps32
 go_wp2_with fail
 have HW:=AE (HB.out (.cells #[.string r.head.name,.slice A0 r.head.terms.length c0,.slice A1 r.body.length c1,.slice A2 r.exprs.length c2,.slice A3 r.scopes.length c3] 58))
 have x2:(w.alloc (.cells #[.string r.head.name,.slice A0 r.head.terms.length c0,.slice A1 r.body.length c1,.slice A2 r.exprs.length c2,.slice A3 r.scopes.length c3] 58)).cell? ⟨w.heap.size,2,none⟩=some (.slice A1 r.body.length c1):=by go_simp
 have x3:(w.alloc (.cells #[.string r.head.name,.slice A0 r.head.terms.length c0,.slice A1 r.body.length c1,.slice A2 r.exprs.length c2,.slice A3 r.scopes.length c3] 58)).cell? ⟨w.heap.size,3,none⟩=some (.slice A2 r.exprs.length c2):=by go_simp
 have xsz:w.heap.size<(w.alloc (.cells #[.string r.head.name,.slice A0 r.head.terms.length c0,.slice A1 r.body.length c1,.slice A2 r.exprs.length c2,.slice A3 r.scopes.length c3] 58)).heap.size:=by go_simp
 generalize (w.alloc (.cells #[.string r.head.name,.slice A0 r.head.terms.length c0,.slice A1 r.body.length c1,.slice A2 r.exprs.length c2,.slice A3 r.scopes.length c3] 58))=W at *
 have hl0':=hl0.keep HW.out hB
 have hBW:=AF hB HW.out.size
 have HLW1:=AE (HL1.out.keep HW.out hB)
 have HLW2:=AE (HL2.out.keep HW.out hB)
 clear hl0 HL1 HL2 HB
 go_loopw [3,26] (fun v i wr=>∃(k:Nat) (n:Int),k≤r.head.terms.length∧i=.int .i64 k∧v=.int .i64 n∧0≤n∧n≤140737488351232+101*k∧Below W.heap.size W wr) (fun _ i _=>r.head.terms.length-(intOf i).toNat)
 case atStart=>exact ⟨0,_,AH _,rfl,rfl,by omega,by omega,AI _ _⟩
 case round=>
  obtain ⟨k,n,hk,rfl,rfl,hn0,hn1,hbw⟩:=hrel
  by_cases hlt:k<r.head.terms.length
  ·obtain ⟨b,off,rfl,hb⟩:=hl0'.base hbw hBW (by omega)
   obtain ⟨t,vs,hx,hlen,hcell,hr⟩:=hl0'.at_ hbw hBW hlt
   obtain ⟨Ax,cx,rfl,g1,g2,g3,g4,g5,hrl⟩:=RTm.cells hr
   have c0:wr.cell? ⟨b,off+k*4,none⟩=some (.int .i64 t.kind):=hcell 0 _ rfl
   have c1:wr.cell? ⟨b,off+k*4+1,none⟩=some (.int .i64 t.n):=hcell 1 _ rfl
   have c2:wr.cell? ⟨b,off+k*4+2,none⟩=some (.string t.s):=hcell 2 _ rfl
   have c3:wr.cell? ⟨b,off+k*4+3,none⟩=some (.slice Ax t.l.length cx):=hcell 3 _ rfl
   have hszr:=hbw.size
   have HB:=AE (fun o:Obj=>hbw.alloc hszr o)
   have HB0:=AE (fun o:Obj=>(AI wr.heap.size wr).alloc (AG _) o)
   have HR:=AE hr
   clear hcell hlen hx hr
   go_wp2_with fail
   refine (ij (d:=d) (B:=B) (t:=t) (vs:=[_,_,_,_]) ((TmR d).keep (HB0.out _) (AF hBW hszr) HR.out) (AF hBW (HB.out _).size)).mono ?_
   rintro e w1 ⟨⟨m,rfl,hm0,hm1⟩,hb1⟩
   have HB1:=AE ((HB.out _).trans (hb1.mono (HB.out _).size))
   clear hb1
   go_wp2_with fail
   go_roundw
   case rel=>exact ⟨k+1,_,by omega,by go_num,rfl,by omega,by omega,HB1.out⟩
   case measure=>simp [intOf];omega
  ·clear hl0'
   have hn2:n≤140737488351232+101*(r.head.terms.length:Int):=by omega
   have z2:wr.cell? ⟨w.heap.size,2,none⟩=some (.slice A1 r.body.length c1):=(jy hbw _ _ xsz).trans x2
   clear hn1
   go_wp2_with fail
   clear z2 hk hlt
   go_loopw [3,38] (fun v i wr=>∃(k:Nat) (n:Int),k≤r.body.length∧i=.int .i64 k∧v=.int .i64 n∧0≤n∧n≤150737488351232+101*(r.head.terms.length:Int)+k∧Below W.heap.size W wr) (fun _ i _=>r.body.length-(intOf i).toNat)
   case atStart=>exact ⟨0,_,AH _,rfl,rfl,hn0,by omega,hbw⟩
   case round=>
    clear hbw hn0 hn2
    obtain ⟨k,n,hk,rfl,rfl,hn0,hn1,hbw⟩:=hrel
    by_cases hlt:k<r.body.length
    ·obtain ⟨b,off,rfl,hb⟩:=HLW1.out.base hbw hBW (by omega)
     obtain ⟨p,vs,hx,hlen,hcell,hr⟩:=HLW1.out.at0 hbw hBW hlt
     obtain ⟨_,rfl,hs,A',c',rfl,hc1,hc2,hl'⟩:=hr
     simp only [TmR] at hc2
     have c0:wr.cell? ⟨b,off+k*2,none⟩=some (.string p.name):=hcell 0 _ rfl
     have c1:wr.cell? ⟨b,off+k*2+1,none⟩=some (.slice A' p.terms.length c'):=hcell 1 _ rfl
     have hszr:=hbw.size
     have HB:=AE (fun o:Obj=>hbw.alloc hszr o)
     clear hcell hlen hx
     go_wp2_with fail
     have hn3:n+(1+(p.terms.length:Int))≤150737488351232+101*(r.head.terms.length:Int)+k+(1+(p.terms.length:Int)):=by omega
     have hbw2:Below W.heap.size W (wr.alloc (.cells #[.string p.name,.slice A' p.terms.length c'] 26)):=HB.out _
     generalize (wr.alloc (.cells #[.string p.name,.slice A' p.terms.length c'] 26))=W2 at *
     go_loopw [3,51] (fun v i wr2=>∃(j:Nat) (n2:Int),j≤p.terms.length∧i=.int .i64 j∧v=.int .i64 n2∧0≤n2∧((j=0∧n2=n+(1+(p.terms.length:Int)))∨n2≤400)∧Below W.heap.size W wr2) (fun _ i _=>p.terms.length-(intOf i).toNat)
     case atStart=>exact ⟨0,_,AH _,rfl,rfl,by omega,.inl ⟨rfl,rfl⟩,hbw2⟩
     case round=>
      clear hbw2 hbw hszr c0 c1 HB
      obtain ⟨j,n2,hj,rfl,rfl,hn20,hn21,hbw⟩:=hrel
      by_cases hlt2:j<p.terms.length
      ·obtain ⟨b',off',rfl,hb'⟩:=hl'.base hbw hBW (by omega)
       obtain ⟨t,vs,hx,hlen,hcell,hr⟩:=hl'.at_ hbw hBW hlt2
       obtain ⟨Ax,cx,rfl,g1,g2,g3,g4,g5,hrl⟩:=RTm.cells hr
       have c0:wr.cell? ⟨b',off'+j*4,none⟩=some (.int .i64 t.kind):=hcell 0 _ rfl
       have c1:wr.cell? ⟨b',off'+j*4+1,none⟩=some (.int .i64 t.n):=hcell 1 _ rfl
       have c2:wr.cell? ⟨b',off'+j*4+2,none⟩=some (.string t.s):=hcell 2 _ rfl
       have c3:wr.cell? ⟨b',off'+j*4+3,none⟩=some (.slice Ax t.l.length cx):=hcell 3 _ rfl
       have hszr:=hbw.size
       have HB:=AE (fun o:Obj=>hbw.alloc hszr o)
       have HB0:=AE (fun o:Obj=>(AI wr.heap.size wr).alloc (AG _) o)
       have HR:=AE hr
       clear hcell hlen hx hr
       go_wp2_with fail
       refine (ij (d:=d) (B:=B) (t:=t) (vs:=[_,_,_,_]) ((TmR d).keep (HB0.out _) (AF hBW hszr) HR.out) (AF hBW (HB.out _).size)).mono ?_
       rintro e w1 ⟨⟨m,rfl,hm0,hm1⟩,hb1⟩
       have HB1:=AE ((HB.out _).trans (hb1.mono (HB.out _).size))
       clear hb1
       go_wp2_with fail
       ·go_ret
        exact ⟨⟨_,rfl,by omega,by omega⟩,HW.out.trans (HB1.out.mono HW.out.size)⟩
       ·go_roundw
        case rel=>exact ⟨j+1,_,by omega,by go_num,rfl,by omega,.inr (by omega),HB1.out⟩
        case measure=>simp [intOf];omega
      ·go_wp2_with fail
       go_roundw
       case rel=>exact ⟨k+1,n2,by omega,by go_num,rfl,by omega,by omega,hbw⟩
       case measure=>simp [intOf];omega
    ·have z3:wr.cell? ⟨w.heap.size,3,none⟩=some (.slice A2 r.exprs.length c2):=(jy hbw _ _ xsz).trans x3
     have hn2:n≤160737488351232+101*(r.head.terms.length:Int):=by omega
     clear hn1
     go_wp2_with fail
     clear z3 hk hlt
     go_loopw [3,66] (fun v i wr=>∃(k:Nat) (n:Int),k≤r.exprs.length∧i=.int .i64 k∧v=.int .i64 n∧0≤n∧n≤160737488351232+101*(r.head.terms.length:Int)+k∧Below W.heap.size W wr) (fun _ i _=>r.exprs.length-(intOf i).toNat)
     case atStart=>exact ⟨0,_,AH _,rfl,rfl,hn0,by omega,hbw⟩
     case round=>
      clear hbw hn0 hn2
      obtain ⟨k,n,hk,rfl,rfl,hn0,hn1,hbw⟩:=hrel
      by_cases hlt:k<r.exprs.length
      ·obtain ⟨b,off,rfl,hb⟩:=HLW2.out.base hbw hBW (by omega)
       obtain ⟨p,vs,hx,hlen,hcell,hr⟩:=HLW2.out.at0 hbw hBW hlt
       obtain ⟨_,rfl,A',c',rfl,hc1,hc2,hl'⟩:=hr
       simp only [OpR] at hc2
       have c0:wr.cell? ⟨b,off+k*1,none⟩=some (.slice A' p.length c'):=hcell 0 _ rfl
       rw [Nat.mul_one] at c0
       have hszr:=hbw.size
       have HB:=AE (fun o:Obj=>hbw.alloc hszr o)
       clear hcell hlen hx
       go_wp2_with fail
       have hn3:n+(1+(p.length:Int))≤160737488351232+101*(r.head.terms.length:Int)+k+(1+(p.length:Int)):=by omega
       have hbw2:Below W.heap.size W (wr.alloc (.cells #[.slice A' p.length c'] 102)):=HB.out _
       generalize (wr.alloc (.cells #[.slice A' p.length c'] 102))=W2 at *
       go_loopw [3,79] (fun v i wr2=>∃(j:Nat) (n2:Int),j≤p.length∧i=.int .i64 j∧v=.int .i64 n2∧0≤n2∧((j=0∧n2=n+(1+(p.length:Int)))∨n2≤400)∧Below W.heap.size W wr2) (fun _ i _=>p.length-(intOf i).toNat)
       case atStart=>exact ⟨0,_,AH _,rfl,rfl,by omega,.inl ⟨rfl,rfl⟩,hbw2⟩
       case round=>
        clear hbw2 hbw hszr c0 HB
        obtain ⟨j,n2,hj,rfl,rfl,hn20,hn21,hbw⟩:=hrel
        by_cases hlt2:j<p.length
        ·obtain ⟨b',off',rfl,hb'⟩:=hl'.base hbw hBW (by omega)
         obtain ⟨o,vs,hx,hlen,hcell,hr⟩:=hl'.at_ hbw hBW hlt2
         obtain ⟨ts,rfl,i1,i2,i3,ht⟩:=hr
         have hr:=ht
         obtain ⟨Ax,cx,rfl,g1,g2,g3,g4,g5,hrl⟩:=RTm.cells ht
         have c0:wr.cell? ⟨b',off'+j*7,none⟩=some (.int .i64 o.kind):=hcell 0 _ rfl
         have c1:wr.cell? ⟨b',off'+j*7+1,none⟩=some (.int .i64 o.term.kind):=hcell 1 _ rfl
         have c2:wr.cell? ⟨b',off'+j*7+2,none⟩=some (.int .i64 o.term.n):=hcell 2 _ rfl
         have c3:wr.cell? ⟨b',off'+j*7+3,none⟩=some (.string o.term.s):=hcell 3 _ rfl
         have c4:wr.cell? ⟨b',off'+j*7+4,none⟩=some (.slice Ax o.term.l.length cx):=hcell 4 _ rfl
         have c5:wr.cell? ⟨b',off'+j*7+5,none⟩=some (.int .i64 o.code):=hcell 5 _ rfl
         have c6:wr.cell? ⟨b',off'+j*7+6,none⟩=some (.int .i64 o.skip):=hcell 6 _ rfl
         have hszr:=hbw.size
         have HB:=AE (fun o:Obj=>hbw.alloc hszr o)
         have HB0:=AE (fun o:Obj=>(AI wr.heap.size wr).alloc (AG _) o)
         have HR:=AE hr
         clear hcell hlen hx hr
         go_wp2_with fail
         refine (ij (d:=d) (B:=B) (t:=o.term) (vs:=[_,_,_,_]) ((TmR d).keep (HB0.out _) (AF hBW hszr) HR.out) (AF hBW (HB.out _).size)).mono ?_
         rintro e w1 ⟨⟨m,rfl,hm0,hm1⟩,hb1⟩
         have HB1:=AE ((HB.out _).trans (hb1.mono (HB.out _).size))
         clear hb1
         go_wp2_with fail
         ·go_ret
          exact ⟨⟨_,rfl,by omega,by omega⟩,HW.out.trans (HB1.out.mono HW.out.size)⟩
         ·go_roundw
          case rel=>exact ⟨j+1,_,by omega,by go_num,rfl,by omega,.inr (by omega),HB1.out⟩
          case measure=>simp [intOf];omega
        ·go_wp2_with fail
         go_roundw
         case rel=>exact ⟨k+1,n2,by omega,by go_num,rfl,by omega,by omega,hbw⟩
         case measure=>simp [intOf];omega
      ·go_wp2_with fail
       go_ret
       exact ⟨⟨_,rfl,by omega,by omega⟩,HW.out.trans (hbw.mono HW.out.size)⟩
theorem ov {α:Type} {R:Reader α} (w:World) (B:Nat):RSl R w B [] (.slice none 0 0):=⟨none,0,rfl,by simp,by simp,fun h=>absurd h (by simp)⟩
theorem uh {d B:Nat} {w:World} {f:Fc} {A:Option Addr} {c:Nat} (h:(ay d).rd w B f [.string f.pr.name,.slice A f.pr.terms.length c,.int .u32 f.o]):(RuR d).rd w B ⟨f.pr,[],[],[]⟩ [.string f.pr.name,.slice A f.pr.terms.length c,.slice none 0 0,.slice none 0 0,.slice none 0 0]:=by
 obtain ⟨v,e,⟨v2,e2,h1,h2⟩,_⟩:=h
 simp only [List.cons.injEq,and_true,true_and] at e e2
 obtain rfl:=e
 obtain rfl:=e2
 exact ⟨_,_,_,_,rfl,h1,h2,ov _ _,ov _ _,ov _ _⟩
theorem vI {d B c:Nat} {l:List Fc} {A:Option Addr} {w:World} (hl:RL (ay (d+1)) w B l A) (hB:B≤w.heap.size) (hn:l.length≤140737488351232) :
 Calls Tryz.prog 53 #[.slice A l.length c] w fun z w'=>(∃q,z=.returned (.bool q)∧(q=true→l.length≤600))∧Below w.heap.size w w':=by
 have HL:=AE hl
 clear hl
 go_enter Tryz.func53,Tryz.ntmps53
 go_wp2_with fail
 go_loopw [3,8] (fun u i wr=>∃(k:Nat) (n:Int),k≤l.length∧i=.int .i64 k∧u=.int .i64 n∧(k:Int)≤n∧n≤600∧Hid (Below w.heap.size w wr)) (fun _ i _=>l.length-(intOf i).toNat)
 case atStart=>exact ⟨0,0,AH _,rfl,rfl,by omega,by omega,AE (AI _ _)⟩
 case round=>
  obtain ⟨k,n,hk,rfl,rfl,hkn,hn6,HW⟩:=hrel
  have hszr:=HW.out.size
  by_cases hlt:k<l.length
  ·obtain ⟨b,off,rfl,hob⟩:=HL.out.base HW.out hB (by omega)
   obtain ⟨x,vs,hx,hlen,hcell,hr⟩:=HL.out.at_ HW.out hB hlt
   obtain ⟨Ax,cx,rfl,_⟩:=aG hr
   have c0:wr.cell? ⟨b,off+k*3,none⟩=some (.string x.pr.name):=hcell 0 _ rfl
   have c1:wr.cell? ⟨b,off+k*3+1,none⟩=some (.slice Ax x.pr.terms.length cx):=hcell 1 _ rfl
   have c2:wr.cell? ⟨b,off+k*3+2,none⟩=some (.int .u32 x.o):=hcell 2 _ rfl
   have HX:=AE hx
   have HR:=AE hr
   clear hx hr hcell hlen
   go_wp2_with fail
   generalize hW2:World.alloc _ _=w2
   obtain ⟨hb2,hz2⟩:=al1 hW2
   have HB2:=AE hb2
   have hsz2:=hb2.size
   clear hW2 hz2 hb2 c0 c1 c2
   refine (nz (d:=d+1) (B:=B) (r:=⟨x.pr,[],[],[]⟩) (vs:=[_,_,_,_,_]) (uh ((ay (d+1)).keep HB2.out (AF hB hszr) HR.out)) (by omega)).mono ?_
   rintro z w3 ⟨⟨m,rfl,hm0,hm1⟩,hb3⟩
   have HB3:=AE (aa HW.out (aa HB2.out hb3))
   clear hb3
   by_cases hg:600<n+(1+m)
   ·go_wp2_with fail
    go_ret
    exact ⟨⟨false,rfl,by simp⟩,HB3.out⟩
   ·go_wp2_with fail
    go_roundw
    case rel=>exact ⟨k+1,n+(1+m),by omega,by go_num,rfl,by omega,by omega,HB3⟩
    case measure=>simp [intOf];omega
  ·go_wp2_with fail
   go_ret
   exact ⟨⟨true,rfl,fun _=>by omega⟩,HW.out⟩
theorem tO {d B c:Nat} {l:List Fc} {A:Option Addr} {w:World} (hl:RL (ay (d+1)) w B l A) (hB:B≤w.heap.size) (hn:l.length≤140737488351232) :
 Calls Tryz.prog 33 #[.slice A l.length c] w fun z w'=>(∃q:Int,z=.returned (.int .i64 q)∧(q=0→l.length≤600))∧Below w.heap.size w w':=by
 go_enter Tryz.func33,Tryz.ntmps33
 go_wp2_with fail
 refine (vI hl hB hn).mono ?_
 rintro z w1 ⟨⟨q,rfl,hq⟩,hb⟩
 cases q
 ·go_wp2_with fail
  go_ret
  exact ⟨⟨1,rfl,by omega⟩,hb⟩
 ·go_wp2_with fail
  go_ret
  exact ⟨⟨0,rfl,fun _=>hq trivial⟩,hb⟩
structure TwoS (d B:Nat) (w:World) (S:Nat) (xs:List FV) (A:Option Addr) (c M:Nat) (ys:List FV) (A':Option Addr) (c':Nat):Prop where
 s:StA (M+1) d w S xs A c
 m:DSt (M+1) d B w M ys A' c'
 ap:∀k,(Value.slice A xs.length c).ownBlock=some k→(Value.slice A' ys.length c').ownBlock≠some k
 ne:S<M
 hB:B≤S
section
variable {d B S M c c' c2:Nat} {w w':World} {xs ys xs2 ys2:List FV} {A A' A2:Option Addr}
theorem TwoS.later (h:TwoS d B w S xs A c M ys A' c') (hb:Below w.heap.size w w'):TwoS d B w' S xs A c M ys A' c':=⟨h.s.later hb,h.m.later hb,h.ap,h.ne,h.hB⟩
theorem TwoS.addS (h:TwoS d B w S xs A c M ys A' c') (hs:StA (M+1) d w' S xs2 A2 c2) (ha:al (StM S (.slice A xs.length c)) w w') (hf:bk w (.slice A xs.length c) (.slice A2 xs2.length c2)):TwoS d B w' S xs2 A2 c2 M ys A' c':=by
 refine ⟨hs,h.m.agree ha (fun k hk hl=>?_),fun k hk hm=>?_,h.ne,h.hB⟩
 ·have hne:=h.ne
  have hB:=h.hB
  rcases hk with rfl | hk
  ·refine ⟨hB,fun hm=>?_⟩
   rcases hm with hm | hm
   ·omega
   ·have:=(h.m.row.lt k hm).1;omega
  ·have h1:=(h.s.row.lt k hk).1
   refine ⟨by omega,fun hm=>?_⟩
   rcases hm with hm | hm
   ·omega
   ·exact h.ap k hk hm
 ·rcases hf with e | ⟨k2,e,hk2⟩
  ·rw [e] at hk;exact h.ap k hk hm
  ·rw [e] at hk
   simp only [AP] at hk
   have:=(h.m.row.lt k hm).2
   omega
theorem TwoS.addM (h:TwoS d B w S xs A c M ys A' c') (hs:DSt (M+1) d B w' M ys2 A2 c2) (ha:al (fun k=>k=M) w w') (hf:bk w (.slice A' ys.length c') (.slice A2 ys2.length c2)):TwoS d B w' S xs A c M ys2 A2 c2:=by
 refine ⟨h.s.agree ha (fun k hk hl hm=>?_) (fun k hk hl=>.inl (by omega)),hs,fun k hk hm=>?_,h.ne,h.hB⟩
 ·have hne:=h.ne
  rcases hm with hm | hm
  ·omega
  ·have:=(h.s.row.lt k hm).1;omega
 ·rcases hf with e | ⟨k2,e,hk2⟩
  ·rw [e] at hm;exact h.ap k hk hm
  ·rw [e] at hm
   simp only [AP] at hm
   have:=(h.s.row.lt k hk).2
   omega
end
def MadeE (d B:Nat) (w w':World) (l:List Fc) (z:Ending):Prop:=
 ∃S M xs A c ys A' c',z=.returned (.tuple #[.pointer (some ⟨S,0,none⟩),.pointer (some ⟨M,0,none⟩)])∧TwoS d B w' S xs A c M ys A' c'∧xs.map FV.f=stL l∧ys.map FV.f=stL l∧Below w.heap.size w w'
theorem sQ {l:List Fc} {k:Nat} {x:Fc} (h:l[k]? = some x):stL (l.take (k+1))=fd (stL (l.take k)) x:=by
 rw [←sP]
 congr 1
 obtain ⟨hk,rfl⟩:=List.getElem?_eq_some_iff.1 h
 rw [List.take_succ_eq_append_getElem hk]
theorem made_of {d B c:Nat} {l:List Fc} {A:Option Addr} {w:World} (hl:RL (ay (d+1)) w B l A) (hB:B≤w.heap.size) (hn:l.length≤100000) :
 Calls Tryz.prog 18 #[.slice A l.length c] w fun z w'=>MadeE d B w w' l z:=by
 have HL:=AE hl
 clear hl
 go_enter Tryz.func18,Tryz.ntmps18
 go_wp2_with fail
 refine (qj d).mono ?_
 rintro e w1 ⟨rfl,hs,hb1⟩
 have HS1:=AE hs
 have HB1:=AE hb1
 have hsl:=hs.hd.lt
 clear hs hb1
 go_upto_region 3 with fail
 generalize hW:World.alloc _ _=w2
 obtain ⟨hb2,hz2⟩:=al1 hW
 have HM2:=AE (n11 hW)
 have HS2:=AE (HS1.out.hd.later hb2)
 have HB2:=AE (aa HB1.out hb2)
 have hsz1:=HB1.out.size
 have hsz2:=hb2.size
 have hml:=HM2.out.lt
 have HT2:Hid (TwoS d B w2 w.heap.size [] none 0 w1.heap.size [] none 0):=AE ⟨⟨HS2.out,by omega,by omega,aq.nil _ _ _ _ _,by simp,by simp,List.Pairwise.nil⟩,⟨HM2.out,by omega,by omega,aq.nil _ _ _ _ _,by simp,by simp,List.Pairwise.nil,by omega⟩,fun k h=>(by cases h),hsl,hB⟩
 clear hW hb2
 generalize w1.heap.size=M at *
 go_loopw [13] (fun i wr=>∃(k:Nat) (xs:List FV) (A1:Option Addr) (c1:Nat) (ys:List FV) (A2:Option Addr) (c2:Nat),k≤l.length∧i=.int .i64 k∧Hid (TwoS d B wr w.heap.size xs A1 c1 M ys A2 c2)∧Hid (xs.map FV.f=stL (l.take k))∧Hid (ys.map FV.f=stL (l.take k))∧Hid (Below w.heap.size w wr)) (fun i _=>l.length-(intOf i).toNat)
 case atStart=>exact ⟨0,[],none,0,[],none,0,AH _,rfl,HT2,AE rfl,AE rfl,HB2⟩
 case round=>
  obtain ⟨k,xs,A1,c1,ys,A2,c2,hk,rfl,HT,HX1,HY1,HW⟩:=hrel
  have hszr:=HW.out.size
  by_cases hlt:k<l.length
  ·obtain ⟨b,off,rfl,hob⟩:=HL.out.base HW.out hB (by omega)
   obtain ⟨x,vs,hx,hlen,hcell,hr⟩:=HL.out.at0 HW.out hB hlt
   have hr0:=hr
   obtain ⟨Ax,cx,rfl,_⟩:=aG hr
   have c0:wr.cell? ⟨b,off+k*3,none⟩=some (.string x.pr.name):=hcell 0 _ rfl
   have c1:wr.cell? ⟨b,off+k*3+1,none⟩=some (.slice Ax x.pr.terms.length cx):=hcell 1 _ rfl
   have c2:wr.cell? ⟨b,off+k*3+2,none⟩=some (.int .u32 x.o):=hcell 2 _ rfl
   have HXK:=AE hx
   have HR:=AE hr
   clear hr0
   clear hx hr hcell hlen
   have HXL:Hid (xs.length≤100000∧ys.length≤100000):=AE (by
    have h1:=mi (l.take k) []
    have h2:=congrArg List.length HX1.out
    have h3:=congrArg List.length HY1.out
    rw [AM] at h2 h3
    rw [AW] at h1
    unfold stL at h2 h3
    simp only [List.length_nil] at h1
    omega)
   go_upto_region 5 with fail
   generalize hW3:World.alloc _ _=w3
   obtain ⟨hb3,hz3⟩:=al1 hW3
   have HF3:=AE (n11 hW3)
   have HT3:=AE (HT.out.later hb3)
   have HB3:=AE (aa HW.out hb3)
   have hsz3:=hb3.size
   clear hW3 hb3 hz3 c0 c1 c2
   have k_f:=HF3.out.cell
   have l_f:=HF3.out.lt
   go_wp2_with fail
   refine (mh (f:=x) (vf:=[_,_,_]) (B:=B) HT3.out.s ((ay (d+1)).keep HB3.out hB HR.out) (by omega) HXL.out.1).mono ?_
   rintro z w4 ⟨xs2,A4,c4,rfl,hx4,hs4,ha4,hf4⟩
   have HT4:=AE (HT3.out.addS hs4 ha4 hf4)
   have HX4:Hid (xs2.map FV.f=stL (l.take (k+1))):=AE (by rw [hx4,HX1.out,sQ HXK.out])
   have HF4:=AE (ha4.blk HF3.out (fun hm=>by
    rcases hm with hm | hm
    ·have h1:=HT.out.s.bw;have h2:=HT.out.ne;omega
    ·have:=(HT.out.s.row.lt _ hm).2;omega))
   have HB4:Hid (Below w.heap.size w w4):=AE (HB3.out.trans (ha4.below (fun q hq hm=>by
    rcases hm with hm | hm
    ·omega
    ·have h1:=(HT.out.s.row.lt _ hm).1;have h2:=HT.out.ne;omega) (by omega)))
   have hsz4:=ha4.size
   clear hx4 hs4 ha4 hf4 k_f l_f
   have k_f:=HF4.out.cell
   have l_f:=HF4.out.lt
   go_wp2_with fail
   refine (ue (y:=⟨x,Ax,cx⟩) (B:=B) HT4.out.m ((ay (d+1)).keep HB4.out hB HR.out) HXL.out.2).mono ?_
   rintro z w5 ⟨ys2,A5,c5,rfl,hy5,hs5,ha5,hf5⟩
   have HT5:=AE (HT4.out.addM hs5 ha5 hf5)
   have HY5:Hid (ys2.map FV.f=stL (l.take (k+1))):=AE (by rw [hy5,HY1.out,sQ HXK.out])
   have HB5:Hid (Below w.heap.size w w5):=AE (HB4.out.trans (ha5.below (fun q hq hm=>by have h2:=HT.out.ne;omega) (by omega)))
   clear hy5 hs5 ha5 hf5 k_f l_f
   go_wp2_with fail
   go_roundw
   case rel=>exact ⟨k+1,xs2,A4,c4,ys2,A5,c5,by omega,by go_num,HT5,HX4,HY5,HB5⟩
   case measure=>simp [intOf];omega
  ·have hkl:l.take k=l:=List.take_of_length_le (by omega)
   have HX2:=AE (HX1.out.trans (by rw [hkl]))
   have HY2:=AE (HY1.out.trans (by rw [hkl]))
   clear hkl
   go_wp2_with fail
   go_ret2
   exact ⟨w.heap.size,M,xs,A1,c1,ys,A2,c2,rfl,HT.out,HX2.out,HY2.out,HW.out⟩
def iH (n m:Nat) (z:Ending):Prop:=∃q:Bool,z=.returned (.bool q)∧(q=true→n≤60∧m≤400)
theorem iH.no {n m:Nat}:iH n m (.returned (.bool false)):=⟨false,rfl,fun h=>by cases h⟩
theorem ow_rule {d B:Nat} {w:World} {o:OwD} {v0 v1 v2 v3 v4 v5 v6:Value} (h:(OwR d).rd w B o [v0,v1,v2,v3,v4,v5,v6]):(RuR d).rd w B o.rule [v0,v1,v2,v3,v4]:=by
 obtain ⟨_,_,_,_,_,_,_,_,e,hr,_⟩:=iA h
 simp only [List.cons.injEq,and_true] at e
 obtain ⟨rfl,rfl,rfl,rfl,rfl,_,_⟩:=e
 exact hr
theorem vJ {d B c cr:Nat} {l:List Fc} {rs:List OwD} {A Ar:Option Addr} {lf lr:Int} {w:World} (hl:RL (ay (d+1)) w B l A) (hr:RL (OwR (d+1)) w B rs Ar) (hB:B≤w.heap.size) (hn:l.length≤140737488351232) (hrn:rs.length≤140737488351232) :
 Calls Tryz.prog 15 #[.slice A l.length c,.slice Ar rs.length cr,.agg #[.int .i64 lf,.int .i64 lr]] w fun z w'=>iH l.length rs.length z∧Below w.heap.size w w':=by
 have HL:=AE hl
 have HR:=AE hr
 clear hl hr
 go_enter Tryz.func15,Tryz.ntmps15
 go_upto_region 1 with fail
 generalize hW:World.alloc _ _=w1
 obtain ⟨hb1,hz⟩:=al1 hW
 have HK1:=AE (n11 hW)
 have HB1:=AE hb1
 clear hW hb1 hz
 go_upto_region 3 with fail
 go_loopw [7,12] (fun u i wr=>∃(k:Nat) (n:Int),k≤rs.length∧i=.int .i64 k∧u=.int .i64 n∧(k:Int)≤n∧n≤400∧Hid (Below w1.heap.size w1 wr)) (fun _ i _=>rs.length-(intOf i).toNat)
 case atStart=>exact ⟨0,0,AH _,rfl,rfl,by omega,by omega,AE (AI _ _)⟩
 case round=>
  obtain ⟨k,n,hk,rfl,rfl,hn0,hn1,HW⟩:=hrel
  have HBr:=AE (aa HB1.out HW.out)
  have hszr:=HBr.out.size
  have hBr:B≤wr.heap.size:=AF hB hszr
  by_cases hlt:k<rs.length
  ·obtain ⟨b,off,rfl,hob⟩:=(HR.out.keep HBr.out hB).base (AI _ _) hBr (by omega)
   obtain ⟨x,vs,hx,hlen,hcell,hr⟩:=(HR.out.keep HBr.out hB).at_ (AI _ _) hBr hlt
   have HRX:=AE hr
   obtain ⟨A0,c0,A1,c1,A2,c2,A3,c3,rfl,hrr,_,_⟩:=iA hr
   have hbn:x.rule.body.length≤140737488351232:=by
    obtain ⟨_,_,_,_,e,_,_,⟨_,_,_,_,h,_⟩,_⟩:=hrr
    have:=h.1
    simp only [PrR] at this
    omega
   have p0:wr.cell? ⟨b,off+k*7,none⟩=some (.string x.rule.head.name):=hcell 0 _ rfl
   have p1:wr.cell? ⟨b,off+k*7+1,none⟩=some (.slice A0 x.rule.head.terms.length c0):=hcell 1 _ rfl
   have p2:wr.cell? ⟨b,off+k*7+2,none⟩=some (.slice A1 x.rule.body.length c1):=hcell 2 _ rfl
   have p3:wr.cell? ⟨b,off+k*7+3,none⟩=some (.slice A2 x.rule.exprs.length c2):=hcell 3 _ rfl
   have p4:wr.cell? ⟨b,off+k*7+4,none⟩=some (.slice A3 x.rule.scopes.length c3):=hcell 4 _ rfl
   have p5:wr.cell? ⟨b,off+k*7+5,none⟩=some (.int .i64 x.block):=hcell 5 _ rfl
   have p6:wr.cell? ⟨b,off+k*7+6,none⟩=some (.int .u32 x.trusted):=hcell 6 _ rfl
   clear hcell hlen hx hr hrr
   go_upto_region 5 with fail
   generalize hW:World.alloc _ _=w3
   obtain ⟨hb3,hz3⟩:=al1 hW
   have HK3:=AE (n11 hW)
   have HW3:=AE (aa HW.out hb3)
   have HB3:=AE (aa HBr.out hb3)
   have HRR:=AE (ow_rule ((OwR (d+1)).keep hb3 hBr HRX.out))
   have hsz3:=hb3.size
   clear hW hb3 hz3 p0 p1 p2 p3 p4 p5 p6
   have k_r:=HK3.out.cell
   have l_r:=HK3.out.lt
   go_wp2_with fail
   refine (nz (d:=d+1) (B:=B) (r:=x.rule) (vs:=[_,_,_,_,_]) HRR.out (by omega)).mono ?_
   rintro z w4 ⟨⟨m,rfl,hm0,hm1⟩,hb4⟩
   have HK4:=AE (HK3.out.later hb4)
   have HW4:=AE (aa HW3.out hb4)
   have HB4:=AE (aa HB3.out hb4)
   clear hb4 k_r l_r
   have k_r:=HK4.out.cell
   have l_r:=HK4.out.lt
   have hln:(l.length:Int)≤140737488351232:=by omega
   have hbi:(x.rule.body.length:Int)≤140737488351232:=by omega
   have hk0:(0:Int)≤(k:Int):=Int.natCast_nonneg _
   by_cases hb2:(2:Int)<(x.rule.body.length:Int)
   ·by_cases hl12:(12:Int)<(l.length:Int)
    ·go_wp2_with fail
     go_ret
     exact ⟨iH.no,HB4.out⟩
    ·by_cases h4:(400:Int)<n+(1+m)
     ·go_wp2_with fail
      go_ret
      exact ⟨iH.no,HB4.out⟩
     ·go_wp2_with fail
      go_roundw
      case rel=>exact ⟨k+1,n+(1+m),by omega,by go_num,rfl,by omega,by omega,HW4⟩
      case measure=>simp [intOf];omega
   ·by_cases h4:(400:Int)<n+(1+m)
    ·go_wp2_with fail
     go_ret
     exact ⟨iH.no,HB4.out⟩
    ·go_wp2_with fail
     go_roundw
     case rel=>exact ⟨k+1,n+(1+m),by omega,by go_num,rfl,by omega,by omega,HW4⟩
     case measure=>simp [intOf];omega
  ·have hrl:rs.length≤400:=by omega
   have HKr:=AE (HK1.out.later HW.out)
   generalize wr=w2 at *
   go_wp2_with fail
   refine (tO (HL.out.keep HBr.out hB) hBr hn).mono ?_
   rintro z w3 ⟨⟨v,rfl,hv⟩,hb3⟩
   have HB3:=AE (aa HBr.out hb3)
   have HK3:=AE (HKr.out.later hb3)
   clear hb3
   have k_l:=HK3.out.cell
   have l_l:=HK3.out.lt
   by_cases hv0:v=0
   rotate_left
   ·have hv1:((0:Int)==v)=false:=by rw [beq_eq_false_iff_ne];omega
    clear hv
    go_wp2_with fail
    go_ret
    exact ⟨iH.no,HB3.out⟩
   subst hv0
   clear hv
   by_cases hl60:(l.length:Int)≤60
   rotate_left
   ·clear hk hn0 hn1 hn hrn
    go_wp2_with fail
    go_ret
    exact ⟨iH.no,HB3.out⟩
   have YES:∀q:Bool,iH l.length rs.length (.returned (.bool q)):=fun q=>⟨q,rfl,fun _=>⟨by omega,hrl⟩⟩
   have HY:=AE YES
   clear YES
   by_cases hf1:lf≤60
   ·by_cases hr1:lr≤20
    ·go_wp2_with fail
     go_ret
     exact ⟨HY.out _,HB3.out⟩
    ·go_wp2_with fail
     go_ret
     exact ⟨HY.out _,HB3.out⟩
   ·by_cases hf2:(1000:Int)<lf
    ·by_cases hr1:lr≤20
     ·go_wp2_with fail
      go_ret
      exact ⟨HY.out _,HB3.out⟩
     ·go_wp2_with fail
      go_ret
      exact ⟨HY.out _,HB3.out⟩
    ·go_wp2_with fail
     go_ret
     exact ⟨HY.out _,HB3.out⟩
section
variable {w:World} {B d c:Nat}
theorem fC {k n:Int} {s:ByteArray} (hk:I64 k) (hn:I64 n) (hs:s.size≤140737488351232):RTm w B (d+1) ⟨k,n,s,[]⟩ [.int .i64 k,.int .i64 n,.string s,.slice none 0 0]:=
 ⟨none,0,rfl,AG _,⟨by simp,by omega⟩,hs,hk,hn,fun h=>absurd h (by simp)⟩
theorem nd {α:Type} {R:Reader α} {xs:List α} {A:Option Addr} (h:RL R w B xs A) (h1:xs.length≤c) (h2:xs.length*(8*R.k)≤140737488351232) (h3:c≤9223372036854775807):RSl R w B xs (.slice A xs.length c):=⟨A,c,rfl,h1,⟨h2,h3⟩,h⟩
theorem sz {nm:ByteArray} {ts:List Tm} {v:Value} (hn:nm.size≤140737488351232) (h:RSl (TmR d) w B ts v):(PrR d).rd w B ⟨nm,ts⟩ [.string nm,v]:=⟨v,rfl,hn,h⟩
theorem lit_fc {f:Fc} {v:Value} (h:(PrR d).rd w B f.pr [.string f.pr.name,v]) (ho:U32 f.o):(ay d).rd w B f [.string f.pr.name,v,.int .u32 f.o]:=⟨v,rfl,h,ho⟩
theorem lit_ru {r:Ru} {v0 v1 v2 v3:Value} (hn:r.head.name.size≤140737488351232) (h0:RSl (TmR d) w B r.head.terms v0) (h1:RSl (PrR d) w B r.body v1) (h2:RSl (ExR d) w B r.exprs v2) (h3:RSl ScR w B r.scopes v3):(RuR d).rd w B r [.string r.head.name,v0,v1,v2,v3]:=⟨v0,v1,v2,v3,rfl,hn,h0,h1,h2,h3⟩
theorem wF {α:Type} {R:Reader α}:RSl R w B [] (.slice none 0 0):=⟨none,0,rfl,by simp,by simp,fun h=>absurd h (by simp)⟩
end
end Go.Proofs.YtjpndglegpcdnaaGreat
