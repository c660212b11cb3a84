/- viaticumlaw7.size, Size; viaticumlaw14.Weight: they tell some number. -/
import Derived.Test.YtdphibjibnffeaaGreatRule4
import Derived.Deep.Slices
import Derived.Deep.Fields
import Derived.ChangeSame
import Derived.SizedLaws
import Derived.Below
set_option linter.unusedVariables false
set_option linter.unusedSimpArgs false
set_option maxRecDepth 100000
set_option maxHeartbeats 8000000
namespace Go.Proofs.YtdphibjibnffeaaGreat
open Go.ChangeShapes Go.WideShapes Go.ChangeAt Go.RowKit
theorem RTm.deep {w:World} {B:Nat}:∀{d:Nat} {t:Tm} {vs:List Value},RTm w B d t vs→RTm w B (d+1) t vs
 | 0,_,_,h=>h.elim
 | d+1,t,vs,⟨A,c,e,h1,h2,h3,h4,h5,h6⟩=>⟨A,c,e,h1,h2,h3,h4,h5,h6.mono fun i vs _ ⟨x,hx,hr⟩=>⟨x,hx,RTm.deep hr⟩⟩
theorem RTm.deeper {w:World} {B:Nat} {d D:Nat} {t:Tm} {vs:List Value} (hd:d≤D) (h:RTm w B d t vs):RTm w B D t vs:=by
 induction D with
 | zero=> have:d=0:=by omega
          subst this;exact h
 | succ D ih=>
   by_cases he:d=D+1
   ·subst he;exact h
   ·exact RTm.deep (ih (by omega))
theorem kD {α:Type}:∀(n:Nat) (P:Nat→α→Prop),(∀i,i<n→∃a,P i a)→∃xs:List α,xs.length=n∧∀i,i<n→∃a,xs[i]? = some a∧P i a
 | 0,_,_=>⟨[],rfl,fun _ h=>by omega⟩
 | n+1,P,h=>by
   obtain ⟨xs,hl,hx⟩:=kD n P (fun i hi=>h i (by omega))
   obtain ⟨a,ha⟩:=h n (by omega)
   refine ⟨xs++[a],by simp [hl],fun i hi=>?_⟩
   by_cases hin:i<n
   ·obtain ⟨b,hb,hp⟩:=hx i hin
    exact ⟨b,by rw [List.getElem?_append_left (by omega)];exact hb,hp⟩
   ·have:i=n:=by omega
    subst this
    exact ⟨a,by rw [List.getElem?_append_right (by omega)];simp [hl],ha⟩
def Ok {H:Type} (P:Program) (t:TypeId) (d:DataW H):Prop:=∀n∈d.weights P t,n≤reachBytes
section
variable {H:Type} {enc:TypeId × Value→H} {P:Program} {w:World} {base:Nat} {held:Bool}
theorem cw {t:TypeId} {fs:Array Field} {fuel:Nat} {cs:List Value} {x:DataW H × List MemPlace} (ht:P.underlying t=some (.struct fs)) (h:DataW.trod enc P w base (fun _=>true) held fuel t cs=some x) (ho:Ok P t x.1) :
 cs.length=P.cellsOf t∧∃n,fuel=n+1∧∀(j:Nat) (f:Field) (ty:TypeId) (off C:Nat),fs[j]? = some f→f.type=ty→f.offset=off→P.cellsOf ty=C→∃y,DataW.trod enc P w base (fun _=>true) held n ty ((cs.drop off).take C)=some y∧Ok P ty y.1:=by
 obtain ⟨xs,n,hn,hx,hc,hl,hf⟩:=DataW.trod_struct ht h
 refine ⟨hc,n,hn,fun j f ty off C hj h1 h2 h3=>?_⟩
 subst h1 h2 h3
 have hjl:j<fs.size:=(Array.getElem?_eq_some_iff.1 hj).1
 have hys:xs[j]? = some (xs[j]'(by omega)):=List.getElem?_eq_getElem (by omega)
 refine ⟨_,(hf j f hj).trans hys,fun m hm=>ho m ?_⟩
 rw [hx]
 simp only [DataW.weights,ht]
 refine DataW.weights_mem_each (j:=j) (t:=f.type) (d:=(xs[j]'(by omega)).1) ?_ ?_ m hm
 ·rw [List.getElem?_map,Array.getElem?_toList,hj];rfl
 ·rw [List.getElem?_map,hys];rfl
theorem gV {e:TypeId}:∀{l:List (DataW H)} {d:DataW H},d∈l→∀n∈d.weights P e,n∈DataW.weightsAll P e l
 | a::l,d,hd,n,hn=>by
   simp only [DataW.weightsAll,List.mem_append]
   rcases List.mem_cons.1 hd with rfl | hd
   ·exact .inl hn
   ·exact .inr (gV hd n hn)
theorem gF {t:TypeId} {fuel:Nat} {cs:List Value} {x:DataW H × List MemPlace} (ht:P.underlying t=some (.int .i64)) (h:DataW.trod enc P w base (fun _=>true) held fuel t cs=some x):∃n,cs=[.int .i64 n]∧I64 n:=by
 obtain ⟨n,hcs,_,hwf⟩:=DataW.trod_int ht h
 refine ⟨n,hcs,?_⟩
 simp only [Lit.wf] at hwf
 unfold I64
 revert hwf
 have e1:IntKind.i64.signed=true:=rfl
 have e2:IntKind.i64.bits=64:=rfl
 simp [IntKind.min,IntKind.max,e1,e2]
theorem fh {t:TypeId} {fuel:Nat} {cs:List Value} {x:DataW H × List MemPlace} (ht:P.underlying t=some .string) (h:DataW.trod enc P w base (fun _=>true) held fuel t cs=some x) (ho:Ok P t x.1):∃s:ByteArray,cs=[.string s]∧s.size≤140737488351232:=by
 obtain ⟨s,hcs,hx,_⟩:=DataW.trod_string ht h
 refine ⟨s,hcs,?_⟩
 have:=ho s.data.toList.length (by rw [hx];simp [DataW.weights])
 simpa [reachBytes] using this
theorem lh {α:Type} (R:Reader α) {D:Nat} {t e:TypeId} {fuel:Nat} {cs:List Value} {x:DataW H × List MemPlace} (ht:P.underlying t=some (.slice e)) (hC:P.cellsOf e=R.k) (hk:0<R.k) {B:Nat} (hb1:P.bytesOf e=B)
 (h:DataW.trod enc P w base (fun _=>true) held fuel t cs=some x) (ho:Ok P t x.1) (hD:fuel≤D+1)
 (hel:∀n,n≤D→∀cs x,DataW.trod enc P w base (fun _=>true) held n e cs=some x→Ok P e x.1→∃a,R.rd w w.heap.size a cs) :
 ∃(xs:List α) (A:Option Addr) (c:Nat),cs=[.slice A xs.length c]∧xs.length≤c∧c*B≤140737488351232∧RL R w w.heap.size xs A:=by
 rcases DataW.trod_slice ht h with ⟨hcs,_⟩ | ⟨a,len,cap,elems,rest,n,hn,hcs,hx,_,hl,_,hlen,hat,hsp,_⟩
 ·exact ⟨[],none,0,hcs,by simp,by simp,fun h0=>by simp at h0⟩
 have hrl:=(hsp rfl).1
 have hcap:cap*P.bytesOf e≤reachBytes:=by
  have:=ho ((elems.length+rest.length)*P.bytesOf e) (by rw [hx];simp [DataW.weights,ht])
  have e1:elems.length+rest.length=cap:=by omega
  rwa [e1] at this
 have hcapk:cap*B≤140737488351232:=by rw [hb1] at hcap;exact hcap
 have hE:∀i,i<len→∃a':α,∃cs',w.cells? base (a.add (i*P.cellsOf e)) (P.cellsOf e)=some cs'∧R.rd w w.heap.size a' cs':=by
  intro i hi
  have h1:=hat i hi
  have hg:elems[i]? = some (elems[i]'(by omega)):=List.getElem?_eq_getElem (by omega)
  rw [hg] at h1
  cases hc:w.cells? base (a.add (i*P.cellsOf e)) (P.cellsOf e) with
  | none=>rw [hc] at h1;simp at h1
  | some cs'=>
    rw [hc] at h1
    simp only [Option.bind_some] at h1
    obtain ⟨a',ha'⟩:=hel n (by omega) cs' _ h1 (fun m hm=>ho m (by
     rw [hx]
     simp only [DataW.weights,ht,List.mem_cons,List.mem_append]
     exact .inr (.inl (gV (List.mem_map.2 ⟨_,List.getElem_mem (by omega),rfl⟩) m hm))))
    exact ⟨a',cs',rfl,ha'⟩
 obtain ⟨xs,hxl,hxs⟩:=kD len _ hE
 refine ⟨xs,some a,cap,by rw [hcs,hxl],by omega,hcapk,fun h0=>?_⟩
 rw [hxl] at h0
 obtain ⟨a0,_,cs0,hc0,hr0⟩:=hxs 0 h0
 obtain ⟨_,hcl0,hat0⟩:=World.cells?_some hc0
 have hcell0:=hat0 0 (by omega)
 have e0:cs0[0]? = some (cs0[0]'(by omega)):=List.getElem?_eq_getElem (by omega)
 rw [e0] at hcell0
 have hsz:a.block<w.heap.size:=by
  have:=block_lt_of_cell hcell0
  simpa [Addr.add] using this
 have hspot:a.spot=none:=by simpa [Addr.add] using World.cell?_spot hcell0
 obtain ⟨b,off,spot⟩:=a
 dsimp only at hspot hsz
 subst hspot
 refine ⟨b,off,rfl,hsz,fun i hi=>?_⟩
 rw [hxl] at hi
 obtain ⟨ai,hai,csi,hci,hri⟩:=hxs i hi
 obtain ⟨_,hcl,hati⟩:=World.cells?_some hci
 refine ⟨csi,by omega,⟨ai,hai,hri⟩,fun j v hj=>?_⟩
 have hjl:j<csi.length:=(List.getElem?_eq_some_iff.1 hj).1
 have:=hati j (by omega)
 rw [hj] at this
 rw [←this,hC]
 congr 1
 simp only [Addr.add]
 split<;>split<;>simp_all<;>omega
theorem fg {α:Type} (R:Reader α) {D:Nat} {t e:TypeId} {fuel:Nat} {cs:List Value} {x:DataW H × List MemPlace} (ht:P.underlying t=some (.slice e)) (hC:P.cellsOf e=R.k) (hk:0<R.k) {B:Nat} (hb0:8*R.k≤B) (hb1:P.bytesOf e=B)
 (h:DataW.trod enc P w base (fun _=>true) held fuel t cs=some x) (ho:Ok P t x.1) (hD:fuel≤D+1)
 (hel:∀n,n≤D→∀cs x,DataW.trod enc P w base (fun _=>true) held n e cs=some x→Ok P e x.1→∃a,R.rd w w.heap.size a cs) :
 ∃xs v,cs=[v]∧RSl R w w.heap.size xs v:=by
 obtain ⟨xs,A,c,e1,h1,h2,h3⟩:=lh R ht hC hk hb1 h ho hD hel
 exact ⟨xs,_,e1,A,c,rfl,h1,⟨zm (Nat.mul_le_mul h1 hb0) h2,by
  have:=Nat.le_mul_of_pos_right c (show 0<B by omega)
  omega⟩,h3⟩
theorem fH:Tryz.prog.cellsOf 3=1:=by kernel_rfl
theorem pN:Tryz.prog.cellsOf 2=1:=by kernel_rfl
theorem el:Tryz.prog.cellsOf 9=1:=by kernel_rfl
theorem ku:Tryz.prog.cellsOf 23=1:=by kernel_rfl
theorem pM:Tryz.prog.cellsOf 26=1:=by kernel_rfl
theorem pL:Tryz.prog.cellsOf 27=1:=by kernel_rfl
theorem ud:Tryz.prog.cellsOf 57=1:=by kernel_rfl
theorem nI:Tryz.prog.cellsOf 28=1:=by kernel_rfl
theorem gu:Tryz.prog.cellsOf 79=4:=by kernel_rfl
theorem gt:Tryz.prog.cellsOf 25=2:=by kernel_rfl
theorem qW:Tryz.prog.cellsOf 81=7:=by kernel_rfl
theorem me:Tryz.prog.cellsOf 59=1:=by kernel_rfl
theorem kr:Tryz.prog.cellsOf 213=2:=by kernel_rfl
theorem mg:Tryz.prog.cellsOf 30=5:=by kernel_rfl
theorem qL:∀(n:Nat) (cs:List Value) (x:DataW H × List MemPlace),DataW.trod enc Tryz.prog w base (fun _=>true) held n 79 cs=some x→Ok Tryz.prog 79 x.1→∃t,RTm w w.heap.size n t cs
 | 0,cs,x,h,_=>by simp [DataW.trod] at h
 | n+1,cs,x,h,ho=>by
   obtain ⟨hc,n',hn,hf⟩:=cw (Tryz.underlying79) h ho
   have hn':n'=n:=by omega
   subst hn'
   have hc4:cs.length=4:=hc.trans gu
   match cs,hc4 with
   | [c0,c1,c2,c3],_=>
     obtain ⟨_,h0,_⟩:=hf 0 _ _ _ _ rfl rfl rfl fH
     obtain ⟨_,h1,_⟩:=hf 1 _ _ _ _ rfl rfl rfl pN
     obtain ⟨_,h2,o2⟩:=hf 2 _ _ _ _ rfl rfl rfl el
     obtain ⟨_,h3,o3⟩:=hf 3 _ _ _ _ rfl rfl rfl ku
     obtain ⟨k0,e0,i0⟩:=gF (Tryz.underlying3) h0
     obtain ⟨k1,e1,i1⟩:=gF (Tryz.underlying2) h1
     obtain ⟨s2,e2,i2⟩:=fh (Tryz.underlying9) h2 o2
     obtain ⟨xs,A,c,e3,g1,g2,hrl⟩:=lh (TmR n') (D:=n') (B:=56) (Tryz.underlying23) gu (by simp [TmR]) (by kernel_rfl) h3 o3 (by omega) (fun m hm cs x hx ho=>by
      obtain ⟨t,ht⟩:=qL m cs x hx ho
      exact ⟨t,RTm.deeper hm ht⟩)
     replace e0:[c0]=_:=e0
     replace e1:[c1]=_:=e1
     replace e2:[c2]=_:=e2
     replace e3:[c3]=_:=e3
     simp only [List.cons.injEq,and_true] at e0 e1 e2 e3
     subst e0 e1 e2 e3
     exact ⟨⟨k0,k1,s2,xs⟩,A,c,rfl,g1,(show xs.length*40≤140737488351232∧c≤9223372036854775807 from ⟨by omega,by omega⟩),i2,i0,i1,hrl⟩
theorem th {n D:Nat} {cs:List Value} {x:DataW H × List MemPlace} (h:DataW.trod enc Tryz.prog w base (fun _=>true) held n 23 cs=some x) (ho:Ok Tryz.prog 23 x.1) (hD:n≤D):∃ts v,cs=[v]∧RSl (TmR D) w w.heap.size ts v:=
 fg (TmR D) (D:=D) (B:=56) (Tryz.underlying23) gu (by simp [TmR]) (by simp [TmR]) (by kernel_rfl) h ho (by omega) (fun m hm cs x hx ho=>by
  obtain ⟨t,ht⟩:=qL m cs x hx ho
  exact ⟨t,RTm.deeper hm ht⟩)
theorem lp {n D:Nat} {cs:List Value} {x:DataW H × List MemPlace} (h:DataW.trod enc Tryz.prog w base (fun _=>true) held n 25 cs=some x) (ho:Ok Tryz.prog 25 x.1) (hD:n≤D):∃p,(PrR D).rd w w.heap.size p cs:=by
 obtain ⟨hc,n',hn,hf⟩:=cw (Tryz.underlying25) h ho
 have hcl:=hc.trans gt
 match cs,hcl with
 | [c0,c1],_=>
   obtain ⟨_,h0,o0⟩:=hf 0 _ _ _ _ rfl rfl rfl el
   obtain ⟨_,h1,o1⟩:=hf 1 _ _ _ _ rfl rfl rfl ku
   obtain ⟨s0,e0,i0⟩:=fh (Tryz.underlying9) h0 o0
   obtain ⟨xs,v,e1,g1⟩:=th (D:=D) h1 o1 (by omega)
   replace e0:[c0]=_:=e0
   replace e1:[c1]=_:=e1
   simp only [List.cons.injEq,and_true] at e0 e1
   subst e0 e1
   exact ⟨⟨s0,xs⟩,_,rfl,i0,g1⟩
theorem sQ {n D:Nat} {cs:List Value} {x:DataW H × List MemPlace} (h:DataW.trod enc Tryz.prog w base (fun _=>true) held n 26 cs=some x) (ho:Ok Tryz.prog 26 x.1) (hD:n≤D):∃ts v,cs=[v]∧RSl (PrR D) w w.heap.size ts v:=
 fg (PrR D) (D:=D) (B:=40) (Tryz.underlying26) gt (by simp [PrR]) (by simp [PrR]) (by kernel_rfl) h ho (by omega) (fun m hm cs x hx ho=>lp hx ho hm)
theorem op_open {n D:Nat} {cs:List Value} {x:DataW H × List MemPlace} (h:DataW.trod enc Tryz.prog w base (fun _=>true) held n 81 cs=some x) (ho:Ok Tryz.prog 81 x.1) (hD:n≤D):∃o,(OpR D).rd w w.heap.size o cs:=by
 obtain ⟨hc,n',hn,hf⟩:=cw (Tryz.underlying81) h ho
 have hcl:=hc.trans qW
 match cs,hcl with
 | [c0,c1,c2,c3,c4,c5,c6],_=>
   obtain ⟨_,h0,_⟩:=hf 0 _ _ _ _ rfl rfl rfl fH
   obtain ⟨_,h1,o1⟩:=hf 1 _ _ _ _ rfl rfl rfl gu
   obtain ⟨_,h2,_⟩:=hf 2 _ _ _ _ rfl rfl rfl fH
   obtain ⟨_,h3,_⟩:=hf 3 _ _ _ _ rfl rfl rfl fH
   obtain ⟨k0,e0,i0⟩:=gF (Tryz.underlying3) h0
   obtain ⟨k2,e2,i2⟩:=gF (Tryz.underlying3) h2
   obtain ⟨k3,e3,i3⟩:=gF (Tryz.underlying3) h3
   obtain ⟨t,ht⟩:=qL _ _ _ h1 o1
   replace e0:[c0]=_:=e0
   replace e2:[c5]=_:=e2
   replace e3:[c6]=_:=e3
   replace ht:RTm w w.heap.size n' t [c1,c2,c3,c4]:=ht
   simp only [List.cons.injEq,and_true] at e0 e2 e3
   subst e0 e2 e3
   exact ⟨⟨k0,t,k2,k3⟩,_,rfl,i0,i2,i3,RTm.deeper (by omega) ht⟩
theorem xO {n D:Nat} {cs:List Value} {x:DataW H × List MemPlace} (h:DataW.trod enc Tryz.prog w base (fun _=>true) held n 57 cs=some x) (ho:Ok Tryz.prog 57 x.1) (hD:n≤D):∃ts v,cs=[v]∧RSl (OpR D) w w.heap.size ts v:=
 fg (OpR D) (D:=D) (B:=80) (Tryz.underlying57) qW (by simp [OpR]) (by simp [OpR]) (by kernel_rfl) h ho (by omega) (fun m hm cs x hx ho=>op_open hx ho hm)
theorem uA {n D:Nat} {cs:List Value} {x:DataW H × List MemPlace} (h:DataW.trod enc Tryz.prog w base (fun _=>true) held n 59 cs=some x) (ho:Ok Tryz.prog 59 x.1) (hD:n≤D):∃o,(ExR D).rd w w.heap.size o cs:=by
 obtain ⟨hc,n',hn,hf⟩:=cw (Tryz.underlying59) h ho
 have hcl:=hc.trans me
 match cs,hcl with
 | [c0],_=>
   obtain ⟨_,h0,o0⟩:=hf 0 _ _ _ _ rfl rfl rfl ud
   obtain ⟨xs,v,e0,g⟩:=xO (D:=D) h0 o0 (by omega)
   exact ⟨xs,v,e0,g⟩
theorem si {n D:Nat} {cs:List Value} {x:DataW H × List MemPlace} (h:DataW.trod enc Tryz.prog w base (fun _=>true) held n 27 cs=some x) (ho:Ok Tryz.prog 27 x.1) (hD:n≤D):∃ts v,cs=[v]∧RSl (ExR D) w w.heap.size ts v:=
 fg (ExR D) (D:=D) (B:=24) (Tryz.underlying27) me (by simp [ExR]) (by simp [ExR]) (by kernel_rfl) h ho (by omega) (fun m hm cs x hx ho=>uA hx ho hm)
theorem sY {n:Nat} {cs:List Value} {x:DataW H × List MemPlace} (h:DataW.trod enc Tryz.prog w base (fun _=>true) held n 213 cs=some x) (ho:Ok Tryz.prog 213 x.1):∃o,ScR.rd w w.heap.size o cs:=by
 obtain ⟨hc,n',hn,hf⟩:=cw (Tryz.underlying213) h ho
 have hcl:=hc.trans kr
 match cs,hcl with
 | [c0,c1],_=>
   obtain ⟨_,h0,_⟩:=hf 0 _ _ _ _ rfl rfl rfl fH
   obtain ⟨_,h1,o1⟩:=hf 1 _ _ _ _ rfl rfl rfl el
   obtain ⟨k0,e0,i0⟩:=gF (Tryz.underlying3) h0
   obtain ⟨s1,e1,i1⟩:=fh (Tryz.underlying9) h1 o1
   replace e0:[c0]=_:=e0
   replace e1:[c1]=_:=e1
   simp only [List.cons.injEq,and_true] at e0 e1
   subst e0 e1
   exact ⟨⟨k0,s1⟩,rfl,i0,i1⟩
theorem qD {n:Nat} {cs:List Value} {x:DataW H × List MemPlace} (h:DataW.trod enc Tryz.prog w base (fun _=>true) held n 28 cs=some x) (ho:Ok Tryz.prog 28 x.1):∃ts v,cs=[v]∧RSl ScR w w.heap.size ts v:=
 fg ScR (D:=n) (B:=24) (Tryz.underlying28) kr (by simp [ScR]) (by simp [ScR]) (by kernel_rfl) h ho (by omega) (fun m hm cs x hx ho=>sY hx ho)
theorem vS {n D:Nat} {cs:List Value} {x:DataW H × List MemPlace} (h:DataW.trod enc Tryz.prog w base (fun _=>true) held n 30 cs=some x) (ho:Ok Tryz.prog 30 x.1) (hD:n≤D):∃r,(RuR D).rd w w.heap.size r cs:=by
 obtain ⟨hc,n',hn,hf⟩:=cw (Tryz.underlying30) h ho
 have hcl:=hc.trans mg
 match cs,hcl with
 | [c0,c1,c2,c3,c4],_=>
   obtain ⟨_,h0,o0⟩:=hf 0 _ _ _ _ rfl rfl rfl gt
   obtain ⟨_,h1,o1⟩:=hf 1 _ _ _ _ rfl rfl rfl pM
   obtain ⟨_,h2,o2⟩:=hf 2 _ _ _ _ rfl rfl rfl pL
   obtain ⟨_,h3,o3⟩:=hf 3 _ _ _ _ rfl rfl rfl nI
   obtain ⟨p,hp⟩:=lp (D:=D) h0 o0 (by omega)
   obtain ⟨b,v1,e1,g1⟩:=sQ (D:=D) h1 o1 (by omega)
   obtain ⟨es,v2,e2,g2⟩:=si (D:=D) h2 o2 (by omega)
   obtain ⟨ss,v3,e3,g3⟩:=qD h3 o3
   replace hp:(PrR D).rd w w.heap.size p [c0,c1]:=hp
   obtain ⟨v0,e0,gs,g0⟩:=hp
   replace e1:[c2]=_:=e1
   replace e2:[c3]=_:=e2
   replace e3:[c4]=_:=e3
   simp only [List.cons.injEq,and_true] at e0 e1 e2 e3
   obtain ⟨rfl,rfl⟩:=e0
   subst e1 e2 e3
   exact ⟨⟨p,b,es,ss⟩,_,_,_,_,rfl,gs,g0,g1,g2,g3⟩
end
theorem yf:∀(dp:Nat),dp≤6→∀(d B:Nat) (ts:List Tm) (A:Option Addr) (c:Nat) (n0:Int) (w:World),RL (TmR d) w B ts A→B≤w.heap.size→ts.length≤140737488351232→0≤n0→n0<100 →
 Calls Tryz.prog 151 #[.slice A ts.length c,.int .i64 n0,.int .i64 (dp:Int)] w fun e w'=>(∃m:Int,e=.returned (.int .i64 m)∧0≤m∧m≤100)∧Below w.heap.size w w':=by
 intro dp
 induction dp with
 | zero=>
   intro _ d B ts A c n0 w hl hB hn h0 h1
   have hdp0:¬(((0:Nat):Int) > 0):=by omega
   go_enter Tryz.func151,Tryz.ntmps151
   go_wp2_with fail
   go_loopw [1,11] (fun v i wr=>∃(k:Nat) (n:Int),k≤ts.length∧i=.int .i64 k∧v=.int .i64 n∧0≤n∧n<100∧Below w.heap.size w wr) (fun _ i _=>ts.length-(intOf i).toNat)
   case atStart=>exact ⟨0,n0,zo _,rfl,rfl,h0,h1,zp _ _⟩
   case round=>
    obtain ⟨k,n,hk,rfl,rfl,hn0,hn1,hbw⟩:=hrel
    by_cases hlt:k<ts.length
    ·obtain ⟨b,off,rfl,hb⟩:=hl.base hbw hB (by omega)
     obtain ⟨t,vs,hx,hlen,hcell,hr⟩:=hl.at0 hbw hB hlt
     obtain ⟨Ax,cx,rfl,g1,g2,g3,g4,g5,hrl⟩:=RTm.cells hr
     have c0:wr.cell? ⟨b,off+k*4,none⟩=some (.int .i64 t.kind):=hcell 0 _ rfl
     have c1:wr.cell? ⟨b,off+k*4+1,none⟩=some (.int .i64 t.n):=hcell 1 _ rfl
     have c2:wr.cell? ⟨b,off+k*4+2,none⟩=some (.string t.s):=hcell 2 _ rfl
     have c3:wr.cell? ⟨b,off+k*4+3,none⟩=some (.slice Ax t.l.length cx):=hcell 3 _ rfl
     have hszr:=hbw.size
     have HB:=zl (fun o:Obj=>hbw.alloc hszr o)
     clear hcell hlen hx hr
     go_wp2_with fail
     ·go_ret
      exact ⟨⟨100,rfl,by omega,by omega⟩,HB.out _⟩
     ·go_roundw
      case rel=>exact ⟨k+1,_,by omega,by go_num,rfl,by omega,by omega,HB.out _⟩
      case measure=>simp [intOf];omega
     ·go_ret
      exact ⟨⟨100,rfl,by omega,by omega⟩,HB.out _⟩
    ·go_wp2_with fail
     go_ret
     exact ⟨⟨n,rfl,hn0,by omega⟩,hbw⟩
 | succ dp ih=>
   intro hdp d B ts A c n0 w hl hB hn h0 h1
   have IH:=zl (ih (by omega))
   clear ih
   have hdp0:((dp+1:Nat):Int) > 0:=by omega
   have hdp1:(((dp+1:Nat):Int)==0)=false:=by simp;omega
   have hdp2:((dp+1:Nat):Int)-1=(dp:Int):=by omega
   have hdp3:((dp+1:Nat):Int)≤6:=by omega
   have HDP:=zl hdp2
   generalize hD:((dp+1:Nat):Int)=D at *
   clear hD hdp2
   go_enter Tryz.func151,Tryz.ntmps151
   go_wp2_with fail
   go_loopw [1,11] (fun v i wr=>∃(k:Nat) (n:Int),k≤ts.length∧i=.int .i64 k∧v=.int .i64 n∧0≤n∧n<100∧Below w.heap.size w wr) (fun _ i _=>ts.length-(intOf i).toNat)
   case atStart=>exact ⟨0,n0,zo _,rfl,rfl,h0,h1,zp _ _⟩
   case round=>
    obtain ⟨k,n,hk,rfl,rfl,hn0,hn1,hbw⟩:=hrel
    by_cases hlt:k<ts.length
    ·obtain ⟨b,off,rfl,hb⟩:=hl.base hbw hB (by omega)
     obtain ⟨t,vs,hx,hlen,hcell,hr⟩:=hl.at0 hbw hB hlt
     obtain ⟨Ax,cx,rfl,g1,g2,g3,g4,g5,hrl⟩:=RTm.cells hr
     have c0:wr.cell? ⟨b,off+k*4,none⟩=some (.int .i64 t.kind):=hcell 0 _ rfl
     have c1:wr.cell? ⟨b,off+k*4+1,none⟩=some (.int .i64 t.n):=hcell 1 _ rfl
     have c2:wr.cell? ⟨b,off+k*4+2,none⟩=some (.string t.s):=hcell 2 _ rfl
     have c3:wr.cell? ⟨b,off+k*4+3,none⟩=some (.slice Ax t.l.length cx):=hcell 3 _ rfl
     have hszr:=hbw.size
     have HB:=zl (fun o:Obj=>hbw.alloc hszr o)
     clear hcell hlen hx hr
     go_wp2_with fail
     ·rw [HDP.out]
      refine (IH.out (d-1) B t.l Ax cx _ _ ((iW.rl hrl).keep (HB.out _) hB) (zm hB (HB.out _).size) (by omega) (by omega) (by omega)).mono ?_
      rintro e w1 ⟨⟨m,rfl,hm0,hm1⟩,hb1⟩
      have HB1:=zl ((HB.out _).trans (hb1.mono (HB.out _).size))
      clear hb1
      go_wp2_with fail
      ·go_roundw
       case rel=>exact ⟨k+1,m,by omega,by go_num,rfl,by omega,by omega,HB1.out⟩
       case measure=>simp [intOf];omega
      ·go_ret
       exact ⟨⟨100,rfl,by omega,by omega⟩,HB1.out⟩
     ·go_ret
      exact ⟨⟨100,rfl,by omega,by omega⟩,HB.out _⟩
    ·go_wp2_with fail
     go_ret
     exact ⟨⟨n,rfl,hn0,by omega⟩,hbw⟩
theorem gX {d B:Nat} {t:Tm} {vs:List Value} {w:World} (hr:RTm w B d t vs) (hB:B≤w.heap.size) :
 Calls Tryz.prog 102 #[.agg vs.toArray] w fun e w'=>(∃m:Int,e=.returned (.int .i64 m)∧0≤m∧m≤100)∧Below w.heap.size w w':=by
 have HR:=zl hr
 obtain ⟨Ax,cx,rfl,g1,g2,g3,g4,g5,hrl⟩:=RTm.cells hr
 have HB:=zl (fun o:Obj=>(zp w.heap.size w).alloc (zn _) o)
 clear hr hrl
 go_enter Tryz.func102,Tryz.ntmps102
 go_wp2_with fail
 have HW:=zl ((HB.out (.cells #[.int .i64 t.kind,.int .i64 t.n,.string t.s,.slice Ax t.l.length cx] 79)).trans ((zp (w.alloc (.cells #[.int .i64 t.kind,.int .i64 t.n,.string t.s,.slice Ax t.l.length cx] 79)).heap.size (w.alloc (.cells #[.int .i64 t.kind,.int .i64 t.n,.string t.s,.slice Ax t.l.length cx] 79))).alloc (zn _) (.cells #[.int .i64 t.kind,.int .i64 t.n,.string t.s,.slice Ax t.l.length cx] 79) |>.mono (HB.out (.cells #[.int .i64 t.kind,.int .i64 t.n,.string t.s,.slice Ax t.l.length cx] 79)).size))
 have y0:((w.alloc (.cells #[.int .i64 t.kind,.int .i64 t.n,.string t.s,.slice Ax t.l.length cx] 79)).alloc (.cells #[.int .i64 t.kind,.int .i64 t.n,.string t.s,.slice Ax t.l.length cx] 79)).cell? ⟨w.heap.size+1,0,none⟩=some (.int .i64 t.kind):=by go_simp
 have y1:((w.alloc (.cells #[.int .i64 t.kind,.int .i64 t.n,.string t.s,.slice Ax t.l.length cx] 79)).alloc (.cells #[.int .i64 t.kind,.int .i64 t.n,.string t.s,.slice Ax t.l.length cx] 79)).cell? ⟨w.heap.size+1,1,none⟩=some (.int .i64 t.n):=by go_simp
 have y2:((w.alloc (.cells #[.int .i64 t.kind,.int .i64 t.n,.string t.s,.slice Ax t.l.length cx] 79)).alloc (.cells #[.int .i64 t.kind,.int .i64 t.n,.string t.s,.slice Ax t.l.length cx] 79)).cell? ⟨w.heap.size+1,2,none⟩=some (.string t.s):=by go_simp
 have y3:((w.alloc (.cells #[.int .i64 t.kind,.int .i64 t.n,.string t.s,.slice Ax t.l.length cx] 79)).alloc (.cells #[.int .i64 t.kind,.int .i64 t.n,.string t.s,.slice Ax t.l.length cx] 79)).cell? ⟨w.heap.size+1,3,none⟩=some (.slice Ax t.l.length cx):=by go_simp
 have ysz:w.heap.size+1<((w.alloc (.cells #[.int .i64 t.kind,.int .i64 t.n,.string t.s,.slice Ax t.l.length cx] 79)).alloc (.cells #[.int .i64 t.kind,.int .i64 t.n,.string t.s,.slice Ax t.l.length cx] 79)).heap.size:=by go_simp
 generalize ((w.alloc (.cells #[.int .i64 t.kind,.int .i64 t.n,.string t.s,.slice Ax t.l.length cx] 79)).alloc (.cells #[.int .i64 t.kind,.int .i64 t.n,.string t.s,.slice Ax t.l.length cx] 79))=W at *
 have hl:RL (TmR d) W W.heap.size [t] (some ⟨w.heap.size+1,0,none⟩):=RL.one (x:=t) ysz ((TmR d).wide (zm hB HW.out.size) ((TmR d).keep HW.out hB HR.out)) (fun j v hv=>by
  rcases j with _ | _ | _ | _ | j
  ·simp only [List.getElem?_cons_zero,Option.some.injEq] at hv;rw [←hv];exact y0
  ·simp only [List.getElem?_cons_succ,List.getElem?_cons_zero,Option.some.injEq] at hv;rw [←hv];exact y1
  ·simp only [List.getElem?_cons_succ,List.getElem?_cons_zero,Option.some.injEq] at hv;rw [←hv];exact y2
  ·simp only [List.getElem?_cons_succ,List.getElem?_cons_zero,Option.some.injEq] at hv;rw [←hv];exact y3
  ·simp at hv)
 refine (yf 6 (by omega) d _ [t] _ 1 0 W hl (zn _) (by simp) (by omega) (by omega)).mono ?_
 rintro e w1 ⟨⟨m,rfl,hm0,hm1⟩,hb1⟩
 have HB1:=zl (HW.out.trans (hb1.mono HW.out.size))
 clear hb1
 go_wp2_with fail
 go_ret
 exact ⟨⟨m,rfl,hm0,hm1⟩,HB1.out⟩
theorem mE {d B:Nat} {r:Ru} {vs:List Value} {w:World} (hr:(RuR d).rd w B r vs) (hB:B≤w.heap.size) :
 Calls Tryz.prog 48 #[.agg vs.toArray] w fun x w'=>(∃m:Int,x=.returned (.int .i64 m)∧0≤m∧m≤400)∧Below w.heap.size w w':=by
 obtain ⟨_,_,_,_,rfl,hs,⟨A0,c0,rfl,h01,h02,hl0⟩,⟨A1,c1,rfl,h11,h12,hl1⟩,⟨A2,c2,rfl,h21,h22,hl2⟩,⟨A3,c3,rfl,h31,h32,hl3⟩⟩:=hr
 simp only [PrR,ExR,ScR,TmR] at h02 h12 h22 h32
 have HB:=zl (fun o:Obj=>(zp w.heap.size w).alloc (zn _) o)
 have HL1:=zl hl1
 have HL2:=zl hl2
 clear hl1 hl2 hl3
 go_enter Tryz.func48,Tryz.ntmps48
 go_wp2_with fail
 have HW:=zl (HB.out (.cells #[.string r.head.name,.slice A0 r.head.terms.length c0,.slice A1 r.body.length c1,.slice A2 r.exprs.length c2,.slice A3 r.scopes.length c3] 30))
 have x2:(w.alloc (.cells #[.string r.head.name,.slice A0 r.head.terms.length c0,.slice A1 r.body.length c1,.slice A2 r.exprs.length c2,.slice A3 r.scopes.length c3] 30)).cell? ⟨w.heap.size,2,none⟩=some (.slice A1 r.body.length c1):=by go_simp
 have x3:(w.alloc (.cells #[.string r.head.name,.slice A0 r.head.terms.length c0,.slice A1 r.body.length c1,.slice A2 r.exprs.length c2,.slice A3 r.scopes.length c3] 30)).cell? ⟨w.heap.size,3,none⟩=some (.slice A2 r.exprs.length c2):=by go_simp
 have xsz:w.heap.size<(w.alloc (.cells #[.string r.head.name,.slice A0 r.head.terms.length c0,.slice A1 r.body.length c1,.slice A2 r.exprs.length c2,.slice A3 r.scopes.length c3] 30)).heap.size:=by go_simp
 generalize (w.alloc (.cells #[.string r.head.name,.slice A0 r.head.terms.length c0,.slice A1 r.body.length c1,.slice A2 r.exprs.length c2,.slice A3 r.scopes.length c3] 30))=W at *
 have hl0':=hl0.keep HW.out hB
 have hBW:=zm hB HW.out.size
 have HLW1:=zl (HL1.out.keep HW.out hB)
 have HLW2:=zl (HL2.out.keep HW.out hB)
 clear hl0 HL1 HL2 HB
 go_loopw [3,26] (fun v i wr=>∃(k:Nat) (n:Int),k≤r.head.terms.length∧i=.int .i64 k∧v=.int .i64 n∧0≤n∧n≤140737488351232+101*k∧Below W.heap.size W wr) (fun _ i _=>r.head.terms.length-(intOf i).toNat)
 case atStart=>exact ⟨0,_,zo _,rfl,rfl,by omega,by omega,zp _ _⟩
 case round=>
  obtain ⟨k,n,hk,rfl,rfl,hn0,hn1,hbw⟩:=hrel
  by_cases hlt:k<r.head.terms.length
  ·obtain ⟨b,off,rfl,hb⟩:=hl0'.base hbw hBW (by omega)
   obtain ⟨t,vs,hx,hlen,hcell,hr⟩:=hl0'.at_ hbw hBW hlt
   obtain ⟨Ax,cx,rfl,g1,g2,g3,g4,g5,hrl⟩:=RTm.cells hr
   have c0:wr.cell? ⟨b,off+k*4,none⟩=some (.int .i64 t.kind):=hcell 0 _ rfl
   have c1:wr.cell? ⟨b,off+k*4+1,none⟩=some (.int .i64 t.n):=hcell 1 _ rfl
   have c2:wr.cell? ⟨b,off+k*4+2,none⟩=some (.string t.s):=hcell 2 _ rfl
   have c3:wr.cell? ⟨b,off+k*4+3,none⟩=some (.slice Ax t.l.length cx):=hcell 3 _ rfl
   have hszr:=hbw.size
   have HB:=zl (fun o:Obj=>hbw.alloc hszr o)
   have HB0:=zl (fun o:Obj=>(zp wr.heap.size wr).alloc (zn _) o)
   have HR:=zl hr
   clear hcell hlen hx hr
   go_wp2_with fail
   refine (gX (d:=d) (B:=B) (t:=t) (vs:=[_,_,_,_]) ((TmR d).keep (HB0.out _) (zm hBW hszr) HR.out) (zm hBW (HB.out _).size)).mono ?_
   rintro e w1 ⟨⟨m,rfl,hm0,hm1⟩,hb1⟩
   have HB1:=zl ((HB.out _).trans (hb1.mono (HB.out _).size))
   clear hb1
   go_wp2_with fail
   go_roundw
   case rel=>exact ⟨k+1,_,by omega,by go_num,rfl,by omega,by omega,HB1.out⟩
   case measure=>simp [intOf];omega
  ·clear hl0'
   have hn2:n≤140737488351232+101*(r.head.terms.length:Int):=by omega
   have z2:wr.cell? ⟨w.heap.size,2,none⟩=some (.slice A1 r.body.length c1):=(ja hbw _ _ xsz).trans x2
   clear hn1
   go_wp2_with fail
   clear z2 hk hlt
   go_loopw [3,38] (fun v i wr=>∃(k:Nat) (n:Int),k≤r.body.length∧i=.int .i64 k∧v=.int .i64 n∧0≤n∧n≤150737488351232+101*(r.head.terms.length:Int)+k∧Below W.heap.size W wr) (fun _ i _=>r.body.length-(intOf i).toNat)
   case atStart=>exact ⟨0,_,zo _,rfl,rfl,hn0,by omega,hbw⟩
   case round=>
    clear hbw hn0 hn2
    obtain ⟨k,n,hk,rfl,rfl,hn0,hn1,hbw⟩:=hrel
    by_cases hlt:k<r.body.length
    ·obtain ⟨b,off,rfl,hb⟩:=HLW1.out.base hbw hBW (by omega)
     obtain ⟨p,vs,hx,hlen,hcell,hr⟩:=HLW1.out.at0 hbw hBW hlt
     obtain ⟨_,rfl,hs,A',c',rfl,hc1,hc2,hl'⟩:=hr
     simp only [TmR] at hc2
     have c0:wr.cell? ⟨b,off+k*2,none⟩=some (.string p.name):=hcell 0 _ rfl
     have c1:wr.cell? ⟨b,off+k*2+1,none⟩=some (.slice A' p.terms.length c'):=hcell 1 _ rfl
     have hszr:=hbw.size
     have HB:=zl (fun o:Obj=>hbw.alloc hszr o)
     clear hcell hlen hx
     go_wp2_with fail
     have hn3:n+(1+(p.terms.length:Int))≤150737488351232+101*(r.head.terms.length:Int)+k+(1+(p.terms.length:Int)):=by omega
     have hbw2:Below W.heap.size W (wr.alloc (.cells #[.string p.name,.slice A' p.terms.length c'] 25)):=HB.out _
     generalize (wr.alloc (.cells #[.string p.name,.slice A' p.terms.length c'] 25))=W2 at *
     go_loopw [3,51] (fun v i wr2=>∃(j:Nat) (n2:Int),j≤p.terms.length∧i=.int .i64 j∧v=.int .i64 n2∧0≤n2∧((j=0∧n2=n+(1+(p.terms.length:Int)))∨n2≤400)∧Below W.heap.size W wr2) (fun _ i _=>p.terms.length-(intOf i).toNat)
     case atStart=>exact ⟨0,_,zo _,rfl,rfl,by omega,.inl ⟨rfl,rfl⟩,hbw2⟩
     case round=>
      clear hbw2 hbw hszr c0 c1 HB
      obtain ⟨j,n2,hj,rfl,rfl,hn20,hn21,hbw⟩:=hrel
      by_cases hlt2:j<p.terms.length
      ·obtain ⟨b',off',rfl,hb'⟩:=hl'.base hbw hBW (by omega)
       obtain ⟨t,vs,hx,hlen,hcell,hr⟩:=hl'.at_ hbw hBW hlt2
       obtain ⟨Ax,cx,rfl,g1,g2,g3,g4,g5,hrl⟩:=RTm.cells hr
       have c0:wr.cell? ⟨b',off'+j*4,none⟩=some (.int .i64 t.kind):=hcell 0 _ rfl
       have c1:wr.cell? ⟨b',off'+j*4+1,none⟩=some (.int .i64 t.n):=hcell 1 _ rfl
       have c2:wr.cell? ⟨b',off'+j*4+2,none⟩=some (.string t.s):=hcell 2 _ rfl
       have c3:wr.cell? ⟨b',off'+j*4+3,none⟩=some (.slice Ax t.l.length cx):=hcell 3 _ rfl
       have hszr:=hbw.size
       have HB:=zl (fun o:Obj=>hbw.alloc hszr o)
       have HB0:=zl (fun o:Obj=>(zp wr.heap.size wr).alloc (zn _) o)
       have HR:=zl hr
       clear hcell hlen hx hr
       go_wp2_with fail
       refine (gX (d:=d) (B:=B) (t:=t) (vs:=[_,_,_,_]) ((TmR d).keep (HB0.out _) (zm hBW hszr) HR.out) (zm hBW (HB.out _).size)).mono ?_
       rintro e w1 ⟨⟨m,rfl,hm0,hm1⟩,hb1⟩
       have HB1:=zl ((HB.out _).trans (hb1.mono (HB.out _).size))
       clear hb1
       go_wp2_with fail
       ·go_ret
        exact ⟨⟨_,rfl,by omega,by omega⟩,HW.out.trans (HB1.out.mono HW.out.size)⟩
       ·go_roundw
        case rel=>exact ⟨j+1,_,by omega,by go_num,rfl,by omega,.inr (by omega),HB1.out⟩
        case measure=>simp [intOf];omega
      ·go_wp2_with fail
       go_roundw
       case rel=>exact ⟨k+1,n2,by omega,by go_num,rfl,by omega,by omega,hbw⟩
       case measure=>simp [intOf];omega
    ·have z3:wr.cell? ⟨w.heap.size,3,none⟩=some (.slice A2 r.exprs.length c2):=(ja hbw _ _ xsz).trans x3
     have hn2:n≤160737488351232+101*(r.head.terms.length:Int):=by omega
     clear hn1
     go_wp2_with fail
     clear z3 hk hlt
     go_loopw [3,66] (fun v i wr=>∃(k:Nat) (n:Int),k≤r.exprs.length∧i=.int .i64 k∧v=.int .i64 n∧0≤n∧n≤160737488351232+101*(r.head.terms.length:Int)+k∧Below W.heap.size W wr) (fun _ i _=>r.exprs.length-(intOf i).toNat)
     case atStart=>exact ⟨0,_,zo _,rfl,rfl,hn0,by omega,hbw⟩
     case round=>
      clear hbw hn0 hn2
      obtain ⟨k,n,hk,rfl,rfl,hn0,hn1,hbw⟩:=hrel
      by_cases hlt:k<r.exprs.length
      ·obtain ⟨b,off,rfl,hb⟩:=HLW2.out.base hbw hBW (by omega)
       obtain ⟨p,vs,hx,hlen,hcell,hr⟩:=HLW2.out.at0 hbw hBW hlt
       obtain ⟨_,rfl,A',c',rfl,hc1,hc2,hl'⟩:=hr
       simp only [OpR] at hc2
       have c0:wr.cell? ⟨b,off+k*1,none⟩=some (.slice A' p.length c'):=hcell 0 _ rfl
       rw [Nat.mul_one] at c0
       have hszr:=hbw.size
       have HB:=zl (fun o:Obj=>hbw.alloc hszr o)
       clear hcell hlen hx
       go_wp2_with fail
       have hn3:n+(1+(p.length:Int))≤160737488351232+101*(r.head.terms.length:Int)+k+(1+(p.length:Int)):=by omega
       have hbw2:Below W.heap.size W (wr.alloc (.cells #[.slice A' p.length c'] 59)):=HB.out _
       generalize (wr.alloc (.cells #[.slice A' p.length c'] 59))=W2 at *
       go_loopw [3,79] (fun v i wr2=>∃(j:Nat) (n2:Int),j≤p.length∧i=.int .i64 j∧v=.int .i64 n2∧0≤n2∧((j=0∧n2=n+(1+(p.length:Int)))∨n2≤400)∧Below W.heap.size W wr2) (fun _ i _=>p.length-(intOf i).toNat)
       case atStart=>exact ⟨0,_,zo _,rfl,rfl,by omega,.inl ⟨rfl,rfl⟩,hbw2⟩
       case round=>
        clear hbw2 hbw hszr c0 HB
        obtain ⟨j,n2,hj,rfl,rfl,hn20,hn21,hbw⟩:=hrel
        by_cases hlt2:j<p.length
        ·obtain ⟨b',off',rfl,hb'⟩:=hl'.base hbw hBW (by omega)
         obtain ⟨o,vs,hx,hlen,hcell,hr⟩:=hl'.at_ hbw hBW hlt2
         obtain ⟨ts,rfl,i1,i2,i3,ht⟩:=hr
         have hr:=ht
         obtain ⟨Ax,cx,rfl,g1,g2,g3,g4,g5,hrl⟩:=RTm.cells ht
         have c0:wr.cell? ⟨b',off'+j*7,none⟩=some (.int .i64 o.kind):=hcell 0 _ rfl
         have c1:wr.cell? ⟨b',off'+j*7+1,none⟩=some (.int .i64 o.term.kind):=hcell 1 _ rfl
         have c2:wr.cell? ⟨b',off'+j*7+2,none⟩=some (.int .i64 o.term.n):=hcell 2 _ rfl
         have c3:wr.cell? ⟨b',off'+j*7+3,none⟩=some (.string o.term.s):=hcell 3 _ rfl
         have c4:wr.cell? ⟨b',off'+j*7+4,none⟩=some (.slice Ax o.term.l.length cx):=hcell 4 _ rfl
         have c5:wr.cell? ⟨b',off'+j*7+5,none⟩=some (.int .i64 o.code):=hcell 5 _ rfl
         have c6:wr.cell? ⟨b',off'+j*7+6,none⟩=some (.int .i64 o.skip):=hcell 6 _ rfl
         have hszr:=hbw.size
         have HB:=zl (fun o:Obj=>hbw.alloc hszr o)
         have HB0:=zl (fun o:Obj=>(zp wr.heap.size wr).alloc (zn _) o)
         have HR:=zl hr
         clear hcell hlen hx hr
         go_wp2_with fail
         refine (gX (d:=d) (B:=B) (t:=o.term) (vs:=[_,_,_,_]) ((TmR d).keep (HB0.out _) (zm hBW hszr) HR.out) (zm hBW (HB.out _).size)).mono ?_
         rintro e w1 ⟨⟨m,rfl,hm0,hm1⟩,hb1⟩
         have HB1:=zl ((HB.out _).trans (hb1.mono (HB.out _).size))
         clear hb1
         go_wp2_with fail
         ·go_ret
          exact ⟨⟨_,rfl,by omega,by omega⟩,HW.out.trans (HB1.out.mono HW.out.size)⟩
         ·go_roundw
          case rel=>exact ⟨j+1,_,by omega,by go_num,rfl,by omega,.inr (by omega),HB1.out⟩
          case measure=>simp [intOf];omega
        ·go_wp2_with fail
         go_roundw
         case rel=>exact ⟨k+1,n2,by omega,by go_num,rfl,by omega,by omega,hbw⟩
         case measure=>simp [intOf];omega
      ·go_wp2_with fail
       go_ret
       exact ⟨⟨_,rfl,by omega,by omega⟩,HW.out.trans (hbw.mono HW.out.size)⟩
theorem gG {d B:Nat} {r:Ru} {vs:List Value} {w:World} (hr:(RuR d).rd w B r vs) (hB:B≤w.heap.size) :
 Calls Tryz.prog 48 #[.agg vs.toArray] w fun x w'=>(∃m:Int,x=.returned (.int .i64 m))∧Below w.heap.size w w':=
 (mE hr hB).mono fun _ _ ⟨⟨m,h,_⟩,hb⟩=>⟨⟨m,h⟩,hb⟩
end Go.Proofs.YtdphibjibnffeaaGreat
