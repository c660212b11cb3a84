/- slices.Clone at texts; join.copied. -/
import Derived.Test.YtjpndglegpcdnaaGreatStab
import Derived.Test.YtjpndglegpcdnaaGreatAn1
import Derived.Test.YtjpndglegpcdnaaGreatRule1
set_option linter.unusedVariables false
set_option linter.unusedSimpArgs false
set_option maxRecDepth 100000
set_option maxHeartbeats 8000000
namespace Go.Proofs.YtjpndglegpcdnaaGreat
open Go.ChangeShapes Go.WideShapes Go.ChangeAt Go.RowKit
theorem dh.keep2 {D:Nat} {w w':World} {x:SV} (h:dh D w x) (hb:Below 0 w w') (he:x.t.l≠[]→∀a,x.a=some a→w'.heap[a.block]? = w.heap[a.block]?):dh D w' x:=by
 by_cases hn:x.t.l=[]
 ·obtain ⟨⟨A,c,e,h1,h2,h3,h4,h5,h6⟩,hl⟩:=h
  exact ⟨⟨A,c,e,h1,h2,h3,h4,h5,fun h0=>absurd h0 (by rw [hn];simp)⟩,hl⟩
 ·exact h.keep hb (he hn)
structure StkB (base B D:Nat) (w:World) (xs:List SV) (A:Option Addr) (c:Nat):Prop where
 own:am SvR 29 w base 0 (.slice A xs.length c) xs
 tms:∀x∈xs,dh D w x
 sep:∀x∈xs,x.t.l≠[]→∀a,x.a=some a→∀b,A=some b→a.block≠b.block
 lt:∀x∈xs,x.t.l≠[]→∀a,x.a=some a→(a.block<B∨base≤a.block)∧a.block<w.heap.size
section
variable {base B D c:Nat} {w w' w2:World} {xs:List SV} {x y:SV} {A:Option Addr}
theorem StkB.nil (base B D:Nat) (w:World):StkB base B D w [] none 0:=⟨am.nil _ _ _ _ _,by simp,by simp,by simp⟩
theorem StkB.later (h:StkB base B D w xs A c) (hb:Below w.heap.size w w'):StkB base B D w' xs A c:=
 ⟨h.own.later hb (yp _),fun x hx=>(h.tms x hx).later hb,h.sep,fun x hx hn a ha=>⟨(h.lt x hx hn a ha).1,yr (h.lt x hx hn a ha).2 hb.size⟩⟩
theorem StkB.row (h:StkB base B D w xs A c):∀b,A=some b→base≤b.block∧b.block<w.heap.size:=by
 intro b hb
 subst hb
 obtain ⟨cells,how,_⟩:=h.own
 exact how.lt b.block rfl
theorem StkB.app (h:StkB base B D w xs A c) (hx:dh D w x) (hap:x.t.l≠[]→∀a,x.a=some a→∀b,A=some b→a.block≠b.block) (hlt:x.t.l≠[]→∀a,x.a=some a→(a.block<B∨base≤a.block)∧a.block<w.heap.size) (hbase:base≤w.heap.size)
 {A2:Option Addr} {c2:Nat} (ho:am SvR 29 w2 base 0 (.slice A2 (xs.length+1) c2) (xs++[x])) (hg:w.grownBy w2 (Value.slice A xs.length c).ownBlock) (hf:bC w (.slice A xs.length c) (.slice A2 (xs.length+1) c2)) :
 StkB base B D w2 (xs++[x]) A2 c2∧Below base w w2:=by
 have hb:Below base w w2:=(yq base w).grown hg hbase (fun k hk=>by
  obtain ⟨cells,how,_⟩:=h.own
  exact (how.lt k hk).1)
 have hb0:Below 0 w w2:=hb.mono (yp _)
 have key:∀y,dh D w y→(y.t.l≠[]→∀a,y.a=some a→∀b,A=some b→a.block≠b.block)→(y.t.l≠[]→∀a,y.a=some a→(a.block<B∨base≤a.block)∧a.block<w.heap.size)→dh D w2 y∧(y.t.l≠[]→∀a,y.a=some a→((a.block<B∨base≤a.block)∧a.block<w2.heap.size)∧∀b,A2=some b→a.block≠b.block):=by
  intro y hy hs hl
  refine ⟨hy.keep2 hb0 fun hn a ha=>hg.block _ (hl hn a ha).2 ?_,fun hn a ha=>⟨⟨(hl hn a ha).1,yr (hl hn a ha).2 hb.size⟩,fun b hb2 e=>?_⟩⟩
  ·intro e
   rcases hA:A with _ | b
   ·rw [hA] at e;cases e
   ·rw [hA] at e
    simp only [Value.ownBlock,yz] at e
    exact hs hn a ha b hA e
  ·subst hb2
   rcases hf with hf | ⟨k,hk,hk2⟩
   ·rcases hA:A with _ | a2
    ·rw [hA] at hf;simp [Value.ownBlock] at hf
    ·rw [hA] at hf
     simp only [Value.ownBlock,yz] at hf
     exact hs hn a ha a2 hA (e.trans hf)
   ·simp only [Value.ownBlock,yz] at hk
    have:=(hl hn a ha).2
    omega
 have hall:∀y∈xs++[x],dh D w2 y∧(y.t.l≠[]→∀a,y.a=some a→((a.block<B∨base≤a.block)∧a.block<w2.heap.size)∧∀b,A2=some b→a.block≠b.block):=by
  intro y hy
  rcases List.mem_append.1 hy with h1 | h1
  ·exact key y (h.tms y h1) (h.sep y h1) (h.lt y h1)
  ·rw [List.mem_singleton] at h1
   subst h1
   exact key y hx hap hlt
 refine ⟨⟨?_,fun y hy=>(hall y hy).1,fun y hy hn a ha=>((hall y hy).2 hn a ha).2,fun y hy hn a ha=>((hall y hy).2 hn a ha).1⟩,hb⟩
 rw [yv,List.length_singleton]
 exact ho
theorem StkB.far {g:Nat} (h:StkB base B D w xs A c) (hB:B≤g) (hg:g<base) (i:Nat) (u:Value):StkB base B D (w.setCell ⟨g,i,none⟩ u) xs A c:=
 ⟨h.own.far hg (yp _) u,fun x hx=>(h.tms x hx).keep2 ((yq 0 w).setCell (p:=⟨g,i,none⟩) (yp _) u) fun hn a ha=>Below.heap_setCell w ⟨g,i,none⟩ u a.block (by have:=(h.lt x hx hn a ha).1;show a.block≠g;omega),h.sep,fun x hx hn a ha=>by rw [World.size_setCell];exact h.lt x hx hn a ha⟩
def StkLB (g:Nat) (xs:List SV) (A:Option Addr):Prop:=(∀b,A=some b→b.block<g)∧∀x∈xs,x.t.l≠[]→∀a,x.a=some a→a.block<g
theorem StkB.low {g:Nat} (h:StkB base B D w xs A c) (hg:w.heap.size≤g):StkLB g xs A:=
 ⟨fun b hb=>yr (h.row b hb).2 hg,fun x hx hn a ha=>yr (h.lt x hx hn a ha).2 hg⟩
theorem StkB.up {g:Nat} (h:StkB base B D w xs A c) (hl:StkLB g xs A) (i:Nat) (u:Value):StkB base B D (w.setCell ⟨g,i,none⟩ u) xs A c:=by
 refine ⟨h.own.farN (fun e=>?_) i u,fun x hx=>(h.tms x hx).keep2 ((yq 0 w).setCell (p:=⟨g,i,none⟩) (yp _) u) fun hn a ha=>Below.heap_setCell w ⟨g,i,none⟩ u a.block (by have:=hl.2 x hx hn a ha;show a.block≠g;omega),h.sep,fun x hx hn a ha=>by rw [World.size_setCell];exact h.lt x hx hn a ha⟩
 rcases hA:A with _ | b
 ·rw [hA] at e;cases e
 ·rw [hA] at e
  simp only [Value.ownBlock,yz] at e
  have:=hl.1 b hA
  omega
theorem StkB.reads (h:StkB base B D w xs A c) (hn:xs.length≤1000000):RSl (TmR (D+1)) w w.heap.size (xs.map SV.t) (.slice A xs.length c):=by
 obtain ⟨A3,c3,e3,h1,h2,r3⟩:=h.own.reads (yp _) (by show xs.length*(8*4)≤_;omega)
 simp only [yB] at e3
 obtain ⟨rfl,_,rfl⟩:=e3
 refine ⟨A,c,by rw [yw],by rw [yw];exact h1,⟨by rw [yw];show xs.length*(8*4)≤_;omega,h2.2⟩,?_⟩
 intro h0
 rw [yw] at h0
 obtain ⟨b,off,e,hb,hc⟩:=r3 h0
 refine ⟨b,off,e,hb,fun i hi=>?_⟩
 rw [yw] at hi
 obtain ⟨vs,hl,⟨x,hx,hr⟩,hv⟩:=hc i hi
 obtain rfl:vs=x.cs:=hr
 exact ⟨x.cs,hl,⟨x.t,by rw [List.getElem?_map,hx];rfl,(h.tms x (List.mem_of_getElem? hx)).1⟩,hv⟩
end
theorem sJ:Shallow SvR SV.cs:=⟨Iff.rfl,fun _=>rfl⟩
section
variable {base B D c:Nat} {w w':World} {xs:List SV} {x y:SV} {A:Option Addr} {M:Nat→Prop}
theorem StkB.agree (h:StkB base B D w xs A c) (ha:ak M w w') (hM:∀k,base≤k→¬M k) (hB:∀k,k<B→¬M k):StkB base B D w' xs A c:=
 ⟨h.own.agree ha (fun k hk=>hM k (h.own.lt k hk).1),fun x hx=>(h.tms x hx).keep2 ha.1 fun hn a e=>ha.2 _ (h.lt x hx hn a e).2 (by
  rcases (h.lt x hx hn a e).1 with h1 | h1
  ·exact hB _ h1
  ·exact hM _ h1),h.sep,fun x hx hn a e=>⟨(h.lt x hx hn a e).1,yr (h.lt x hx hn a e).2 ha.size⟩⟩
theorem StkB.lower {b0:Nat} (h:StkB base B D w xs A c) (hb:b0≤base):StkB b0 B D w xs A c:=
 ⟨h.own.lower hb,h.tms,h.sep,fun x hx hn a ha=>⟨(h.lt x hx hn a ha).1.imp id (yn hb),(h.lt x hx hn a ha).2⟩⟩
theorem StkB.new (h:StkB base B D w xs A c) (hn:∀x∈xs,x.t.l≠[]→∀a,x.a=some a→base≤a.block):StkB base 0 D w xs A c:=
 ⟨h.own,h.tms,h.sep,fun x hx hl a ha=>⟨.inr (hn x hx hl a ha),(h.lt x hx hl a ha).2⟩⟩
theorem StkB.of_clone {ts:List Tm} {v:Value} (h:am (TmR (D+1)) 29 w base B v ts) (hB:B≤base) (hBw:B≤w.heap.size) (hl:∀t∈ts,∀u∈t.l,iP u):∃xs A c,xs.map SV.t=ts∧v=.slice A ts.length c∧StkB base B D w xs A c:=by
 obtain ⟨cells,how,hf⟩:=h
 have key:∀i (hi:i<ts.length),∃x:SV,x.t=ts[i]∧(cells.drop (i*4)).take 4=x.cs∧dh D w x∧(x.t.l≠[]→∀a,x.a=some a→a.block<B):=by
  intro i hi
  have hr:RTm w B (D+1) ts[i] ((cells.drop (i*4)).take 4):=hf.2 i hi
  have hr2:=hr
  obtain ⟨A,c,e,h1,h2,h3,h4,h5,h6⟩:=hr
  refine ⟨⟨ts[i],A,c⟩,rfl,e,⟨?_,hl _ (List.getElem_mem hi)⟩,fun hn a ha=>?_⟩
  ·rw [e] at hr2
   exact RTm.more hBw hr2
  ·obtain ⟨b,off,e2,hb,_⟩:=h6 (List.length_pos_iff.2 hn)
   have ha:A=some a:=ha
   rw [ha] at e2
   simp only [yz] at e2
   rw [e2];exact hb
 have hch:∃xs:List SV,xs.length=ts.length∧∀i (hi:i<xs.length) (hi':i<ts.length),xs[i].t=ts[i]∧(cells.drop (i*4)).take 4=xs[i].cs∧dh D w xs[i]∧(xs[i].t.l≠[]→∀a,xs[i].a=some a→a.block<B):=by
  have:∀k,k≤ts.length→∃xs:List SV,xs.length=k∧∀i (hi:i<xs.length) (hi':i<ts.length),xs[i].t=ts[i]∧(cells.drop (i*4)).take 4=xs[i].cs∧dh D w xs[i]∧(xs[i].t.l≠[]→∀a,xs[i].a=some a→a.block<B):=by
   intro k
   induction k with
   | zero=>intro _;exact ⟨[],rfl,fun i hi=>absurd hi (by simp)⟩
   | succ k ih=>
     intro hk
     obtain ⟨xs,hl,hx⟩:=ih (by omega)
     obtain ⟨x,h1⟩:=key k (by omega)
     refine ⟨xs++[x],by simp [hl],fun i hi hi'=>?_⟩
     rcases Nat.lt_or_ge i xs.length with h2 | h2
     ·rw [List.getElem_append_left h2];exact hx i h2 hi'
     ·have h3:i=k:=by rw [yv,List.length_singleton] at hi;omega
      subst h3
      have e:(xs++[x])[i]=x:=by rw [List.getElem_append_right h2];simp
      rw [e];exact h1
  exact this _ (yo _)
 obtain ⟨xs,hlen,hx⟩:=hch
 have hmap:xs.map SV.t=ts:=List.ext_getElem (by simp [hlen]) fun i h1 h2=>by
  rw [List.getElem_map];exact (hx i (by simpa using h1) h2).1
 have hform:∃A c,v=.slice A ts.length c:=by
  rcases how.2 with ⟨h1,h2⟩ | ⟨g,cap,cur,hv,_⟩
  ·exact ⟨none,0,by rw [h1,h2]⟩
  ·exact ⟨_,_,hv⟩
 obtain ⟨A,c,rfl⟩:=hform
 have hlt:=how.lt
 refine ⟨xs,A,c,hmap,rfl,⟨cells,by rw [hlen];exact how,by rw [hlen];exact hf.1,fun i hi=>(hx i hi (hlen▸hi)).2.1⟩,fun x h=>?_,fun x h hn a ha b hb e=>?_,fun x h hn a ha=>?_⟩
 all_goals obtain ⟨i,hi,rfl⟩:=List.getElem_of_mem h
 ·exact (hx i hi (hlen▸hi)).2.2.1
 ·have h1:=(hx i hi (hlen▸hi)).2.2.2 hn a ha
  subst hb
  have h2:=(hlt b.block rfl).1
  omega
 ·have h1:=(hx i hi (hlen▸hi)).2.2.2 hn a ha
  exact ⟨.inl h1,by omega⟩
theorem StkB.setL (h:StkB base B D w xs A c) {i:Nat} (hi:i<xs.length):∃g,A=some ⟨g,0,none⟩∧base≤g∧g<w.heap.size∧xs.length≤c∧c≤9223372036854775807∧(∀i (hi:i<xs.length) j u,(xs[i].cs)[j]? = some u→w.cell? ⟨g,i*4+j,none⟩=some u)∧(∀o,w.frozen? ⟨g,o,none⟩=false) ∧
 ∀y:SV,dh D w y→y.t=xs[i].t→(y.t.l≠[]→∀a,y.a=some a→(a.block<B∨base≤a.block)∧a.block<w.heap.size)→(y.t.l≠[]→∀a,y.a=some a→a.block≠g) →
  StkB base B D (w.setCell ⟨g,i*4+3,none⟩ (.slice y.a y.t.l.length y.c)) (xs.set i y) A c:=by
 obtain ⟨g,c2,e,h1,h2,h3,h4,h5,h6,h7⟩:=h.own.sh sJ (by omega)
 simp only [yB,true_and] at e
 obtain ⟨rfl,rfl⟩:=e
 refine ⟨g,rfl,h2,h1,h3,h4,fun i hi j u hj=>h5 i hi j u hj,h6,fun y hy ht hlt hsep=>?_⟩
 have hne:∀z∈xs,z.t.l≠[]→∀a,z.a=some a→a.block≠g:=fun z hz hn a ha=>h.sep z hz hn a ha _ rfl
 have hk:∀z,dh D w z→(z.t.l≠[]→∀a,z.a=some a→a.block≠g)→dh D (w.setCell ⟨g,i*4+3,none⟩ (.slice y.a y.t.l.length y.c)) z:=fun z hz hn=>hz.keep2 ((yq 0 w).setCell (p:=⟨g,i*4+3,none⟩) (yp _) _) fun h0 a ha=>Below.heap_setCell w ⟨g,i*4+3,none⟩ _ a.block (hn h0 a ha)
 refine ⟨?_,fun z hz=>?_,fun z hz hn a ha b hb=>?_,fun z hz hn a ha=>?_⟩
 ·rw [List.length_set]
  refine h7 i hi 3 _ y (by show 3<4;omega) ?_
  unfold SV.cs
  rw [ht];rfl
 ·rcases List.mem_or_eq_of_mem_set hz with hz | rfl
  ·exact hk z (h.tms z hz) (hne z hz)
  ·exact hk z hy hsep
 ·simp only [yz] at hb
  subst hb
  rcases List.mem_or_eq_of_mem_set hz with hz | rfl
  ·exact hne z hz hn a ha
  ·exact hsep hn a ha
 ·rw [World.size_setCell]
  rcases List.mem_or_eq_of_mem_set hz with hz | rfl
  ·exact h.lt z hz hn a ha
  ·exact hlt hn a ha
end
def du {α:Type} (L:List α) (p:Nat) (x:α):List α:=L.take p++x::L.drop p
section
variable {α:Type} {L:List α} {p k:Nat} {x y:α}
theorem bF (h:p≤L.length):(du L p x).length=L.length+1:=by simp [du];omega
theorem el:y∈du L p x↔y=x∨y∈L:=by
 unfold du
 rw [List.mem_append,List.mem_cons]
 constructor
 ·rintro (h | h | h)
  ·exact .inr (List.mem_of_mem_take h)
  ·exact .inl h
  ·exact .inr (List.mem_of_mem_drop h)
 ·rintro (h | h)
  ·exact .inr (.inl h)
  ·rw [←List.take_append_drop p L,List.mem_append] at h
   rcases h with h | h
   ·exact .inl h
   ·exact .inr (.inr h)
end
section
variable {L:List aW} {t:aW} {k:Nat}
theorem nu:ia L t≤L.length:=List.findIdx_le_length
theorem qm (hk:k<L.length) (h:k<ia L t):L[k]<t:=by
 have:=List.not_of_lt_findIdx h
 simpa using this
theorem sz (hs:L.Pairwise (· < ·)) (hk:k<L.length) (h:ia L t≤k):¬L[k]<t:=by
 have hp:ia L t<L.length:=Nat.lt_of_le_of_lt h hk
 have h0:¬L[ia L t]<t:=by
  have:=List.findIdx_getElem (xs:=L) (p:=fun x=>!decide (x<t)) (w:=hp)
  have h2:(!decide (L[ia L t]<t))=true:=this
  simpa using h2
 rcases Nat.lt_or_eq_of_le h with h1 | h1
 ·intro h2
  exact h0 (List.lt_trans (List.pairwise_iff_getElem.1 hs _ k hp hk h1) h2)
 ·subst h1;exact h0
theorem mC (hs:L.Pairwise (· < ·)) (hk:k<L.length) (e:L[k]=t):ia L t=k:=by
 refine uI (Nat.le_of_lt hk) (fun j hj hjk=>?_) (fun j hj hkj=>?_)
 ·rw [←e];exact List.pairwise_iff_getElem.1 hs j k hj hk hjk
 ·rcases Nat.lt_or_ge k j with h1 | h1
  ·rw [←e]
   exact fun h2=>List.lt_asymm (List.pairwise_iff_getElem.1 hs k j hk hj h1) h2
  ·obtain rfl:j=k:=by omega
   rw [e];exact List.lt_irrefl t
theorem tz {a b:aW} (h1:¬a<b) (h2:a≠b):b<a:=by
 rcases List.le_iff_lt_or_eq.1 (List.not_lt.1 h1) with h | h
 ·exact h
 ·exact absurd h.symm h2
theorem xg (hs:L.Pairwise (· < ·)) (hn:t∉L):(du L (ia L t) t).Pairwise (· < ·):=by
 have hb:∀a∈L.take (ia L t),a<t:=by
  intro a ha
  obtain ⟨i,hi,rfl⟩:=List.getElem_of_mem ha
  rw [yF] at hi
  rw [List.getElem_take]
  exact qm (by omega) (by omega)
 have ha:∀a∈L.drop (ia L t),t<a:=by
  intro a ha
  obtain ⟨i,hi,rfl⟩:=List.getElem_of_mem ha
  rw [List.length_drop] at hi
  rw [List.getElem_drop]
  exact tz (sz hs (by omega) (Nat.le_add_right _ _)) (fun e=>hn (e▸List.getElem_mem _))
 unfold du
 rw [List.pairwise_append]
 refine ⟨hs.take,?_,fun a h1 b h2=>?_⟩
 ·rw [List.pairwise_cons]
  exact ⟨ha,hs.drop⟩
 ·rcases List.mem_cons.1 h2 with rfl | h2
  ·exact hb a h1
  ·exact List.lt_trans (hb a h1) (ha b h2)
end
structure OkN (b:Bd):Prop where
 len:b.names.length=b.terms.length
 rise:b.names.Pairwise (· < ·)
 may:∀n∈b.names,fp n=true
 fixed:∀t∈b.terms,af t=true
theorem dI {b:Bd}:bB b=true↔OkN b∧b.names.length≤32:=by
 constructor
 ·intro h
  obtain ⟨h1,h2⟩:=dJ h
  exact ⟨⟨h1.len,h1.rise,h2,h1.fixed⟩,h1.few⟩
 ·rintro ⟨⟨h1,h2,h3,h4⟩,h5⟩
  unfold bB
  rw [yx,yx,List.all_eq_true]
  refine ⟨⟨decide_eq_true h1,decide_eq_true h5⟩,fun i hi=>?_⟩
  have hi:i<b.names.length:=by simpa using hi
  unfold ic
  rw [yy hi,yy (h1▸hi),yy (show i-1<b.names.length by omega)]
  simp only [h3 _ (List.getElem_mem hi),h4 _ (List.getElem_mem (h1▸hi)),Bool.true_and,Bool.or_eq_true,yC]
  rcases Nat.eq_zero_or_pos i with h | h
  ·exact .inl h
  ·exact .inr (List.pairwise_iff_getElem.1 h2 (i-1) i (by omega) hi (by omega))
theorem OkN.bd {b:Bd} (h:OkN b) (h32:b.names.length≤32):bB b=true:=dI.2 ⟨h,h32⟩
def wD (b:Bd) (n:aW) (t:Tm):Bd:=⟨du b.names (ia b.names n) n,du b.terms (ia b.names n) t⟩
section
variable {b c:Bd} {n m:aW} {t u:Tm}
theorem uc:(wD b n t).names.length=b.names.length+1:=bF nu
theorem OkN.ins (h:OkN b) (hn:n∉b.names) (hm:fp n=true) (ht:af t=true):OkN (wD b n t):=by
 refine ⟨?_,xg h.rise hn,fun a ha=>?_,fun a ha=>?_⟩
 ·rw [uc]
  show _=(du b.terms (ia b.names n) t).length
  rw [bF (h.len▸nu),h.len]
 ·rcases el.1 ha with rfl | ha
  ·exact hm
  ·exact h.may a ha
 ·rcases el.1 ha with rfl | ha
  ·exact ht
  ·exact h.fixed a ha
theorem rc (h:OkN b):cT b m=some u↔∃k:Nat,b.names[k]? = some m∧b.terms[k]? = some u:=by
 constructor
 ·intro e
  unfold cT at e
  split at e
  ·rename_i hm
   obtain ⟨k,hk,hkm⟩:=List.getElem_of_mem hm
   have hp:=mC h.rise hk hkm
   exact ⟨k,by rw [yy hk,hkm],by rw [←hp];exact e⟩
  ·cases e
 ·rintro ⟨k,h1,h2⟩
  obtain ⟨hk,hkm⟩:=List.getElem?_eq_some_iff.1 h1
  unfold cT
  rw [if_pos (hkm▸List.getElem_mem hk),mC h.rise hk hkm]
  exact h2
theorem ut (h:OkN b):cT b m=none↔m∉b.names:=by
 constructor
 ·intro e hm
  obtain ⟨k,hk,hkm⟩:=List.getElem_of_mem hm
  have:cT b m=some (b.terms[k]'(h.len▸hk)):=(rc h).2 ⟨k,by rw [yy hk,hkm],yy _⟩
  rw [e] at this;cases this
 ·intro hm;unfold cT;rw [if_neg hm]
theorem mr (h:OkN b) (e:cT b m=some u):af u=true:=by
 obtain ⟨k,_,h2⟩:=(rc h).1 e
 exact h.fixed u (List.mem_of_getElem? h2)
end
def vF (b:Bd) (x y:Tm):Option Bd:=
 if x.kind=1 then (match cT b (bs x.s) with | some z=>if hJ z y=true then some b else none | none=>some (wD b (bs x.s) y))
 else if hJ x y=true then some b else none
def tM:List Tm→List Tm→Bd→Option Bd
 | x::xs,y::ys,b=>match vF b x y with | some c=>tM xs ys c | none=>none
 | _,_,b=>some b
def okB (r:Option Bd):Option Bd:=match r with | some c=>if bB c=true then some c else none | none=>none
def gF (p f:Pr) (b:Bd):Option Bd:=
 if p.name=f.name∧p.terms.length=f.terms.length then okB (tM p.terms f.terms b) else none
def mZ (b:Bd) (x:Tm):Option Tm:=if x.kind=1 then cT b (bs x.s) else some x
def gD (b:Bd):List Tm→Option (List Tm)
 | []=>some []
 | x::xs=>match mZ b x with | some z=>(match gD b xs with | some zs=>some (z::zs) | none=>none) | none=>none
def gE (p:Pr) (b:Bd):Option Pr:=if aB p=true∧bB b=true then (match gD b p.terms with | some zs=>some ⟨p.name,zs⟩ | none=>none) else none
def ri (c:Bd) (x y:Tm):Prop:=if x.kind=1 then ∃z,cT c (bs x.s)=some z∧hJ z y=true else hJ x y=true
def Keeps (b c:Bd):Prop:=∀m u,cT b m=some u→cT c m=some u
theorem wO {x:Tm} (h:kc x=true) (h1:x.kind=1):fp (bs x.s)=true:=by
 unfold kc at h
 rw [if_neg (by rw [h1];decide)] at h
 unfold ew at h
 simp [h1] at h
 exact h.2.2
section
variable {b c:Bd} {x y:Tm}
theorem ri.keep (h:ri b x y) (hk:Keeps b c):ri c x y:=by
 unfold ri at h ⊢
 split
 ·rename_i h1
  rw [if_pos h1] at h
  obtain ⟨z,h2,h3⟩:=h
  exact ⟨z,hk _ _ h2,h3⟩
 ·rename_i h1
  rw [if_neg h1] at h
  exact h
end
theorem oq {xs ys:List Tm} {k:Nat} {b:Bd} (h1:k<xs.length) (h2:k<ys.length):tM (xs.drop k) (ys.drop k) b=match vF b xs[k] ys[k] with | some c=>tM (xs.drop (k+1)) (ys.drop (k+1)) c | none=>none:=by
 rw [List.drop_eq_getElem_cons h1,List.drop_eq_getElem_cons h2]
 rfl
theorem wl {xs ys:List Tm} {b:Bd} (k:Nat) (h1:xs.length≤k):tM (xs.drop k) (ys.drop k) b=some b:=by
 rw [List.drop_eq_nil_of_le h1]
 unfold tM;rfl
theorem fO {p:Pr} (h:aB p=true):p.terms.length≤8∧∀x∈p.terms,kc x=true:=by
 unfold aB at h
 simp only [yx,yC,List.all_eq_true] at h
 exact h.2
theorem rT {p:Pr} (h:gr p=true):aB p=true∧∀x∈p.terms,af x=true:=by
 unfold gr at h
 simp only [yx,yC,List.all_eq_true] at h
 exact ⟨h.1,h.2.2⟩
theorem jX:(Tryz.prog.info? 9).map (fun i=>(i.zero,i.size,i.bytes))=some (some (.string ⟨#[]⟩),1,16):=by kernel_rfl
theorem cC:dz cR:=fun h u hu=>by
 obtain ⟨rfl,_⟩:=h
 simp only [List.mem_cons,List.not_mem_nil,or_false] at hu
 subst hu;rfl
theorem nT {B c:Nat} {xs:List ByteArray} {A:Option Addr} {w:World} (hl:RL cR w B xs A) (hB:B≤w.heap.size) (hn:xs.length*16≤140737488351232) :
 Calls Tryz.prog 152 #[.slice A xs.length c] w fun e w'=>(∃v,e=.returned v∧am cR 9 w' w.heap.size B v xs)∧Below w.heap.size w w':=by
 obtain ⟨i0,hi0,hz0,hz1,hz2⟩:=info_parts jX
 have hsrc:=ym (hl.keep ((yq w.heap.size w).alloc (yo _) (.cells #[] 9)) hB).src
 have hown:=ym (am.empty (base:=w.heap.size) cR 9 (w:=w.alloc (.cells #[] 9)) (b:=w.heap.size) (heap_alloc_new w _) (yo _) B)
 have HA:=ym ((yq w.heap.size w).alloc (yo _) (.cells #[] 9))
 rcases A with _ | a
 ·have h0:xs=[]:=by
   rcases xs with _ | ⟨x,xs⟩
   ·rfl
   ·obtain ⟨_,_,e,_⟩:=hl (by simp)
    cases e
  subst h0
  clear hl
  have he:∀wx:World,(binOp BinOp.eql 112 (.slice none 0 c) (.slice none 0 0)).run Tryz.prog wx=.ok (.bool true) wx:=fun wx=>jv 112 9 0 c Tryz.underlying112 wx
  go_enter Tryz.func152,Tryz.ntmps152
  go_wp2_with fail
  go_ret
  exact ⟨⟨_,rfl,am.nil _ _ _ _ _⟩,yq _ _⟩
 ·clear hl
  have he:∀wx:World,(binOp BinOp.eql 112 (.slice (some a) xs.length c) (.slice none 0 0)).run Tryz.prog wx=.ok (.bool false) wx:=fun wx=>il 112 9 a xs.length c Tryz.underlying112 wx
  go_enter Tryz.func152,Tryz.ntmps152
  go_wp2_with ((
   at_builtin
   refine aq (R:=cR) (e:=9) rfl (.tmp 5) (.tmp 6) 112 rfl (bytes:=16) Tryz.underlying112 hi0 hz0 hz1 hz2 rfl (show 0<1 by omega) cC rfl hown.out rfl hsrc.out rfl hB (by simp only [List.length_nil];omega) (by omega) HA.out.size ?_
   intro v1 w1 hown1 hb1
   have HO:=ym hown1
   have HB1:=ym (HA.out.trans hb1)
   clear hown1 hb1))
  go_ret
  exact ⟨⟨_,rfl,HO.out⟩,HB1.out⟩
end Go.Proofs.YtjpndglegpcdnaaGreat
