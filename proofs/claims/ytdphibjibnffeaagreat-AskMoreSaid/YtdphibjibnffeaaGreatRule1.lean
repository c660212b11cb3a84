/- rule.MayPred, MayFact, MayScope. -/
import Derived.Test.YtdphibjibnffeaaGreatStab
import Derived.Test.YtdphibjibnffeaaGreatOwn
set_option linter.unusedVariables false
set_option linter.unusedSimpArgs false
set_option maxRecDepth 100000
set_option maxHeartbeats 8000000
namespace Go.Proofs.YtdphibjibnffeaaGreat
open Go.ChangeShapes Go.WideShapes Go.ChangeAt Go.RowKit
theorem dl.keep2 {D:Nat} {w w':World} {x:SV} (h:dl D w x) (hb:Below 0 w w') (he:x.t.l≠[]→∀a,x.a=some a→w'.heap[a.block]? = w.heap[a.block]?):dl D w' x:=by
 by_cases hn:x.t.l=[]
 ·obtain ⟨⟨A,c,e,h1,h2,h3,h4,h5,h6⟩,hl⟩:=h
  exact ⟨⟨A,c,e,h1,h2,h3,h4,h5,fun h0=>absurd h0 (by rw [hn];simp)⟩,hl⟩
 ·exact h.keep hb (he hn)
structure StkB (base B D:Nat) (w:World) (xs:List SV) (A:Option Addr) (c:Nat):Prop where
 own:am SvR 79 w base 0 (.slice A xs.length c) xs
 tms:∀x∈xs,dl D w x
 sep:∀x∈xs,x.t.l≠[]→∀a,x.a=some a→∀b,A=some b→a.block≠b.block
 lt:∀x∈xs,x.t.l≠[]→∀a,x.a=some a→(a.block<B∨base≤a.block)∧a.block<w.heap.size
section
variable {base B D c:Nat} {w w' w2:World} {xs:List SV} {x y:SV} {A:Option Addr}
theorem StkB.nil (base B D:Nat) (w:World):StkB base B D w [] none 0:=⟨am.nil _ _ _ _ _,by simp,by simp,by simp⟩
theorem StkB.later (h:StkB base B D w xs A c) (hb:Below w.heap.size w w'):StkB base B D w' xs A c:=
 ⟨h.own.later hb (yZ _),fun x hx=>(h.tms x hx).later hb,h.sep,fun x hx hn a ha=>⟨(h.lt x hx hn a ha).1,zb (h.lt x hx hn a ha).2 hb.size⟩⟩
theorem StkB.row (h:StkB base B D w xs A c):∀b,A=some b→base≤b.block∧b.block<w.heap.size:=by
 intro b hb
 subst hb
 obtain ⟨cells,how,_⟩:=h.own
 exact how.lt b.block rfl
theorem StkB.app (h:StkB base B D w xs A c) (hx:dl D w x) (hap:x.t.l≠[]→∀a,x.a=some a→∀b,A=some b→a.block≠b.block) (hlt:x.t.l≠[]→∀a,x.a=some a→(a.block<B∨base≤a.block)∧a.block<w.heap.size) (hbase:base≤w.heap.size)
 {A2:Option Addr} {c2:Nat} (ho:am SvR 79 w2 base 0 (.slice A2 (xs.length+1) c2) (xs++[x])) (hg:w.grownBy w2 (Value.slice A xs.length c).ownBlock) (hf:bl w (.slice A xs.length c) (.slice A2 (xs.length+1) c2)) :
 StkB base B D w2 (xs++[x]) A2 c2∧Below base w w2:=by
 have hb:Below base w w2:=(za base w).grown hg hbase (fun k hk=>by
  obtain ⟨cells,how,_⟩:=h.own
  exact (how.lt k hk).1)
 have hb0:Below 0 w w2:=hb.mono (yZ _)
 have key:∀y,dl D w y→(y.t.l≠[]→∀a,y.a=some a→∀b,A=some b→a.block≠b.block)→(y.t.l≠[]→∀a,y.a=some a→(a.block<B∨base≤a.block)∧a.block<w.heap.size)→dl D w2 y∧(y.t.l≠[]→∀a,y.a=some a→((a.block<B∨base≤a.block)∧a.block<w2.heap.size)∧∀b,A2=some b→a.block≠b.block):=by
  intro y hy hs hl
  refine ⟨hy.keep2 hb0 fun hn a ha=>hg.block _ (hl hn a ha).2 ?_,fun hn a ha=>⟨⟨(hl hn a ha).1,zb (hl hn a ha).2 hb.size⟩,fun b hb2 e=>?_⟩⟩
  ·intro e
   rcases hA:A with _ | b
   ·rw [hA] at e;cases e
   ·rw [hA] at e
    simp only [Value.ownBlock,Option.some.injEq] at e
    exact hs hn a ha b hA e
  ·subst hb2
   rcases hf with hf | ⟨k,hk,hk2⟩
   ·rcases hA:A with _ | a2
    ·rw [hA] at hf;simp [Value.ownBlock] at hf
    ·rw [hA] at hf
     simp only [Value.ownBlock,Option.some.injEq] at hf
     exact hs hn a ha a2 hA (e.trans hf)
   ·simp only [Value.ownBlock,Option.some.injEq] at hk
    have:=(hl hn a ha).2
    omega
 have hall:∀y∈xs++[x],dl D w2 y∧(y.t.l≠[]→∀a,y.a=some a→((a.block<B∨base≤a.block)∧a.block<w2.heap.size)∧∀b,A2=some b→a.block≠b.block):=by
  intro y hy
  rcases List.mem_append.1 hy with h1 | h1
  ·exact key y (h.tms y h1) (h.sep y h1) (h.lt y h1)
  ·rw [List.mem_singleton] at h1
   subst h1
   exact key y hx hap hlt
 refine ⟨⟨?_,fun y hy=>(hall y hy).1,fun y hy hn a ha=>((hall y hy).2 hn a ha).2,fun y hy hn a ha=>((hall y hy).2 hn a ha).1⟩,hb⟩
 rw [List.length_append,List.length_singleton]
 exact ho
theorem StkB.far {g:Nat} (h:StkB base B D w xs A c) (hB:B≤g) (hg:g<base) (i:Nat) (u:Value):StkB base B D (w.setCell ⟨g,i,none⟩ u) xs A c:=
 ⟨h.own.far hg (yZ _) u,fun x hx=>(h.tms x hx).keep2 ((za 0 w).setCell (p:=⟨g,i,none⟩) (yZ _) u) fun hn a ha=>Below.heap_setCell w ⟨g,i,none⟩ u a.block (by have:=(h.lt x hx hn a ha).1;show a.block≠g;omega),h.sep,fun x hx hn a ha=>by rw [World.size_setCell];exact h.lt x hx hn a ha⟩
def StkLB (g:Nat) (xs:List SV) (A:Option Addr):Prop:=(∀b,A=some b→b.block<g)∧∀x∈xs,x.t.l≠[]→∀a,x.a=some a→a.block<g
theorem StkB.low {g:Nat} (h:StkB base B D w xs A c) (hg:w.heap.size≤g):StkLB g xs A:=
 ⟨fun b hb=>zb (h.row b hb).2 hg,fun x hx hn a ha=>zb (h.lt x hx hn a ha).2 hg⟩
theorem StkB.up {g:Nat} (h:StkB base B D w xs A c) (hl:StkLB g xs A) (i:Nat) (u:Value):StkB base B D (w.setCell ⟨g,i,none⟩ u) xs A c:=by
 refine ⟨h.own.farN (fun e=>?_) i u,fun x hx=>(h.tms x hx).keep2 ((za 0 w).setCell (p:=⟨g,i,none⟩) (yZ _) u) fun hn a ha=>Below.heap_setCell w ⟨g,i,none⟩ u a.block (by have:=hl.2 x hx hn a ha;show a.block≠g;omega),h.sep,fun x hx hn a ha=>by rw [World.size_setCell];exact h.lt x hx hn a ha⟩
 rcases hA:A with _ | b
 ·rw [hA] at e;cases e
 ·rw [hA] at e
  simp only [Value.ownBlock,Option.some.injEq] at e
  have:=hl.1 b hA
  omega
theorem StkB.reads (h:StkB base B D w xs A c) (hn:xs.length≤1000000):RSl (TmR (D+1)) w w.heap.size (xs.map SV.t) (.slice A xs.length c):=by
 obtain ⟨A3,c3,e3,h1,h2,r3⟩:=h.own.reads (yZ _) (by show xs.length*(8*4)≤_;omega)
 simp only [Value.slice.injEq] at e3
 obtain ⟨rfl,_,rfl⟩:=e3
 refine ⟨A,c,by rw [List.length_map],by rw [List.length_map];exact h1,⟨by rw [List.length_map];show xs.length*(8*4)≤_;omega,h2.2⟩,?_⟩
 intro h0
 rw [List.length_map] at h0
 obtain ⟨b,off,e,hb,hc⟩:=r3 h0
 refine ⟨b,off,e,hb,fun i hi=>?_⟩
 rw [List.length_map] at hi
 obtain ⟨vs,hl,⟨x,hx,hr⟩,hv⟩:=hc i hi
 obtain rfl:vs=x.cs:=hr
 exact ⟨x.cs,hl,⟨x.t,by rw [List.getElem?_map,hx];rfl,(h.tms x (List.mem_of_getElem? hx)).1⟩,hv⟩
end
theorem sZ:Shallow SvR SV.cs:=⟨Iff.rfl,fun _=>rfl⟩
section
variable {base B D c:Nat} {w w':World} {xs:List SV} {x y:SV} {A:Option Addr} {M:Nat→Prop}
theorem StkB.agree (h:StkB base B D w xs A c) (ha:aw M w w') (hM:∀k,base≤k→¬M k) (hB:∀k,k<B→¬M k):StkB base B D w' xs A c:=
 ⟨h.own.agree ha (fun k hk=>hM k (h.own.lt k hk).1),fun x hx=>(h.tms x hx).keep2 ha.1 fun hn a e=>ha.2 _ (h.lt x hx hn a e).2 (by
  rcases (h.lt x hx hn a e).1 with h1 | h1
  ·exact hB _ h1
  ·exact hM _ h1),h.sep,fun x hx hn a e=>⟨(h.lt x hx hn a e).1,zb (h.lt x hx hn a e).2 ha.size⟩⟩
theorem StkB.lower {b0:Nat} (h:StkB base B D w xs A c) (hb:b0≤base):StkB b0 B D w xs A c:=
 ⟨h.own.lower hb,h.tms,h.sep,fun x hx hn a ha=>⟨(h.lt x hx hn a ha).1.imp id (yX hb),(h.lt x hx hn a ha).2⟩⟩
theorem StkB.new (h:StkB base B D w xs A c) (hn:∀x∈xs,x.t.l≠[]→∀a,x.a=some a→base≤a.block):StkB base 0 D w xs A c:=
 ⟨h.own,h.tms,h.sep,fun x hx hl a ha=>⟨.inr (hn x hx hl a ha),(h.lt x hx hl a ha).2⟩⟩
theorem StkB.of_clone {ts:List Tm} {v:Value} (h:am (TmR (D+1)) 79 w base B v ts) (hB:B≤base) (hBw:B≤w.heap.size) (hl:∀t∈ts,∀u∈t.l,lU u):∃xs A c,xs.map SV.t=ts∧v=.slice A ts.length c∧StkB base B D w xs A c:=by
 obtain ⟨cells,how,hf⟩:=h
 have key:∀i (hi:i<ts.length),∃x:SV,x.t=ts[i]∧(cells.drop (i*4)).take 4=x.cs∧dl D w x∧(x.t.l≠[]→∀a,x.a=some a→a.block<B):=by
  intro i hi
  have hr:RTm w B (D+1) ts[i] ((cells.drop (i*4)).take 4):=hf.2 i hi
  have hr2:=hr
  obtain ⟨A,c,e,h1,h2,h3,h4,h5,h6⟩:=hr
  refine ⟨⟨ts[i],A,c⟩,rfl,e,⟨?_,hl _ (List.getElem_mem hi)⟩,fun hn a ha=>?_⟩
  ·rw [e] at hr2
   exact RTm.more hBw hr2
  ·obtain ⟨b,off,e2,hb,_⟩:=h6 (List.length_pos_iff.2 hn)
   have ha:A=some a:=ha
   rw [ha] at e2
   simp only [Option.some.injEq] at e2
   rw [e2];exact hb
 have hch:∃xs:List SV,xs.length=ts.length∧∀i (hi:i<xs.length) (hi':i<ts.length),xs[i].t=ts[i]∧(cells.drop (i*4)).take 4=xs[i].cs∧dl D w xs[i]∧(xs[i].t.l≠[]→∀a,xs[i].a=some a→a.block<B):=by
  have:∀k,k≤ts.length→∃xs:List SV,xs.length=k∧∀i (hi:i<xs.length) (hi':i<ts.length),xs[i].t=ts[i]∧(cells.drop (i*4)).take 4=xs[i].cs∧dl D w xs[i]∧(xs[i].t.l≠[]→∀a,xs[i].a=some a→a.block<B):=by
   intro k
   induction k with
   | zero=>intro _;exact ⟨[],rfl,fun i hi=>absurd hi (by simp)⟩
   | succ k ih=>
     intro hk
     obtain ⟨xs,hl,hx⟩:=ih (by omega)
     obtain ⟨x,h1⟩:=key k (by omega)
     refine ⟨xs++[x],by simp [hl],fun i hi hi'=>?_⟩
     rcases Nat.lt_or_ge i xs.length with h2 | h2
     ·rw [List.getElem_append_left h2];exact hx i h2 hi'
     ·have h3:i=k:=by rw [List.length_append,List.length_singleton] at hi;omega
      subst h3
      have e:(xs++[x])[i]=x:=by rw [List.getElem_append_right h2];simp
      rw [e];exact h1
  exact this _ (yY _)
 obtain ⟨xs,hlen,hx⟩:=hch
 have hmap:xs.map SV.t=ts:=List.ext_getElem (by simp [hlen]) fun i h1 h2=>by
  rw [List.getElem_map];exact (hx i (by simpa using h1) h2).1
 have hform:∃A c,v=.slice A ts.length c:=by
  rcases how.2 with ⟨h1,h2⟩ | ⟨g,cap,cur,hv,_⟩
  ·exact ⟨none,0,by rw [h1,h2]⟩
  ·exact ⟨_,_,hv⟩
 obtain ⟨A,c,rfl⟩:=hform
 have hlt:=how.lt
 refine ⟨xs,A,c,hmap,rfl,⟨cells,by rw [hlen];exact how,by rw [hlen];exact hf.1,fun i hi=>(hx i hi (hlen▸hi)).2.1⟩,fun x h=>?_,fun x h hn a ha b hb e=>?_,fun x h hn a ha=>?_⟩
 all_goals obtain ⟨i,hi,rfl⟩:=List.getElem_of_mem h
 ·exact (hx i hi (hlen▸hi)).2.2.1
 ·have h1:=(hx i hi (hlen▸hi)).2.2.2 hn a ha
  subst hb
  have h2:=(hlt b.block rfl).1
  omega
 ·have h1:=(hx i hi (hlen▸hi)).2.2.2 hn a ha
  exact ⟨.inl h1,by omega⟩
theorem StkB.setL (h:StkB base B D w xs A c) {i:Nat} (hi:i<xs.length):∃g,A=some ⟨g,0,none⟩∧base≤g∧g<w.heap.size∧xs.length≤c∧c≤9223372036854775807∧(∀i (hi:i<xs.length) j u,(xs[i].cs)[j]? = some u→w.cell? ⟨g,i*4+j,none⟩=some u)∧(∀o,w.frozen? ⟨g,o,none⟩=false) ∧
 ∀y:SV,dl D w y→y.t=xs[i].t→(y.t.l≠[]→∀a,y.a=some a→(a.block<B∨base≤a.block)∧a.block<w.heap.size)→(y.t.l≠[]→∀a,y.a=some a→a.block≠g) →
  StkB base B D (w.setCell ⟨g,i*4+3,none⟩ (.slice y.a y.t.l.length y.c)) (xs.set i y) A c:=by
 obtain ⟨g,c2,e,h1,h2,h3,h4,h5,h6,h7⟩:=h.own.sh sZ (by omega)
 simp only [Value.slice.injEq,true_and] at e
 obtain ⟨rfl,rfl⟩:=e
 refine ⟨g,rfl,h2,h1,h3,h4,fun i hi j u hj=>h5 i hi j u hj,h6,fun y hy ht hlt hsep=>?_⟩
 have hne:∀z∈xs,z.t.l≠[]→∀a,z.a=some a→a.block≠g:=fun z hz hn a ha=>h.sep z hz hn a ha _ rfl
 have hk:∀z,dl D w z→(z.t.l≠[]→∀a,z.a=some a→a.block≠g)→dl D (w.setCell ⟨g,i*4+3,none⟩ (.slice y.a y.t.l.length y.c)) z:=fun z hz hn=>hz.keep2 ((za 0 w).setCell (p:=⟨g,i*4+3,none⟩) (yZ _) _) fun h0 a ha=>Below.heap_setCell w ⟨g,i*4+3,none⟩ _ a.block (hn h0 a ha)
 refine ⟨?_,fun z hz=>?_,fun z hz hn a ha b hb=>?_,fun z hz hn a ha=>?_⟩
 ·rw [List.length_set]
  refine h7 i hi 3 _ y (by show 3<4;omega) ?_
  unfold SV.cs
  rw [ht];rfl
 ·rcases List.mem_or_eq_of_mem_set hz with hz | rfl
  ·exact hk z (h.tms z hz) (hne z hz)
  ·exact hk z hy hsep
 ·simp only [Option.some.injEq] at hb
  subst hb
  rcases List.mem_or_eq_of_mem_set hz with hz | rfl
  ·exact hne z hz hn a ha
  ·exact hsep hn a ha
 ·rw [World.size_setCell]
  rcases List.mem_or_eq_of_mem_set hz with hz | rfl
  ·exact h.lt z hz hn a ha
  ·exact hlt hn a ha
end
theorem gZ  (F:FuncId) (cap:Array Value) (p:ByteArray→Bool) (xs:List ByteArray) (A:Option Addr) (c B:Nat) (w:World)
 (hF:∀args (w:World),(callFunc F args).run Tryz.prog w=.ok (.enter F args) w) (hl:RL (cX) w B xs A) (hB:B≤w.heap.size) (hn:xs.length≤140737488351232)
 (ht:bP Tryz.prog (cX) yO B w F cap p) :
 Calls Tryz.prog 222 #[.slice A xs.length c,.func (.func F) #[] cap] w fun e w'=>e=.returned (.int .i64 (uE p xs))∧Below w.heap.size w w':=by
 have HT:=yW ht
 clear ht
 have hRk:(cX).k=1:=rfl
 go_enter Tryz.func222,Tryz.ntmps222
 go_wp2_with fail
 go_loopw [8] (fun i wr=>∃k:Nat,k≤xs.length∧i=.int .i64 k∧Below w.heap.size w wr∧∀i (hi:i<xs.length),i<k→p xs[i]=false) (fun i _=>xs.length-(intOf i).toNat)
 case atStart=>exact ⟨0,yZ _,rfl,za _ _,fun i hi h=>absurd h (by omega)⟩
 case round=>
  obtain ⟨k,hk,rfl,hbw,hall⟩:=hrel
  have HA:=yW hall
  clear hall
  by_cases hlt:k<xs.length
  ·obtain ⟨b,off,rfl,hb⟩:=hl.base hbw hB (by omega)
   obtain ⟨x,vs,hx,hlen,hcell,hr⟩:=hl.at_ hbw hB hlt
   rw [hRk] at hlen hcell
   obtain ⟨v0,rfl⟩:∃v0,vs=[v0]:=by
    match vs,hlen with
    | [v0],_=>exact ⟨_,rfl⟩
   have c0:wr.cell? ⟨b,off+k,none⟩=some v0:=by simpa using hcell 0 _ rfl
   have hsz:=hbw.size
   have HX:=yW hx
   clear hcell hlen hx
   go_wp2_with fail
   refine (HT.out x [v0] _ hbw hr).mono ?_
   rintro e w1 ⟨rfl,hb1⟩
   have hbw1:=yW (hbw.trans (hb1.mono hsz))
   clear hb1
   have hxe:xs[k]=x:=(List.getElem?_eq_some_iff.1 HX.out).2
   have HXE:=yW hxe
   clear hxe
   by_cases hp:p x=true
   ·go_wp2_with fail
    go_ret
    exact ⟨ar (fQ hlt (by rw [HXE.out];exact hp) (fun i hi=>HA.out i (by omega) hi)).symm,hbw1.out⟩
   ·have hp:p x=false:=by simpa using hp
    go_wp2_with fail
    go_roundw
    case rel=>exact ⟨k+1,by omega,by go_num,hbw1.out,fun i hi h=>by
     rcases Nat.lt_or_ge i k with h1 | h1
     ·exact HA.out i hi h1
     ·obtain rfl:i=k:=by omega
      rw [HXE.out];exact hp⟩
    case measure=>simp [intOf];omega
  ·go_wp2_with fail
   go_ret
   exact ⟨ar (fO (fun i hi=>HA.out i hi (by omega))).symm,hbw⟩
theorem fu  (F:FuncId) (cap:Array Value) (p:ByteArray→Bool) (xs:List ByteArray) (A:Option Addr) (c B:Nat) (w:World)
 (hF:∀args (w:World),(callFunc F args).run Tryz.prog w=.ok (.enter F args) w) (hl:RL (cX) w B xs A) (hB:B≤w.heap.size) (hn:xs.length≤140737488351232)
 (ht:bP Tryz.prog (cX) yO B w F cap p) :
 Calls Tryz.prog 165 #[.slice A xs.length c,.func (.func F) #[] cap] w fun e w'=>e=.returned (.bool (xs.any p))∧Below w.heap.size w w':=by
 have HT:=yW ht
 clear ht
 go_enter Tryz.func165,Tryz.ntmps165
 go_wp2_with (go_at_call 222;refine (gZ  F cap p xs A c B w hF hl hB hn HT.out).mono ?_;rintro e w1 ⟨rfl,hb1⟩)
 go_ret
 exact ⟨ac (iw p xs),hb1⟩
theorem jf (d:Nat) (F:FuncId) (cap:Array Value) (p:Pr→Bool) (xs:List Pr) (A:Option Addr) (c B:Nat) (w:World)
 (hF:∀args (w:World),(callFunc F args).run Tryz.prog w=.ok (.enter F args) w) (hl:RL (PrR d) w B xs A) (hB:B≤w.heap.size) (hn:xs.length≤140737488351232)
 (ht:bP Tryz.prog (PrR d) cS B w F cap p) :
 Calls Tryz.prog 253 #[.slice A xs.length c,.func (.func F) #[] cap] w fun e w'=>e=.returned (.int .i64 (uE p xs))∧Below w.heap.size w w':=by
 have HT:=yW ht
 clear ht
 have hRk:(PrR d).k=2:=rfl
 go_enter Tryz.func253,Tryz.ntmps253
 go_wp2_with fail
 go_loopw [8] (fun i wr=>∃k:Nat,k≤xs.length∧i=.int .i64 k∧Below w.heap.size w wr∧∀i (hi:i<xs.length),i<k→p xs[i]=false) (fun i _=>xs.length-(intOf i).toNat)
 case atStart=>exact ⟨0,yZ _,rfl,za _ _,fun i hi h=>absurd h (by omega)⟩
 case round=>
  obtain ⟨k,hk,rfl,hbw,hall⟩:=hrel
  have HA:=yW hall
  clear hall
  by_cases hlt:k<xs.length
  ·obtain ⟨b,off,rfl,hb⟩:=hl.base hbw hB (by omega)
   obtain ⟨x,vs,hx,hlen,hcell,hr⟩:=hl.at_ hbw hB hlt
   rw [hRk] at hlen hcell
   obtain ⟨v0,v1,rfl⟩:∃v0 v1,vs=[v0,v1]:=by
    match vs,hlen with
    | [v0,v1],_=>exact ⟨_,_,rfl⟩
   have c0:wr.cell? ⟨b,off+k*2,none⟩=some v0:=hcell 0 _ rfl
   have c1:wr.cell? ⟨b,off+k*2+1,none⟩=some v1:=hcell 1 _ rfl
   have hsz:=hbw.size
   have HX:=yW hx
   clear hcell hlen hx
   go_wp2_with fail
   refine (HT.out x [v0,v1] _ hbw hr).mono ?_
   rintro e w1 ⟨rfl,hb1⟩
   have hbw1:=yW (hbw.trans (hb1.mono hsz))
   clear hb1
   have hxe:xs[k]=x:=(List.getElem?_eq_some_iff.1 HX.out).2
   have HXE:=yW hxe
   clear hxe
   by_cases hp:p x=true
   ·go_wp2_with fail
    go_ret
    exact ⟨ar (fQ hlt (by rw [HXE.out];exact hp) (fun i hi=>HA.out i (by omega) hi)).symm,hbw1.out⟩
   ·have hp:p x=false:=by simpa using hp
    go_wp2_with fail
    go_roundw
    case rel=>exact ⟨k+1,by omega,by go_num,hbw1.out,fun i hi h=>by
     rcases Nat.lt_or_ge i k with h1 | h1
     ·exact HA.out i hi h1
     ·obtain rfl:i=k:=by omega
      rw [HXE.out];exact hp⟩
    case measure=>simp [intOf];omega
  ·go_wp2_with fail
   go_ret
   exact ⟨ar (fO (fun i hi=>HA.out i hi (by omega))).symm,hbw⟩
theorem gI (d:Nat) (F:FuncId) (cap:Array Value) (p:Pr→Bool) (xs:List Pr) (A:Option Addr) (c B:Nat) (w:World)
 (hF:∀args (w:World),(callFunc F args).run Tryz.prog w=.ok (.enter F args) w) (hl:RL (PrR d) w B xs A) (hB:B≤w.heap.size) (hn:xs.length≤140737488351232)
 (ht:bP Tryz.prog (PrR d) cS B w F cap p) :
 Calls Tryz.prog 215 #[.slice A xs.length c,.func (.func F) #[] cap] w fun e w'=>e=.returned (.bool (xs.any p))∧Below w.heap.size w w':=by
 have HT:=yW ht
 clear ht
 go_enter Tryz.func215,Tryz.ntmps215
 go_wp2_with (go_at_call 253;refine (jf d F cap p xs A c B w hF hl hB hn HT.out).mono ?_;rintro e w1 ⟨rfl,hb1⟩)
 go_ret
 exact ⟨ac (iw p xs),hb1⟩
theorem lJ (d:Nat) (M:FuncId) (p:Pr→Bool) (B G:Nat) (w:World) (hM:∀args (w:World),(callFunc M args).run Tryz.prog w=.ok (.enter M args) w)
 (hB:B≤w.heap.size) (hG:w.cell? ⟨G,0,none⟩=some (.func (.func M) #[] #[])) (ht:bP Tryz.prog (PrR d) cS B w M #[] p) :
 bP Tryz.prog (PrR d) cS B w 216 #[.pointer (some ⟨G,0,none⟩)] (fun x=>!p x):=by
 intro x vs w1 hb hr
 have hlen:vs.length=2:=(PrR d).len hr
 obtain ⟨v0,v1,rfl⟩:∃v0 v1,vs=[v0,v1]:=by
  match vs,hlen with
  | [v0,v1],_=>exact ⟨_,_,rfl⟩
 have hGl:G<w.heap.size:=block_lt_of_cell hG
 have hG1:w1.cell? ⟨G,0,none⟩=some (.func (.func M) #[] #[]):=(hb.cell (p:=⟨G,0,none⟩) hGl).trans hG
 have hGl1:G<w1.heap.size:=by have:=hb.size;omega
 have HB:=yW (fun o:Obj=>(za w1.heap.size w1).alloc (yY _) o)
 have HT:=yW ht
 have HR:=yW hr
 have hBw:B≤w1.heap.size:=by have:=hb.size;omega
 clear ht hr
 show Calls Tryz.prog 216 #[.agg #[v0,v1],.pointer (some ⟨G,0,none⟩)] w1 _
 go_enter Tryz.func216,Tryz.ntmps216
 go_wp2_with fail
 refine (HT.out x [v0,v1] _ (hb.trans ((HB.out _).mono hb.size)) ((PrR d).keep (HB.out _) hBw HR.out)).mono ?_
 rintro e w2 ⟨rfl,hb2⟩
 have hfin:=yW ((HB.out _).trans (hb2.mono (HB.out _).size))
 clear hb2
 go_wp2_with fail
 go_ret
 exact ⟨rfl,hfin.out⟩
theorem kF (d:Nat) (M:FuncId) (p:Pr→Bool) (most:Int) (xs:List Pr) (A:Option Addr) (c B:Nat) (w:World) (hM:∀args (w:World),(callFunc M args).run Tryz.prog w=.ok (.enter M args) w)
 (hl:RL (PrR d) w B xs A) (hB:B≤w.heap.size) (hn:xs.length≤140737488351232) (ht:bP Tryz.prog (PrR d) cS B w M #[] p) :
 Calls Tryz.prog 157 #[.slice A xs.length c,.int .i64 most,.func (.func M) #[] #[]] w fun e w'=>e=.returned (.bool (decide ((xs.length:Int)≤most)&&xs.all p))∧Below w.heap.size w w':=by
 have HB:=yW (fun o:Obj=>(za w.heap.size w).alloc (yY _) o)
 have HT:=yW ht
 have HL:=yW hl
 clear ht hl
 by_cases hm:(xs.length:Int)≤most
 ·go_enter Tryz.func157,Tryz.ntmps157
  go_wp2_with fail
  refine (gI d 216 _ _ xs A c B _ (ent Tryz.func216 (by kernel_rfl) rfl) (HL.out.keep (HB.out _) hB) (yX hB (HB.out _).size) hn
   (lJ d M p B w.heap.size _ hM (yX hB (HB.out _).size) (by go_simp) (HT.out.later (HB.out _)))).mono ?_
  rintro e w1 ⟨rfl,hb1⟩
  have hfin:=yW ((HB.out _).trans (hb1.mono (HB.out _).size))
  clear hb1
  go_wp2_with fail
  go_ret
  exact ⟨ac (by simp [hm,List.all_eq_not_any_not]),hfin.out⟩
 ·have hm':decide ((xs.length:Int)≤most)=false:=by simpa using hm
  go_enter Tryz.func157,Tryz.ntmps157
  go_wp2_with fail
  go_ret
  exact ⟨ac (by simp [hm]),HB.out _⟩
theorem je (d:Nat) (F:FuncId) (cap:Array Value) (p:(List OpD)→Bool) (xs:List (List OpD)) (A:Option Addr) (c B:Nat) (w:World)
 (hF:∀args (w:World),(callFunc F args).run Tryz.prog w=.ok (.enter F args) w) (hl:RL (ExR d) w B xs A) (hB:B≤w.heap.size) (hn:xs.length≤140737488351232)
 (ht:bP Tryz.prog (ExR d) cS B w F cap p) :
 Calls Tryz.prog 221 #[.slice A xs.length c,.func (.func F) #[] cap] w fun e w'=>e=.returned (.int .i64 (uE p xs))∧Below w.heap.size w w':=by
 have HT:=yW ht
 clear ht
 have hRk:(ExR d).k=1:=rfl
 go_enter Tryz.func221,Tryz.ntmps221
 go_wp2_with fail
 go_loopw [8] (fun i wr=>∃k:Nat,k≤xs.length∧i=.int .i64 k∧Below w.heap.size w wr∧∀i (hi:i<xs.length),i<k→p xs[i]=false) (fun i _=>xs.length-(intOf i).toNat)
 case atStart=>exact ⟨0,yZ _,rfl,za _ _,fun i hi h=>absurd h (by omega)⟩
 case round=>
  obtain ⟨k,hk,rfl,hbw,hall⟩:=hrel
  have HA:=yW hall
  clear hall
  by_cases hlt:k<xs.length
  ·obtain ⟨b,off,rfl,hb⟩:=hl.base hbw hB (by omega)
   obtain ⟨x,vs,hx,hlen,hcell,hr⟩:=hl.at_ hbw hB hlt
   rw [hRk] at hlen hcell
   obtain ⟨v0,rfl⟩:∃v0,vs=[v0]:=by
    match vs,hlen with
    | [v0],_=>exact ⟨_,rfl⟩
   have c0:wr.cell? ⟨b,off+k,none⟩=some v0:=by simpa using hcell 0 _ rfl
   have hsz:=hbw.size
   have HX:=yW hx
   clear hcell hlen hx
   go_wp2_with fail
   refine (HT.out x [v0] _ hbw hr).mono ?_
   rintro e w1 ⟨rfl,hb1⟩
   have hbw1:=yW (hbw.trans (hb1.mono hsz))
   clear hb1
   have hxe:xs[k]=x:=(List.getElem?_eq_some_iff.1 HX.out).2
   have HXE:=yW hxe
   clear hxe
   by_cases hp:p x=true
   ·go_wp2_with fail
    go_ret
    exact ⟨ar (fQ hlt (by rw [HXE.out];exact hp) (fun i hi=>HA.out i (by omega) hi)).symm,hbw1.out⟩
   ·have hp:p x=false:=by simpa using hp
    go_wp2_with fail
    go_roundw
    case rel=>exact ⟨k+1,by omega,by go_num,hbw1.out,fun i hi h=>by
     rcases Nat.lt_or_ge i k with h1 | h1
     ·exact HA.out i hi h1
     ·obtain rfl:i=k:=by omega
      rw [HXE.out];exact hp⟩
    case measure=>simp [intOf];omega
  ·go_wp2_with fail
   go_ret
   exact ⟨ar (fO (fun i hi=>HA.out i hi (by omega))).symm,hbw⟩
theorem dE (d:Nat) (F:FuncId) (cap:Array Value) (p:(List OpD)→Bool) (xs:List (List OpD)) (A:Option Addr) (c B:Nat) (w:World)
 (hF:∀args (w:World),(callFunc F args).run Tryz.prog w=.ok (.enter F args) w) (hl:RL (ExR d) w B xs A) (hB:B≤w.heap.size) (hn:xs.length≤140737488351232)
 (ht:bP Tryz.prog (ExR d) cS B w F cap p) :
 Calls Tryz.prog 162 #[.slice A xs.length c,.func (.func F) #[] cap] w fun e w'=>e=.returned (.bool (xs.any p))∧Below w.heap.size w w':=by
 have HT:=yW ht
 clear ht
 go_enter Tryz.func162,Tryz.ntmps162
 go_wp2_with (go_at_call 221;refine (je d F cap p xs A c B w hF hl hB hn HT.out).mono ?_;rintro e w1 ⟨rfl,hb1⟩)
 go_ret
 exact ⟨ac (iw p xs),hb1⟩
theorem lI (d:Nat) (M:FuncId) (p:(List OpD)→Bool) (B G:Nat) (w:World) (hM:∀args (w:World),(callFunc M args).run Tryz.prog w=.ok (.enter M args) w)
 (hB:B≤w.heap.size) (hG:w.cell? ⟨G,0,none⟩=some (.func (.func M) #[] #[])) (ht:bP Tryz.prog (ExR d) cS B w M #[] p) :
 bP Tryz.prog (ExR d) cS B w 217 #[.pointer (some ⟨G,0,none⟩)] (fun x=>!p x):=by
 intro x vs w1 hb hr
 have hlen:vs.length=1:=(ExR d).len hr
 obtain ⟨v0,rfl⟩:∃v0,vs=[v0]:=by
  match vs,hlen with
  | [v0],_=>exact ⟨_,rfl⟩
 have hGl:G<w.heap.size:=block_lt_of_cell hG
 have hG1:w1.cell? ⟨G,0,none⟩=some (.func (.func M) #[] #[]):=(hb.cell (p:=⟨G,0,none⟩) hGl).trans hG
 have hGl1:G<w1.heap.size:=by have:=hb.size;omega
 have HB:=yW (fun o:Obj=>(za w1.heap.size w1).alloc (yY _) o)
 have HT:=yW ht
 have HR:=yW hr
 have hBw:B≤w1.heap.size:=by have:=hb.size;omega
 clear ht hr
 show Calls Tryz.prog 217 #[.agg #[v0],.pointer (some ⟨G,0,none⟩)] w1 _
 go_enter Tryz.func217,Tryz.ntmps217
 go_wp2_with fail
 refine (HT.out x [v0] _ (hb.trans ((HB.out _).mono hb.size)) ((ExR d).keep (HB.out _) hBw HR.out)).mono ?_
 rintro e w2 ⟨rfl,hb2⟩
 have hfin:=yW ((HB.out _).trans (hb2.mono (HB.out _).size))
 clear hb2
 go_wp2_with fail
 go_ret
 exact ⟨rfl,hfin.out⟩
theorem kD (d:Nat) (M:FuncId) (p:(List OpD)→Bool) (most:Int) (xs:List (List OpD)) (A:Option Addr) (c B:Nat) (w:World) (hM:∀args (w:World),(callFunc M args).run Tryz.prog w=.ok (.enter M args) w)
 (hl:RL (ExR d) w B xs A) (hB:B≤w.heap.size) (hn:xs.length≤140737488351232) (ht:bP Tryz.prog (ExR d) cS B w M #[] p) :
 Calls Tryz.prog 158 #[.slice A xs.length c,.int .i64 most,.func (.func M) #[] #[]] w fun e w'=>e=.returned (.bool (decide ((xs.length:Int)≤most)&&xs.all p))∧Below w.heap.size w w':=by
 have HB:=yW (fun o:Obj=>(za w.heap.size w).alloc (yY _) o)
 have HT:=yW ht
 have HL:=yW hl
 clear ht hl
 by_cases hm:(xs.length:Int)≤most
 ·go_enter Tryz.func158,Tryz.ntmps158
  go_wp2_with fail
  refine (dE d 217 _ _ xs A c B _ (ent Tryz.func217 (by kernel_rfl) rfl) (HL.out.keep (HB.out _) hB) (yX hB (HB.out _).size) hn
   (lI d M p B w.heap.size _ hM (yX hB (HB.out _).size) (by go_simp) (HT.out.later (HB.out _)))).mono ?_
  rintro e w1 ⟨rfl,hb1⟩
  have hfin:=yW ((HB.out _).trans (hb1.mono (HB.out _).size))
  clear hb1
  go_wp2_with fail
  go_ret
  exact ⟨ac (by simp [hm,List.all_eq_not_any_not]),hfin.out⟩
 ·have hm':decide ((xs.length:Int)≤most)=false:=by simpa using hm
  go_enter Tryz.func158,Tryz.ntmps158
  go_wp2_with fail
  go_ret
  exact ⟨ac (by simp [hm]),HB.out _⟩
theorem iy  (F:FuncId) (cap:Array Value) (p:Sc→Bool) (xs:List Sc) (A:Option Addr) (c B:Nat) (w:World)
 (hF:∀args (w:World),(callFunc F args).run Tryz.prog w=.ok (.enter F args) w) (hl:RL (ScR) w B xs A) (hB:B≤w.heap.size) (hn:xs.length≤140737488351232)
 (ht:bP Tryz.prog (ScR) cS B w F cap p) :
 Calls Tryz.prog 257 #[.slice A xs.length c,.func (.func F) #[] cap] w fun e w'=>e=.returned (.int .i64 (uE p xs))∧Below w.heap.size w w':=by
 have HT:=yW ht
 clear ht
 have hRk:(ScR).k=2:=rfl
 go_enter Tryz.func257,Tryz.ntmps257
 go_wp2_with fail
 go_loopw [8] (fun i wr=>∃k:Nat,k≤xs.length∧i=.int .i64 k∧Below w.heap.size w wr∧∀i (hi:i<xs.length),i<k→p xs[i]=false) (fun i _=>xs.length-(intOf i).toNat)
 case atStart=>exact ⟨0,yZ _,rfl,za _ _,fun i hi h=>absurd h (by omega)⟩
 case round=>
  obtain ⟨k,hk,rfl,hbw,hall⟩:=hrel
  have HA:=yW hall
  clear hall
  by_cases hlt:k<xs.length
  ·obtain ⟨b,off,rfl,hb⟩:=hl.base hbw hB (by omega)
   obtain ⟨x,vs,hx,hlen,hcell,hr⟩:=hl.at_ hbw hB hlt
   rw [hRk] at hlen hcell
   obtain ⟨v0,v1,rfl⟩:∃v0 v1,vs=[v0,v1]:=by
    match vs,hlen with
    | [v0,v1],_=>exact ⟨_,_,rfl⟩
   have c0:wr.cell? ⟨b,off+k*2,none⟩=some v0:=hcell 0 _ rfl
   have c1:wr.cell? ⟨b,off+k*2+1,none⟩=some v1:=hcell 1 _ rfl
   have hsz:=hbw.size
   have HX:=yW hx
   clear hcell hlen hx
   go_wp2_with fail
   refine (HT.out x [v0,v1] _ hbw hr).mono ?_
   rintro e w1 ⟨rfl,hb1⟩
   have hbw1:=yW (hbw.trans (hb1.mono hsz))
   clear hb1
   have hxe:xs[k]=x:=(List.getElem?_eq_some_iff.1 HX.out).2
   have HXE:=yW hxe
   clear hxe
   by_cases hp:p x=true
   ·go_wp2_with fail
    go_ret
    exact ⟨ar (fQ hlt (by rw [HXE.out];exact hp) (fun i hi=>HA.out i (by omega) hi)).symm,hbw1.out⟩
   ·have hp:p x=false:=by simpa using hp
    go_wp2_with fail
    go_roundw
    case rel=>exact ⟨k+1,by omega,by go_num,hbw1.out,fun i hi h=>by
     rcases Nat.lt_or_ge i k with h1 | h1
     ·exact HA.out i hi h1
     ·obtain rfl:i=k:=by omega
      rw [HXE.out];exact hp⟩
    case measure=>simp [intOf];omega
  ·go_wp2_with fail
   go_ret
   exact ⟨ar (fO (fun i hi=>HA.out i hi (by omega))).symm,hbw⟩
theorem fH  (F:FuncId) (cap:Array Value) (p:Sc→Bool) (xs:List Sc) (A:Option Addr) (c B:Nat) (w:World)
 (hF:∀args (w:World),(callFunc F args).run Tryz.prog w=.ok (.enter F args) w) (hl:RL (ScR) w B xs A) (hB:B≤w.heap.size) (hn:xs.length≤140737488351232)
 (ht:bP Tryz.prog (ScR) cS B w F cap p) :
 Calls Tryz.prog 219 #[.slice A xs.length c,.func (.func F) #[] cap] w fun e w'=>e=.returned (.bool (xs.any p))∧Below w.heap.size w w':=by
 have HT:=yW ht
 clear ht
 go_enter Tryz.func219,Tryz.ntmps219
 go_wp2_with (go_at_call 257;refine (iy  F cap p xs A c B w hF hl hB hn HT.out).mono ?_;rintro e w1 ⟨rfl,hb1⟩)
 go_ret
 exact ⟨ac (iw p xs),hb1⟩
theorem kE  (M:FuncId) (p:Sc→Bool) (B G:Nat) (w:World) (hM:∀args (w:World),(callFunc M args).run Tryz.prog w=.ok (.enter M args) w)
 (hB:B≤w.heap.size) (hG:w.cell? ⟨G,0,none⟩=some (.func (.func M) #[] #[])) (ht:bP Tryz.prog (ScR) cS B w M #[] p) :
 bP Tryz.prog (ScR) cS B w 220 #[.pointer (some ⟨G,0,none⟩)] (fun x=>!p x):=by
 intro x vs w1 hb hr
 have hlen:vs.length=2:=(ScR).len hr
 obtain ⟨v0,v1,rfl⟩:∃v0 v1,vs=[v0,v1]:=by
  match vs,hlen with
  | [v0,v1],_=>exact ⟨_,_,rfl⟩
 have hGl:G<w.heap.size:=block_lt_of_cell hG
 have hG1:w1.cell? ⟨G,0,none⟩=some (.func (.func M) #[] #[]):=(hb.cell (p:=⟨G,0,none⟩) hGl).trans hG
 have hGl1:G<w1.heap.size:=by have:=hb.size;omega
 have HB:=yW (fun o:Obj=>(za w1.heap.size w1).alloc (yY _) o)
 have HT:=yW ht
 have HR:=yW hr
 have hBw:B≤w1.heap.size:=by have:=hb.size;omega
 clear ht hr
 show Calls Tryz.prog 220 #[.agg #[v0,v1],.pointer (some ⟨G,0,none⟩)] w1 _
 go_enter Tryz.func220,Tryz.ntmps220
 go_wp2_with fail
 refine (HT.out x [v0,v1] _ (hb.trans ((HB.out _).mono hb.size)) ((ScR).keep (HB.out _) hBw HR.out)).mono ?_
 rintro e w2 ⟨rfl,hb2⟩
 have hfin:=yW ((HB.out _).trans (hb2.mono (HB.out _).size))
 clear hb2
 go_wp2_with fail
 go_ret
 exact ⟨rfl,hfin.out⟩
theorem jB  (M:FuncId) (p:Sc→Bool) (most:Int) (xs:List Sc) (A:Option Addr) (c B:Nat) (w:World) (hM:∀args (w:World),(callFunc M args).run Tryz.prog w=.ok (.enter M args) w)
 (hl:RL (ScR) w B xs A) (hB:B≤w.heap.size) (hn:xs.length≤140737488351232) (ht:bP Tryz.prog (ScR) cS B w M #[] p) :
 Calls Tryz.prog 160 #[.slice A xs.length c,.int .i64 most,.func (.func M) #[] #[]] w fun e w'=>e=.returned (.bool (decide ((xs.length:Int)≤most)&&xs.all p))∧Below w.heap.size w w':=by
 have HB:=yW (fun o:Obj=>(za w.heap.size w).alloc (yY _) o)
 have HT:=yW ht
 have HL:=yW hl
 clear ht hl
 by_cases hm:(xs.length:Int)≤most
 ·go_enter Tryz.func160,Tryz.ntmps160
  go_wp2_with fail
  refine (fH  220 _ _ xs A c B _ (ent Tryz.func220 (by kernel_rfl) rfl) (HL.out.keep (HB.out _) hB) (yX hB (HB.out _).size) hn
   (kE  M p B w.heap.size _ hM (yX hB (HB.out _).size) (by go_simp) (HT.out.later (HB.out _)))).mono ?_
  rintro e w1 ⟨rfl,hb1⟩
  have hfin:=yW ((HB.out _).trans (hb1.mono (HB.out _).size))
  clear hb1
  go_wp2_with fail
  go_ret
  exact ⟨ac (by simp [hm,List.all_eq_not_any_not]),hfin.out⟩
 ·have hm':decide ((xs.length:Int)≤most)=false:=by simpa using hm
  go_enter Tryz.func160,Tryz.ntmps160
  go_wp2_with fail
  go_ret
  exact ⟨ac (by simp [hm]),HB.out _⟩
def aK (p:Pr):Bool:=dW (bs p.name)&&decide (bs p.name≠[116,114,117,101])&&decide (bs p.name≠[102,97,108,115,101])&&(decide (p.terms.length≤8)&&p.terms.all fx)
theorem xj (k:Nat):((k:Int)≤8)=(k≤8):=by rw [eq_iff_iff];omega
theorem jX (k:Nat):((k:Int)≤4)=(k≤4):=by rw [eq_iff_iff];omega
theorem vT {d B:Nat} {w:World} (hB:B≤w.heap.size):bP Tryz.prog (TmR d) cS B w 124 #[] fx:=fun x vs w1 hb hr=>by
 obtain ⟨A,c,rfl,_⟩:=RTm.cells hr
 exact vi (d:=d) (B:=B) hr (by have:=hb.size;omega)
theorem dU {d:Nat} {p:Pr} {vs:List Value} {B:Nat} {w:World} (hp:(PrR d).rd w B p vs) (hB:B≤w.heap.size) :
 Calls Tryz.prog 66 #[.agg vs.toArray] w fun e w'=>e=.returned (.bool (aK p))∧Below w.heap.size w w':=by
 obtain ⟨_,rfl,hs,A,c,rfl,hc1,hc2,hl⟩:=hp
 have HB:=yW (fun o:Obj=>(za w.heap.size w).alloc (yY _) o)
 have HL:=yW hl
 clear hl
 obtain ⟨name,terms⟩:=p
 dsimp only at *
 simp only [TmR] at hc2
 go_enter Tryz.func66,Tryz.ntmps66
 go_wp2_with (first
  | (go_at_call 103;refine (fc _ _ (by unfold maxLen;omega)).mono ?_;rintro e w' ⟨rfl,rfl⟩)
  | (go_at_call 123;refine (pQ d 124 fx 8 terms A c B _ (ent Tryz.func124 (by kernel_rfl) rfl) (HL.out.keep (HB.out _) hB) (yX hB (HB.out _).size) (by omega) (vT (yX hB (HB.out _).size))).mono ?_;rintro e w1 ⟨rfl,hb1⟩))
 all_goals go_ret
 all_goals first
  | refine ⟨ac ?_,HB.out _⟩
  | refine ⟨ac ?_,(HB.out _).trans (hb1.mono (HB.out _).size)⟩
 all_goals
  try simp only [ByteArray.toList_eq] at *
  rw [Bool.eq_iff_iff]
  simp [aK,xj, *]
def gC (p:Pr):Bool:=aK p&&(decide (p.terms.length≤8)&&p.terms.all af)
def cI (s:Sc):Bool:=((decide (s.kind=1)||decide (s.kind=2))&&decide (s.key=ByteArray.empty))||(decide (s.kind=3)&&decide (s.key.size=32))
theorem ow {s:Sc} {vs:List Value} {B:Nat} {w:World} (hp:ScR.rd w B s vs) :
 Calls Tryz.prog 161 #[.agg vs.toArray] w fun e w'=>e=.returned (.bool (cI s))∧Below w.heap.size w w':=by
 obtain ⟨rfl,hk,hs⟩:=hp
 have HB:=yW (fun o:Obj=>(za w.heap.size w).alloc (yY _) o)
 obtain ⟨kind,key⟩:=s
 dsimp only at *
 have hcases:kind=1∨kind=2∨kind=3∨((kind==1)=false∧(kind==2)=false∧(kind==3)=false):=by simp only [beq_eq_false_iff_ne];omega
 rcases hcases with rfl | rfl | rfl | ⟨k1,k2,k3⟩
 all_goals
  go_enter Tryz.func161,Tryz.ntmps161
  go_wp2_with fail
  all_goals go_ret
  all_goals refine ⟨ac ?_,HB.out _⟩
  all_goals
   try simp only [dx,aR,beq_eq_false_iff_ne] at *
   rw [Bool.eq_iff_iff]
   simp [cI,aR, *]
   try omega
end Go.Proofs.YtdphibjibnffeaaGreat
