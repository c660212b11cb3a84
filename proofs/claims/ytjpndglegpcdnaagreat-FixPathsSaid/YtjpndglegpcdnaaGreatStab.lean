/- What is written, what stays: worlds that agree outside some blocks; what holds in all of them; a row of one's own whose elements are their cells. -/
import Derived.Test.YtjpndglegpcdnaaGreatOwn
import Derived.Test.YtjpndglegpcdnaaGreatReg3
import Derived.Test.YtjpndglegpcdnaaGreatTmAt
import Derived.RegionTactic
import Derived.Deep.RegionHeld3
import Derived.Deep.RegionLaw
import Derived.Deep.DeepCutAuto
set_option linter.unusedVariables false
set_option linter.unusedSimpArgs false
set_option maxRecDepth 100000
set_option maxHeartbeats 8000000
namespace Go.Proofs.YtjpndglegpcdnaaGreat
open Go.ChangeShapes Go.WideShapes Go.ChangeAt Go.RowKit
section
variable {α:Type} {R:Reader α} {P:Program} {w:World} {e:TypeId} {base:Nat} {v:Value} {xs ys:List α}
def bC (w:World) (v v':Value):Prop:=v'.ownBlock=v.ownBlock∨∃k,v'.ownBlock=some k∧w.heap.size≤k
theorem nP (t ty:TypeId) {i:TypeInfo} {z:Value} {bytes:Nat} (ht:P.underlying t=some (.slice e)) (hi:P.info? e=some i) (hz:i.zero=some z)
 (hsize:i.size=R.k) (hby:i.bytes=bytes) (hzs:z.cells.size=R.k) (hsz:0<R.k) (hs1:dz R)
 (hown:am R e w base 0 v xs) {ad:Addr} {m c:Nat} (hsrc:gH R w 0 (some ad) ys) (hm:m=ys.length)
 (hbytes:(xs.length+ys.length)*bytes≤140737488355328) (hb1:1≤bytes) (hbase:base≤w.heap.size) :
 ∃v' w',(Builtin.append_ #[t,t] ty #[v,.slice (some ad) m c]).run P w=.ok v' w'∧am R e w' base 0 v' (xs++ys)∧w.grownBy w' v.ownBlock∧bC w v v':=by
 subst hm
 obtain ⟨cells,how,hf⟩:=hown
 obtain ⟨news,hf2,_,hc⟩:=hsrc
 have hle:xs.length+ys.length≤(xs.length+ys.length)*bytes:=Nat.le_mul_of_pos_right _ hb1
 have hnews:=hc ad rfl
 have h63:xs.length+ys.length≤maxLen:=by unfold maxLen;omega
 have key:=fun (b:Nat) (hb:b≤w.heap.size) (ho:w.ownsRow b e R.k v xs.length cells)=>run_append_own (P:=P) w b t ty e i z R.k bytes ht hi hz hsize hby hzs hsz v xs.length cells ho ad ys.length c news hf2.1 hnews (hf2.single hs1) h63 hbytes hb
 obtain ⟨v',w',hr,ho',hg,_⟩:=key base hbase how
 have hbel:Below 0 w w':=(yq 0 w).grown hg (yp _) (fun k hk=>yp _)
 refine ⟨v',w',hr,⟨cells++news,by rw [yv];exact ho',(hf.append hf2).keep hbel (yo _)⟩,hg,?_⟩
 rcases how.2 with ⟨rfl,h0⟩ | ⟨g,cap,cur,rfl,hbg,hgb,hnc,hcm,hcs,htake⟩
 ·have hcn:cells=[]:=List.eq_nil_of_length_eq_zero (by rw [how.1,h0,Nat.zero_mul])
  subst hcn
  obtain ⟨v2,w2,hr2,ho2,_,_⟩:=key w.heap.size (yo _) (by rw [h0];exact World.ownsRow_nil _ _ _ _)
  rw [hr] at hr2
  simp only [Result.ok.injEq] at hr2
  obtain ⟨rfl,rfl⟩:=hr2
  rcases ho2.2 with ⟨h1,_⟩ | ⟨g,cap,cur,rfl,hbg,_⟩
  ·rw [h1];exact .inl rfl
  ·exact .inr ⟨g,rfl,hbg⟩
 ·by_cases hroom:xs.length+ys.length≤cap
  ·have hfit:xs.length*i.size+news.length≤cur.size:=by rw [hf2.1,hcs,hsize,←Nat.add_mul];exact Nat.mul_le_mul_right _ hroom
   have hr2:=run_append_room (P:=P) w t ty e i ht hi g xs.length cap cur hgb ad ys.length c news (by rw [hf2.1,hsize]) hnews (hf2.single hs1) hroom hfit
   rw [hr] at hr2
   simp only [Result.ok.injEq] at hr2
   obtain ⟨rfl,rfl⟩:=hr2
   exact .inl rfl
  ·have holds:∀j u,cells[j]? = some u→w.cell? ((⟨g,0,none⟩:Addr).add j)=some u:=how.cells (g:=g) rfl
   subst hby
   have hr2:=run_append_grow (P:=P) w t ty e i z ht hi hz ⟨g,0,none⟩ xs.length cap cells (by rw [how.1,hsize]) holds ad ys.length c news (by rw [hf2.1,hsize]) hnews (by omega) (by omega) (growslice_fits (by omega) hbytes)
   rw [hr] at hr2
   simp only [Result.ok.injEq] at hr2
   obtain ⟨rfl,rfl⟩:=hr2
   exact .inr ⟨w.heap.size,rfl,yo _⟩
theorem lD {o:Oper} {a:Act} {K:Act→World→Prop} {Q:Exit→Act→World→Prop} (s x:Operand) (t:TypeId)
 (ho:o.op=.call { callee:=.builtin .append,args:=#[s,x],argTypes:=#[t,t] })
 {i:TypeInfo} {z:Value} {bytes:Nat} (ht:P.underlying t=some (.slice e)) (hi:P.info? e=some i) (hz:i.zero=some z)
 (hsize:i.size=R.k) (hby:i.bytes=bytes) (hzs:z.cells.size=R.k) (hsz:0<R.k) (hs1:dz R)
 (hs:a.eval s=v) (hown:am R e w base 0 v xs) {ad:Addr} {m c:Nat} (hx:a.eval x=.slice (some ad) m c) (hsrc:gH R w 0 (some ad) ys) (hm:m=ys.length)
 (hbytes:(xs.length+ys.length)*bytes≤140737488355328) (hb1:1≤bytes) (hbase:base≤w.heap.size)
 (h:∀v' w',am R e w' base 0 v' (xs++ys)→w.grownBy w' v.ownBlock→bC w v v'→K (a.put o.dst v') w'):o.wp P a w K Q:=by
 obtain ⟨v',w',hr,h2,h3,h4⟩:=nP (P:=P) t o.type (c:=c) ht hi hz hsize hby hzs hsz hs1 hown hsrc hm hbytes hb1 hbase
 unfold Oper.wp execOp
 simp only [ho,resolve,invoke,builtin,Sem.run_bind,Sem.run_pure,Result.andThen_ok,List.map_toArray,List.map_cons,List.map_nil,hs,hx,hr]
 exact h v' w' h2 h3 h4
theorem cO {ops:Array Oper} {o:Oper} {a:Act} {K:Act→World→Prop} {Q:Exit→Act→World→Prop} {E:Prop} (hgd:o.guard=none) (s x:Operand) (t:TypeId)
 (ho:o.op=.call { callee:=.builtin .append,args:=#[s,x],argTypes:=#[t,t] })
 {i:TypeInfo} {z:Value} {bytes:Nat} (ht:P.underlying t=some (.slice e)) (hi:P.info? e=some i) (hz:i.zero=some z)
 (hsize:i.size=R.k) (hby:i.bytes=bytes) (hzs:z.cells.size=R.k) (hsz:0<R.k) (hs1:dz R)
 (hs:a.eval s=v) (hown:am R e w base 0 v xs) {ad:Addr} {m c:Nat} (hx:a.eval x=.slice (some ad) m c) (hsrc:gH R w 0 (some ad) ys) (hm:m=ys.length)
 (hbytes:(xs.length+ys.length)*bytes≤140737488355328) (hb1:1≤bytes) (hbase:base≤w.heap.size)
 (h:∀v' w',am R e w' base 0 v' (xs++ys)→w.grownBy w' v.ownBlock→bC w v v'→K (a.put o.dst v') w') :
 if Region.wanted o (yielded ops a.tmps)=true then Oper.wp P o a w K Q else E:=by
 have hw:Region.wanted o (yielded ops a.tmps)=true:=by simp [Region.wanted,hgd]
 rw [if_pos hw]
 exact lD s x t ho ht hi hz hsize hby hzs hsz hs1 hs hown hx hsrc hm hbytes hb1 hbase h
end
section
variable {α:Type} {R:Reader α} {P:Program} {w:World} {e:TypeId} {base B:Nat} {v:Value} {xs ys:List α}
theorem mQ (t ty:TypeId) {i:TypeInfo} {z:Value} {bytes:Nat} (ht:P.underlying t=some (.slice e)) (hi:P.info? e=some i) (hz:i.zero=some z)
 (hsize:i.size=R.k) (hby:i.bytes=bytes) (hzs:z.cells.size=R.k) (hsz:0<R.k) (hs1:dz R)
 (hown:am R e w base B v xs) {A:Option Addr} {m c:Nat} (hsrc:gH R w B A ys) (hm:m=ys.length) (hB:B≤base)
 (hbytes:(xs.length+ys.length)*bytes≤140737488355328) (hb1:1≤bytes) (hbase:base≤w.heap.size) :
 ∃v' w',(Builtin.append_ #[t,t] ty #[v,.slice A m c]).run P w=.ok v' w'∧am R e w' base B v' (xs++ys)∧Below base w w'∧w.grownBy w' v.ownBlock∧bC w v v':=by
 subst hm
 obtain ⟨cells,how,hf⟩:=hown
 obtain ⟨news,hf2,hnil,hc⟩:=hsrc
 have hle:xs.length+ys.length≤(xs.length+ys.length)*bytes:=Nat.le_mul_of_pos_right _ hb1
 rcases A with _ | ad
 ·obtain rfl:=hnil rfl
  refine ⟨v,w,eo (P:=P) t ty e ht hi how c,?_,yq _ _,World.grownBy.refl w _,.inl rfl⟩
  rw [List.append_nil]
  exact ⟨cells,how,hf⟩
 have hnews:=hc ad rfl
 have h63:xs.length+ys.length≤maxLen:=by unfold maxLen;omega
 have key:=fun (b:Nat) (hb:b≤w.heap.size) (ho:w.ownsRow b e R.k v xs.length cells)=>run_append_own (P:=P) w b t ty e i z R.k bytes ht hi hz hsize hby hzs hsz v xs.length cells ho ad ys.length c news hf2.1 hnews (hf2.single hs1) h63 hbytes hb
 obtain ⟨v',w',hr,ho',hg,_⟩:=key base hbase how
 have hbel:Below base w w':=(yq base w).grown hg hbase (fun k hk=>(how.lt k hk).1)
 refine ⟨v',w',hr,⟨cells++news,by rw [yv];exact ho',(hf.append hf2).keep hbel hB⟩,hbel,hg,?_⟩
 rcases how.2 with ⟨rfl,h0⟩ | ⟨g,cap,cur,rfl,hbg,hgb,hnc,hcm,hcs,htake⟩
 ·have hcn:cells=[]:=List.eq_nil_of_length_eq_zero (by rw [how.1,h0,Nat.zero_mul])
  subst hcn
  obtain ⟨v2,w2,hr2,ho2,_,_⟩:=key w.heap.size (yo _) (by rw [h0];exact World.ownsRow_nil _ _ _ _)
  rw [hr] at hr2
  simp only [Result.ok.injEq] at hr2
  obtain ⟨rfl,rfl⟩:=hr2
  rcases ho2.2 with ⟨h1,_⟩ | ⟨g,cap,cur,rfl,hbg,_⟩
  ·rw [h1];exact .inl rfl
  ·exact .inr ⟨g,rfl,hbg⟩
 ·by_cases hroom:xs.length+ys.length≤cap
  ·have hfit:xs.length*i.size+news.length≤cur.size:=by rw [hf2.1,hcs,hsize,←Nat.add_mul];exact Nat.mul_le_mul_right _ hroom
   have hr2:=run_append_room (P:=P) w t ty e i ht hi g xs.length cap cur hgb ad ys.length c news (by rw [hf2.1,hsize]) hnews (hf2.single hs1) hroom hfit
   rw [hr] at hr2
   simp only [Result.ok.injEq] at hr2
   obtain ⟨rfl,rfl⟩:=hr2
   exact .inl rfl
  ·have holds:∀j u,cells[j]? = some u→w.cell? ((⟨g,0,none⟩:Addr).add j)=some u:=how.cells (g:=g) rfl
   subst hby
   have hr2:=run_append_grow (P:=P) w t ty e i z ht hi hz ⟨g,0,none⟩ xs.length cap cells (by rw [how.1,hsize]) holds ad ys.length c news (by rw [hf2.1,hsize]) hnews (by omega) (by omega) (growslice_fits (by omega) hbytes)
   rw [hr] at hr2
   simp only [Result.ok.injEq] at hr2
   obtain ⟨rfl,rfl⟩:=hr2
   exact .inr ⟨w.heap.size,rfl,yo _⟩
theorem fZ {o:Oper} {a:Act} {K:Act→World→Prop} {Q:Exit→Act→World→Prop} (s x:Operand) (t:TypeId)
 (ho:o.op=.call { callee:=.builtin .append,args:=#[s,x],argTypes:=#[t,t] })
 {i:TypeInfo} {z:Value} {bytes:Nat} (ht:P.underlying t=some (.slice e)) (hi:P.info? e=some i) (hz:i.zero=some z)
 (hsize:i.size=R.k) (hby:i.bytes=bytes) (hzs:z.cells.size=R.k) (hsz:0<R.k) (hs1:dz R)
 (hs:a.eval s=v) (hown:am R e w base B v xs) {A:Option Addr} {m c:Nat} (hx:a.eval x=.slice A m c) (hsrc:gH R w B A ys) (hm:m=ys.length) (hB:B≤base)
 (hbytes:(xs.length+ys.length)*bytes≤140737488355328) (hb1:1≤bytes) (hbase:base≤w.heap.size)
 (h:∀v' w',am R e w' base B v' (xs++ys)→Below base w w'→w.grownBy w' v.ownBlock→bC w v v'→K (a.put o.dst v') w'):o.wp P a w K Q:=by
 obtain ⟨v',w',hr,h2,h3,h4,h5⟩:=mQ (P:=P) t o.type (c:=c) ht hi hz hsize hby hzs hsz hs1 hown hsrc hm hB hbytes hb1 hbase
 unfold Oper.wp execOp
 simp only [ho,resolve,invoke,builtin,Sem.run_bind,Sem.run_pure,Result.andThen_ok,List.map_toArray,List.map_cons,List.map_nil,hs,hx,hr]
 exact h v' w' h2 h3 h4 h5
end
def gy (w:World) (v:Value) (k:Nat) (cs:Array Value) (T:TypeId):Prop:=w.heap[k]? = some (.cells cs T (0,0))∧v.ownBlock≠some k
section
variable {w w':World} {v v':Value} {k:Nat} {cs:Array Value} {T:TypeId} {o:Obj}
theorem gy.lt (h:gy w v k cs T):k<w.heap.size:=(Array.getElem?_eq_some_iff.1 h.1).1
theorem gy.mk' (h1:w.heap[k]? = some (.cells cs T (0,0))) (h2:v.ownBlock≠some k):gy w v k cs T:=⟨h1,h2⟩
theorem gy.below (h:gy w v k cs T) (hb:Below w.heap.size w w'):gy w' v k cs T:=by
 have hb2:Blk w k cs:=⟨T,h.1⟩
 refine ⟨?_,h.2⟩
 exact (hb.block k h.lt).trans h.1
theorem gy.app (h:gy w v k cs T) (hg:w.grownBy w' v.ownBlock) (hf:bC w v v'):gy w' v' k cs T:=by
 refine ⟨(hg.block k h.lt (Ne.symm h.2)).trans h.1,?_⟩
 rcases hf with e | ⟨g,e,hge⟩
 ·rw [e];exact h.2
 ·rw [e];have:=h.lt;simp;omega
theorem gy.blk (h:gy w v k cs T):Blk w k cs:=⟨T,h.1⟩
end
theorem am.own_lt {α:Type} {R:Reader α} {e:TypeId} {w:World} {base B k:Nat} {v:Value} {xs:List α} (h:am R e w base B v xs) (hk:w.heap.size≤k):v.ownBlock≠some k:=by
 obtain ⟨cells,h,_⟩:=h
 intro e
 have:=(h.lt k e).2
 omega
theorem gy.new {α:Type} {R:Reader α} {e T:TypeId} {w:World} {base B:Nat} {v:Value} {xs:List α} {cs:Array Value} (h:am R e w base B v xs):gy (w.alloc (.cells cs T)) v w.heap.size cs T:=⟨heap_alloc_new w _,h.own_lt (yo _)⟩
theorem Blk.srcs {α:Type} {R:Reader α} {w:World} {B b:Nat} {xs:List α} {vs:Array Value} (h:Blk w b vs) (hf:bA R w B xs vs.toList):gH R w B (some ⟨b,0,none⟩) xs:=by
 refine ⟨vs.toList,hf,fun e=>by (cases e),fun a ha j u hu=>?_⟩
 simp only [yz] at ha
 subst ha
 have:=h.cell j
 rw [←Array.getElem?_toList,hu] at this
 unfold Addr.add
 split
 ·rename_i hj;subst hj;exact this
 ·simpa using this
theorem am.fresh {α:Type} {R:Reader α} {e:TypeId} {w:World} {base B k:Nat} {v:Value} {xs:List α} (h:am R e w base B v xs) (hk:w.heap.size≤k):some k≠v.ownBlock:=by
 obtain ⟨cells,h,_⟩:=h
 intro e
 have:=(h.lt k e.symm).2
 omega
section
variable {α:Type} {R:Reader α} {w:World} {B b:Nat} {xs:List α} {vs:Array Value} {T:TypeId} {o2:Obj}
end
section
variable {α:Type} {R:Reader α} {w:World} {B b:Nat} {xs:List α} {vs:Array Value} {T:TypeId} {o2:Obj}
theorem xl (h:w.heap[b]? = some (.cells vs T)) (hf:bA R w B xs vs.toList):gH R w B (some ⟨b,0,none⟩) xs:=Blk.srcs ⟨_,h⟩ hf
end
structure StkQ (base D:Nat) (w:World) (xs:List SV) (A:Option Addr) (c:Nat):Prop where
 own:am SvR 29 w base 0 (.slice A xs.length c) xs
 tms:∀x∈xs,dh D w x
 sep:∀x∈xs,∀a,x.a=some a→∀b,A=some b→a.block≠b.block
 lt:∀x∈xs,∀a,x.a=some a→base≤a.block∧a.block<w.heap.size
section
variable {base D c:Nat} {w w' w2:World} {xs:List SV} {x y:SV} {A:Option Addr}
theorem StkQ.nil (base D:Nat) (w:World):StkQ base D w [] none 0:=⟨am.nil _ _ _ _ _,by simp,by simp,by simp⟩
theorem StkQ.later (h:StkQ base D w xs A c) (hb:Below w.heap.size w w'):StkQ base D w' xs A c:=
 ⟨h.own.later hb (yp _),fun x hx=>(h.tms x hx).later hb,h.sep,fun x hx a ha=>⟨(h.lt x hx a ha).1,yr (h.lt x hx a ha).2 hb.size⟩⟩
theorem StkQ.row (h:StkQ base D w xs A c):∀b,A=some b→base≤b.block∧b.block<w.heap.size:=by
 intro b hb
 subst hb
 obtain ⟨cells,how,_⟩:=h.own
 exact how.lt b.block rfl
theorem StkQ.apart (h:StkQ base D w xs A c) {n:Nat} (hn:w.heap.size≤n) (hx:∀a,x.a=some a→n≤a.block):∀a,x.a=some a→∀b,A=some b→a.block≠b.block:=by
 intro a ha b hb
 have h1:=hx a ha
 have h2:=(h.row b hb).2
 omega
theorem StkQ.app (h:StkQ base D w xs A c) (hx:dh D w x) (hap:∀a,x.a=some a→∀b,A=some b→a.block≠b.block) (hlt:∀a,x.a=some a→base≤a.block∧a.block<w.heap.size) (hbase:base≤w.heap.size)
 {A2:Option Addr} {c2:Nat} (ho:am SvR 29 w2 base 0 (.slice A2 (xs.length+1) c2) (xs++[x])) (hg:w.grownBy w2 (Value.slice A xs.length c).ownBlock) (hf:bC w (.slice A xs.length c) (.slice A2 (xs.length+1) c2)) :
 StkQ base D w2 (xs++[x]) A2 c2∧Below base w w2:=by
 have hb:Below base w w2:=(yq base w).grown hg hbase (fun k hk=>by
  obtain ⟨cells,how,_⟩:=h.own
  exact (how.lt k hk).1)
 have hb0:Below 0 w w2:=hb.mono (yp _)
 have key:∀y,dh D w y→(∀a,y.a=some a→∀b,A=some b→a.block≠b.block)→(∀a,y.a=some a→base≤a.block∧a.block<w.heap.size)→dh D w2 y∧∀a,y.a=some a→(base≤a.block∧a.block<w2.heap.size)∧∀b,A2=some b→a.block≠b.block:=by
  intro y hy hs hl
  refine ⟨hy.keep hb0 fun a ha=>hg.block _ (hl a ha).2 ?_,fun a ha=>⟨⟨(hl a ha).1,yr (hl a ha).2 hb.size⟩,fun b hb2 e=>?_⟩⟩
  ·intro e
   rcases hA:A with _ | b
   ·rw [hA] at e;cases e
   ·rw [hA] at e
    simp only [Value.ownBlock,yz] at e
    exact hs a ha b hA e
  ·subst hb2
   rcases hf with hf | ⟨k,hk,hk2⟩
   ·rcases hA:A with _ | a2
    ·rw [hA] at hf;simp [Value.ownBlock] at hf
    ·rw [hA] at hf
     simp only [Value.ownBlock,yz] at hf
     exact hs a ha a2 hA (e.trans hf)
   ·simp only [Value.ownBlock,yz] at hk
    have:=(hl a ha).2
    omega
 have hall:∀y∈xs++[x],dh D w2 y∧∀a,y.a=some a→(base≤a.block∧a.block<w2.heap.size)∧∀b,A2=some b→a.block≠b.block:=by
  intro y hy
  rcases List.mem_append.1 hy with h1 | h1
  ·exact key y (h.tms y h1) (h.sep y h1) (h.lt y h1)
  ·rw [List.mem_singleton] at h1
   subst h1
   exact key y hx hap hlt
 refine ⟨⟨?_,fun y hy=>(hall y hy).1,fun y hy a ha=>((hall y hy).2 a ha).2,fun y hy a ha=>((hall y hy).2 a ha).1⟩,hb⟩
 rw [yv,List.length_singleton]
 exact ho
theorem StkQ.drop (h:StkQ base D w (xs++[y]) A c):StkQ base D w xs A c:=by
 refine ⟨?_,fun z hz=>h.tms z (List.mem_append_left _ hz),fun z hz=>h.sep z (List.mem_append_left _ hz),fun z hz=>h.lt z (List.mem_append_left _ hz)⟩
 obtain ⟨cells',ho',hf'⟩:=h.own
 rcases ho'.2 with ⟨h1',h2'⟩ | ⟨g',cap',cur',hv',hg',hh',k1',k2',k3',k4'⟩
 ·simp at h2'
 ·simp only [yB] at hv'
  obtain ⟨rfl,_,rfl⟩:=hv'
  rw [yv,List.length_singleton] at k1'
  have hl':cells'.length=(xs.length+1)*4:=by have:=hf'.1;simpa [SvR] using this
  refine ⟨cells'.take (xs.length*4),⟨by simp only [SvR,yF];omega,.inr ⟨g',c,cur',rfl,hg',hh',by omega,k2',k3',?_⟩⟩,?_⟩
  ·have e2:(xs++[y]).length*SvR.k=(xs.length+1)*4:=by simp [SvR]
   rw [e2] at k4'
   rw [←k4',List.take_take]
   congr 1
   simp [SvR]
  ·have:=hf'.take xs.length
   simpa [SvR] using this
end
theorem bv {α:Type} {R:Reader α} {P:Program} {w:World} {e:TypeId} {base:Nat} {v:Value} {xs ys:List α} {ops:Array Oper} {rest:List Oper} {o:Oper} {a:Act} {Q:Exit→Act→World→Prop} (hgd:o.guard=none) (s x:Operand) (t:TypeId)
 (ho:o.op=.call { callee:=.builtin .append,args:=#[s,x],argTypes:=#[t,t] })
 {i:TypeInfo} {z:Value} {bytes:Nat} (ht:P.underlying t=some (.slice e)) (hi:P.info? e=some i) (hz:i.zero=some z)
 (hsize:i.size=R.k) (hby:i.bytes=bytes) (hzs:z.cells.size=R.k) (hsz:0<R.k) (hs1:dz R)
 (hs:a.eval s=v) (hown:am R e w base 0 v xs) {ad:Addr} {m c:Nat} (hx:a.eval x=.slice (some ad) m c) (hsrc:gH R w 0 (some ad) ys) (hm:m=ys.length)
 (hbytes:(xs.length+ys.length)*bytes≤140737488355328) (hb1:1≤bytes) (hbase:base≤w.heap.size)
 (h:∀v' w',am R e w' base 0 v' (xs++ys)→w.grownBy w' v.ownBlock→bC w v v'→wpList P ops Q rest (a.put o.dst v') w'):wpList P ops Q (o::rest) a w:=
 wpList_plain hgd fun _ hK=>lD s x t ho ht hi hz hsize hby hzs hsz hs1 hs hown hx hsrc hm hbytes hb1 hbase fun v' w' h1 h2 h3=>hK _ _ (h v' w' h1 h2 h3)
theorem vg {w:World} {b:Nat} {x:SV} {T:TypeId} (h:w.heap[b]? = some (.cells #[.int .i64 x.t.kind,.int .i64 x.t.n,.string x.t.s,.slice x.a x.t.l.length x.c] T (0,0))):gH SvR w 0 (some ⟨b,0,none⟩) [x]:=Blk.srcs ⟨T,h⟩ (bA.one (R:=SvR) rfl)
theorem am.farN {α:Type} {R:Reader α} {e:TypeId} {w:World} {base D:Nat} {v:Value} {xs:List α} (h:am R e w base 0 v xs) (hne:v.ownBlock≠some D) (i:Nat) (u:Value):am R e (w.setCell ⟨D,i,none⟩ u) base 0 v xs:=by
 obtain ⟨cells,h,hf⟩:=h
 refine ⟨cells,⟨h.1,?_⟩,hf.keep ((yq 0 w).setCell (p:=⟨D,i,none⟩) (yp _) u) (yo _)⟩
 rcases h.2 with h2 | ⟨g,cap,cur,hv,hg,hh,r⟩
 ·exact .inl h2
 ·refine .inr ⟨g,cap,cur,hv,hg,?_,r⟩
  rw [hv] at hne
  simp only [Value.ownBlock,ne_eq,yz] at hne
  exact (Below.heap_setCell w ⟨D,i,none⟩ u g hne).trans hh
def ta (g:Nat) (xs:List SV) (A:Option Addr):Prop:=(∀b,A=some b→b.block<g)∧∀x∈xs,∀a,x.a=some a→a.block<g
theorem StkQ.low {base D c g:Nat} {w:World} {xs:List SV} {A:Option Addr} (h:StkQ base D w xs A c) (hg:w.heap.size≤g):ta g xs A:=
 ⟨fun b hb=>yr (h.row b hb).2 hg,fun x hx a ha=>yr (h.lt x hx a ha).2 hg⟩
theorem StkQ.far {base D c g:Nat} {w:World} {xs:List SV} {A:Option Addr} (h:StkQ base D w xs A c) (hl:ta g xs A) (i:Nat) (u:Value):StkQ base D (w.setCell ⟨g,i,none⟩ u) xs A c:=by
 refine ⟨h.own.farN (fun e=>?_) i u,fun x hx=>(h.tms x hx).keep ((yq 0 w).setCell (p:=⟨g,i,none⟩) (yp _) u) fun a ha=>Below.heap_setCell w ⟨g,i,none⟩ u a.block (by have:=hl.2 x hx a ha;show a.block≠g;omega),h.sep,fun x hx a ha=>by rw [World.size_setCell];exact h.lt x hx a ha⟩
 rcases hA:A with _ | b
 ·rw [hA] at e;cases e
 ·rw [hA] at e
  simp only [Value.ownBlock,yz] at e
  have:=hl.1 b hA
  omega
theorem StkQ.far4 {base D c g:Nat} {w:World} {xs:List SV} {A:Option Addr} (h:StkQ base D w xs A c) (hl:ta g xs A) (u0 u1 u2 u3:Value):StkQ base D ((((w.setCell ⟨g,0,none⟩ u0).setCell ⟨g,1,none⟩ u1).setCell ⟨g,2,none⟩ u2).setCell ⟨g,3,none⟩ u3) xs A c:=
 (((h.far hl 0 u0).far hl 1 u1).far hl 2 u2).far hl 3 u3
theorem StkQ.under {base D c g:Nat} {w:World} {xs:List SV} {A:Option Addr} (h:StkQ base D w xs A c) (hg:g<base) (i:Nat) (u:Value):StkQ base D (w.setCell ⟨g,i,none⟩ u) xs A c:=
 ⟨h.own.far hg (yp _) u,fun x hx=>(h.tms x hx).keep ((yq 0 w).setCell (p:=⟨g,i,none⟩) (yp _) u) fun a ha=>Below.heap_setCell w ⟨g,i,none⟩ u a.block (by have:=(h.lt x hx a ha).1;show a.block≠g;omega),h.sep,fun x hx a ha=>by rw [World.size_setCell];exact h.lt x hx a ha⟩
def ak (M:Nat→Prop) (w w':World):Prop:=Below 0 w w'∧∀k,k<w.heap.size→¬M k→w'.heap[k]? = w.heap[k]?
section
variable {M N:Nat→Prop} {w w1 w':World}
theorem ak.refl (M:Nat→Prop) (w:World):ak M w w:=⟨yq 0 w,fun _ _ _=>rfl⟩
theorem ak.trans (h:ak M w w1) (h1:ak N w1 w') (hN:∀k,k<w.heap.size→N k→M k):ak M w w':=
 ⟨h.1.trans h1.1,fun k hk hm=>(h1.2 k (yr hk h.1.size) fun hn=>hm (hN k hk hn)).trans (h.2 k hk hm)⟩
theorem ak.mono (h:ak M w w') (hN:∀k,k<w.heap.size→M k→N k):ak N w w':=⟨h.1,fun k hk hn=>h.2 k hk fun hm=>hn (hN k hk hm)⟩
theorem ak.of_below (h:Below w.heap.size w w'):ak M w w':=⟨h.mono (yp _),fun k hk _=>h.block k hk⟩
theorem ak.under {base:Nat} (h:Below base w w'):ak (fun k=>base≤k) w w':=⟨h.mono (yp _),fun k _ hm=>h.block k (by omega)⟩
theorem ak.below {base:Nat} (h:ak M w w') (hM:∀k,k<base→¬M k) (hb:base≤w.heap.size):Below base w w':=⟨h.1.os,h.1.tape,h.1.output,h.1.size,fun k hk=>h.2 k (yr hk hb) (hM k hk)⟩
theorem ak.size (h:ak M w w'):w.heap.size≤w'.heap.size:=h.1.size
theorem ak.set_ (h:ak M w w') {g:Nat} (hg:g<w.heap.size→M g) (i:Nat) (u:Value):ak M w (w'.setCell ⟨g,i,none⟩ u):=by
 refine ⟨h.1.setCell (p:=⟨g,i,none⟩) (yp _) u,fun k hk hm=>?_⟩
 rw [Below.heap_setCell w' ⟨g,i,none⟩ u k (by intro e;have e:k=g:=e;subst e;exact hm (hg hk))]
 exact h.2 k hk hm
theorem ak.grown {row:Option Nat} (hg:w.grownBy w' row):ak (fun k=>some k=row) w w':=⟨(yq 0 w).grown hg (yp _) (fun _ _=>yp _),fun k hk hm=>hg.block k hk hm⟩
theorem ak.cell (h:ak M w w') {a:Addr} (ha:a.block<w.heap.size) (hm:¬M a.block):w'.cell? a=w.cell? a:=World.cell?_of_block (h.2 _ ha hm)
theorem ak.blk {b:Nat} {cs:Array Value} (h:ak M w w') (hb:Blk w b cs) (hm:¬M b):Blk w' b cs:=by
 obtain ⟨T,hh⟩:=hb
 exact ⟨T,(h.2 b (Array.getElem?_eq_some_iff.1 hh).1 hm).trans hh⟩
def fl (M:Nat→Prop) (w:World) (P:World→Prop):Prop:=∀w',ak M w w'→P w'
variable {P Q:World→Prop}
theorem fl.here (h:fl M w P):P w:=h w (ak.refl M w)
theorem fl.next (h:fl M w P) (ha:ak N w w1) (hN:∀k,k<w.heap.size→N k→M k) {Q2:Nat→Prop} (hM:∀k,k<w.heap.size→Q2 k→M k):fl Q2 w1 P:=fun w' h'=>
 h w' ((ha.mono hN).trans h' hM)
theorem fl.later (h:fl M w P) (ha:Below w.heap.size w w1):fl M w1 P:=h.next (ak.of_below (M:=M) ha) (fun _ _ h=>h) (fun _ _ h=>h)
theorem fl.mono (h:fl M w P) (hQ:∀w',P w'→Q w'):fl M w Q:=fun w' h'=>hQ w' (h w' h')
theorem fl.less (h:fl M w P) (hM:∀k,k<w.heap.size→N k→M k):fl N w P:=fun w' h'=>h w' (h'.mono hM)
theorem fl.rd {α:Type} {R:Reader α} {B:Nat} {x:α} {vs:List Value} (h:R.rd w B x vs) (hB:B≤w.heap.size) (hM:∀k,k<B→¬M k):fl M w (fun w'=>R.rd w' B x vs):=fun w' h'=>R.keep (h'.below hM hB) (yo _) h
theorem fl.rl {α:Type} {R:Reader α} {B:Nat} {xs:List α} {A:Option Addr} (h:RL R w B xs A) (hB:B≤w.heap.size) (hM:∀k,k<B→¬M k):fl M w (fun w'=>RL R w' B xs A):=fun w' h'=>h.keep (h'.below hM hB) (yo _)
end
structure Shallow {α:Type} (R:Reader α) (enc:α→List Value):Prop where
 iff:∀{w:World} {B:Nat} {x:α} {vs:List Value},R.rd w B x vs↔vs=enc x
 len:∀x,(enc x).length=R.k
section
variable {α:Type} {R:Reader α} {enc:α→List Value} {e:TypeId} {base:Nat} {w w':World} {v:Value} {xs:List α} {M:Nat→Prop}
theorem am.agree (h:am R e w base 0 v xs) (ha:ak M w w') (hm:∀k,v.ownBlock=some k→¬M k):am R e w' base 0 v xs:=by
 obtain ⟨cells,h,hf⟩:=h
 refine ⟨cells,⟨h.1,?_⟩,hf.keep ha.1 (yo _)⟩
 rcases h.2 with h2 | ⟨g,cap,cur,hv,hg0,hh,r⟩
 ·exact .inl h2
 ·exact .inr ⟨g,cap,cur,hv,hg0,(ha.2 g (Array.getElem?_eq_some_iff.1 hh).1 (hm g (by rw [hv];rfl))).trans hh,r⟩
theorem am.lt (h:am R e w base 0 v xs):∀g,v.ownBlock=some g→base≤g∧g<w.heap.size:=by
 obtain ⟨cells,how,_⟩:=h
 exact how.lt
theorem nB {L:List Value} {p a k:Nat} {u:Value} (h:p<a∨a+k≤p):((L.set p u).drop a).take k=(L.drop a).take k:=by
 rcases h with h | h
 ·rw [List.drop_set_of_lt h]
 ·rw [List.drop_set,if_neg (by omega),List.take_set,List.set_eq_of_length_le]
  rw [yF];omega
theorem lW {L:List Value} {a k j:Nat} {u:Value} (h:j<k):((L.set (a+j) u).drop a).take k=((L.drop a).take k).set j u:=by
 rw [List.drop_set,if_neg (by omega),List.take_set]
 congr 1;omega
theorem am.sh (hs:Shallow R enc) (h:am R e w base 0 v xs) (hx:0<xs.length) :
 ∃g c,v=.slice (some ⟨g,0,none⟩) xs.length c∧g<w.heap.size∧base≤g∧xs.length≤c∧c≤9223372036854775807∧(∀i (hi:i<xs.length) j u,(enc xs[i])[j]? = some u→w.cell? ⟨g,i*R.k+j,none⟩=some u)∧(∀o,w.frozen? ⟨g,o,none⟩=false) ∧
  ∀i (hi:i<xs.length) j u x,j<R.k→enc x=(enc xs[i]).set j u→am R e (w.setCell ⟨g,i*R.k+j,none⟩ u) base 0 v (xs.set i x):=by
 obtain ⟨cells,ho,hf⟩:=h
 rcases ho.2 with ⟨h1,h2⟩ | ⟨g,cap,cur,hv,hg,hh,k1,k2,k3,k4⟩
 ·omega
 ·have hglt:g<w.heap.size:=(Array.getElem?_eq_some_iff.1 hh).1
  have hbt:bN w g cur e:=hh
  refine ⟨g,cap,hv,hglt,hg,k1,by unfold maxLen at k2;omega,?_,hbt.blk.free,?_⟩
  ·intro i hi j u hj
   have h0:=hs.iff.1 (hf.2 i hi)
   rw [←h0,List.getElem?_take] at hj
   split at hj
   ·rw [List.getElem?_drop,←k4,List.getElem?_take] at hj
    split at hj
    ·rw [cell_of_row w g _ cur e (0,0) hh]
     simpa using hj
    ·cases hj
   ·cases hj
  ·intro i hi j u x hj he
   have hp:i*R.k+j<xs.length*R.k:=by
    have:(i+1)*R.k≤xs.length*R.k:=Nat.mul_le_mul_right _ hi
    rw [Nat.add_mul] at this;omega
   refine ⟨cells.set (i*R.k+j) u,⟨by rw [List.length_set,List.length_set];exact ho.1,.inr ⟨g,cap,_,by rw [List.length_set];exact hv,hg,hbt.set_ (i*R.k+j) u,by rw [List.length_set];exact k1,k2,by simpa using k3,?_⟩⟩,by rw [List.length_set,List.length_set];exact hf.1,fun i' hi'=>?_⟩
   ·rw [List.length_set,Array.toList_setIfInBounds,List.take_set,k4]
   ·rw [List.length_set] at hi'
    rw [hs.iff]
    have h0:=hs.iff.1 (hf.2 i' hi')
    by_cases hii:i'=i
    ·subst hii
     rw [List.getElem_set_self,lW hj,h0,he]
    ·rw [List.getElem_set_ne (Ne.symm hii),←h0]
     refine nB ?_
     rcases Nat.lt_or_ge i' i with h1 | h1
     ·right
      have:(i'+1)*R.k≤i*R.k:=Nat.mul_le_mul_right _ h1
      rw [Nat.add_mul] at this;omega
     ·left
      have:(i+1)*R.k≤i'*R.k:=Nat.mul_le_mul_right _ (by omega)
      rw [Nat.add_mul] at this;omega
end
end Go.Proofs.YtjpndglegpcdnaaGreat
