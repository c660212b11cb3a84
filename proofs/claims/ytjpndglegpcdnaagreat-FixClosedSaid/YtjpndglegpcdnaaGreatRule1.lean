/- rule.MayPred, MayFact, MayScope. -/
import Derived.Test.YtjpndglegpcdnaaGreatRead2
import Derived.Below
import Derived.Laws.OwnMore
import Derived.Laws.AppendOwnNone
import Derived.Laws.Rows
import Derived.OwnWalk
import Derived.Deep.Draws
import Derived.Lib.QuietBelow
import Derived.Test.YtjpndglegpcdnaaGreatData
import Derived.Deep.CutRange
set_option linter.unusedVariables false
set_option linter.unusedSimpArgs false
set_option maxRecDepth 100000
set_option maxHeartbeats 8000000
namespace Go.Proofs.YtjpndglegpcdnaaGreat
open Go.ChangeShapes Go.WideShapes Go.ChangeAt Go.RowKit
theorem AO {α:Type _}{l:List α}{i:Nat}(h:i<l.length):l[i]? = some l[i]:=List.getElem?_eq_getElem h
theorem AW {α:Type _}{i:Nat}{l:List α}:(List.take i l).length=min i l.length:=List.length_take
def Blk (w:World) (b:Nat) (vs:Array Value):Prop:=∃T,w.heap[b]? = some (.cells vs T (0,0))
section
variable {w w':World} {b c:Nat} {vs:Array Value}
theorem Blk.lt (h:Blk w b vs):b<w.heap.size:=by
 obtain ⟨T,h⟩:=h
 rcases Nat.lt_or_ge b w.heap.size with h' | h'
 ·exact h'
 ·rw [Array.getElem?_eq_none h'] at h;cases h
theorem Blk.cell (h:Blk w b vs) (o:Nat):w.cell? ⟨b,o,none⟩=vs[o]?:=by
 obtain ⟨T,h⟩:=h
 exact cell_of_row w b o vs T (0,0) h
theorem Blk.free (h:Blk w b vs) (o:Nat):w.frozen? ⟨b,o,none⟩=false:=by
 obtain ⟨T,h⟩:=h
 simp [World.frozen?,h]
theorem Blk.keep {B:Nat} (h:Blk w b vs) (hb:Below B w w') (hB:b<B):Blk w' b vs:=by
 obtain ⟨T,h⟩:=h
 exact ⟨T,(hb.block b hB).trans h⟩
theorem Blk.later (h:Blk w b vs) (hb:Below w.heap.size w w'):Blk w' b vs:=h.keep hb h.lt
theorem Blk.old (h:Blk w b vs) (o:Obj):Blk (w.alloc o) b vs:=h.later ((AI _ _).alloc (AG _) o)
theorem Blk.new (w:World) (vs:Array Value) (T:TypeId):Blk (w.alloc (.cells vs T)) w.heap.size vs:=⟨T,heap_alloc_new w _⟩
theorem Blk.set_ (h:Blk w b vs) (i:Nat) (u:Value):Blk (w.setCell ⟨b,i,none⟩ u) b (vs.setIfInBounds i u):=by
 obtain ⟨T,h⟩:=h
 exact ⟨T,by simp [World.setCell,Array.getElem?_modify,h]⟩
theorem Blk.regrown (h:Blk w b vs) (d:Nat) (os:Array Obj) (o:Nat):(Sort.grow (redrawn w d) os).cell? ⟨b,o,none⟩=vs[o]?:=(h.later (below_regrown w d os)).cell o
theorem Blk.drew (h:Blk w b vs):Blk w.drew b vs:=h
theorem Blk.far (h:Blk w b vs) (hne:b≠c) (i:Nat) (u:Value):Blk (w.setCell ⟨c,i,none⟩ u) b vs:=by
 obtain ⟨T,h⟩:=h
 exact ⟨T,(Below.heap_setCell w ⟨c,i,none⟩ u b hne).trans h⟩
end
theorem aa {a b c:World} (h:Below a.heap.size a b) (k:Below b.heap.size b c):Below a.heap.size a c:=h.trans (k.mono h.size)
section
variable {w W:World} {o1 o2 o3 o4 o5 o6 o7 o8 o9 o10 o11 o12:Obj} {v1 v2 v3 v4 v5 v6 v7 v8 v9 v10 v11 v12:Array Value} {T1 T2 T3 T4 T5 T6 T7 T8 T9 T10 T11 T12:TypeId}
theorem fM {u V:World} {n:Nat} {o:Obj} (h:Below w.heap.size w u∧u.heap.size=n):Below w.heap.size w (u.alloc o)∧(u.alloc o).heap.size=n+1:=⟨h.1.alloc h.1.size _,by rw [World.size_alloc,h.2]⟩
theorem al1 (h:w.alloc o1=W):Below w.heap.size w W∧W.heap.size=w.heap.size+1:=h▸fM (V:=W) ⟨AI _ _,rfl⟩
theorem al2 (h:(w.alloc o1).alloc o2=W):Below w.heap.size w W∧W.heap.size=w.heap.size+1+1:=h▸fM (V:=W) (al1 rfl)
theorem al3 (h:((w.alloc o1).alloc o2).alloc o3=W):Below w.heap.size w W∧W.heap.size=w.heap.size+1+1+1:=h▸fM (V:=W) (al2 rfl)
theorem al4 (h:(((w.alloc o1).alloc o2).alloc o3).alloc o4=W):Below w.heap.size w W∧W.heap.size=w.heap.size+1+1+1+1:=h▸fM (V:=W) (al3 rfl)
theorem al5 (h:((((w.alloc o1).alloc o2).alloc o3).alloc o4).alloc o5=W):Below w.heap.size w W∧W.heap.size=w.heap.size+1+1+1+1+1:=h▸fM (V:=W) (al4 rfl)
theorem al6 (h:(((((w.alloc o1).alloc o2).alloc o3).alloc o4).alloc o5).alloc o6=W):Below w.heap.size w W∧W.heap.size=w.heap.size+1+1+1+1+1+1:=h▸fM (V:=W) (al5 rfl)
theorem al7 (h:((((((w.alloc o1).alloc o2).alloc o3).alloc o4).alloc o5).alloc o6).alloc o7=W):Below w.heap.size w W∧W.heap.size=w.heap.size+1+1+1+1+1+1+1:=h▸fM (V:=W) (al6 rfl)
theorem al8 (h:(((((((w.alloc o1).alloc o2).alloc o3).alloc o4).alloc o5).alloc o6).alloc o7).alloc o8=W):Below w.heap.size w W∧W.heap.size=w.heap.size+1+1+1+1+1+1+1+1:=h▸fM (V:=W) (al7 rfl)
theorem n11 (h:w.alloc (.cells v1 T1)=W):Blk W w.heap.size v1:=h▸Blk.new w v1 T1
theorem n21 (h:(w.alloc (.cells v1 T1)).alloc o2=W):Blk W (w.heap.size) v1:=h▸(n11 rfl).old _
theorem n22 (h:(w.alloc o1).alloc (.cells v2 T2)=W):Blk W (w.heap.size+1) v2:=by
 have e:=(al1 (W:=w.alloc o1) rfl).2
 have:=Blk.new (w.alloc o1) v2 T2
 rw [e] at this
 exact h▸this
theorem n31 (h:((w.alloc (.cells v1 T1)).alloc o2).alloc o3=W):Blk W (w.heap.size) v1:=h▸(n21 rfl).old _
theorem n32 (h:((w.alloc o1).alloc (.cells v2 T2)).alloc o3=W):Blk W (w.heap.size+1) v2:=h▸(n22 rfl).old _
theorem n33 (h:((w.alloc o1).alloc o2).alloc (.cells v3 T3)=W):Blk W (w.heap.size+1+1) v3:=by
 have e:=(al2 (W:=(w.alloc o1).alloc o2) rfl).2
 have:=Blk.new ((w.alloc o1).alloc o2) v3 T3
 rw [e] at this
 exact h▸this
theorem n41 (h:(((w.alloc (.cells v1 T1)).alloc o2).alloc o3).alloc o4=W):Blk W (w.heap.size) v1:=h▸(n31 rfl).old _
theorem n42 (h:(((w.alloc o1).alloc (.cells v2 T2)).alloc o3).alloc o4=W):Blk W (w.heap.size+1) v2:=h▸(n32 rfl).old _
theorem n43 (h:(((w.alloc o1).alloc o2).alloc (.cells v3 T3)).alloc o4=W):Blk W (w.heap.size+1+1) v3:=h▸(n33 rfl).old _
theorem n44 (h:(((w.alloc o1).alloc o2).alloc o3).alloc (.cells v4 T4)=W):Blk W (w.heap.size+1+1+1) v4:=by
 have e:=(al3 (W:=((w.alloc o1).alloc o2).alloc o3) rfl).2
 have:=Blk.new (((w.alloc o1).alloc o2).alloc o3) v4 T4
 rw [e] at this
 exact h▸this
theorem n99 (h:((((((((w.alloc o1).alloc o2).alloc o3).alloc o4).alloc o5).alloc o6).alloc o7).alloc o8).alloc (.cells v9 T9)=W):Blk W (w.heap.size+1+1+1+1+1+1+1+1) v9:=by
 have e:=(al8 (W:=(((((((w.alloc o1).alloc o2).alloc o3).alloc o4).alloc o5).alloc o6).alloc o7).alloc o8) rfl).2
 have:=Blk.new ((((((((w.alloc o1).alloc o2).alloc o3).alloc o4).alloc o5).alloc o6).alloc o7).alloc o8) v9 T9
 rw [e] at this
 exact h▸this
end
theorem dg {P:Program} {f:FuncId} {args:Array Value} {w:World} {x y:Bool} (h:x=y) (hc:Calls P f args w fun e w'=>e=.returned (.bool x)∧Below w.heap.size w w'):Calls P f args w fun e w'=>e=.returned (.bool y)∧Below w.heap.size w w':=h▸hc
def bu {α:Type} (R:Reader α) (w:World) (B:Nat) (xs:List α) (news:List Value):Prop:=
 news.length=xs.length*R.k∧∀i (hi:i<xs.length),R.rd w B xs[i] ((news.drop (i*R.k)).take R.k)
def dL {α:Type} (R:Reader α):Prop:=∀{w:World} {B:Nat} {x:α} {vs:List Value},R.rd w B x vs→∀u∈vs,u.oneCell'=true
section
variable {α:Type} {R:Reader α} {w w':World} {B B' C:Nat} {xs ys:List α} {news olds:List Value}
theorem bu.keep (h:bu R w B xs news) (hw:Below C w w') (hB:B≤C):bu R w' B xs news:=⟨h.1,fun i hi=>R.keep hw hB (h.2 i hi)⟩
theorem bu.wide (h:bu R w B xs news) (hB:B≤B'):bu R w B' xs news:=⟨h.1,fun i hi=>R.wide hB (h.2 i hi)⟩
theorem bu.nil:bu R w B [] []:=⟨by simp,fun i hi=>absurd hi (by simp)⟩
theorem bu.append (h:bu R w B xs olds) (k:bu R w B ys news):bu R w B (xs++ys) (olds++news):=by
 refine ⟨by rw [AK,AK,h.1,k.1,Nat.add_mul],fun i hi=>?_⟩
 rw [AK] at hi
 by_cases hx:i<xs.length
 ·rw [List.getElem_append_left hx]
  have h1:(i+1)*R.k≤xs.length*R.k:=Nat.mul_le_mul_right _ hx
  rw [Nat.add_mul,Nat.one_mul] at h1
  have h2:=h.1
  rw [List.drop_append_of_le_length (by omega),List.take_append_of_le_length (by rw [List.length_drop];omega)]
  exact h.2 i hx
 ·obtain ⟨j,rfl⟩:∃j,i=xs.length+j:=⟨i-xs.length,by omega⟩
  have hj:j<ys.length:=by omega
  rw [List.getElem_append_right (by omega)]
  have e:(xs.length+j)*R.k=olds.length+j*R.k:=by rw [Nat.add_mul,h.1]
  rw [e,List.drop_length_add_append]
  have:=k.2 j hj
  simpa using this
theorem bu.one {x:α} {vs:List Value} (h:R.rd w B x vs):bu R w B [x] vs:=by
 have hl:=R.len h
 refine ⟨by simp [hl],fun i hi=>?_⟩
 have hi0:i=0:=by simpa using hi
 subst hi0
 simp only [List.getElem_cons_zero,Nat.zero_mul,List.drop_zero]
 rw [List.take_of_length_le (by omega)]
 exact h
theorem bu.single (hs:dL R) (h:bu R w B xs news):∀u∈news,u.oneCell'=true:=by
 intro u hu
 obtain ⟨j,hj,rfl⟩:=List.getElem_of_mem hu
 have hk:0<R.k:=by
  rcases Nat.eq_zero_or_pos R.k with h0 | h0
  ·have:=h.1;rw [h0,Nat.mul_zero] at this;omega
  ·exact h0
 have hi:j / R.k<xs.length:=by
  rw [Nat.div_lt_iff_lt_mul hk,←h.1];exact hj
 refine hs (h.2 (j / R.k) hi) _ ?_
 have hm:=Nat.mod_lt j hk
 have hd:j / R.k*R.k+j % R.k=j:=by rw [Nat.mul_comm];exact Nat.div_add_mod j R.k
 rw [List.mem_iff_getElem?]
 refine ⟨j % R.k,?_⟩
 rw [List.getElem?_take,if_pos hm,List.getElem?_drop,hd,AO hj]
theorem RL.flat {A:Option Addr} (h:RL R w B xs A):∃news,bu R w B xs news∧∀b off,A=some ⟨b,off,none⟩→∀j u,news[j]? = some u→w.cell? ⟨b,off+j,none⟩=some u:=by
 have key:∀n,n≤xs.length→∃news,bu R w B (xs.take n) news∧∀b off,A=some ⟨b,off,none⟩→∀j u,news[j]? = some u→w.cell? ⟨b,off+j,none⟩=some u:=by
  intro n
  induction n with
  | zero=>intro _;exact ⟨[],by rw [List.take_zero];exact bu.nil,fun b off _ j u hu=>by simp at hu⟩
  | succ n ih=>
    intro hn
    obtain ⟨news,hf,hc⟩:=ih (by omega)
    obtain ⟨b,off,rfl,hb,hcell⟩:=h (by omega)
    obtain ⟨vs,hl,⟨x,hx,hr⟩,hv⟩:=hcell n (by omega)
    obtain ⟨hn',rfl⟩:=List.getElem?_eq_some_iff.1 hx
    refine ⟨news++vs,?_,?_⟩
    ·rw [List.take_succ_eq_append_getElem hn']
     exact hf.append (bu.one hr)
    ·intro b' off' e j u hu
     simp only [AP,Addr.mk.injEq,and_true] at e
     obtain ⟨rfl,rfl⟩:=e
     have hfl:=hf.1
     rw [AW,Nat.min_eq_left (by omega)] at hfl
     by_cases hj:j<news.length
     ·rw [List.getElem?_append_left hj] at hu
      exact hc _ _ rfl j u hu
     ·rw [List.getElem?_append_right (by omega)] at hu
      have:=hv (j-news.length) u hu
      rw [hfl] at this
      have e2:off+n*R.k+(j-n*R.k)=off+j:=by omega
      rw [e2] at this
      exact this
 obtain ⟨news,h1,h2⟩:=key xs.length (AG _)
 rw [List.take_length] at h1
 exact ⟨news,h1,h2⟩
end
def aq {α:Type} (R:Reader α) (e:TypeId) (w:World) (base B:Nat) (v:Value) (xs:List α):Prop:=
 ∃cells,w.ownsRow base e R.k v xs.length cells∧bu R w B xs cells
section
variable {α:Type} {R:Reader α} {e:TypeId} {w w':World} {base B B':Nat} {v:Value} {xs ys:List α}
theorem aq.nil (R:Reader α) (e:TypeId) (w:World) (base B:Nat):aq R e w base B (.slice none 0 0) []:=⟨[],World.ownsRow_nil _ _ _ _,bu.nil⟩
theorem aq.empty (R:Reader α) (e:TypeId) {b:Nat} (h:w.heap[b]? = some (.cells #[] e (0,0))) (hb:base≤b) (B:Nat):aq R e w base B (.slice (some ⟨b,0,none⟩) 0 0) []:=
 ⟨[],⟨by simp,.inr ⟨b,0,#[],rfl,hb,h,by simp,by simp [maxLen],by simp,by simp⟩⟩,bu.nil⟩
theorem aq.wide (h:aq R e w base B v xs) (hB:B≤B'):aq R e w base B' v xs:=by
 obtain ⟨cells,h,hf⟩:=h
 exact ⟨cells,h,hf.wide hB⟩
theorem aq.later (h:aq R e w base B v xs) (hb:Below w.heap.size w w') (hB:B≤w.heap.size):aq R e w' base B v xs:=by
 obtain ⟨cells,h,hf⟩:=h
 refine ⟨cells,⟨h.1,?_⟩,hf.keep hb hB⟩
 rcases h.2 with h2 | ⟨g,cap,cur,hv,hg,hh,r⟩
 ·exact .inl h2
 ·refine .inr ⟨g,cap,cur,hv,hg,?_,r⟩
  have hlt:g<w.heap.size:=by
   rcases Nat.lt_or_ge g w.heap.size with h' | h'
   ·exact h'
   ·rw [Array.getElem?_eq_none h'] at hh;cases hh
  rw [hb.block g hlt];exact hh
theorem aq.far (h:aq R e w base B v xs) {c i:Nat} (hc:c<base) (hB:B≤c) (u:Value):aq R e (w.setCell ⟨c,i,none⟩ u) base B v xs:=by
 obtain ⟨cells,h,hf⟩:=h
 refine ⟨cells,⟨h.1,?_⟩,hf.keep ((AI B w).setCell (p:=⟨c,i,none⟩) hB u) (AG _)⟩
 rcases h.2 with h2 | ⟨g,cap,cur,hv,hg,hh,r⟩
 ·exact .inl h2
 ·exact .inr ⟨g,cap,cur,hv,hg,(Below.heap_setCell w ⟨c,i,none⟩ u g (by show g≠c;omega)).trans hh,r⟩
theorem aq.reads (h:aq R e w base B v xs) (hB:B≤w.heap.size) (hn:xs.length*(8*R.k)≤140737488351232):RSl R w w.heap.size xs v:=by
 obtain ⟨cells,h,hf⟩:=h
 rcases h.2 with ⟨h1,h2⟩ | ⟨g,cap,cur,hv,hg,hh,h1,h2,h3,h4⟩
 ·refine ⟨none,0,by rw [h1,h2],by omega,⟨hn,by omega⟩,?_⟩
  intro h0
  omega
 ·refine ⟨_,cap,hv,h1,⟨hn,by unfold maxLen at h2;omega⟩,fun _=>⟨g,0,rfl,?_,fun i hi=>?_⟩⟩
  ·rcases Nat.lt_or_ge g w.heap.size with h' | h'
   ·exact h'
   ·rw [Array.getElem?_eq_none h'] at hh;cases hh
  ·refine ⟨_,R.len (hf.2 i hi),⟨xs[i],AO hi,R.wide hB (hf.2 i hi)⟩,fun j u hj=>?_⟩
   rw [List.getElem?_take] at hj
   split at hj
   ·rename_i hjk
    rw [List.getElem?_drop] at hj
    rw [←h4,List.getElem?_take] at hj
    split at hj
    ·show World.cell? w ⟨g,0+i*R.k+j,none⟩=_
     rw [cell_of_row w g _ cur e (0,0) hh,Nat.zero_add]
     simpa using hj
    ·cases hj
   ·cases hj
theorem aq.form (h:aq R e w base B v xs):∃A c,v=.slice A xs.length c:=by
 obtain ⟨cells,h,_⟩:=h
 rcases h.2 with ⟨h1,h2⟩ | ⟨g,cap,cur,hv,_⟩
 ·exact ⟨none,0,by rw [h1,h2]⟩
 ·exact ⟨_,cap,hv⟩
def fy (R:Reader α) (w:World) (B:Nat) (A:Option Addr) (xs:List α):Prop:=
 ∃cells,bu R w B xs cells∧(A=none→xs=[])∧∀a,A=some a→∀j u,cells[j]? = some u→w.cell? (a.add j)=some u
theorem RL.src {A:Option Addr} (h:RL R w B xs A):fy R w B A xs:=by
 obtain ⟨cells,hf,hc⟩:=h.flat
 refine ⟨cells,hf,fun e=>?_,fun a ha j u hu=>?_⟩
 ·subst e
  rcases xs with _ | ⟨x,xs⟩
  ·rfl
  ·obtain ⟨b,off,e,_⟩:=h (by simp)
   cases e
 ·have h0:0<xs.length:=by
   rcases xs with _ | ⟨x,xs⟩
   ·have:=hf.1
    rw [List.length_nil,Nat.zero_mul] at this
    rw [List.eq_nil_of_length_eq_zero this] at hu
    simp at hu
   ·simp
  obtain ⟨b,off,e,_⟩:=h h0
  subst e
  simp only [AP] at ha
  subst ha
  have:=hc b off rfl j u hu
  unfold Addr.add
  split
  ·rename_i hj;subst hj;exact this
  ·exact this
theorem Blk.rl {x:α} {vs:Array Value} {b:Nat} (h:Blk w b vs) (hr:R.rd w B x vs.toList) (hb:b<B):RL R w B [x] (some ⟨b,0,none⟩):=fun _=>
 ⟨b,0,rfl,hb,fun i hi=>by
  have hi0:i=0:=by simpa using hi
  subst hi0
  exact ⟨vs.toList,R.len hr,⟨x,rfl,hr⟩,fun j v hv=>by
   have:=h.cell j
   rw [←Array.getElem?_toList,hv] at this
   simpa using this⟩⟩
theorem Blk.src {x:α} {vs:Array Value} {b:Nat} (h:Blk w b vs) (hr:R.rd w B x vs.toList):fy R w B (some ⟨b,0,none⟩) [x]:=by
 refine ⟨vs.toList,bu.one hr,fun e=>by (cases e),fun a ha j u hu=>?_⟩
 simp only [AP] at ha
 subst ha
 have:=h.cell j
 rw [←Array.getElem?_toList,hu] at this
 unfold Addr.add
 split
 ·rename_i hj;subst hj;exact this
 ·simpa using this
theorem eG {P:Program} {cells:List Value} {size n:Nat} {i:TypeInfo} (t ty e:TypeId) (ht:P.underlying t=some (.slice e)) (hi:P.info? e=some i) (hown:w.ownsRow base e size v n cells) (c:Nat) :
 (Builtin.append_ #[t,t] ty #[v,.slice none 0 c]).run P w=.ok v w:=by
 rcases hown.2 with ⟨rfl,rfl⟩ | ⟨g,cap,cur,rfl,_,_,hnc,_⟩
 ·simp [Builtin.append_,run_underlying ht,sizeOf,typeInfo,hi,Builtin.lenOf,Builtin.firstCells]
 ·simp [Builtin.append_,run_underlying ht,sizeOf,typeInfo,hi,Builtin.lenOf,Builtin.firstCells,hnc,storeCells]
theorem aq.drew (h:aq R e w base B v xs) (hB:B≤w.heap.size):aq R e w.drew base B v xs:=h.later (AI _ _).drew hB
theorem fy.drew {A:Option Addr} (h:fy R w B A xs):fy R w.drew B A xs:=by
 obtain ⟨cells,hf,h1,h2⟩:=h
 exact ⟨cells,hf.keep (AI B w).drew (AG _),h1,h2⟩
theorem fy.later {A:Option Addr} {C:Nat} (h:fy R w B A xs) (hc:∀a,A=some a→a.block<C) (hb:Below C w w') (hB:B≤C):fy R w' B A xs:=by
 obtain ⟨cells,hf,h1,h2⟩:=h
 refine ⟨cells,hf.keep hb hB,h1,fun a ha j u hu=>?_⟩
 rw [←h2 a ha j u hu]
 refine hb.cell ?_
 have:=hc a ha
 unfold Addr.add
 split<;>exact this
theorem mq {P:Program} {o:Oper} {a:Act} {K:Act→World→Prop} {Q:Exit→Act→World→Prop} (s x:Operand) (t:TypeId)
 (ho:o.op=.call { callee:=.builtin .append,args:=#[s,x],argTypes:=#[t,t] })
 {i:TypeInfo} {z:Value} {bytes:Nat} (ht:P.underlying t=some (.slice e)) (hi:P.info? e=some i) (hz:i.zero=some z)
 (hsize:i.size=R.k) (hby:i.bytes=bytes) (hzs:z.cells.size=R.k) (hsz:0<R.k) (hs1:dL R)
 (hs:a.eval s=v) (hown:aq R e w base B v xs) {A:Option Addr} {m c:Nat} (hx:a.eval x=.slice A m c) (hsrc:fy R w B A ys) (hm:m=ys.length) (hB:B≤base)
 (hbytes:(xs.length+ys.length)*bytes≤140737488355328) (hb1:1≤bytes) (hbase:base≤w.heap.size)
 (h:∀v' w',aq R e w' base B v' (xs++ys)→Below base w w'→w.grownBy w' v.ownBlock→K (a.put o.dst v') w'):o.wp P a w K Q:=by
 subst hm
 obtain ⟨cells,how,hf⟩:=hown
 obtain ⟨news,hf2,hnil,hc⟩:=hsrc
 have hle:xs.length+ys.length≤(xs.length+ys.length)*bytes:=Nat.le_mul_of_pos_right _ hb1
 rcases A with _ | ad
 ·obtain rfl:=hnil rfl
  have hrun:=eG (P:=P) t o.type e ht hi how c
  unfold Oper.wp
  simp [execOp,ho,resolve,invoke,builtin,hs,hx,hrun,Result.andThen]
  refine h _ _ ?_ (AI _ _) (World.grownBy.refl w _)
  rw [List.append_nil]
  exact ⟨cells,how,hf⟩
 ·refine wp_append_own w s x t ho base e i z R.k bytes ht hi hz hsize hby hzs hsz v xs.length cells hs how ad ys.length c news hx hf2.1 (hc ad rfl) (hf2.single hs1) (by unfold maxLen;omega) hbytes hbase ?_
  intro v' w' hown' hg _
  have hb:Below base w w':=(AI _ _).grown hg hbase (fun k hk=>(how.lt k hk).1)
  refine h v' w' ⟨cells++news,?_,(hf.append hf2).keep hb hB⟩ hb hg
  rw [AK]
  exact hown'
theorem ar {P:Program} {ops:Array Oper} {rest:List Oper} {o:Oper} {a:Act} {Q:Exit→Act→World→Prop} (hgd:o.guard=none) (s x:Operand) (t:TypeId)
 (ho:o.op=.call { callee:=.builtin .append,args:=#[s,x],argTypes:=#[t,t] })
 {i:TypeInfo} {z:Value} {bytes:Nat} (ht:P.underlying t=some (.slice e)) (hi:P.info? e=some i) (hz:i.zero=some z)
 (hsize:i.size=R.k) (hby:i.bytes=bytes) (hzs:z.cells.size=R.k) (hsz:0<R.k) (hs1:dL R)
 (hs:a.eval s=v) (hown:aq R e w base B v xs) {A:Option Addr} {m c:Nat} (hx:a.eval x=.slice A m c) (hsrc:fy R w B A ys) (hm:m=ys.length) (hB:B≤base)
 (hbytes:(xs.length+ys.length)*bytes≤140737488355328) (hb1:1≤bytes) (hbase:base≤w.heap.size)
 (h:∀v' w',aq R e w' base B v' (xs++ys)→Below base w w'→wpList P ops Q rest (a.put o.dst v') w'):wpList P ops Q (o::rest) a w:=
 wpList_plain hgd fun _ hK=>mq s x t ho ht hi hz hsize hby hzs hsz hs1 hs hown hx hsrc hm hB hbytes hb1 hbase fun v' w' h1 h2 _=>hK _ _ (h v' w' h1 h2)
end
section
variable {w w' W:World} {b g:Nat} {vs:Array Value} {o1 o2:Obj}
theorem Blk.grown {row:Option Nat} (h:Blk w b vs) (hg:w.grownBy w' row) (hne:some b≠row):Blk w' b vs:=by
 obtain ⟨T,h'⟩:=id h
 exact ⟨T,(hg.block b h.lt hne).trans h'⟩
theorem Ac:(w.alloc o1).heap[w.heap.size]? = some o1:=heap_alloc_new w _
theorem hp21:((w.alloc o1).alloc o2).heap[w.heap.size]? = some o1:=(Below.heap_alloc _ _ _ (by simp)).trans Ac
theorem hp22:((w.alloc o1).alloc o2).heap[w.heap.size+1]? = some o2:=by
 have:=Ac (w:=w.alloc o1) (o1:=o2)
 rwa [World.size_alloc] at this
theorem aq.grown {α:Type} {R:Reader α} {e:TypeId} {base B:Nat} {v:Value} {xs:List α} (h:aq R e w base B v xs) (hg:w.grownBy w' (some g)) (hgb:g<base) (hBg:B≤g) (hB:B≤w.heap.size):aq R e w' base B v xs:=by
 obtain ⟨cells,h,hf⟩:=h
 have hbel:Below B w w':=(AI _ _).grown hg hB (fun k hk=>by simp only [AP] at hk;omega)
 refine ⟨cells,⟨h.1,?_⟩,hf.keep hbel (AG _)⟩
 rcases h.2 with h2 | ⟨q,cap,cur,hv,hq,hh,r⟩
 ·exact .inl h2
 ·refine .inr ⟨q,cap,cur,hv,hq,?_,r⟩
  have hlt:q<w.heap.size:=by
   rcases Nat.lt_or_ge q w.heap.size with h' | h'
   ·exact h'
   ·rw [Array.getElem?_eq_none h'] at hh;cases hh
  rw [hg.block q hlt (fun e=>by simp only [AP] at e;omega)];exact hh
end
structure Fc where
 pr:Pr
 o:Int
def U32 (n:Int):Prop:=0≤n∧n<4294967296
def ay (d:Nat):Reader Fc where
 k:=3
 rd:=fun w B f vs=>∃v,vs=[.string f.pr.name,v,.int .u32 f.o]∧(PrR d).rd w B f.pr [.string f.pr.name,v]∧U32 f.o
 keep:=fun hw hB ⟨v,e,h,ho⟩=>⟨v,e,(PrR _).keep hw hB h,ho⟩
 wide:=fun hB ⟨v,e,h,ho⟩=>⟨v,e,(PrR _).wide hB h,ho⟩
 len:=fun ⟨_,e,_⟩=>by rw [e];rfl
theorem aG {d B:Nat} {w:World} {f:Fc} {vs:List Value} (h:(ay d).rd w B f vs):∃A c,vs=[.string f.pr.name,.slice A f.pr.terms.length c,.int .u32 f.o]∧f.pr.name.size≤140737488351232∧f.pr.terms.length≤c∧f.pr.terms.length*32≤140737488351232∧c≤9223372036854775807∧RL (TmR d) w B f.pr.terms A∧U32 f.o:=by
 obtain ⟨v,rfl,⟨v',e,hs,A,c,rfl,h1,h2,hl⟩,ho⟩:=h
 simp only [List.cons.injEq,and_true,true_and] at e
 subst e
 exact ⟨A,c,rfl,hs,h1,by have:=h2.1;simpa [TmR] using this,h2.2,hl,ho⟩
def orL:List Int→Int
 | []=>0
 | x::xs=>if x=0 then orL xs else x
theorem sF {xs:List Int}:∀{k:Nat},(∀i (hi:i<xs.length),i<k→xs[i]=0)→k≤xs.length→orL xs=orL (xs.drop k):=by
 intro k
 induction xs generalizing k with
 | nil=>intro _ _;simp
 | cons x xs ih=>
   intro h hk
   cases k with
   | zero=>rfl
   | succ k=>
     have h0:x=0:=h 0 (by simp) (by omega)
     rw [orL,if_pos h0,List.drop_succ_cons]
     exact ih (fun i hi hik=>by have:=h (i+1) (by simpa using hi) (by omega);simpa using this) (by simpa using hk)
theorem jd (xs:List Int) (b:Nat) (w:World) (h:∀i (hi:i<xs.length),w.cell? ⟨b,i,none⟩=some (.int .i64 xs[i])) (hn:xs.length≤1000) :
 Calls Tryz.prog 27 #[.slice (some ⟨b,0,none⟩) xs.length xs.length] w fun e w'=>e=.returned (.int .i64 (orL xs))∧w=w':=by
 have H:=AE h
 clear h
 go_enter Tryz.func27,Tryz.ntmps27
 go_wp2_with fail
 go_loop [8] (fun i=>∃k:Nat,k≤xs.length∧i=.int .i64 k∧Hid (∀i (hi:i<xs.length),i<k→xs[i]=0)) (fun i=>xs.length-(intOf i).toNat)
 case atStart=>exact ⟨0,AH _,rfl,AE fun i _ h=>absurd h (by omega)⟩
 case round=>
  obtain ⟨k,hk,rfl,HZ⟩:=hrel
  by_cases hlt:k<xs.length
  ·have c0:=H.out k hlt
   have HE:Hid (orL xs=if xs[k]=0 then orL (xs.drop (k+1)) else xs[k]):=AE (by
    rw [sF HZ.out hk,List.drop_eq_getElem_cons hlt,orL])
   have HX:Hid (∃x,x=xs[k]):=AE ⟨_,rfl⟩
   have HZ2:Hid (xs[k]=0→∀i (hi:i<xs.length),i<k+1→xs[i]=0):=AE (fun h0 i hi hik=>by
    rcases Nat.lt_or_ge i k with h1 | h1
    ·exact HZ.out i hi h1
    ·obtain rfl:i=k:=by omega
     exact h0)
   generalize xs[k]=x at *
   by_cases hz:(x !=0)=true
   ·go_wp2_with fail
    go_ret
    exact ⟨av (by rw [HE.out,if_neg (by simpa using hz)]),rfl⟩
   ·have hz:(x !=0)=false:=by simpa using hz
    go_wp2_with fail
    go_round
    case rel=>exact ⟨k+1,by omega,by go_num,AE (HZ2.out (by simpa using hz))⟩
    case measure=>simp [intOf];omega
  ·have HE:Hid (orL xs=0):=AE (by rw [sF HZ.out hk,List.drop_eq_nil_of_le (by omega)];rfl)
   go_wp2_with fail
   go_ret
   exact ⟨av HE.out.symm,rfl⟩
theorem jB (x y:Int) (w:World) :
 Calls Tryz.prog 56 #[.int .u32 x,.int .u32 y] w fun e w'=>e=.returned (.int .i64 (cW x y))∧w=w':=by
 go_enter Tryz.func56,Tryz.ntmps56
 go_wp2
 all_goals go_ret
 all_goals refine ⟨av ?_,rfl⟩
 all_goals (simp [cW];try omega)
def aF (a b:Fc):Int:=orL [dh (bs a.pr.name) (bs b.pr.name),cW a.pr.terms.length b.pr.terms.length,bM (aV 3) a.pr.terms b.pr.terms,cW a.o b.o]
theorem iq:∀args (w:World),(callFunc 55 args).run Tryz.prog w=.ok (.enter 55 args) w:=ent Tryz.func55 (by kernel_rfl) rfl
theorem cN {d e B:Nat} {a b:Fc} {va vb:List Value} {w:World} (ha:(ay d).rd w B a va) (hb:(ay e).rd w B b vb) (hna:a.pr.terms.length*40≤140737488351232) (hnb:b.pr.terms.length*40≤140737488351232) (hB:B≤w.heap.size) :
 Calls Tryz.prog 35 #[.agg va.toArray,.agg vb.toArray] w fun z w'=>z=.returned (.int .i64 (aF a b))∧Below w.heap.size w w':=by
 obtain ⟨A,c,rfl,hs,h1,h2,h3,hl,ho⟩:=aG ha
 obtain ⟨A',c',rfl,hs',h1',h2',h3',hl',ho'⟩:=aG hb
 have HLA:=AE hl
 have HLB:=AE hl'
 clear ha hb hl hl' ho ho'
 go_enter Tryz.func35,Tryz.ntmps35
 go_upto_region 1 with fail
 generalize hW:World.alloc _ _=w1
 obtain ⟨hb,hz⟩:=al2 hW
 have HA1:=AE (n21 hW)
 have HB1:=AE (n22 hW)
 have HU1:=AE hb
 clear hW hb
 have hsz:=HU1.out.size
 have hB1:B≤w1.heap.size:=AF hB hsz
 have HSL:Hid (∀{w':World},Below w1.heap.size w1 w'→(w'.cell? ⟨w.heap.size,0,none⟩=some (.string a.pr.name)∧w'.cell? ⟨w.heap.size,1,none⟩=some (.slice A a.pr.terms.length c)∧w'.cell? ⟨w.heap.size,2,none⟩=some (.int .u32 a.o)∧w'.cell? ⟨w.heap.size+1,0,none⟩=some (.string b.pr.name)∧w'.cell? ⟨w.heap.size+1,1,none⟩=some (.slice A' b.pr.terms.length c')∧w'.cell? ⟨w.heap.size+1,2,none⟩=some (.int .u32 b.o))):=AE (fun hb=>⟨(HA1.out.later hb).cell 0,(HA1.out.later hb).cell 1,(HA1.out.later hb).cell 2,(HB1.out.later hb).cell 0,(HB1.out.later hb).cell 1,(HB1.out.later hb).cell 2⟩)
 refine aM (fun w'=>w'.cell? ⟨w.heap.size,0,none⟩=some (.string a.pr.name)∧w'.cell? ⟨w.heap.size,1,none⟩=some (.slice A a.pr.terms.length c)∧w'.cell? ⟨w.heap.size,2,none⟩=some (.int .u32 a.o)∧w'.cell? ⟨w.heap.size+1,0,none⟩=some (.string b.pr.name)∧w'.cell? ⟨w.heap.size+1,1,none⟩=some (.slice A' b.pr.terms.length c')∧w'.cell? ⟨w.heap.size+1,2,none⟩=some (.int .u32 b.o)) (by kernel_rfl) (HSL.out (AI _ _).drew) ?_
 refine ab 0 ?_
 refine ab 1 ?_
 refine ab 2 ?_
 refine ab 3 ?_
 refine ab 4 ?_
 refine ab 5 ?_
 refine ab 7 ?_
 refine ab 8 ?_
 refine ab 9 ?_
 refine ab 10 ?_
 refine ab 11 ?_
 refine ab 12 ?_
 refine ab 13 ?_
 refine ab 14 ?_
 refine ab 16 ?_
 refine ab 17 ?_
 refine ab 18 ?_
 refine ab 19 ?_
 refine ab 20 ?_
 refine ab 21 ?_
 refine ab 23 ?_
 refine ab 24 ?_
 refine ab 25 ?_
 refine ab 26 ?_
 generalize hD:World.drew w1=w2
 have HU:Hid (Below w1.heap.size w1 w2):=AE (hD▸(AI w1.heap.size w1).drew)
 clear hD
 refine aw (rs:=[6]) (by kernel_rfl) rfl ?_
 refine ak.cons rfl (fun K hK=>?_) ak.nil
 go_simp
 refine (di _ _ _).mono ?_
 rintro e w' ⟨rfl,rfl⟩
 refine hK.out _ _ (HSL.out HU.out) ?_
 clear hK
 refine aw (rs:=[15]) (by kernel_rfl) rfl ?_
 refine ak.cons rfl (fun K hK=>?_) ak.nil
 go_simp
 refine (dS _ _ _).mono ?_
 rintro e w' ⟨rfl,rfl⟩
 refine hK.out _ _ (HSL.out HU.out) ?_
 clear hK
 refine aw (rs:=[22]) (by kernel_rfl) rfl ?_
 refine ak.cons rfl (fun K hK=>?_) ak.nil
 go_simp
 refine (ed 55 #[] (aV 3) d e a.pr.terms b.pr.terms A A' c c' B w2 iq (HLA.out.keep (HU1.out.trans (HU.out.mono hsz)) hB) (HLB.out.keep (HU1.out.trans (HU.out.mono hsz)) hB) (AF hB1 HU.out.size) (by omega) (by omega) (fun x y vs ws w9 hb9 hx hy=>dj d e x y vs ws B w9 hx hy (AF (AF hB1 HU.out.size) hb9.size))).mono ?_
 rintro z w3 ⟨rfl,hb3⟩
 have HU3:Hid (Below w1.heap.size w1 w3):=AE (HU.out.trans (hb3.mono HU.out.size))
 clear hb3
 refine hK.out _ _ (HSL.out HU3.out) ?_
 clear hK
 refine aw (rs:=[27]) (by kernel_rfl) rfl ?_
 refine ak.cons rfl (fun K hK=>?_) ak.nil
 go_simp
 refine (jB _ _ _).mono ?_
 rintro e w' ⟨rfl,rfl⟩
 refine hK.out _ _ (HSL.out HU3.out) ?_
 clear hK
 refine aw (rs:=[28]) (by kernel_rfl) rfl ?_
 refine ak.cons rfl (fun K hK=>?_) ak.nil
 go_simp
 generalize hW:World.alloc _ _=w4
 obtain ⟨hb4,hz4⟩:=al1 hW
 have HL4:=AE (n11 hW)
 have HU4:Hid (Below w1.heap.size w1 w4):=AE (HU3.out.trans (hb4.mono HU3.out.size))
 clear hW hb4
 refine hK.out _ _ (HSL.out HU4.out) ?_
 clear hK
 refine aw (rs:=[29]) (by kernel_rfl) rfl ?_
 refine ak.cons rfl (fun K hK=>?_) ak.nil
 go_simp
 refine (jd [dh (bs a.pr.name) (bs b.pr.name),cW a.pr.terms.length b.pr.terms.length,bM (aV 3) a.pr.terms b.pr.terms,cW a.o b.o] w3.heap.size w4 (fun i hi=>by
  rw [HL4.out.cell i]
  match i,hi with
  | 0,_=>rfl
  | 1,_=>rfl
  | 2,_=>rfl
  | 3,_=>rfl) (by simp)).mono ?_
 rintro e w' ⟨rfl,rfl⟩
 refine hK.out _ _ (HSL.out HU4.out) ?_
 clear hK
 refine ab 30 ?_
 refine bN (by kernel_rfl) ?_
 go_wp2_with fail
 go_ret
 exact ⟨av rfl,HU1.out.trans (HU4.out.mono hsz)⟩
theorem iw  (F:FuncId) (cap:Array Value) (p:ByteArray→Bool) (xs:List ByteArray) (A:Option Addr) (c B:Nat) (w:World)
 (hF:∀args (w:World),(callFunc F args).run Tryz.prog w=.ok (.enter F args) w) (hl:RL (cX) w B xs A) (hB:B≤w.heap.size) (hn:xs.length≤140737488351232)
 (ht:bW Tryz.prog (cX) Aj B w F cap p) :
 Calls Tryz.prog 147 #[.slice A xs.length c,.func (.func F) #[] cap] w fun e w'=>e=.returned (.int .i64 (vW p xs))∧Below w.heap.size w w':=by
 have HT:=AE ht
 clear ht
 have hRk:(cX).k=1:=rfl
 go_enter Tryz.func147,Tryz.ntmps147
 go_wp2_with fail
 go_loopw [8] (fun i wr=>∃k:Nat,k≤xs.length∧i=.int .i64 k∧Below w.heap.size w wr∧∀i (hi:i<xs.length),i<k→p xs[i]=false) (fun i _=>xs.length-(intOf i).toNat)
 case atStart=>exact ⟨0,AH _,rfl,AI _ _,fun i hi h=>absurd h (by omega)⟩
 case round=>
  obtain ⟨k,hk,rfl,hbw,hall⟩:=hrel
  have HA:=AE hall
  clear hall
  by_cases hlt:k<xs.length
  ·obtain ⟨b,off,rfl,hb⟩:=hl.base hbw hB (by omega)
   obtain ⟨x,vs,hx,hlen,hcell,hr⟩:=hl.at_ hbw hB hlt
   rw [hRk] at hlen hcell
   obtain ⟨v0,rfl⟩:∃v0,vs=[v0]:=by
    match vs,hlen with
    | [v0],_=>exact ⟨_,rfl⟩
   have c0:wr.cell? ⟨b,off+k,none⟩=some v0:=by simpa using hcell 0 _ rfl
   have hsz:=hbw.size
   have HX:=AE hx
   clear hcell hlen hx
   go_wp2_with fail
   refine (HT.out x [v0] _ hbw hr).mono ?_
   rintro e w1 ⟨rfl,hb1⟩
   have hbw1:=AE (hbw.trans (hb1.mono hsz))
   clear hb1
   have hxe:xs[k]=x:=(List.getElem?_eq_some_iff.1 HX.out).2
   have HXE:=AE hxe
   clear hxe
   by_cases hp:p x=true
   ·go_wp2_with fail
    go_ret
    exact ⟨av (gd hlt (by rw [HXE.out];exact hp) (fun i hi=>HA.out i (by omega) hi)).symm,hbw1.out⟩
   ·have hp:p x=false:=by simpa using hp
    go_wp2_with fail
    go_roundw
    case rel=>exact ⟨k+1,by omega,by go_num,hbw1.out,fun i hi h=>by
     rcases Nat.lt_or_ge i k with h1 | h1
     ·exact HA.out i hi h1
     ·obtain rfl:i=k:=by omega
      rw [HXE.out];exact hp⟩
    case measure=>simp [intOf];omega
  ·go_wp2_with fail
   go_ret
   exact ⟨av (gc (fun i hi=>HA.out i hi (by omega))).symm,hbw⟩
theorem fH  (F:FuncId) (cap:Array Value) (p:ByteArray→Bool) (xs:List ByteArray) (A:Option Addr) (c B:Nat) (w:World)
 (hF:∀args (w:World),(callFunc F args).run Tryz.prog w=.ok (.enter F args) w) (hl:RL (cX) w B xs A) (hB:B≤w.heap.size) (hn:xs.length≤140737488351232)
 (ht:bW Tryz.prog (cX) Aj B w F cap p) :
 Calls Tryz.prog 115 #[.slice A xs.length c,.func (.func F) #[] cap] w fun e w'=>e=.returned (.bool (xs.any p))∧Below w.heap.size w w':=by
 have HT:=AE ht
 clear ht
 go_enter Tryz.func115,Tryz.ntmps115
 go_wp2_with (go_at_call 147;refine (iw  F cap p xs A c B w hF hl hB hn HT.out).mono ?_;rintro e w1 ⟨rfl,hb1⟩)
 go_ret
 exact ⟨ac (iU p xs),hb1⟩
theorem jI (d:Nat) (F:FuncId) (cap:Array Value) (p:Pr→Bool) (xs:List Pr) (A:Option Addr) (c B:Nat) (w:World)
 (hF:∀args (w:World),(callFunc F args).run Tryz.prog w=.ok (.enter F args) w) (hl:RL (PrR d) w B xs A) (hB:B≤w.heap.size) (hn:xs.length≤140737488351232)
 (ht:bW Tryz.prog (PrR d) cY B w F cap p) :
 Calls Tryz.prog 162 #[.slice A xs.length c,.func (.func F) #[] cap] w fun e w'=>e=.returned (.int .i64 (vW p xs))∧Below w.heap.size w w':=by
 have HT:=AE ht
 clear ht
 have hRk:(PrR d).k=2:=rfl
 go_enter Tryz.func162,Tryz.ntmps162
 go_wp2_with fail
 go_loopw [8] (fun i wr=>∃k:Nat,k≤xs.length∧i=.int .i64 k∧Below w.heap.size w wr∧∀i (hi:i<xs.length),i<k→p xs[i]=false) (fun i _=>xs.length-(intOf i).toNat)
 case atStart=>exact ⟨0,AH _,rfl,AI _ _,fun i hi h=>absurd h (by omega)⟩
 case round=>
  obtain ⟨k,hk,rfl,hbw,hall⟩:=hrel
  have HA:=AE hall
  clear hall
  by_cases hlt:k<xs.length
  ·obtain ⟨b,off,rfl,hb⟩:=hl.base hbw hB (by omega)
   obtain ⟨x,vs,hx,hlen,hcell,hr⟩:=hl.at_ hbw hB hlt
   rw [hRk] at hlen hcell
   obtain ⟨v0,v1,rfl⟩:∃v0 v1,vs=[v0,v1]:=by
    match vs,hlen with
    | [v0,v1],_=>exact ⟨_,_,rfl⟩
   have c0:wr.cell? ⟨b,off+k*2,none⟩=some v0:=hcell 0 _ rfl
   have c1:wr.cell? ⟨b,off+k*2+1,none⟩=some v1:=hcell 1 _ rfl
   have hsz:=hbw.size
   have HX:=AE hx
   clear hcell hlen hx
   go_wp2_with fail
   refine (HT.out x [v0,v1] _ hbw hr).mono ?_
   rintro e w1 ⟨rfl,hb1⟩
   have hbw1:=AE (hbw.trans (hb1.mono hsz))
   clear hb1
   have hxe:xs[k]=x:=(List.getElem?_eq_some_iff.1 HX.out).2
   have HXE:=AE hxe
   clear hxe
   by_cases hp:p x=true
   ·go_wp2_with fail
    go_ret
    exact ⟨av (gd hlt (by rw [HXE.out];exact hp) (fun i hi=>HA.out i (by omega) hi)).symm,hbw1.out⟩
   ·have hp:p x=false:=by simpa using hp
    go_wp2_with fail
    go_roundw
    case rel=>exact ⟨k+1,by omega,by go_num,hbw1.out,fun i hi h=>by
     rcases Nat.lt_or_ge i k with h1 | h1
     ·exact HA.out i hi h1
     ·obtain rfl:i=k:=by omega
      rw [HXE.out];exact hp⟩
    case measure=>simp [intOf];omega
  ·go_wp2_with fail
   go_ret
   exact ⟨av (gc (fun i hi=>HA.out i hi (by omega))).symm,hbw⟩
theorem gV (d:Nat) (F:FuncId) (cap:Array Value) (p:Pr→Bool) (xs:List Pr) (A:Option Addr) (c B:Nat) (w:World)
 (hF:∀args (w:World),(callFunc F args).run Tryz.prog w=.ok (.enter F args) w) (hl:RL (PrR d) w B xs A) (hB:B≤w.heap.size) (hn:xs.length≤140737488351232)
 (ht:bW Tryz.prog (PrR d) cY B w F cap p) :
 Calls Tryz.prog 140 #[.slice A xs.length c,.func (.func F) #[] cap] w fun e w'=>e=.returned (.bool (xs.any p))∧Below w.heap.size w w':=by
 have HT:=AE ht
 clear ht
 go_enter Tryz.func140,Tryz.ntmps140
 go_wp2_with (go_at_call 162;refine (jI d F cap p xs A c B w hF hl hB hn HT.out).mono ?_;rintro e w1 ⟨rfl,hb1⟩)
 go_ret
 exact ⟨ac (iU p xs),hb1⟩
theorem mE (d:Nat) (M:FuncId) (p:Pr→Bool) (B G:Nat) (w:World) (hM:∀args (w:World),(callFunc M args).run Tryz.prog w=.ok (.enter M args) w)
 (hB:B≤w.heap.size) (hG:w.cell? ⟨G,0,none⟩=some (.func (.func M) #[] #[])) (ht:bW Tryz.prog (PrR d) cY B w M #[] p) :
 bW Tryz.prog (PrR d) cY B w 141 #[.pointer (some ⟨G,0,none⟩)] (fun x=>!p x):=by
 intro x vs w1 hb hr
 have hlen:vs.length=2:=(PrR d).len hr
 obtain ⟨v0,v1,rfl⟩:∃v0 v1,vs=[v0,v1]:=by
  match vs,hlen with
  | [v0,v1],_=>exact ⟨_,_,rfl⟩
 have hGl:G<w.heap.size:=block_lt_of_cell hG
 have hG1:w1.cell? ⟨G,0,none⟩=some (.func (.func M) #[] #[]):=(hb.cell (p:=⟨G,0,none⟩) hGl).trans hG
 have hGl1:G<w1.heap.size:=by have:=hb.size;omega
 have HB:=AE (fun o:Obj=>(AI w1.heap.size w1).alloc (AG _) o)
 have HT:=AE ht
 have HR:=AE hr
 have hBw:B≤w1.heap.size:=by have:=hb.size;omega
 clear ht hr
 show Calls Tryz.prog 141 #[.agg #[v0,v1],.pointer (some ⟨G,0,none⟩)] w1 _
 go_enter Tryz.func141,Tryz.ntmps141
 go_wp2_with fail
 refine (HT.out x [v0,v1] _ (hb.trans ((HB.out _).mono hb.size)) ((PrR d).keep (HB.out _) hBw HR.out)).mono ?_
 rintro e w2 ⟨rfl,hb2⟩
 have hfin:=AE ((HB.out _).trans (hb2.mono (HB.out _).size))
 clear hb2
 go_wp2_with fail
 go_ret
 exact ⟨rfl,hfin.out⟩
theorem lx (d:Nat) (M:FuncId) (p:Pr→Bool) (most:Int) (xs:List Pr) (A:Option Addr) (c B:Nat) (w:World) (hM:∀args (w:World),(callFunc M args).run Tryz.prog w=.ok (.enter M args) w)
 (hl:RL (PrR d) w B xs A) (hB:B≤w.heap.size) (hn:xs.length≤140737488351232) (ht:bW Tryz.prog (PrR d) cY B w M #[] p) :
 Calls Tryz.prog 107 #[.slice A xs.length c,.int .i64 most,.func (.func M) #[] #[]] w fun e w'=>e=.returned (.bool (decide ((xs.length:Int)≤most)&&xs.all p))∧Below w.heap.size w w':=by
 have HB:=AE (fun o:Obj=>(AI w.heap.size w).alloc (AG _) o)
 have HT:=AE ht
 have HL:=AE hl
 clear ht hl
 by_cases hm:(xs.length:Int)≤most
 ·go_enter Tryz.func107,Tryz.ntmps107
  go_wp2_with fail
  refine (gV d 141 _ _ xs A c B _ (ent Tryz.func141 (by kernel_rfl) rfl) (HL.out.keep (HB.out _) hB) (AF hB (HB.out _).size) hn
   (mE d M p B w.heap.size _ hM (AF hB (HB.out _).size) (by go_simp) (HT.out.later (HB.out _)))).mono ?_
  rintro e w1 ⟨rfl,hb1⟩
  have hfin:=AE ((HB.out _).trans (hb1.mono (HB.out _).size))
  clear hb1
  go_wp2_with fail
  go_ret
  exact ⟨ac (by simp [hm,List.all_eq_not_any_not]),hfin.out⟩
 ·have hm':decide ((xs.length:Int)≤most)=false:=by simpa using hm
  go_enter Tryz.func107,Tryz.ntmps107
  go_wp2_with fail
  go_ret
  exact ⟨ac (by simp [hm]),HB.out _⟩
theorem jH (d:Nat) (F:FuncId) (cap:Array Value) (p:(List OpD)→Bool) (xs:List (List OpD)) (A:Option Addr) (c B:Nat) (w:World)
 (hF:∀args (w:World),(callFunc F args).run Tryz.prog w=.ok (.enter F args) w) (hl:RL (ExR d) w B xs A) (hB:B≤w.heap.size) (hn:xs.length≤140737488351232)
 (ht:bW Tryz.prog (ExR d) cY B w F cap p) :
 Calls Tryz.prog 146 #[.slice A xs.length c,.func (.func F) #[] cap] w fun e w'=>e=.returned (.int .i64 (vW p xs))∧Below w.heap.size w w':=by
 have HT:=AE ht
 clear ht
 have hRk:(ExR d).k=1:=rfl
 go_enter Tryz.func146,Tryz.ntmps146
 go_wp2_with fail
 go_loopw [8] (fun i wr=>∃k:Nat,k≤xs.length∧i=.int .i64 k∧Below w.heap.size w wr∧∀i (hi:i<xs.length),i<k→p xs[i]=false) (fun i _=>xs.length-(intOf i).toNat)
 case atStart=>exact ⟨0,AH _,rfl,AI _ _,fun i hi h=>absurd h (by omega)⟩
 case round=>
  obtain ⟨k,hk,rfl,hbw,hall⟩:=hrel
  have HA:=AE hall
  clear hall
  by_cases hlt:k<xs.length
  ·obtain ⟨b,off,rfl,hb⟩:=hl.base hbw hB (by omega)
   obtain ⟨x,vs,hx,hlen,hcell,hr⟩:=hl.at_ hbw hB hlt
   rw [hRk] at hlen hcell
   obtain ⟨v0,rfl⟩:∃v0,vs=[v0]:=by
    match vs,hlen with
    | [v0],_=>exact ⟨_,rfl⟩
   have c0:wr.cell? ⟨b,off+k,none⟩=some v0:=by simpa using hcell 0 _ rfl
   have hsz:=hbw.size
   have HX:=AE hx
   clear hcell hlen hx
   go_wp2_with fail
   refine (HT.out x [v0] _ hbw hr).mono ?_
   rintro e w1 ⟨rfl,hb1⟩
   have hbw1:=AE (hbw.trans (hb1.mono hsz))
   clear hb1
   have hxe:xs[k]=x:=(List.getElem?_eq_some_iff.1 HX.out).2
   have HXE:=AE hxe
   clear hxe
   by_cases hp:p x=true
   ·go_wp2_with fail
    go_ret
    exact ⟨av (gd hlt (by rw [HXE.out];exact hp) (fun i hi=>HA.out i (by omega) hi)).symm,hbw1.out⟩
   ·have hp:p x=false:=by simpa using hp
    go_wp2_with fail
    go_roundw
    case rel=>exact ⟨k+1,by omega,by go_num,hbw1.out,fun i hi h=>by
     rcases Nat.lt_or_ge i k with h1 | h1
     ·exact HA.out i hi h1
     ·obtain rfl:i=k:=by omega
      rw [HXE.out];exact hp⟩
    case measure=>simp [intOf];omega
  ·go_wp2_with fail
   go_ret
   exact ⟨av (gc (fun i hi=>HA.out i hi (by omega))).symm,hbw⟩
theorem dN (d:Nat) (F:FuncId) (cap:Array Value) (p:(List OpD)→Bool) (xs:List (List OpD)) (A:Option Addr) (c B:Nat) (w:World)
 (hF:∀args (w:World),(callFunc F args).run Tryz.prog w=.ok (.enter F args) w) (hl:RL (ExR d) w B xs A) (hB:B≤w.heap.size) (hn:xs.length≤140737488351232)
 (ht:bW Tryz.prog (ExR d) cY B w F cap p) :
 Calls Tryz.prog 112 #[.slice A xs.length c,.func (.func F) #[] cap] w fun e w'=>e=.returned (.bool (xs.any p))∧Below w.heap.size w w':=by
 have HT:=AE ht
 clear ht
 go_enter Tryz.func112,Tryz.ntmps112
 go_wp2_with (go_at_call 146;refine (jH d F cap p xs A c B w hF hl hB hn HT.out).mono ?_;rintro e w1 ⟨rfl,hb1⟩)
 go_ret
 exact ⟨ac (iU p xs),hb1⟩
theorem mD (d:Nat) (M:FuncId) (p:(List OpD)→Bool) (B G:Nat) (w:World) (hM:∀args (w:World),(callFunc M args).run Tryz.prog w=.ok (.enter M args) w)
 (hB:B≤w.heap.size) (hG:w.cell? ⟨G,0,none⟩=some (.func (.func M) #[] #[])) (ht:bW Tryz.prog (ExR d) cY B w M #[] p) :
 bW Tryz.prog (ExR d) cY B w 142 #[.pointer (some ⟨G,0,none⟩)] (fun x=>!p x):=by
 intro x vs w1 hb hr
 have hlen:vs.length=1:=(ExR d).len hr
 obtain ⟨v0,rfl⟩:∃v0,vs=[v0]:=by
  match vs,hlen with
  | [v0],_=>exact ⟨_,rfl⟩
 have hGl:G<w.heap.size:=block_lt_of_cell hG
 have hG1:w1.cell? ⟨G,0,none⟩=some (.func (.func M) #[] #[]):=(hb.cell (p:=⟨G,0,none⟩) hGl).trans hG
 have hGl1:G<w1.heap.size:=by have:=hb.size;omega
 have HB:=AE (fun o:Obj=>(AI w1.heap.size w1).alloc (AG _) o)
 have HT:=AE ht
 have HR:=AE hr
 have hBw:B≤w1.heap.size:=by have:=hb.size;omega
 clear ht hr
 show Calls Tryz.prog 142 #[.agg #[v0],.pointer (some ⟨G,0,none⟩)] w1 _
 go_enter Tryz.func142,Tryz.ntmps142
 go_wp2_with fail
 refine (HT.out x [v0] _ (hb.trans ((HB.out _).mono hb.size)) ((ExR d).keep (HB.out _) hBw HR.out)).mono ?_
 rintro e w2 ⟨rfl,hb2⟩
 have hfin:=AE ((HB.out _).trans (hb2.mono (HB.out _).size))
 clear hb2
 go_wp2_with fail
 go_ret
 exact ⟨rfl,hfin.out⟩
theorem lv (d:Nat) (M:FuncId) (p:(List OpD)→Bool) (most:Int) (xs:List (List OpD)) (A:Option Addr) (c B:Nat) (w:World) (hM:∀args (w:World),(callFunc M args).run Tryz.prog w=.ok (.enter M args) w)
 (hl:RL (ExR d) w B xs A) (hB:B≤w.heap.size) (hn:xs.length≤140737488351232) (ht:bW Tryz.prog (ExR d) cY B w M #[] p) :
 Calls Tryz.prog 108 #[.slice A xs.length c,.int .i64 most,.func (.func M) #[] #[]] w fun e w'=>e=.returned (.bool (decide ((xs.length:Int)≤most)&&xs.all p))∧Below w.heap.size w w':=by
 have HB:=AE (fun o:Obj=>(AI w.heap.size w).alloc (AG _) o)
 have HT:=AE ht
 have HL:=AE hl
 clear ht hl
 by_cases hm:(xs.length:Int)≤most
 ·go_enter Tryz.func108,Tryz.ntmps108
  go_wp2_with fail
  refine (dN d 142 _ _ xs A c B _ (ent Tryz.func142 (by kernel_rfl) rfl) (HL.out.keep (HB.out _) hB) (AF hB (HB.out _).size) hn
   (mD d M p B w.heap.size _ hM (AF hB (HB.out _).size) (by go_simp) (HT.out.later (HB.out _)))).mono ?_
  rintro e w1 ⟨rfl,hb1⟩
  have hfin:=AE ((HB.out _).trans (hb1.mono (HB.out _).size))
  clear hb1
  go_wp2_with fail
  go_ret
  exact ⟨ac (by simp [hm,List.all_eq_not_any_not]),hfin.out⟩
 ·have hm':decide ((xs.length:Int)≤most)=false:=by simpa using hm
  go_enter Tryz.func108,Tryz.ntmps108
  go_wp2_with fail
  go_ret
  exact ⟨ac (by simp [hm]),HB.out _⟩
theorem iV  (F:FuncId) (cap:Array Value) (p:Sc→Bool) (xs:List Sc) (A:Option Addr) (c B:Nat) (w:World)
 (hF:∀args (w:World),(callFunc F args).run Tryz.prog w=.ok (.enter F args) w) (hl:RL (ScR) w B xs A) (hB:B≤w.heap.size) (hn:xs.length≤140737488351232)
 (ht:bW Tryz.prog (ScR) cY B w F cap p) :
 Calls Tryz.prog 166 #[.slice A xs.length c,.func (.func F) #[] cap] w fun e w'=>e=.returned (.int .i64 (vW p xs))∧Below w.heap.size w w':=by
 have HT:=AE ht
 clear ht
 have hRk:(ScR).k=2:=rfl
 go_enter Tryz.func166,Tryz.ntmps166
 go_wp2_with fail
 go_loopw [8] (fun i wr=>∃k:Nat,k≤xs.length∧i=.int .i64 k∧Below w.heap.size w wr∧∀i (hi:i<xs.length),i<k→p xs[i]=false) (fun i _=>xs.length-(intOf i).toNat)
 case atStart=>exact ⟨0,AH _,rfl,AI _ _,fun i hi h=>absurd h (by omega)⟩
 case round=>
  obtain ⟨k,hk,rfl,hbw,hall⟩:=hrel
  have HA:=AE hall
  clear hall
  by_cases hlt:k<xs.length
  ·obtain ⟨b,off,rfl,hb⟩:=hl.base hbw hB (by omega)
   obtain ⟨x,vs,hx,hlen,hcell,hr⟩:=hl.at_ hbw hB hlt
   rw [hRk] at hlen hcell
   obtain ⟨v0,v1,rfl⟩:∃v0 v1,vs=[v0,v1]:=by
    match vs,hlen with
    | [v0,v1],_=>exact ⟨_,_,rfl⟩
   have c0:wr.cell? ⟨b,off+k*2,none⟩=some v0:=hcell 0 _ rfl
   have c1:wr.cell? ⟨b,off+k*2+1,none⟩=some v1:=hcell 1 _ rfl
   have hsz:=hbw.size
   have HX:=AE hx
   clear hcell hlen hx
   go_wp2_with fail
   refine (HT.out x [v0,v1] _ hbw hr).mono ?_
   rintro e w1 ⟨rfl,hb1⟩
   have hbw1:=AE (hbw.trans (hb1.mono hsz))
   clear hb1
   have hxe:xs[k]=x:=(List.getElem?_eq_some_iff.1 HX.out).2
   have HXE:=AE hxe
   clear hxe
   by_cases hp:p x=true
   ·go_wp2_with fail
    go_ret
    exact ⟨av (gd hlt (by rw [HXE.out];exact hp) (fun i hi=>HA.out i (by omega) hi)).symm,hbw1.out⟩
   ·have hp:p x=false:=by simpa using hp
    go_wp2_with fail
    go_roundw
    case rel=>exact ⟨k+1,by omega,by go_num,hbw1.out,fun i hi h=>by
     rcases Nat.lt_or_ge i k with h1 | h1
     ·exact HA.out i hi h1
     ·obtain rfl:i=k:=by omega
      rw [HXE.out];exact hp⟩
    case measure=>simp [intOf];omega
  ·go_wp2_with fail
   go_ret
   exact ⟨av (gc (fun i hi=>HA.out i hi (by omega))).symm,hbw⟩
theorem fU  (F:FuncId) (cap:Array Value) (p:Sc→Bool) (xs:List Sc) (A:Option Addr) (c B:Nat) (w:World)
 (hF:∀args (w:World),(callFunc F args).run Tryz.prog w=.ok (.enter F args) w) (hl:RL (ScR) w B xs A) (hB:B≤w.heap.size) (hn:xs.length≤140737488351232)
 (ht:bW Tryz.prog (ScR) cY B w F cap p) :
 Calls Tryz.prog 144 #[.slice A xs.length c,.func (.func F) #[] cap] w fun e w'=>e=.returned (.bool (xs.any p))∧Below w.heap.size w w':=by
 have HT:=AE ht
 clear ht
 go_enter Tryz.func144,Tryz.ntmps144
 go_wp2_with (go_at_call 166;refine (iV  F cap p xs A c B w hF hl hB hn HT.out).mono ?_;rintro e w1 ⟨rfl,hb1⟩)
 go_ret
 exact ⟨ac (iU p xs),hb1⟩
theorem lw  (M:FuncId) (p:Sc→Bool) (B G:Nat) (w:World) (hM:∀args (w:World),(callFunc M args).run Tryz.prog w=.ok (.enter M args) w)
 (hB:B≤w.heap.size) (hG:w.cell? ⟨G,0,none⟩=some (.func (.func M) #[] #[])) (ht:bW Tryz.prog (ScR) cY B w M #[] p) :
 bW Tryz.prog (ScR) cY B w 145 #[.pointer (some ⟨G,0,none⟩)] (fun x=>!p x):=by
 intro x vs w1 hb hr
 have hlen:vs.length=2:=(ScR).len hr
 obtain ⟨v0,v1,rfl⟩:∃v0 v1,vs=[v0,v1]:=by
  match vs,hlen with
  | [v0,v1],_=>exact ⟨_,_,rfl⟩
 have hGl:G<w.heap.size:=block_lt_of_cell hG
 have hG1:w1.cell? ⟨G,0,none⟩=some (.func (.func M) #[] #[]):=(hb.cell (p:=⟨G,0,none⟩) hGl).trans hG
 have hGl1:G<w1.heap.size:=by have:=hb.size;omega
 have HB:=AE (fun o:Obj=>(AI w1.heap.size w1).alloc (AG _) o)
 have HT:=AE ht
 have HR:=AE hr
 have hBw:B≤w1.heap.size:=by have:=hb.size;omega
 clear ht hr
 show Calls Tryz.prog 145 #[.agg #[v0,v1],.pointer (some ⟨G,0,none⟩)] w1 _
 go_enter Tryz.func145,Tryz.ntmps145
 go_wp2_with fail
 refine (HT.out x [v0,v1] _ (hb.trans ((HB.out _).mono hb.size)) ((ScR).keep (HB.out _) hBw HR.out)).mono ?_
 rintro e w2 ⟨rfl,hb2⟩
 have hfin:=AE ((HB.out _).trans (hb2.mono (HB.out _).size))
 clear hb2
 go_wp2_with fail
 go_ret
 exact ⟨rfl,hfin.out⟩
theorem ki  (M:FuncId) (p:Sc→Bool) (most:Int) (xs:List Sc) (A:Option Addr) (c B:Nat) (w:World) (hM:∀args (w:World),(callFunc M args).run Tryz.prog w=.ok (.enter M args) w)
 (hl:RL (ScR) w B xs A) (hB:B≤w.heap.size) (hn:xs.length≤140737488351232) (ht:bW Tryz.prog (ScR) cY B w M #[] p) :
 Calls Tryz.prog 110 #[.slice A xs.length c,.int .i64 most,.func (.func M) #[] #[]] w fun e w'=>e=.returned (.bool (decide ((xs.length:Int)≤most)&&xs.all p))∧Below w.heap.size w w':=by
 have HB:=AE (fun o:Obj=>(AI w.heap.size w).alloc (AG _) o)
 have HT:=AE ht
 have HL:=AE hl
 clear ht hl
 by_cases hm:(xs.length:Int)≤most
 ·go_enter Tryz.func110,Tryz.ntmps110
  go_wp2_with fail
  refine (fU  145 _ _ xs A c B _ (ent Tryz.func145 (by kernel_rfl) rfl) (HL.out.keep (HB.out _) hB) (AF hB (HB.out _).size) hn
   (lw  M p B w.heap.size _ hM (AF hB (HB.out _).size) (by go_simp) (HT.out.later (HB.out _)))).mono ?_
  rintro e w1 ⟨rfl,hb1⟩
  have hfin:=AE ((HB.out _).trans (hb1.mono (HB.out _).size))
  clear hb1
  go_wp2_with fail
  go_ret
  exact ⟨ac (by simp [hm,List.all_eq_not_any_not]),hfin.out⟩
 ·have hm':decide ((xs.length:Int)≤most)=false:=by simpa using hm
  go_enter Tryz.func110,Tryz.ntmps110
  go_wp2_with fail
  go_ret
  exact ⟨ac (by simp [hm]),HB.out _⟩
def aE (p:Pr):Bool:=dQ (bs p.name)&&decide (bs p.name≠[116,114,117,101])&&decide (bs p.name≠[102,97,108,115,101])&&(decide (p.terms.length≤8)&&p.terms.all fD)
theorem yG (k:Nat):((k:Int)≤8)=(k≤8):=by rw [eq_iff_iff];omega
theorem kL (k:Nat):((k:Int)≤4)=(k≤4):=by rw [eq_iff_iff];omega
theorem xC {d B:Nat} {w:World} (hB:B≤w.heap.size):bW Tryz.prog (TmR d) cY B w 68 #[] fD:=fun x vs w1 hb hr=>by
 obtain ⟨A,c,rfl,_⟩:=RTm.cells hr
 exact wL (d:=d) (B:=B) hr (by have:=hb.size;omega)
theorem dm {d:Nat} {p:Pr} {vs:List Value} {B:Nat} {w:World} (hp:(PrR d).rd w B p vs) (hB:B≤w.heap.size) :
 Calls Tryz.prog 81 #[.agg vs.toArray] w fun e w'=>e=.returned (.bool (aE p))∧Below w.heap.size w w':=by
 obtain ⟨_,rfl,hs,A,c,rfl,hc1,hc2,hl⟩:=hp
 have HB:=AE (fun o:Obj=>(AI w.heap.size w).alloc (AG _) o)
 have HL:=AE hl
 clear hl
 obtain ⟨name,terms⟩:=p
 dsimp only at *
 simp only [TmR] at hc2
 go_enter Tryz.func81,Tryz.ntmps81
 go_wp2_with (first
  | (go_at_call 44;refine (fl _ _ (by unfold maxLen;omega)).mono ?_;rintro e w' ⟨rfl,rfl⟩)
  | (go_at_call 101;refine (qZ d 68 fD 8 terms A c B _ (ent Tryz.func68 (by kernel_rfl) rfl) (HL.out.keep (HB.out _) hB) (AF hB (HB.out _).size) (by omega) (xC (AF hB (HB.out _).size))).mono ?_;rintro e w1 ⟨rfl,hb1⟩))
 all_goals go_ret
 all_goals first
  | refine ⟨ac ?_,HB.out _⟩
  | refine ⟨ac ?_,(HB.out _).trans (hb1.mono (HB.out _).size)⟩
 all_goals
  try simp only [ByteArray.toList_eq] at *
  rw [Bool.eq_iff_iff]
  simp [aE,yG, *]
def gP (p:Pr):Bool:=aE p&&(decide (p.terms.length≤8)&&p.terms.all af)
def cO (s:Sc):Bool:=((decide (s.kind=1)||decide (s.kind=2))&&decide (s.key=ByteArray.empty))||(decide (s.kind=3)&&decide (s.key.size=32))
theorem pG {s:Sc} {vs:List Value} {B:Nat} {w:World} (hp:ScR.rd w B s vs) :
 Calls Tryz.prog 111 #[.agg vs.toArray] w fun e w'=>e=.returned (.bool (cO s))∧Below w.heap.size w w':=by
 obtain ⟨rfl,hk,hs⟩:=hp
 have HB:=AE (fun o:Obj=>(AI w.heap.size w).alloc (AG _) o)
 obtain ⟨kind,key⟩:=s
 dsimp only at *
 have hcases:kind=1∨kind=2∨kind=3∨((kind==1)=false∧(kind==2)=false∧(kind==3)=false):=by simp only [beq_eq_false_iff_ne];omega
 rcases hcases with rfl | rfl | rfl | ⟨k1,k2,k3⟩
 all_goals
  go_enter Tryz.func111,Tryz.ntmps111
  go_wp2_with fail
  all_goals go_ret
  all_goals refine ⟨ac ?_,HB.out _⟩
  all_goals
   try simp only [dE,bf,beq_eq_false_iff_ne] at *
   rw [Bool.eq_iff_iff]
   simp [cO,bf, *]
   try omega
end Go.Proofs.YtjpndglegpcdnaaGreat
