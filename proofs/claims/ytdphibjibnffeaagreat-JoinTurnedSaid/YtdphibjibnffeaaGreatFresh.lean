/- Appending to a slice of the call's own: the row is the same, or new memory. -/
import Derived.Test.YtdphibjibnffeaaGreatMatSpec
import Derived.RegionTactic
import Derived.Test.YtdphibjibnffeaaGreatSet2
import Derived.Test.YtdphibjibnffeaaGreatSrc
import Derived.Test.YtdphibjibnffeaaGreatFc1
set_option linter.unusedVariables false
set_option linter.unusedSimpArgs false
set_option maxRecDepth 100000
set_option maxHeartbeats 8000000
namespace Go.Proofs.YtdphibjibnffeaaGreat
open Go.ChangeShapes Go.WideShapes Go.ChangeAt Go.RowKit
def qL:Reader Int where
 k:=1
 rd:=fun _ _ i vs=>vs=[.int .i64 i]
 keep:=fun _ _ h=>h
 wide:=fun _ h=>h
 len:=fun h=>by subst h;rfl
theorem rV:cP qL:=fun {w B x vs} h u hu=>by
 obtain rfl:vs=[.int .i64 x]:=h
 simp only [List.mem_cons,List.not_mem_nil,or_false] at hu
 subst hu;rfl
theorem infoInt:(Tryz.prog.info? 3).map (fun i=>(i.zero,i.size,i.bytes))=some (some (.int .i64 0),1,8):=by kernel_rfl
theorem vA:(Tryz.prog.info? 4).map (fun i=>(i.zero,i.size,i.bytes))=some (some (.bool false),1,1):=by kernel_rfl
section
variable {α:Type} {R:Reader α} {e T:TypeId} {w w':World} {base B D:Nat} {v:Value} {xs:List α} {vs:Array Value}
theorem au.ne (h:au R e w base B v xs) (hD:bU w D vs T) (hT:T≠e):v.ownBlock≠some D:=by
 obtain ⟨cells,h,_⟩:=h
 rcases h.2 with ⟨h1,_⟩ | ⟨g,cap,cur,hv,hg,hh,r⟩
 ·rw [h1];simp [Value.ownBlock]
 ·rw [hv]
  simp only [Value.ownBlock,ne_eq,Option.some.injEq]
  intro hgd
  subst hgd
  unfold bU at hD
  rw [hD] at hh
  simp only [Option.some.injEq,Obj.cells.injEq] at hh
  exact hT hh.2.1
theorem au.farT (h:au R e w base 0 v xs) (hD:bU w D vs T) (hT:T≠e) (i:Nat) (u:Value):au R e (w.setCell ⟨D,i,none⟩ u) base 0 v xs:=by
 have hne:=h.ne hD hT
 obtain ⟨cells,h,hf⟩:=h
 refine ⟨cells,⟨h.1,?_⟩,hf.keep ((Below.refl 0 w).setCell (p:=⟨D,i,none⟩) (Nat.zero_le _) u) (Nat.le_refl _)⟩
 rcases h.2 with h2 | ⟨g,cap,cur,hv,hg,hh,r⟩
 ·exact .inl h2
 ·refine .inr ⟨g,cap,cur,hv,hg,?_,r⟩
  rw [hv] at hne
  simp only [Value.ownBlock,ne_eq,Option.some.injEq] at hne
  exact (Below.heap_setCell w ⟨D,i,none⟩ u g hne).trans hh
theorem bU.grown {row:Option Nat} (h:bU w D vs T) (hg:w.grownBy w' row) (hne:row≠some D):bU w' D vs T:=by
 exact (hg.block D h.blk.lt (Ne.symm hne)).trans h
end
def mL (D:Nat) (w w':World):Prop:=∀b vs T,T≠3→b≠D→bU w b vs T→bU w' b vs T
theorem mL.trans {D:Nat} {a b c:World} (h:mL D a b) (k:mL D b c):mL D a c:=fun x vs T h1 h2 h3=>k x vs T h1 h2 (h x vs T h1 h2 h3)
structure Stk (D base:Nat) (w:World) (A:Option Addr) (c:Nat) (xs:List Int):Prop where
 hd:bU w D #[.slice A xs.length c] 179
 own:au qL 3 w base 0 (.slice A xs.length c) xs
theorem t_ne:(179:TypeId)≠3:=by decide
def PushE (D base:Nat) (w w':World) (xs:List Int) (e:Ending):Prop:=
 e=.returned (.tuple #[])∧Below base w w'∧mL D w w'∧∃A c,Stk D base w' A c xs
theorem iq {w:World} {D base c:Nat} {A:Option Addr} {xs:List Int} {k:Int} (hs:Stk D base w A c xs) (hb:base≤w.heap.size) (hbD:base≤D) (hn:xs.length≤100000) :
 Calls Tryz.prog 324 #[.int .i64 k,.pointer (some ⟨D,0,none⟩)] w fun e w'=>PushE D base w w' (xs++[k]) e:=by
 obtain ⟨i0,hi0,hz0,hz1,hz2⟩:=info_parts infoInt
 have HS:=Lib.hid hs
 have k_d:=hs.hd.blk.cell
 have f_d:=hs.hd.blk.free
 have l_d:=hs.hd.blk.lt
 have hb1:=ax (w:=w) (o:=.cells #[.int .i64 k] 3) rfl
 have HN:=Lib.hid (And.intro (And.intro (hs.own.later hb1 (Nat.zero_le _)) (hs.hd.later hb1)) (Blk.src (R:=qL) (B:=0) (x:=k) (Blk.new w #[.int .i64 k] 3) rfl))
 clear hs hb1
 go_enter Tryz.func324,Tryz.ntmps324
 go_wp2_with ((
  at_builtin
  refine wpList_plain rfl fun _ hK=>ld (R:=qL) (e:=3) (base:=base) (B:=0) (xs:=xs) (ys:=[k]) (.tmp 3) (.tmp 5) 179 rfl (bytes:=8) Tryz.underlying179 hi0 hz0 hz1 hz2 rfl (show 0<1 by omega) rV rfl HN.out.1.1 rfl HN.out.2 rfl (Nat.zero_le _) (by simp only [List.length_cons,List.length_nil];omega) (by omega) (by rw [World.size_alloc];omega) ?_
  intro v w2 hown hb2 hg2
  refine hK _ _ ?_
  obtain ⟨A2,c2,rfl⟩:=hown.form
  have hne:=HN.out.1.1.ne HN.out.1.2 t_ne
  have bd:=HN.out.1.2.grown hg2 hne
  have kd2:=bd.blk.cell
  have fd2:=bd.blk.free
  have HW:=Lib.hid hown
  have HB2:=Lib.hid (And.intro hb2 hg2)
  have HBD:=Lib.hid bd
  clear hown hb2 hg2 hne bd k_d f_d l_d))
 go_end0
 have e1:xs.length+1=(xs++[k]).length:=by simp
 rw [e1]
 refine ⟨rfl,?_,?_,A2,c2,HBD.out.set_ 0 _,HW.out.farT HBD.out t_ne 0 _⟩
 ·exact (((Below.refl base w).alloc hb _).trans HB2.out.1).setCell (p:=⟨D,0,none⟩) hbD _
 ·intro b vs T hT hbd hbt
  have h1:=hbt.later (ax (w:=w) (o:=.cells #[.int .i64 k] 3) rfl)
  exact (h1.grown HB2.out.2 (HN.out.1.1.ne h1 hT)).far hbd 0 _
theorem Stk.pop {D base c:Nat} {w:World} {A:Option Addr} {xs:List Int} {k:Int} (h:Stk D base w A c (xs++[k])) :
 ∃g,A=some ⟨g,0,none⟩∧g≠D∧xs.length+1≤c∧c≤maxLen∧w.cell? ⟨g,xs.length,none⟩=some (.int .i64 k)∧Stk D base (w.setCell ⟨D,0,none⟩ (.slice A xs.length c)) A c xs:=by
 have hne:=h.own.ne h.hd t_ne
 have hfar:=h.own.farT h.hd t_ne 0 (.slice A xs.length c)
 obtain ⟨cells,ho,hf⟩:=h.own
 have hl:cells.length=xs.length+1:=by have:=hf.1;simpa [qL] using this
 rcases ho.2 with ⟨h1,h2⟩ | ⟨g,cap,cur,hv,hg,hh,k1,k2,k3,k4⟩
 ·simp at h2
 ·simp only [Value.slice.injEq] at hv
  obtain ⟨rfl,_,rfl⟩:=hv
  simp only [Value.ownBlock,ne_eq,Option.some.injEq] at hne
  rw [List.length_append,List.length_singleton] at k1
  have hcell:cells[xs.length]? = some (.int .i64 k):=by
   have:=hf.2 xs.length (by simp)
   simp only [qL,Nat.mul_one,List.getElem_append_right (Nat.le_refl _),Nat.sub_self,List.getElem_singleton] at this
   have h3:((cells.drop xs.length).take 1)[0]? = some (.int .i64 k):=by rw [this];rfl
   rw [List.getElem?_take,if_pos (by omega),List.getElem?_drop] at h3
   simpa using h3
  refine ⟨g,rfl,hne,k1,k2,?_,?_,?_⟩
  ·rw [cell_of_row w g _ cur 3 (0,0) hh]
   rw [←k4,List.getElem?_take] at hcell
   split at hcell
   ·simpa using hcell
   ·cases hcell
  ·exact h.hd.set_ 0 _
  ·obtain ⟨cells',ho',hf'⟩:=hfar
   rcases ho'.2 with ⟨h1',h2'⟩ | ⟨g',cap',cur',hv',hg',hh',k1',k2',k3',k4'⟩
   ·simp at h2'
   ·simp only [Value.slice.injEq,Option.some.injEq,Addr.mk.injEq,and_true] at hv'
    obtain ⟨rfl,_,rfl⟩:=hv'
    have hl':cells'.length=xs.length+1:=by have:=hf'.1;simpa [qL] using this
    refine ⟨cells'.take xs.length,⟨by simp [qL,hl'],.inr ⟨g,c,cur',rfl,hg',hh',by omega,k2',k3',?_⟩⟩,?_⟩
    ·have e2:(xs++[k]).length*qL.k=xs.length+1:=by simp [qL]
     rw [e2] at k4'
     rw [←k4',List.take_take]
     congr 1
     simp [qL]
    ·have:=hf'.take xs.length
     simpa [qL] using this
structure SV where
 t:Tm
 a:Option Addr
 c:Nat
def SV.cs (x:SV):List Value:=[.int .i64 x.t.kind,.int .i64 x.t.n,.string x.t.s,.slice x.a x.t.l.length x.c]
def SvR:Reader SV where
 k:=4
 rd:=fun _ _ x vs=>vs=x.cs
 keep:=fun _ _ h=>h
 wide:=fun _ h=>h
 len:=fun h=>by subst h;rfl
theorem dm:cP SvR:=fun {w B x vs} h u hu=>by
 obtain rfl:vs=x.cs:=h
 simp only [SV.cs,List.mem_cons,List.not_mem_nil,or_false] at hu
 rcases hu with rfl | rfl | rfl | rfl<;>rfl
def de (D:Nat) (w:World) (x:SV):Prop:=RTm w w.heap.size (D+1) x.t x.cs∧∀u∈x.t.l,lg u
section
variable {D:Nat} {w w':World} {x:SV}
theorem de.keep (h:de D w x) (hb:Below 0 w w') (he:∀a,x.a=some a→w'.heap[a.block]? = w.heap[a.block]?):de D w' x:=by
 obtain ⟨⟨A,c,e,h1,h2,h3,h4,h5,h6⟩,hl⟩:=h
 simp only [SV.cs,List.cons.injEq,Value.slice.injEq,and_true,true_and] at e
 obtain ⟨rfl,rfl⟩:=e
 refine ⟨⟨x.a,x.c,rfl,h1,h2,h3,h4,h5,fun hn=>?_⟩,hl⟩
 obtain ⟨b,off,ha,hlt,hc⟩:=h6 hn
 refine ⟨b,off,ha,Nat.lt_of_lt_of_le hlt hb.size,fun i hi=>?_⟩
 obtain ⟨vs,hv,⟨y,hy,hr⟩,hcell⟩:=hc i hi
 have hm:y∈x.t.l:=List.mem_of_getElem? hy
 refine ⟨vs,hv,⟨y,hy,((tM (hl y hm) hr).below hb (Nat.le_refl _)).more (Nat.zero_le _)⟩,fun j u hj=>?_⟩
 have:=he _ ha
 have h9:=hcell j u hj
 unfold World.cell? at h9 ⊢
 simp only at this h9 ⊢
 rw [this]
 exact h9
theorem de.later (h:de D w x) (hb:Below w.heap.size w w'):de D w' x:=⟨(h.1.below hb (Nat.le_refl _)).more hb.size,h.2⟩
theorem de.lt (h:de D w x) {a:Addr} (ha:x.a=some a) (hn:0<x.t.l.length):a.block<w.heap.size:=by
 obtain ⟨⟨A,c,e,h1,h2,h3,h4,h5,h6⟩,hl⟩:=h
 simp only [SV.cs,List.cons.injEq,Value.slice.injEq,and_true,true_and] at e
 obtain ⟨rfl,rfl⟩:=e
 obtain ⟨b,off,he,hlt,_⟩:=h6 hn
 rw [ha] at he
 simp only [Option.some.injEq] at he
 rw [he];exact hlt
end
structure StkE (S base D:Nat) (bn bt:Value) (w:World) (xs:List SV) (next:Int) (A:Option Addr) (c:Nat):Prop where
 hd:bU w S #[bn,bt,.slice A xs.length c,.int .i64 next] 243
 own:au SvR 79 w base 0 (.slice A xs.length c) xs
 tms:∀x∈xs,de D w x
 sep:∀x∈xs,∀a,x.a=some a→a.block≠S∧∀b,A=some b→a.block≠b.block
 lt:∀x∈xs,∀a,x.a=some a→base≤a.block∧a.block<w.heap.size
def lW (S:Nat) (A:Option Addr) (x:SV):Prop:=∀a,x.a=some a→a.block≠S∧∀b,A=some b→a.block≠b.block
theorem xn:(243:TypeId)≠79:=by decide
section
variable {S base D c:Nat} {bn bt:Value} {w w':World} {xs:List SV} {next:Int} {A:Option Addr}
theorem StkE.later (h:StkE S base D bn bt w xs next A c) (hb:Below w.heap.size w w'):StkE S base D bn bt w' xs next A c:=
 ⟨h.hd.later hb,h.own.later hb (Nat.zero_le _),fun x hx=>(h.tms x hx).later hb,h.sep,fun x hx a ha=>⟨(h.lt x hx a ha).1,Nat.lt_of_lt_of_le (h.lt x hx a ha).2 hb.size⟩⟩
theorem StkE.head (h:StkE S base D bn bt w xs next A c) (next':Int):StkE S base D bn bt (w.setCell ⟨S,3,none⟩ (.int .i64 next')) xs next' A c:=by
 refine ⟨h.hd.set_ 3 _,h.own.farT h.hd xn 3 _,fun x hx=>(h.tms x hx).keep ((Below.refl 0 w).setCell (p:=⟨S,3,none⟩) (Nat.zero_le _) _) fun a ha=>?_,h.sep,fun x hx a ha=>by rw [World.size_setCell];exact h.lt x hx a ha⟩
 exact Below.heap_setCell w ⟨S,3,none⟩ _ a.block (h.sep x hx a ha).1
end
theorem StkE.pop {S base D c:Nat} {bn bt:Value} {w:World} {xs:List SV} {x:SV} {next:Int} {A:Option Addr} (h:StkE S base D bn bt w (xs++[x]) next A c) :
 ∃g,A=some ⟨g,0,none⟩∧g≠S∧g<w.heap.size∧xs.length+1≤c∧c≤maxLen∧(∀j u,x.cs[j]? = some u→w.cell? ⟨g,xs.length*4+j,none⟩=some u) ∧
  StkE S base D bn bt (w.setCell ⟨S,2,none⟩ (.slice A xs.length c)) xs next A c∧de D (w.setCell ⟨S,2,none⟩ (.slice A xs.length c)) x:=by
 have hne:=h.own.ne h.hd xn
 have hfar:=h.own.farT h.hd xn 2 (.slice A xs.length c)
 have htm:∀y∈xs++[x],de D (w.setCell ⟨S,2,none⟩ (.slice A xs.length c)) y:=fun y hy=>(h.tms y hy).keep ((Below.refl 0 w).setCell (p:=⟨S,2,none⟩) (Nat.zero_le _) _) fun a ha=>Below.heap_setCell w ⟨S,2,none⟩ _ a.block (h.sep y hy a ha).1
 obtain ⟨cells,ho,hf⟩:=h.own
 have hl:cells.length=(xs.length+1)*4:=by have:=hf.1;simpa [SvR] using this
 rcases ho.2 with ⟨h1,h2⟩ | ⟨g,cap,cur,hv,hg,hh,k1,k2,k3,k4⟩
 ·simp at h2
 ·simp only [Value.slice.injEq] at hv
  obtain ⟨rfl,_,rfl⟩:=hv
  simp only [Value.ownBlock,ne_eq,Option.some.injEq] at hne
  rw [List.length_append,List.length_singleton] at k1
  have hglt:g<w.heap.size:=by
   rcases Nat.lt_or_ge g w.heap.size with h' | h'
   ·exact h'
   ·rw [Array.getElem?_eq_none h'] at hh;cases hh
  refine ⟨g,rfl,hne,hglt,k1,k2,?_,⟨h.hd.set_ 2 _,?_,fun y hy=>htm y (List.mem_append_left _ hy),fun y hy=>h.sep y (List.mem_append_left _ hy),fun y hy a ha=>by rw [World.size_setCell];exact h.lt y (List.mem_append_left _ hy) a ha⟩,htm x (by simp)⟩
  ·intro j u hj
   have h0:=hf.2 xs.length (by simp)
   simp only [List.getElem_append_right (Nat.le_refl _),Nat.sub_self,List.getElem_singleton] at h0
   have h0:(cells.drop (xs.length*4)).take 4=x.cs:=h0
   rw [←h0,List.getElem?_take] at hj
   split at hj
   ·rw [List.getElem?_drop] at hj
    rw [cell_of_row w g _ cur 79 (0,0) hh]
    rw [←k4,List.getElem?_take] at hj
    split at hj
    ·simpa using hj
    ·cases hj
   ·cases hj
  ·obtain ⟨cells',ho',hf'⟩:=hfar
   rcases ho'.2 with ⟨h1',h2'⟩ | ⟨g',cap',cur',hv',hg',hh',k1',k2',k3',k4'⟩
   ·simp at h2'
   ·simp only [Value.slice.injEq,Option.some.injEq,Addr.mk.injEq,and_true] at hv'
    obtain ⟨rfl,_,rfl⟩:=hv'
    have hl':cells'.length=(xs.length+1)*4:=by have:=hf'.1;simpa [SvR] using this
    refine ⟨cells'.take (xs.length*4),⟨by simp only [SvR,List.length_take];omega,.inr ⟨g,c,cur',rfl,hg',hh',by omega,k2',k3',?_⟩⟩,?_⟩
    ·have e2:(xs++[x]).length*SvR.k=(xs.length+1)*4:=by simp [SvR]
     rw [e2] at k4'
     rw [←k4',List.take_take]
     congr 1
     simp [SvR]
    ·have:=hf'.take xs.length
     simpa [SvR] using this
theorem Exc.head {S:Nat} {w:World} (i:Nat) (v:Value):Exc S w (w.setCell ⟨S,i,none⟩ v):=(Exc.refl S w).set i v
theorem kK {S base D c:Nat} {bn bt:Value} {w:World} {xs:List SV} {x:SV} {next:Int} {A:Option Addr} (h:StkE S base D bn bt w (xs++[x]) next A c) (hn:xs.length≤100000) :
 Calls Tryz.prog 203 #[.pointer (some ⟨S,0,none⟩)] w fun e w'=>e=.returned (.agg x.cs.toArray)∧Exc S w w'∧StkE S base D bn bt w' xs next A c∧de D w' x∧lW S A x∧∀a,x.a=some a→base≤a.block∧a.block<w.heap.size:=by
 obtain ⟨g,rfl,hgS,hglt,hc1,hc2,hcell,hpop,htm⟩:=h.pop
 have HS:=Lib.hid h
 have hSlt:=h.hd.blk.lt
 have k_s:∀o,w.cell? ⟨S,o,none⟩=(#[bn,bt,.slice (some ⟨g,0,none⟩) (xs.length+1) c,.int .i64 next]:Array Value)[o]?:=by have:=h.hd.blk.cell;rwa [List.length_append,List.length_singleton] at this
 have f_s:=h.hd.blk.free
 have c0:w.cell? ⟨g,xs.length*4,none⟩=some (.int .i64 x.t.kind):=hcell 0 _ rfl
 have c1:w.cell? ⟨g,xs.length*4+1,none⟩=some (.int .i64 x.t.n):=hcell 1 _ rfl
 have c2:w.cell? ⟨g,xs.length*4+2,none⟩=some (.string x.t.s):=hcell 2 _ rfl
 have c3:w.cell? ⟨g,xs.length*4+3,none⟩=some (.slice x.a x.t.l.length x.c):=hcell 3 _ rfl
 unfold maxLen at hc2
 have HP:=Lib.hid (And.intro hpop htm)
 generalize xs.length=n at *
 clear hcell hpop htm h
 go_enter Tryz.func203,Tryz.ntmps203
 go_wp2_with fail
 go_region
 go_wp2_with fail
 go_region
 have hsz:(w.setCell ⟨S,2,none⟩ (.slice (some ⟨g,0,none⟩) n c)).heap.size=w.heap.size:=World.size_setCell _ _ _
 have HX:Hid (Exc S w (w.setCell ⟨S,2,none⟩ (.slice (some ⟨g,0,none⟩) n c))):=Lib.hid (Exc.head 2 _)
 clear k_s f_s c0 c1 c2 c3
 generalize w.setCell ⟨S,2,none⟩ (.slice (some ⟨g,0,none⟩) n c)=ws at *
 rw [←hsz]
 have HSZ:=Lib.hid hsz
 have HB:Hid (Below ws.heap.size ws ((ws.alloc (.cells #[.int .i64 0,.int .i64 0,.string ⟨#[]⟩,.slice none 0 0] 79)).alloc (.cells #[.int .i64 x.t.kind,.int .i64 x.t.n,.string x.t.s,.slice x.a x.t.l.length x.c] 79)).drew.drew):=Lib.hid (al2 rfl).1.drew.drew
 have b_r:Blk ((ws.alloc (.cells #[.int .i64 0,.int .i64 0,.string ⟨#[]⟩,.slice none 0 0] 79)).alloc (.cells #[.int .i64 x.t.kind,.int .i64 x.t.n,.string x.t.s,.slice x.a x.t.l.length x.c] 79)).drew.drew ws.heap.size uL:=(n21 rfl:Blk ((ws.alloc (.cells #[.int .i64 0,.int .i64 0,.string ⟨#[]⟩,.slice none 0 0] 79)).alloc (.cells #[.int .i64 x.t.kind,.int .i64 x.t.n,.string x.t.s,.slice x.a x.t.l.length x.c] 79)) _ _)
 have b_t:Blk ((ws.alloc (.cells #[.int .i64 0,.int .i64 0,.string ⟨#[]⟩,.slice none 0 0] 79)).alloc (.cells #[.int .i64 x.t.kind,.int .i64 x.t.n,.string x.t.s,.slice x.a x.t.l.length x.c] 79)).drew.drew (ws.heap.size+1) #[.int .i64 x.t.kind,.int .i64 x.t.n,.string x.t.s,.slice x.a x.t.l.length x.c]:=(n22 rfl:Blk ((ws.alloc (.cells #[.int .i64 0,.int .i64 0,.string ⟨#[]⟩,.slice none 0 0] 79)).alloc (.cells #[.int .i64 x.t.kind,.int .i64 x.t.n,.string x.t.s,.slice x.a x.t.l.length x.c] 79)) _ _)
 generalize World.drew _=w3 at *
 have HB2:=Lib.hid (And.intro b_r b_t)
 have k_r:=b_r.cell
 have f_r:=b_r.free
 have k_t:=b_t.cell
 clear hsz b_r b_t
 go_wp2_with fail
 have hb:=dx HB.out (Nat.le_refl _) (.int .i64 x.t.kind) (.int .i64 x.t.n) (.string x.t.s) (.slice x.a x.t.l.length x.c)
 refine bodyPost_ret (oc rfl rfl (dQ HB2.out.1 (.int .i64 x.t.kind) (.int .i64 x.t.n) (.string x.t.s) (.slice x.a x.t.l.length x.c)) rfl) rfl ?_
 exact ⟨rfl,HX.out.then (by omega) hb,HP.out.1.later hb,HP.out.2.later hb,HS.out.sep x (by simp),fun a ha=>by rw [HSZ.out.symm,HSZ.out];exact HS.out.lt x (by simp) a ha⟩
theorem four {β:Type}:∀Q:List β,4≤Q.length→∃q0 q1 q2 q3 R,Q=q0::q1::q2::q3::R
 | q0::q1::q2::q3::R,_=>⟨q0,q1,q2,q3,R,rfl⟩
 | [],h=>by simp at h
 | [_],h=>by simp at h
 | [_,_],h=>by simp at h
 | [_,_,_],h=>by simp at h
theorem uo {β:Type} (L:List β) (m:Nat) (h:m+4≤L.length) (a b c d:β):((((L.set m a).set (m+1) b).set (m+2) c).set (m+3) d).take (m+4)=L.take m++[a,b,c,d]:=by
 obtain ⟨P,Q,rfl,hP⟩:∃P Q,L=P++Q∧P.length=m:=⟨L.take m,L.drop m,(List.take_append_drop _ _).symm,by rw [List.length_take];omega⟩
 subst hP
 rw [List.length_append] at h
 obtain ⟨q0,q1,q2,q3,R,rfl⟩:=four Q (by omega)
 simp [List.set_append_right,List.take_append]
 exact List.take_of_length_le (by omega)
theorem au.last {w:World} {base:Nat} {v:Value} {xs:List SV} {y:SV} (h:au SvR 79 w base 0 v (xs++[y])) :
 ∃g c,v=.slice (some ⟨g,0,none⟩) (xs.length+1) c∧g<w.heap.size∧base≤g∧xs.length+1≤c∧c≤9223372036854775807∧(∀j u,y.cs[j]? = some u→w.cell? ⟨g,xs.length*4+j,none⟩=some u)∧(∀o,w.frozen? ⟨g,o,none⟩=false) ∧
  ∀x:SV,au SvR 79 ((((w.setCell ⟨g,xs.length*4,none⟩ (.int .i64 x.t.kind)).setCell ⟨g,xs.length*4+1,none⟩ (.int .i64 x.t.n)).setCell ⟨g,xs.length*4+2,none⟩ (.string x.t.s)).setCell ⟨g,xs.length*4+3,none⟩ (.slice x.a x.t.l.length x.c)) base 0 v (xs++[x]):=by
 obtain ⟨cells,ho,hf⟩:=h
 have hl:cells.length=(xs.length+1)*4:=by have:=hf.1;simpa [SvR] using this
 rcases ho.2 with ⟨h1,h2⟩ | ⟨g,cap,cur,hv,hg,hh,k1,k2,k3,k4⟩
 ·simp at h2
 ·rw [List.length_append,List.length_singleton] at k1 hv
  have hglt:g<w.heap.size:=by
   rcases Nat.lt_or_ge g w.heap.size with h' | h'
   ·exact h'
   ·rw [Array.getElem?_eq_none h'] at hh;cases hh
  have hbt:bU w g cur 79:=hh
  have hk3:cur.size=cap*4:=k3
  have e4:(xs++[y]).length*SvR.k=(xs.length+1)*4:=by simp [SvR]
  rw [e4] at k4
  refine ⟨g,cap,hv,hglt,hg,k1,by unfold maxLen at k2;omega,?_,hbt.blk.free,fun x=>?_⟩
  ·intro j u hj
   have h0:=hf.2 xs.length (by simp)
   simp only [List.getElem_append_right (Nat.le_refl _),Nat.sub_self,List.getElem_singleton] at h0
   have h0:(cells.drop (xs.length*4)).take 4=y.cs:=h0
   rw [←h0,List.getElem?_take] at hj
   split at hj
   ·rw [List.getElem?_drop,←k4,List.getElem?_take] at hj
    split at hj
    ·rw [cell_of_row w g _ cur 79 (0,0) hh]
     simpa using hj
    ·cases hj
   ·cases hj
  ·have hs:=(((hbt.set_ (xs.length*4) (.int .i64 x.t.kind)).set_ (xs.length*4+1) (.int .i64 x.t.n)).set_ (xs.length*4+2) (.string x.t.s)).set_ (xs.length*4+3) (.slice x.a x.t.l.length x.c)
   have hcs:xs.length*4+4≤cur.toList.length:=by
    have h9:cur.toList.length=cap*4:=(Array.length_toList).trans hk3
    omega
   have htk:cells.take (xs.length*4)=cur.toList.take (xs.length*4):=by
    rw [←k4,List.take_take]
    congr 1
    omega
   refine ⟨cells.take (xs.length*4)++x.cs,⟨by simp [SvR,SV.cs,hl];omega,.inr ⟨g,cap,_,?_,hg,hs,by simp;exact k1,k2,by simp;exact hk3,?_⟩⟩,?_⟩
   ·rw [hv];simp
   ·have e5:(xs++[x]).length*SvR.k=xs.length*4+4:=by simp [SvR];omega
    rw [e5,htk]
    simp only [Array.toList_setIfInBounds]
    exact uo _ _ hcs _ _ _ _
   ·have h1:=hf.take xs.length
    simp only [List.take_left'] at h1
    have h2:be SvR w 0 xs (cells.take (xs.length*4)):=h1
    have h3:be SvR w 0 (xs++[x]) (cells.take (xs.length*4)++x.cs):=h2.append (be.one (R:=SvR) rfl)
    exact ⟨h3.1,fun i hi=>h3.2 i hi⟩
theorem TmOwn.at_ {d base:Nat} {w:World} {t:Tm} {A:Option Addr} {c:Nat} (h:TmOwn d base w t A c):de d w ⟨t,A,c⟩:=by
 refine ⟨h.rtm,fun u hu=>?_⟩
 obtain ⟨cells,_,hf⟩:=h.own
 obtain ⟨i,hi,rfl⟩:=List.getElem_of_mem hu
 have:=hf.2 i hi
 generalize (cells.drop (i*(TmR d).k)).take (TmR d).k=vs at this
 have h2:RTm w 0 d t.l[i] vs:=this
 cases d with
 | zero=>exact h2.elim
 | succ d=>
   obtain ⟨A2,c2,_,_,_,_,_,_,h6⟩:=h2
   show t.l[i].l=[]
   rcases Nat.eq_zero_or_pos t.l[i].l.length with h0 | h0
   ·exact List.eq_nil_of_length_eq_zero h0
   ·obtain ⟨b,off,_,hb,_⟩:=h6 h0
    omega
theorem TmOwn.blk {d base:Nat} {w:World} {t:Tm} {A:Option Addr} {c:Nat} (h:TmOwn d base w t A c):∀a,A=some a→base≤a.block∧a.block<w.heap.size:=by
 intro a ha
 subst ha
 obtain ⟨cells,how,_⟩:=h.own
 exact how.lt a.block rfl
section
variable {α:Type} {R:Reader α} {P:Program} {w:World} {e:TypeId} {base:Nat} {v:Value} {xs ys:List α}
def bA (w:World) (v v':Value):Prop:=v'.ownBlock=v.ownBlock∨∃k,v'.ownBlock=some k∧w.heap.size≤k
theorem mO (t ty:TypeId) {i:TypeInfo} {z:Value} {bytes:Nat} (ht:P.underlying t=some (.slice e)) (hi:P.info? e=some i) (hz:i.zero=some z)
 (hsize:i.size=R.k) (hby:i.bytes=bytes) (hzs:z.cells.size=R.k) (hsz:0<R.k) (hs1:cP R)
 (hown:au R e w base 0 v xs) {ad:Addr} {m c:Nat} (hsrc:eK R w 0 (some ad) ys) (hm:m=ys.length)
 (hbytes:(xs.length+ys.length)*bytes≤140737488355328) (hb1:1≤bytes) (hbase:base≤w.heap.size) :
 ∃v' w',(Builtin.append_ #[t,t] ty #[v,.slice (some ad) m c]).run P w=.ok v' w'∧au R e w' base 0 v' (xs++ys)∧w.grownBy w' v.ownBlock∧bA w v v':=by
 subst hm
 obtain ⟨cells,how,hf⟩:=hown
 obtain ⟨news,hf2,_,hc⟩:=hsrc
 have hle:xs.length+ys.length≤(xs.length+ys.length)*bytes:=Nat.le_mul_of_pos_right _ hb1
 have hnews:=hc ad rfl
 have h63:xs.length+ys.length≤maxLen:=by unfold maxLen;omega
 have key:=fun (b:Nat) (hb:b≤w.heap.size) (ho:w.ownsRow b e R.k v xs.length cells)=>run_append_own (P:=P) w b t ty e i z R.k bytes ht hi hz hsize hby hzs hsz v xs.length cells ho ad ys.length c news hf2.1 hnews (hf2.single hs1) h63 hbytes hb
 obtain ⟨v',w',hr,ho',hg,_⟩:=key base hbase how
 have hbel:Below 0 w w':=(Below.refl 0 w).grown hg (Nat.zero_le _) (fun k hk=>Nat.zero_le _)
 refine ⟨v',w',hr,⟨cells++news,by rw [List.length_append];exact ho',(hf.append hf2).keep hbel (Nat.le_refl _)⟩,hg,?_⟩
 rcases how.2 with ⟨rfl,h0⟩ | ⟨g,cap,cur,rfl,hbg,hgb,hnc,hcm,hcs,htake⟩
 ·have hcn:cells=[]:=List.eq_nil_of_length_eq_zero (by rw [how.1,h0,Nat.zero_mul])
  subst hcn
  obtain ⟨v2,w2,hr2,ho2,_,_⟩:=key w.heap.size (Nat.le_refl _) (by rw [h0];exact World.ownsRow_nil _ _ _ _)
  rw [hr] at hr2
  simp only [Result.ok.injEq] at hr2
  obtain ⟨rfl,rfl⟩:=hr2
  rcases ho2.2 with ⟨h1,_⟩ | ⟨g,cap,cur,rfl,hbg,_⟩
  ·rw [h1];exact .inl rfl
  ·exact .inr ⟨g,rfl,hbg⟩
 ·by_cases hroom:xs.length+ys.length≤cap
  ·have hfit:xs.length*i.size+news.length≤cur.size:=by rw [hf2.1,hcs,hsize,←Nat.add_mul];exact Nat.mul_le_mul_right _ hroom
   have hr2:=run_append_room (P:=P) w t ty e i ht hi g xs.length cap cur hgb ad ys.length c news (by rw [hf2.1,hsize]) hnews (hf2.single hs1) hroom hfit
   rw [hr] at hr2
   simp only [Result.ok.injEq] at hr2
   obtain ⟨rfl,rfl⟩:=hr2
   exact .inl rfl
  ·have holds:∀j u,cells[j]? = some u→w.cell? ((⟨g,0,none⟩:Addr).add j)=some u:=how.cells (g:=g) rfl
   subst hby
   have hr2:=run_append_grow (P:=P) w t ty e i z ht hi hz ⟨g,0,none⟩ xs.length cap cells (by rw [how.1,hsize]) holds ad ys.length c news (by rw [hf2.1,hsize]) hnews (by omega) (by omega) (growslice_fits (by omega) hbytes)
   rw [hr] at hr2
   simp only [Result.ok.injEq] at hr2
   obtain ⟨rfl,rfl⟩:=hr2
   exact .inr ⟨w.heap.size,rfl,Nat.le_refl _⟩
theorem lc {o:Oper} {a:Act} {K:Act→World→Prop} {Q:Exit→Act→World→Prop} (s x:Operand) (t:TypeId)
 (ho:o.op=.call { callee:=.builtin .append,args:=#[s,x],argTypes:=#[t,t] })
 {i:TypeInfo} {z:Value} {bytes:Nat} (ht:P.underlying t=some (.slice e)) (hi:P.info? e=some i) (hz:i.zero=some z)
 (hsize:i.size=R.k) (hby:i.bytes=bytes) (hzs:z.cells.size=R.k) (hsz:0<R.k) (hs1:cP R)
 (hs:a.eval s=v) (hown:au R e w base 0 v xs) {ad:Addr} {m c:Nat} (hx:a.eval x=.slice (some ad) m c) (hsrc:eK R w 0 (some ad) ys) (hm:m=ys.length)
 (hbytes:(xs.length+ys.length)*bytes≤140737488355328) (hb1:1≤bytes) (hbase:base≤w.heap.size)
 (h:∀v' w',au R e w' base 0 v' (xs++ys)→w.grownBy w' v.ownBlock→bA w v v'→K (a.put o.dst v') w'):o.wp P a w K Q:=by
 obtain ⟨v',w',hr,h2,h3,h4⟩:=mO (P:=P) t o.type (c:=c) ht hi hz hsize hby hzs hsz hs1 hown hsrc hm hbytes hb1 hbase
 unfold Oper.wp execOp
 simp only [ho,resolve,invoke,builtin,Sem.run_bind,Sem.run_pure,Result.andThen_ok,List.map_toArray,List.map_cons,List.map_nil,hs,hx,hr]
 exact h v' w' h2 h3 h4
theorem eT {ops:Array Oper} {o:Oper} {a:Act} {K:Act→World→Prop} {Q:Exit→Act→World→Prop} {E:Prop} (hgd:o.guard=none) (s x:Operand) (t:TypeId)
 (ho:o.op=.call { callee:=.builtin .append,args:=#[s,x],argTypes:=#[t,t] })
 {i:TypeInfo} {z:Value} {bytes:Nat} (ht:P.underlying t=some (.slice e)) (hi:P.info? e=some i) (hz:i.zero=some z)
 (hsize:i.size=R.k) (hby:i.bytes=bytes) (hzs:z.cells.size=R.k) (hsz:0<R.k) (hs1:cP R)
 (hs:a.eval s=v) (hown:au R e w base 0 v xs) {ad:Addr} {m c:Nat} (hx:a.eval x=.slice (some ad) m c) (hsrc:eK R w 0 (some ad) ys) (hm:m=ys.length)
 (hbytes:(xs.length+ys.length)*bytes≤140737488355328) (hb1:1≤bytes) (hbase:base≤w.heap.size)
 (h:∀v' w',au R e w' base 0 v' (xs++ys)→w.grownBy w' v.ownBlock→bA w v v'→K (a.put o.dst v') w') :
 if Region.wanted o (yielded ops a.tmps)=true then Oper.wp P o a w K Q else E:=by
 have hw:Region.wanted o (yielded ops a.tmps)=true:=by simp [Region.wanted,hgd]
 rw [if_pos hw]
 exact lc s x t ho ht hi hz hsize hby hzs hsz hs1 hs hown hx hsrc hm hbytes hb1 hbase h
end
end Go.Proofs.YtdphibjibnffeaaGreat
