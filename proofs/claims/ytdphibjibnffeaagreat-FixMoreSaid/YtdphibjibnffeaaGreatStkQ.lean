/- A stack of terms in a slice of the call's own. -/
import Derived.Test.YtdphibjibnffeaaGreatFound
import Derived.Test.YtdphibjibnffeaaGreatMat1
import Derived.Test.YtdphibjibnffeaaGreatSrc
import Derived.RegionTactic
import Derived.Test.YtdphibjibnffeaaGreatFc1
import Derived.Deep.RegionHeld3
import Derived.Deep.RegionLaw
import Derived.Deep.DeepCutAuto
set_option linter.unusedVariables false
set_option linter.unusedSimpArgs false
set_option maxRecDepth 100000
set_option maxHeartbeats 8000000
namespace Go.Proofs.YtdphibjibnffeaaGreat
open Go.ChangeShapes Go.WideShapes Go.ChangeAt Go.RowKit
structure SV where
 t:Tm
 a:Option Addr
 c:Nat
def SV.cs (x:SV):List Value:=[.int .i64 x.t.kind,.int .i64 x.t.n,.string x.t.s,.slice x.a x.t.l.length x.c]
def SvR:Reader SV where
 k:=4
 rd:=fun _ _ x vs=>vs=x.cs
 keep:=fun _ _ h=>h
 wide:=fun _ h=>h
 len:=fun h=>by subst h;rfl
theorem cm:dn SvR:=fun {w B x vs} h u hu=>by
 obtain rfl:vs=x.cs:=h
 simp only [SV.cs,List.mem_cons,List.not_mem_nil,or_false] at hu
 rcases hu with rfl | rfl | rfl | rfl<;>rfl
def dl (D:Nat) (w:World) (x:SV):Prop:=RTm w w.heap.size (D+1) x.t x.cs∧∀u∈x.t.l,ji u
section
variable {D:Nat} {w w':World} {x:SV}
theorem dl.keep (h:dl D w x) (hb:Below 0 w w') (he:∀a,x.a=some a→w'.heap[a.block]? = w.heap[a.block]?):dl D w' x:=by
 obtain ⟨⟨A,c,e,h1,h2,h3,h4,h5,h6⟩,hl⟩:=h
 simp only [SV.cs,List.cons.injEq,Value.slice.injEq,and_true,true_and] at e
 obtain ⟨rfl,rfl⟩:=e
 refine ⟨⟨x.a,x.c,rfl,h1,h2,h3,h4,h5,fun hn=>?_⟩,hl⟩
 obtain ⟨b,off,ha,hlt,hc⟩:=h6 hn
 refine ⟨b,off,ha,zJ hlt hb.size,fun i hi=>?_⟩
 obtain ⟨vs,hv,⟨y,hy,hr⟩,hcell⟩:=hc i hi
 have hm:y∈x.t.l:=List.mem_of_getElem? hy
 refine ⟨vs,hv,⟨y,hy,((vM (hl y hm) hr).below hb (zG _)).more (zH _)⟩,fun j u hj=>?_⟩
 have:=he _ ha
 have h9:=hcell j u hj
 unfold World.cell? at h9 ⊢
 simp only at this h9 ⊢
 rw [this]
 exact h9
theorem dl.later (h:dl D w x) (hb:Below w.heap.size w w'):dl D w' x:=⟨(h.1.below hb (zG _)).more hb.size,h.2⟩
theorem dl.lt (h:dl D w x) {a:Addr} (ha:x.a=some a) (hn:0<x.t.l.length):a.block<w.heap.size:=by
 obtain ⟨⟨A,c,e,h1,h2,h3,h4,h5,h6⟩,hl⟩:=h
 simp only [SV.cs,List.cons.injEq,Value.slice.injEq,and_true,true_and] at e
 obtain ⟨rfl,rfl⟩:=e
 obtain ⟨b,off,he,hlt,_⟩:=h6 hn
 rw [ha] at he
 simp only [Option.some.injEq] at he
 rw [he];exact hlt
end
structure StkE (S base D:Nat) (bn bt:Value) (w:World) (xs:List SV) (next:Int) (A:Option Addr) (c:Nat):Prop where
 hd:bP w S #[bn,bt,.slice A xs.length c,.int .i64 next] 243
 own:ar SvR 79 w base 0 (.slice A xs.length c) xs
 tms:∀x∈xs,dl D w x
 sep:∀x∈xs,∀a,x.a=some a→a.block≠S∧∀b,A=some b→a.block≠b.block
 lt:∀x∈xs,∀a,x.a=some a→base≤a.block∧a.block<w.heap.size
def nh (S:Nat) (A:Option Addr) (x:SV):Prop:=∀a,x.a=some a→a.block≠S∧∀b,A=some b→a.block≠b.block
theorem zy:(243:TypeId)≠79:=by decide
section
variable {S base D c:Nat} {bn bt:Value} {w w':World} {xs:List SV} {next:Int} {A:Option Addr}
theorem StkE.later (h:StkE S base D bn bt w xs next A c) (hb:Below w.heap.size w w'):StkE S base D bn bt w' xs next A c:=
 ⟨h.hd.later hb,h.own.later hb (zH _),fun x hx=>(h.tms x hx).later hb,h.sep,fun x hx a ha=>⟨(h.lt x hx a ha).1,zJ (h.lt x hx a ha).2 hb.size⟩⟩
theorem StkE.head (h:StkE S base D bn bt w xs next A c) (next':Int):StkE S base D bn bt (w.setCell ⟨S,3,none⟩ (.int .i64 next')) xs next' A c:=by
 refine ⟨h.hd.set_ 3 _,h.own.farT h.hd zy 3 _,fun x hx=>(h.tms x hx).keep ((zI 0 w).setCell (p:=⟨S,3,none⟩) (zH _) _) fun a ha=>?_,h.sep,fun x hx a ha=>by rw [World.size_setCell];exact h.lt x hx a ha⟩
 exact Below.heap_setCell w ⟨S,3,none⟩ _ a.block (h.sep x hx a ha).1
end
theorem StkE.pop {S base D c:Nat} {bn bt:Value} {w:World} {xs:List SV} {x:SV} {next:Int} {A:Option Addr} (h:StkE S base D bn bt w (xs++[x]) next A c) :
 ∃g,A=some ⟨g,0,none⟩∧g≠S∧g<w.heap.size∧xs.length+1≤c∧c≤maxLen∧(∀j u,x.cs[j]? = some u→w.cell? ⟨g,xs.length*4+j,none⟩=some u) ∧
  StkE S base D bn bt (w.setCell ⟨S,2,none⟩ (.slice A xs.length c)) xs next A c∧dl D (w.setCell ⟨S,2,none⟩ (.slice A xs.length c)) x:=by
 have hne:=h.own.ne h.hd zy
 have hfar:=h.own.farT h.hd zy 2 (.slice A xs.length c)
 have htm:∀y∈xs++[x],dl D (w.setCell ⟨S,2,none⟩ (.slice A xs.length c)) y:=fun y hy=>(h.tms y hy).keep ((zI 0 w).setCell (p:=⟨S,2,none⟩) (zH _) _) fun a ha=>Below.heap_setCell w ⟨S,2,none⟩ _ a.block (h.sep y hy a ha).1
 obtain ⟨cells,ho,hf⟩:=h.own
 have hl:cells.length=(xs.length+1)*4:=by have:=hf.1;simpa [SvR] using this
 rcases ho.2 with ⟨h1,h2⟩ | ⟨g,cap,cur,hv,hg,hh,k1,k2,k3,k4⟩
 ·simp at h2
 ·simp only [Value.slice.injEq] at hv
  obtain ⟨rfl,_,rfl⟩:=hv
  simp only [Value.ownBlock,ne_eq,Option.some.injEq] at hne
  rw [List.length_append,List.length_singleton] at k1
  have hglt:g<w.heap.size:=by
   rcases Nat.lt_or_ge g w.heap.size with h' | h'
   ·exact h'
   ·rw [Array.getElem?_eq_none h'] at hh;cases hh
  refine ⟨g,rfl,hne,hglt,k1,k2,?_,⟨h.hd.set_ 2 _,?_,fun y hy=>htm y (List.mem_append_left _ hy),fun y hy=>h.sep y (List.mem_append_left _ hy),fun y hy a ha=>by rw [World.size_setCell];exact h.lt y (List.mem_append_left _ hy) a ha⟩,htm x (by simp)⟩
  ·intro j u hj
   have h0:=hf.2 xs.length (by simp)
   simp only [List.getElem_append_right (zG _),Nat.sub_self,List.getElem_singleton] at h0
   have h0:(cells.drop (xs.length*4)).take 4=x.cs:=h0
   rw [←h0,List.getElem?_take] at hj
   split at hj
   ·rw [List.getElem?_drop] at hj
    rw [cell_of_row w g _ cur 79 (0,0) hh]
    rw [←k4,List.getElem?_take] at hj
    split at hj
    ·simpa using hj
    ·cases hj
   ·cases hj
  ·obtain ⟨cells',ho',hf'⟩:=hfar
   rcases ho'.2 with ⟨h1',h2'⟩ | ⟨g',cap',cur',hv',hg',hh',k1',k2',k3',k4'⟩
   ·simp at h2'
   ·simp only [Value.slice.injEq,Option.some.injEq,Addr.mk.injEq,and_true] at hv'
    obtain ⟨rfl,_,rfl⟩:=hv'
    have hl':cells'.length=(xs.length+1)*4:=by have:=hf'.1;simpa [SvR] using this
    refine ⟨cells'.take (xs.length*4),⟨by simp only [SvR,List.length_take];omega,.inr ⟨g,c,cur',rfl,hg',hh',by omega,k2',k3',?_⟩⟩,?_⟩
    ·have e2:(xs++[x]).length*SvR.k=(xs.length+1)*4:=by simp [SvR]
     rw [e2] at k4'
     rw [←k4',List.take_take]
     congr 1
     simp [SvR]
    ·have:=hf'.take xs.length
     simpa [SvR] using this
theorem Exc.head {S:Nat} {w:World} (i:Nat) (v:Value):Exc S w (w.setCell ⟨S,i,none⟩ v):=(Exc.refl S w).set i v
theorem lH {S base D c:Nat} {bn bt:Value} {w:World} {xs:List SV} {x:SV} {next:Int} {A:Option Addr} (h:StkE S base D bn bt w (xs++[x]) next A c) (hn:xs.length≤100000) :
 Calls Tryz.prog 203 #[.pointer (some ⟨S,0,none⟩)] w fun e w'=>e=.returned (.agg x.cs.toArray)∧Exc S w w'∧StkE S base D bn bt w' xs next A c∧dl D w' x∧nh S A x∧∀a,x.a=some a→base≤a.block∧a.block<w.heap.size:=by
 obtain ⟨g,rfl,hgS,hglt,hc1,hc2,hcell,hpop,htm⟩:=h.pop
 have HS:=zE h
 have hSlt:=h.hd.blk.lt
 have k_s:∀o,w.cell? ⟨S,o,none⟩=(#[bn,bt,.slice (some ⟨g,0,none⟩) (xs.length+1) c,.int .i64 next]:Array Value)[o]?:=by have:=h.hd.blk.cell;rwa [List.length_append,List.length_singleton] at this
 have f_s:=h.hd.blk.free
 have c0:w.cell? ⟨g,xs.length*4,none⟩=some (.int .i64 x.t.kind):=hcell 0 _ rfl
 have c1:w.cell? ⟨g,xs.length*4+1,none⟩=some (.int .i64 x.t.n):=hcell 1 _ rfl
 have c2:w.cell? ⟨g,xs.length*4+2,none⟩=some (.string x.t.s):=hcell 2 _ rfl
 have c3:w.cell? ⟨g,xs.length*4+3,none⟩=some (.slice x.a x.t.l.length x.c):=hcell 3 _ rfl
 unfold maxLen at hc2
 have HP:=zE (And.intro hpop htm)
 generalize xs.length=n at *
 clear hcell hpop htm h
 go_enter Tryz.func203,Tryz.ntmps203
 go_wp2_with fail
 go_region
 go_wp2_with fail
 go_region
 have hsz:(w.setCell ⟨S,2,none⟩ (.slice (some ⟨g,0,none⟩) n c)).heap.size=w.heap.size:=World.size_setCell _ _ _
 have HX:Hid (Exc S w (w.setCell ⟨S,2,none⟩ (.slice (some ⟨g,0,none⟩) n c))):=zE (Exc.head 2 _)
 clear k_s f_s c0 c1 c2 c3
 generalize w.setCell ⟨S,2,none⟩ (.slice (some ⟨g,0,none⟩) n c)=ws at *
 rw [←hsz]
 have HSZ:=zE hsz
 have HB:Hid (Below ws.heap.size ws ((ws.alloc (.cells #[.int .i64 0,.int .i64 0,.string ⟨#[]⟩,.slice none 0 0] 79)).alloc (.cells #[.int .i64 x.t.kind,.int .i64 x.t.n,.string x.t.s,.slice x.a x.t.l.length x.c] 79)).drew.drew):=zE (al2 rfl).1.drew.drew
 have b_r:Blk ((ws.alloc (.cells #[.int .i64 0,.int .i64 0,.string ⟨#[]⟩,.slice none 0 0] 79)).alloc (.cells #[.int .i64 x.t.kind,.int .i64 x.t.n,.string x.t.s,.slice x.a x.t.l.length x.c] 79)).drew.drew ws.heap.size xh:=(n21 rfl:Blk ((ws.alloc (.cells #[.int .i64 0,.int .i64 0,.string ⟨#[]⟩,.slice none 0 0] 79)).alloc (.cells #[.int .i64 x.t.kind,.int .i64 x.t.n,.string x.t.s,.slice x.a x.t.l.length x.c] 79)) _ _)
 have b_t:Blk ((ws.alloc (.cells #[.int .i64 0,.int .i64 0,.string ⟨#[]⟩,.slice none 0 0] 79)).alloc (.cells #[.int .i64 x.t.kind,.int .i64 x.t.n,.string x.t.s,.slice x.a x.t.l.length x.c] 79)).drew.drew (ws.heap.size+1) #[.int .i64 x.t.kind,.int .i64 x.t.n,.string x.t.s,.slice x.a x.t.l.length x.c]:=(n22 rfl:Blk ((ws.alloc (.cells #[.int .i64 0,.int .i64 0,.string ⟨#[]⟩,.slice none 0 0] 79)).alloc (.cells #[.int .i64 x.t.kind,.int .i64 x.t.n,.string x.t.s,.slice x.a x.t.l.length x.c] 79)) _ _)
 generalize World.drew _=w3 at *
 have HB2:=zE (And.intro b_r b_t)
 have k_r:=b_r.cell
 have f_r:=b_r.free
 have k_t:=b_t.cell
 clear hsz b_r b_t
 go_wp2_with fail
 have hb:=cC HB.out (zG _) (.int .i64 x.t.kind) (.int .i64 x.t.n) (.string x.t.s) (.slice x.a x.t.l.length x.c)
 refine bodyPost_ret (mY rfl rfl (dv HB2.out.1 (.int .i64 x.t.kind) (.int .i64 x.t.n) (.string x.t.s) (.slice x.a x.t.l.length x.c)) rfl) rfl ?_
 exact ⟨rfl,HX.out.then (by omega) hb,HP.out.1.later hb,HP.out.2.later hb,HS.out.sep x (by simp),fun a ha=>by rw [HSZ.out.symm,HSZ.out];exact HS.out.lt x (by simp) a ha⟩
theorem four {β:Type}:∀Q:List β,4≤Q.length→∃q0 q1 q2 q3 R,Q=q0::q1::q2::q3::R
 | q0::q1::q2::q3::R,_=>⟨q0,q1,q2,q3,R,rfl⟩
 | [],h=>by simp at h
 | [_],h=>by simp at h
 | [_,_],h=>by simp at h
 | [_,_,_],h=>by simp at h
theorem wI {β:Type} (L:List β) (m:Nat) (h:m+4≤L.length) (a b c d:β):((((L.set m a).set (m+1) b).set (m+2) c).set (m+3) d).take (m+4)=L.take m++[a,b,c,d]:=by
 obtain ⟨P,Q,rfl,hP⟩:∃P Q,L=P++Q∧P.length=m:=⟨L.take m,L.drop m,(List.take_append_drop _ _).symm,by rw [List.length_take];omega⟩
 subst hP
 rw [List.length_append] at h
 obtain ⟨q0,q1,q2,q3,R,rfl⟩:=four Q (by omega)
 simp [List.set_append_right,List.take_append]
 exact List.take_of_length_le (by omega)
theorem ar.last {w:World} {base:Nat} {v:Value} {xs:List SV} {y:SV} (h:ar SvR 79 w base 0 v (xs++[y])) :
 ∃g c,v=.slice (some ⟨g,0,none⟩) (xs.length+1) c∧g<w.heap.size∧base≤g∧xs.length+1≤c∧c≤9223372036854775807∧(∀j u,y.cs[j]? = some u→w.cell? ⟨g,xs.length*4+j,none⟩=some u)∧(∀o,w.frozen? ⟨g,o,none⟩=false) ∧
  ∀x:SV,ar SvR 79 ((((w.setCell ⟨g,xs.length*4,none⟩ (.int .i64 x.t.kind)).setCell ⟨g,xs.length*4+1,none⟩ (.int .i64 x.t.n)).setCell ⟨g,xs.length*4+2,none⟩ (.string x.t.s)).setCell ⟨g,xs.length*4+3,none⟩ (.slice x.a x.t.l.length x.c)) base 0 v (xs++[x]):=by
 obtain ⟨cells,ho,hf⟩:=h
 have hl:cells.length=(xs.length+1)*4:=by have:=hf.1;simpa [SvR] using this
 rcases ho.2 with ⟨h1,h2⟩ | ⟨g,cap,cur,hv,hg,hh,k1,k2,k3,k4⟩
 ·simp at h2
 ·rw [List.length_append,List.length_singleton] at k1 hv
  have hglt:g<w.heap.size:=by
   rcases Nat.lt_or_ge g w.heap.size with h' | h'
   ·exact h'
   ·rw [Array.getElem?_eq_none h'] at hh;cases hh
  have hbt:bP w g cur 79:=hh
  have hk3:cur.size=cap*4:=k3
  have e4:(xs++[y]).length*SvR.k=(xs.length+1)*4:=by simp [SvR]
  rw [e4] at k4
  refine ⟨g,cap,hv,hglt,hg,k1,by unfold maxLen at k2;omega,?_,hbt.blk.free,fun x=>?_⟩
  ·intro j u hj
   have h0:=hf.2 xs.length (by simp)
   simp only [List.getElem_append_right (zG _),Nat.sub_self,List.getElem_singleton] at h0
   have h0:(cells.drop (xs.length*4)).take 4=y.cs:=h0
   rw [←h0,List.getElem?_take] at hj
   split at hj
   ·rw [List.getElem?_drop,←k4,List.getElem?_take] at hj
    split at hj
    ·rw [cell_of_row w g _ cur 79 (0,0) hh]
     simpa using hj
    ·cases hj
   ·cases hj
  ·have hs:=(((hbt.set_ (xs.length*4) (.int .i64 x.t.kind)).set_ (xs.length*4+1) (.int .i64 x.t.n)).set_ (xs.length*4+2) (.string x.t.s)).set_ (xs.length*4+3) (.slice x.a x.t.l.length x.c)
   have hcs:xs.length*4+4≤cur.toList.length:=by
    have h9:cur.toList.length=cap*4:=(Array.length_toList).trans hk3
    omega
   have htk:cells.take (xs.length*4)=cur.toList.take (xs.length*4):=by
    rw [←k4,List.take_take]
    congr 1
    omega
   refine ⟨cells.take (xs.length*4)++x.cs,⟨by simp [SvR,SV.cs,hl];omega,.inr ⟨g,cap,_,?_,hg,hs,by simp;exact k1,k2,by simp;exact hk3,?_⟩⟩,?_⟩
   ·rw [hv];simp
   ·have e5:(xs++[x]).length*SvR.k=xs.length*4+4:=by simp [SvR];omega
    rw [e5,htk]
    simp only [Array.toList_setIfInBounds]
    exact wI _ _ hcs _ _ _ _
   ·have h1:=hf.take xs.length
    simp only [List.take_left'] at h1
    have h2:bE SvR w 0 xs (cells.take (xs.length*4)):=h1
    have h3:bE SvR w 0 (xs++[x]) (cells.take (xs.length*4)++x.cs):=h2.append (bE.one (R:=SvR) rfl)
    exact ⟨h3.1,fun i hi=>h3.2 i hi⟩
theorem TmOwn.at_ {d base:Nat} {w:World} {t:Tm} {A:Option Addr} {c:Nat} (h:TmOwn d base w t A c):dl d w ⟨t,A,c⟩:=by
 refine ⟨h.rtm,fun u hu=>?_⟩
 obtain ⟨cells,_,hf⟩:=h.own
 obtain ⟨i,hi,rfl⟩:=List.getElem_of_mem hu
 have:=hf.2 i hi
 generalize (cells.drop (i*(TmR d).k)).take (TmR d).k=vs at this
 have h2:RTm w 0 d t.l[i] vs:=this
 cases d with
 | zero=>exact h2.elim
 | succ d=>
   obtain ⟨A2,c2,_,_,_,_,_,_,h6⟩:=h2
   show t.l[i].l=[]
   rcases Nat.eq_zero_or_pos t.l[i].l.length with h0 | h0
   ·exact List.eq_nil_of_length_eq_zero h0
   ·obtain ⟨b,off,_,hb,_⟩:=h6 h0
    omega
theorem TmOwn.blk {d base:Nat} {w:World} {t:Tm} {A:Option Addr} {c:Nat} (h:TmOwn d base w t A c):∀a,A=some a→base≤a.block∧a.block<w.heap.size:=by
 intro a ha
 subst ha
 obtain ⟨cells,how,_⟩:=h.own
 exact how.lt a.block rfl
section
variable {α:Type} {R:Reader α} {P:Program} {w:World} {e:TypeId} {base:Nat} {v:Value} {xs ys:List α}
def bz (w:World) (v v':Value):Prop:=v'.ownBlock=v.ownBlock∨∃k,v'.ownBlock=some k∧w.heap.size≤k
theorem oy (t ty:TypeId) {i:TypeInfo} {z:Value} {bytes:Nat} (ht:P.underlying t=some (.slice e)) (hi:P.info? e=some i) (hz:i.zero=some z)
 (hsize:i.size=R.k) (hby:i.bytes=bytes) (hzs:z.cells.size=R.k) (hsz:0<R.k) (hs1:dn R)
 (hown:ar R e w base 0 v xs) {ad:Addr} {m c:Nat} (hsrc:gY R w 0 (some ad) ys) (hm:m=ys.length)
 (hbytes:(xs.length+ys.length)*bytes≤140737488355328) (hb1:1≤bytes) (hbase:base≤w.heap.size) :
 ∃v' w',(Builtin.append_ #[t,t] ty #[v,.slice (some ad) m c]).run P w=.ok v' w'∧ar R e w' base 0 v' (xs++ys)∧w.grownBy w' v.ownBlock∧bz w v v':=by
 subst hm
 obtain ⟨cells,how,hf⟩:=hown
 obtain ⟨news,hf2,_,hc⟩:=hsrc
 have hle:xs.length+ys.length≤(xs.length+ys.length)*bytes:=Nat.le_mul_of_pos_right _ hb1
 have hnews:=hc ad rfl
 have h63:xs.length+ys.length≤maxLen:=by unfold maxLen;omega
 have key:=fun (b:Nat) (hb:b≤w.heap.size) (ho:w.ownsRow b e R.k v xs.length cells)=>run_append_own (P:=P) w b t ty e i z R.k bytes ht hi hz hsize hby hzs hsz v xs.length cells ho ad ys.length c news hf2.1 hnews (hf2.single hs1) h63 hbytes hb
 obtain ⟨v',w',hr,ho',hg,_⟩:=key base hbase how
 have hbel:Below 0 w w':=(zI 0 w).grown hg (zH _) (fun k hk=>zH _)
 refine ⟨v',w',hr,⟨cells++news,by rw [List.length_append];exact ho',(hf.append hf2).keep hbel (zG _)⟩,hg,?_⟩
 rcases how.2 with ⟨rfl,h0⟩ | ⟨g,cap,cur,rfl,hbg,hgb,hnc,hcm,hcs,htake⟩
 ·have hcn:cells=[]:=List.eq_nil_of_length_eq_zero (by rw [how.1,h0,Nat.zero_mul])
  subst hcn
  obtain ⟨v2,w2,hr2,ho2,_,_⟩:=key w.heap.size (zG _) (by rw [h0];exact World.ownsRow_nil _ _ _ _)
  rw [hr] at hr2
  simp only [Result.ok.injEq] at hr2
  obtain ⟨rfl,rfl⟩:=hr2
  rcases ho2.2 with ⟨h1,_⟩ | ⟨g,cap,cur,rfl,hbg,_⟩
  ·rw [h1];exact .inl rfl
  ·exact .inr ⟨g,rfl,hbg⟩
 ·by_cases hroom:xs.length+ys.length≤cap
  ·have hfit:xs.length*i.size+news.length≤cur.size:=by rw [hf2.1,hcs,hsize,←Nat.add_mul];exact Nat.mul_le_mul_right _ hroom
   have hr2:=run_append_room (P:=P) w t ty e i ht hi g xs.length cap cur hgb ad ys.length c news (by rw [hf2.1,hsize]) hnews (hf2.single hs1) hroom hfit
   rw [hr] at hr2
   simp only [Result.ok.injEq] at hr2
   obtain ⟨rfl,rfl⟩:=hr2
   exact .inl rfl
  ·have holds:∀j u,cells[j]? = some u→w.cell? ((⟨g,0,none⟩:Addr).add j)=some u:=how.cells (g:=g) rfl
   subst hby
   have hr2:=run_append_grow (P:=P) w t ty e i z ht hi hz ⟨g,0,none⟩ xs.length cap cells (by rw [how.1,hsize]) holds ad ys.length c news (by rw [hf2.1,hsize]) hnews (by omega) (by omega) (growslice_fits (by omega) hbytes)
   rw [hr] at hr2
   simp only [Result.ok.injEq] at hr2
   obtain ⟨rfl,rfl⟩:=hr2
   exact .inr ⟨w.heap.size,rfl,zG _⟩
theorem lX {o:Oper} {a:Act} {K:Act→World→Prop} {Q:Exit→Act→World→Prop} (s x:Operand) (t:TypeId)
 (ho:o.op=.call { callee:=.builtin .append,args:=#[s,x],argTypes:=#[t,t] })
 {i:TypeInfo} {z:Value} {bytes:Nat} (ht:P.underlying t=some (.slice e)) (hi:P.info? e=some i) (hz:i.zero=some z)
 (hsize:i.size=R.k) (hby:i.bytes=bytes) (hzs:z.cells.size=R.k) (hsz:0<R.k) (hs1:dn R)
 (hs:a.eval s=v) (hown:ar R e w base 0 v xs) {ad:Addr} {m c:Nat} (hx:a.eval x=.slice (some ad) m c) (hsrc:gY R w 0 (some ad) ys) (hm:m=ys.length)
 (hbytes:(xs.length+ys.length)*bytes≤140737488355328) (hb1:1≤bytes) (hbase:base≤w.heap.size)
 (h:∀v' w',ar R e w' base 0 v' (xs++ys)→w.grownBy w' v.ownBlock→bz w v v'→K (a.put o.dst v') w'):o.wp P a w K Q:=by
 obtain ⟨v',w',hr,h2,h3,h4⟩:=oy (P:=P) t o.type (c:=c) ht hi hz hsize hby hzs hsz hs1 hown hsrc hm hbytes hb1 hbase
 unfold Oper.wp execOp
 simp only [ho,resolve,invoke,builtin,Sem.run_bind,Sem.run_pure,Result.andThen_ok,List.map_toArray,List.map_cons,List.map_nil,hs,hx,hr]
 exact h v' w' h2 h3 h4
theorem cR {ops:Array Oper} {o:Oper} {a:Act} {K:Act→World→Prop} {Q:Exit→Act→World→Prop} {E:Prop} (hgd:o.guard=none) (s x:Operand) (t:TypeId)
 (ho:o.op=.call { callee:=.builtin .append,args:=#[s,x],argTypes:=#[t,t] })
 {i:TypeInfo} {z:Value} {bytes:Nat} (ht:P.underlying t=some (.slice e)) (hi:P.info? e=some i) (hz:i.zero=some z)
 (hsize:i.size=R.k) (hby:i.bytes=bytes) (hzs:z.cells.size=R.k) (hsz:0<R.k) (hs1:dn R)
 (hs:a.eval s=v) (hown:ar R e w base 0 v xs) {ad:Addr} {m c:Nat} (hx:a.eval x=.slice (some ad) m c) (hsrc:gY R w 0 (some ad) ys) (hm:m=ys.length)
 (hbytes:(xs.length+ys.length)*bytes≤140737488355328) (hb1:1≤bytes) (hbase:base≤w.heap.size)
 (h:∀v' w',ar R e w' base 0 v' (xs++ys)→w.grownBy w' v.ownBlock→bz w v v'→K (a.put o.dst v') w') :
 if Region.wanted o (yielded ops a.tmps)=true then Oper.wp P o a w K Q else E:=by
 have hw:Region.wanted o (yielded ops a.tmps)=true:=by simp [Region.wanted,hgd]
 rw [if_pos hw]
 exact lX s x t ho ht hi hz hsize hby hzs hsz hs1 hs hown hx hsrc hm hbytes hb1 hbase h
end
section
variable {α:Type} {R:Reader α} {P:Program} {w:World} {e:TypeId} {base B:Nat} {v:Value} {xs ys:List α}
theorem nv (t ty:TypeId) {i:TypeInfo} {z:Value} {bytes:Nat} (ht:P.underlying t=some (.slice e)) (hi:P.info? e=some i) (hz:i.zero=some z)
 (hsize:i.size=R.k) (hby:i.bytes=bytes) (hzs:z.cells.size=R.k) (hsz:0<R.k) (hs1:dn R)
 (hown:ar R e w base B v xs) {A:Option Addr} {m c:Nat} (hsrc:gY R w B A ys) (hm:m=ys.length) (hB:B≤base)
 (hbytes:(xs.length+ys.length)*bytes≤140737488355328) (hb1:1≤bytes) (hbase:base≤w.heap.size) :
 ∃v' w',(Builtin.append_ #[t,t] ty #[v,.slice A m c]).run P w=.ok v' w'∧ar R e w' base B v' (xs++ys)∧Below base w w'∧w.grownBy w' v.ownBlock∧bz w v v':=by
 subst hm
 obtain ⟨cells,how,hf⟩:=hown
 obtain ⟨news,hf2,hnil,hc⟩:=hsrc
 have hle:xs.length+ys.length≤(xs.length+ys.length)*bytes:=Nat.le_mul_of_pos_right _ hb1
 rcases A with _ | ad
 ·obtain rfl:=hnil rfl
  refine ⟨v,w,ez (P:=P) t ty e ht hi how c,?_,zI _ _,World.grownBy.refl w _,.inl rfl⟩
  rw [List.append_nil]
  exact ⟨cells,how,hf⟩
 have hnews:=hc ad rfl
 have h63:xs.length+ys.length≤maxLen:=by unfold maxLen;omega
 have key:=fun (b:Nat) (hb:b≤w.heap.size) (ho:w.ownsRow b e R.k v xs.length cells)=>run_append_own (P:=P) w b t ty e i z R.k bytes ht hi hz hsize hby hzs hsz v xs.length cells ho ad ys.length c news hf2.1 hnews (hf2.single hs1) h63 hbytes hb
 obtain ⟨v',w',hr,ho',hg,_⟩:=key base hbase how
 have hbel:Below base w w':=(zI base w).grown hg hbase (fun k hk=>(how.lt k hk).1)
 refine ⟨v',w',hr,⟨cells++news,by rw [List.length_append];exact ho',(hf.append hf2).keep hbel hB⟩,hbel,hg,?_⟩
 rcases how.2 with ⟨rfl,h0⟩ | ⟨g,cap,cur,rfl,hbg,hgb,hnc,hcm,hcs,htake⟩
 ·have hcn:cells=[]:=List.eq_nil_of_length_eq_zero (by rw [how.1,h0,Nat.zero_mul])
  subst hcn
  obtain ⟨v2,w2,hr2,ho2,_,_⟩:=key w.heap.size (zG _) (by rw [h0];exact World.ownsRow_nil _ _ _ _)
  rw [hr] at hr2
  simp only [Result.ok.injEq] at hr2
  obtain ⟨rfl,rfl⟩:=hr2
  rcases ho2.2 with ⟨h1,_⟩ | ⟨g,cap,cur,rfl,hbg,_⟩
  ·rw [h1];exact .inl rfl
  ·exact .inr ⟨g,rfl,hbg⟩
 ·by_cases hroom:xs.length+ys.length≤cap
  ·have hfit:xs.length*i.size+news.length≤cur.size:=by rw [hf2.1,hcs,hsize,←Nat.add_mul];exact Nat.mul_le_mul_right _ hroom
   have hr2:=run_append_room (P:=P) w t ty e i ht hi g xs.length cap cur hgb ad ys.length c news (by rw [hf2.1,hsize]) hnews (hf2.single hs1) hroom hfit
   rw [hr] at hr2
   simp only [Result.ok.injEq] at hr2
   obtain ⟨rfl,rfl⟩:=hr2
   exact .inl rfl
  ·have holds:∀j u,cells[j]? = some u→w.cell? ((⟨g,0,none⟩:Addr).add j)=some u:=how.cells (g:=g) rfl
   subst hby
   have hr2:=run_append_grow (P:=P) w t ty e i z ht hi hz ⟨g,0,none⟩ xs.length cap cells (by rw [how.1,hsize]) holds ad ys.length c news (by rw [hf2.1,hsize]) hnews (by omega) (by omega) (growslice_fits (by omega) hbytes)
   rw [hr] at hr2
   simp only [Result.ok.injEq] at hr2
   obtain ⟨rfl,rfl⟩:=hr2
   exact .inr ⟨w.heap.size,rfl,zG _⟩
theorem cI {o:Oper} {a:Act} {K:Act→World→Prop} {Q:Exit→Act→World→Prop} (s x:Operand) (t:TypeId)
 (ho:o.op=.call { callee:=.builtin .append,args:=#[s,x],argTypes:=#[t,t] })
 {i:TypeInfo} {z:Value} {bytes:Nat} (ht:P.underlying t=some (.slice e)) (hi:P.info? e=some i) (hz:i.zero=some z)
 (hsize:i.size=R.k) (hby:i.bytes=bytes) (hzs:z.cells.size=R.k) (hsz:0<R.k) (hs1:dn R)
 (hs:a.eval s=v) (hown:ar R e w base B v xs) {A:Option Addr} {m c:Nat} (hx:a.eval x=.slice A m c) (hsrc:gY R w B A ys) (hm:m=ys.length) (hB:B≤base)
 (hbytes:(xs.length+ys.length)*bytes≤140737488355328) (hb1:1≤bytes) (hbase:base≤w.heap.size)
 (h:∀v' w',ar R e w' base B v' (xs++ys)→Below base w w'→w.grownBy w' v.ownBlock→bz w v v'→K (a.put o.dst v') w'):o.wp P a w K Q:=by
 obtain ⟨v',w',hr,h2,h3,h4,h5⟩:=nv (P:=P) t o.type (c:=c) ht hi hz hsize hby hzs hsz hs1 hown hsrc hm hB hbytes hb1 hbase
 unfold Oper.wp execOp
 simp only [ho,resolve,invoke,builtin,Sem.run_bind,Sem.run_pure,Result.andThen_ok,List.map_toArray,List.map_cons,List.map_nil,hs,hx,hr]
 exact h v' w' h2 h3 h4 h5
end
def fz (w:World) (v:Value) (k:Nat) (cs:Array Value) (T:TypeId):Prop:=w.heap[k]? = some (.cells cs T (0,0))∧v.ownBlock≠some k
section
variable {w w':World} {v v':Value} {k:Nat} {cs:Array Value} {T:TypeId} {o:Obj}
theorem fz.lt (h:fz w v k cs T):k<w.heap.size:=(Array.getElem?_eq_some_iff.1 h.1).1
theorem fz.mk' (h1:w.heap[k]? = some (.cells cs T (0,0))) (h2:v.ownBlock≠some k):fz w v k cs T:=⟨h1,h2⟩
theorem fz.below (h:fz w v k cs T) (hb:Below w.heap.size w w'):fz w' v k cs T:=by
 have hb2:Blk w k cs:=⟨T,h.1⟩
 refine ⟨?_,h.2⟩
 exact (hb.block k h.lt).trans h.1
theorem fz.app (h:fz w v k cs T) (hg:w.grownBy w' v.ownBlock) (hf:bz w v v'):fz w' v' k cs T:=by
 refine ⟨(hg.block k h.lt (Ne.symm h.2)).trans h.1,?_⟩
 rcases hf with e | ⟨g,e,hge⟩
 ·rw [e];exact h.2
 ·rw [e];have:=h.lt;simp;omega
theorem fz.blk (h:fz w v k cs T):Blk w k cs:=⟨T,h.1⟩
end
theorem ar.own_lt {α:Type} {R:Reader α} {e:TypeId} {w:World} {base B k:Nat} {v:Value} {xs:List α} (h:ar R e w base B v xs) (hk:w.heap.size≤k):v.ownBlock≠some k:=by
 obtain ⟨cells,h,_⟩:=h
 intro e
 have:=(h.lt k e).2
 omega
theorem fz.new {α:Type} {R:Reader α} {e T:TypeId} {w:World} {base B:Nat} {v:Value} {xs:List α} {cs:Array Value} (h:ar R e w base B v xs):fz (w.alloc (.cells cs T)) v w.heap.size cs T:=⟨heap_alloc_new w _,h.own_lt (zG _)⟩
theorem Blk.srcs {α:Type} {R:Reader α} {w:World} {B b:Nat} {xs:List α} {vs:Array Value} (h:Blk w b vs) (hf:bE R w B xs vs.toList):gY R w B (some ⟨b,0,none⟩) xs:=by
 refine ⟨vs.toList,hf,fun e=>by (cases e),fun a ha j u hu=>?_⟩
 simp only [Option.some.injEq] at ha
 subst ha
 have:=h.cell j
 rw [←Array.getElem?_toList,hu] at this
 unfold Addr.add
 split
 ·rename_i hj;subst hj;exact this
 ·simpa using this
theorem ar.fresh {α:Type} {R:Reader α} {e:TypeId} {w:World} {base B k:Nat} {v:Value} {xs:List α} (h:ar R e w base B v xs) (hk:w.heap.size≤k):some k≠v.ownBlock:=by
 obtain ⟨cells,h,_⟩:=h
 intro e
 have:=(h.lt k e.symm).2
 omega
section
variable {α:Type} {R:Reader α} {w:World} {B b:Nat} {xs:List α} {vs:Array Value} {T:TypeId} {o2:Obj}
end
section
variable {α:Type} {R:Reader α} {w:World} {B b:Nat} {xs:List α} {vs:Array Value} {T:TypeId} {o2:Obj}
theorem xk (h:w.heap[b]? = some (.cells vs T)) (hf:bE R w B xs vs.toList):gY R w B (some ⟨b,0,none⟩) xs:=Blk.srcs ⟨_,h⟩ hf
end
structure StkQ (base D:Nat) (w:World) (xs:List SV) (A:Option Addr) (c:Nat):Prop where
 own:ar SvR 79 w base 0 (.slice A xs.length c) xs
 tms:∀x∈xs,dl D w x
 sep:∀x∈xs,∀a,x.a=some a→∀b,A=some b→a.block≠b.block
 lt:∀x∈xs,∀a,x.a=some a→base≤a.block∧a.block<w.heap.size
section
variable {base D c:Nat} {w w' w2:World} {xs:List SV} {x y:SV} {A:Option Addr}
theorem StkQ.nil (base D:Nat) (w:World):StkQ base D w [] none 0:=⟨ar.nil _ _ _ _ _,by simp,by simp,by simp⟩
theorem StkQ.later (h:StkQ base D w xs A c) (hb:Below w.heap.size w w'):StkQ base D w' xs A c:=
 ⟨h.own.later hb (zH _),fun x hx=>(h.tms x hx).later hb,h.sep,fun x hx a ha=>⟨(h.lt x hx a ha).1,zJ (h.lt x hx a ha).2 hb.size⟩⟩
theorem StkQ.row (h:StkQ base D w xs A c):∀b,A=some b→base≤b.block∧b.block<w.heap.size:=by
 intro b hb
 subst hb
 obtain ⟨cells,how,_⟩:=h.own
 exact how.lt b.block rfl
theorem StkQ.apart (h:StkQ base D w xs A c) {n:Nat} (hn:w.heap.size≤n) (hx:∀a,x.a=some a→n≤a.block):∀a,x.a=some a→∀b,A=some b→a.block≠b.block:=by
 intro a ha b hb
 have h1:=hx a ha
 have h2:=(h.row b hb).2
 omega
theorem StkQ.app (h:StkQ base D w xs A c) (hx:dl D w x) (hap:∀a,x.a=some a→∀b,A=some b→a.block≠b.block) (hlt:∀a,x.a=some a→base≤a.block∧a.block<w.heap.size) (hbase:base≤w.heap.size)
 {A2:Option Addr} {c2:Nat} (ho:ar SvR 79 w2 base 0 (.slice A2 (xs.length+1) c2) (xs++[x])) (hg:w.grownBy w2 (Value.slice A xs.length c).ownBlock) (hf:bz w (.slice A xs.length c) (.slice A2 (xs.length+1) c2)) :
 StkQ base D w2 (xs++[x]) A2 c2∧Below base w w2:=by
 have hb:Below base w w2:=(zI base w).grown hg hbase (fun k hk=>by
  obtain ⟨cells,how,_⟩:=h.own
  exact (how.lt k hk).1)
 have hb0:Below 0 w w2:=hb.mono (zH _)
 have key:∀y,dl D w y→(∀a,y.a=some a→∀b,A=some b→a.block≠b.block)→(∀a,y.a=some a→base≤a.block∧a.block<w.heap.size)→dl D w2 y∧∀a,y.a=some a→(base≤a.block∧a.block<w2.heap.size)∧∀b,A2=some b→a.block≠b.block:=by
  intro y hy hs hl
  refine ⟨hy.keep hb0 fun a ha=>hg.block _ (hl a ha).2 ?_,fun a ha=>⟨⟨(hl a ha).1,zJ (hl a ha).2 hb.size⟩,fun b hb2 e=>?_⟩⟩
  ·intro e
   rcases hA:A with _ | b
   ·rw [hA] at e;cases e
   ·rw [hA] at e
    simp only [Value.ownBlock,Option.some.injEq] at e
    exact hs a ha b hA e
  ·subst hb2
   rcases hf with hf | ⟨k,hk,hk2⟩
   ·rcases hA:A with _ | a2
    ·rw [hA] at hf;simp [Value.ownBlock] at hf
    ·rw [hA] at hf
     simp only [Value.ownBlock,Option.some.injEq] at hf
     exact hs a ha a2 hA (e.trans hf)
   ·simp only [Value.ownBlock,Option.some.injEq] at hk
    have:=(hl a ha).2
    omega
 have hall:∀y∈xs++[x],dl D w2 y∧∀a,y.a=some a→(base≤a.block∧a.block<w2.heap.size)∧∀b,A2=some b→a.block≠b.block:=by
  intro y hy
  rcases List.mem_append.1 hy with h1 | h1
  ·exact key y (h.tms y h1) (h.sep y h1) (h.lt y h1)
  ·rw [List.mem_singleton] at h1
   subst h1
   exact key y hx hap hlt
 refine ⟨⟨?_,fun y hy=>(hall y hy).1,fun y hy a ha=>((hall y hy).2 a ha).2,fun y hy a ha=>((hall y hy).2 a ha).1⟩,hb⟩
 rw [List.length_append,List.length_singleton]
 exact ho
theorem StkQ.drop (h:StkQ base D w (xs++[y]) A c):StkQ base D w xs A c:=by
 refine ⟨?_,fun z hz=>h.tms z (List.mem_append_left _ hz),fun z hz=>h.sep z (List.mem_append_left _ hz),fun z hz=>h.lt z (List.mem_append_left _ hz)⟩
 obtain ⟨cells',ho',hf'⟩:=h.own
 rcases ho'.2 with ⟨h1',h2'⟩ | ⟨g',cap',cur',hv',hg',hh',k1',k2',k3',k4'⟩
 ·simp at h2'
 ·simp only [Value.slice.injEq] at hv'
  obtain ⟨rfl,_,rfl⟩:=hv'
  rw [List.length_append,List.length_singleton] at k1'
  have hl':cells'.length=(xs.length+1)*4:=by have:=hf'.1;simpa [SvR] using this
  refine ⟨cells'.take (xs.length*4),⟨by simp only [SvR,List.length_take];omega,.inr ⟨g',c,cur',rfl,hg',hh',by omega,k2',k3',?_⟩⟩,?_⟩
  ·have e2:(xs++[y]).length*SvR.k=(xs.length+1)*4:=by simp [SvR]
   rw [e2] at k4'
   rw [←k4',List.take_take]
   congr 1
   simp [SvR]
  ·have:=hf'.take xs.length
   simpa [SvR] using this
end
theorem bD {α:Type} {R:Reader α} {P:Program} {w:World} {e:TypeId} {base:Nat} {v:Value} {xs ys:List α} {ops:Array Oper} {rest:List Oper} {o:Oper} {a:Act} {Q:Exit→Act→World→Prop} (hgd:o.guard=none) (s x:Operand) (t:TypeId)
 (ho:o.op=.call { callee:=.builtin .append,args:=#[s,x],argTypes:=#[t,t] })
 {i:TypeInfo} {z:Value} {bytes:Nat} (ht:P.underlying t=some (.slice e)) (hi:P.info? e=some i) (hz:i.zero=some z)
 (hsize:i.size=R.k) (hby:i.bytes=bytes) (hzs:z.cells.size=R.k) (hsz:0<R.k) (hs1:dn R)
 (hs:a.eval s=v) (hown:ar R e w base 0 v xs) {ad:Addr} {m c:Nat} (hx:a.eval x=.slice (some ad) m c) (hsrc:gY R w 0 (some ad) ys) (hm:m=ys.length)
 (hbytes:(xs.length+ys.length)*bytes≤140737488355328) (hb1:1≤bytes) (hbase:base≤w.heap.size)
 (h:∀v' w',ar R e w' base 0 v' (xs++ys)→w.grownBy w' v.ownBlock→bz w v v'→wpList P ops Q rest (a.put o.dst v') w'):wpList P ops Q (o::rest) a w:=
 wpList_plain hgd fun _ hK=>lX s x t ho ht hi hz hsize hby hzs hsz hs1 hs hown hx hsrc hm hbytes hb1 hbase fun v' w' h1 h2 h3=>hK _ _ (h v' w' h1 h2 h3)
theorem wN {w:World} {b:Nat} {x:SV} {T:TypeId} (h:w.heap[b]? = some (.cells #[.int .i64 x.t.kind,.int .i64 x.t.n,.string x.t.s,.slice x.a x.t.l.length x.c] T (0,0))):gY SvR w 0 (some ⟨b,0,none⟩) [x]:=Blk.srcs ⟨T,h⟩ (bE.one (R:=SvR) rfl)
theorem ar.farN {α:Type} {R:Reader α} {e:TypeId} {w:World} {base D:Nat} {v:Value} {xs:List α} (h:ar R e w base 0 v xs) (hne:v.ownBlock≠some D) (i:Nat) (u:Value):ar R e (w.setCell ⟨D,i,none⟩ u) base 0 v xs:=by
 obtain ⟨cells,h,hf⟩:=h
 refine ⟨cells,⟨h.1,?_⟩,hf.keep ((zI 0 w).setCell (p:=⟨D,i,none⟩) (zH _) u) (zG _)⟩
 rcases h.2 with h2 | ⟨g,cap,cur,hv,hg,hh,r⟩
 ·exact .inl h2
 ·refine .inr ⟨g,cap,cur,hv,hg,?_,r⟩
  rw [hv] at hne
  simp only [Value.ownBlock,ne_eq,Option.some.injEq] at hne
  exact (Below.heap_setCell w ⟨D,i,none⟩ u g hne).trans hh
def un (g:Nat) (xs:List SV) (A:Option Addr):Prop:=(∀b,A=some b→b.block<g)∧∀x∈xs,∀a,x.a=some a→a.block<g
theorem StkQ.low {base D c g:Nat} {w:World} {xs:List SV} {A:Option Addr} (h:StkQ base D w xs A c) (hg:w.heap.size≤g):un g xs A:=
 ⟨fun b hb=>zJ (h.row b hb).2 hg,fun x hx a ha=>zJ (h.lt x hx a ha).2 hg⟩
theorem StkQ.far {base D c g:Nat} {w:World} {xs:List SV} {A:Option Addr} (h:StkQ base D w xs A c) (hl:un g xs A) (i:Nat) (u:Value):StkQ base D (w.setCell ⟨g,i,none⟩ u) xs A c:=by
 refine ⟨h.own.farN (fun e=>?_) i u,fun x hx=>(h.tms x hx).keep ((zI 0 w).setCell (p:=⟨g,i,none⟩) (zH _) u) fun a ha=>Below.heap_setCell w ⟨g,i,none⟩ u a.block (by have:=hl.2 x hx a ha;show a.block≠g;omega),h.sep,fun x hx a ha=>by rw [World.size_setCell];exact h.lt x hx a ha⟩
 rcases hA:A with _ | b
 ·rw [hA] at e;cases e
 ·rw [hA] at e
  simp only [Value.ownBlock,Option.some.injEq] at e
  have:=hl.1 b hA
  omega
theorem StkQ.far4 {base D c g:Nat} {w:World} {xs:List SV} {A:Option Addr} (h:StkQ base D w xs A c) (hl:un g xs A) (u0 u1 u2 u3:Value):StkQ base D ((((w.setCell ⟨g,0,none⟩ u0).setCell ⟨g,1,none⟩ u1).setCell ⟨g,2,none⟩ u2).setCell ⟨g,3,none⟩ u3) xs A c:=
 (((h.far hl 0 u0).far hl 1 u1).far hl 2 u2).far hl 3 u3
theorem StkQ.under {base D c g:Nat} {w:World} {xs:List SV} {A:Option Addr} (h:StkQ base D w xs A c) (hg:g<base) (i:Nat) (u:Value):StkQ base D (w.setCell ⟨g,i,none⟩ u) xs A c:=
 ⟨h.own.far hg (zH _) u,fun x hx=>(h.tms x hx).keep ((zI 0 w).setCell (p:=⟨g,i,none⟩) (zH _) u) fun a ha=>Below.heap_setCell w ⟨g,i,none⟩ u a.block (by have:=(h.lt x hx a ha).1;show a.block≠g;omega),h.sep,fun x hx a ha=>by rw [World.size_setCell];exact h.lt x hx a ha⟩
end Go.Proofs.YtdphibjibnffeaaGreat
