/- Slices of the call's own that read as data; appending to them, whatever the source; blocks that are known whole. No Go text is walked here. -/
import Derived.Test.YtjpndglegpcdnaaGreatTerm5
import Derived.Below
import Derived.Laws.OwnMore
import Derived.Laws.AppendOwnNone
import Derived.Laws.Rows
import Derived.OwnWalk
import Derived.Deep.Draws
import Derived.Lib.QuietBelow
set_option linter.unusedVariables false
set_option linter.unusedSimpArgs false
set_option maxRecDepth 100000
set_option maxHeartbeats 8000000
namespace Go.Proofs.YtjpndglegpcdnaaGreat
open Go.ChangeShapes Go.WideShapes Go.ChangeAt Go.RowKit
theorem yy {α:Type _}{l:List α}{i:Nat}(h:i<l.length):l[i]? = some l[i]:=List.getElem?_eq_getElem h
theorem yF {α:Type _}{i:Nat}{l:List α}:(List.take i l).length=min i l.length:=List.length_take
structure Reader (α:Type) where
 k:Nat
 rd:World→Nat→α→List Value→Prop
 keep:∀{w w':World} {B C:Nat} {x:α} {vs:List Value},Below C w w'→B≤C→rd w B x vs→rd w' B x vs
 wide:∀{w:World} {B B':Nat} {x:α} {vs:List Value},B≤B'→rd w B x vs→rd w B' x vs
 len:∀{w:World} {B:Nat} {x:α} {vs:List Value},rd w B x vs→vs.length=k
def RL {α:Type} (R:Reader α) (w:World) (B:Nat) (xs:List α) (A:Option Addr):Prop:=eN w B R.k A xs.length (fun i vs=>∃x,xs[i]? = some x∧R.rd w B x vs)
section
variable {α:Type} {R:Reader α} {w wr w':World} {B B' C:Nat} {xs:List α} {A:Option Addr}
theorem RL.keep (h:RL R w B xs A) (hw:Below C w w') (hB:B≤C):RL R w' B xs A:=
 (eN.below h hw hB).mono fun _ _ _ ⟨x,hx,hr⟩=>⟨x,hx,R.keep hw hB hr⟩
theorem RL.wide (h:RL R w B xs A) (hB:B≤B'):RL R w B' xs A:=
 (eN.more h hB).mono fun _ _ _ ⟨x,hx,hr⟩=>⟨x,hx,R.wide hB hr⟩
theorem RL.base (h:RL R w B xs A) (hbw:Below w.heap.size w wr) (hB:B≤w.heap.size) (hk:0<xs.length):∃b off,A=some ⟨b,off,none⟩∧b<wr.heap.size:=by
 obtain ⟨b,off,rfl,hb,_⟩:=h hk
 exact ⟨b,off,rfl,by have:=hbw.size;omega⟩
theorem RL.at_ {b off k:Nat} (h:RL R w B xs (some ⟨b,off,none⟩)) (hbw:Below w.heap.size w wr) (hB:B≤w.heap.size) (hk:k<xs.length) :
 ∃x vs,xs[k]? = some x∧vs.length=R.k∧(∀j v,vs[j]? = some v→wr.cell? ⟨b,off+k*R.k+j,none⟩=some v)∧R.rd wr B x vs:=by
 obtain ⟨b',off',e,hb,hc⟩:=h (by omega)
 simp only [yz,Addr.mk.injEq,and_true] at e
 obtain ⟨rfl,rfl⟩:=e
 obtain ⟨vs,hl,⟨x,hx,hr⟩,hcell⟩:=hc k hk
 have hlt:b<w.heap.size:=by omega
 exact ⟨x,vs,hx,hl,fun j v hv=>(hbw.cell (p:=⟨b,off+k*R.k+j,none⟩) hlt).trans (hcell j v hv),R.keep hbw hB hr⟩
end
section
variable {α:Type} {R:Reader α} {w wr:World} {B:Nat} {xs:List α}
theorem RL.at0 {b off k:Nat} (h:RL R w B xs (some ⟨b,off,none⟩)) (hbw:Below w.heap.size w wr) (hB:B≤w.heap.size) (hk:k<xs.length) :
 ∃x vs,xs[k]? = some x∧vs.length=R.k∧(∀j v,vs[j]? = some v→wr.cell? ⟨b,off+k*R.k+j,none⟩=some v)∧R.rd w B x vs:=by
 obtain ⟨b',off',e,hb,hc⟩:=h (by omega)
 simp only [yz,Addr.mk.injEq,and_true] at e
 obtain ⟨rfl,rfl⟩:=e
 obtain ⟨vs,hl,⟨x,hx,hr⟩,hcell⟩:=hc k hk
 have hlt:b<w.heap.size:=by omega
 exact ⟨x,vs,hx,hl,fun j v hv=>(hbw.cell (p:=⟨b,off+k*R.k+j,none⟩) hlt).trans (hcell j v hv),hr⟩
end
def TmR (d:Nat):Reader Tm where
 k:=4
 rd:=fun w B t vs=>RTm w B d t vs
 keep:=fun hw hB h=>RTm.below hw hB h
 wide:=fun hB h=>RTm.more hB h
 len:=fun h=>by obtain ⟨_,_,rfl,_⟩:=RTm.cells h;rfl
theorem jJ.rl {w:World} {B d:Nat} {ts:List Tm} {A:Option Addr} (h:jJ w B d ts A):RL (TmR d) w B ts A:=h
theorem ku {W w1:World} (hb:Below W.heap.size W w1):∀b o,b<W.heap.size→w1.cell? ⟨b,o,none⟩=W.cell? ⟨b,o,none⟩:=fun b o h=>hb.cell (p:=⟨b,o,none⟩) h
def tY {α:Type} (p:α→Bool) (xs:List α):Int:=if xs.findIdx p<xs.length then (xs.findIdx p:Int) else -1
theorem fE {α:Type} {p:α→Bool} {xs:List α} (h:∀i (hi:i<xs.length),p xs[i]=false):tY p xs=-1:=by
 unfold tY
 rw [if_neg]
 rw [List.findIdx_lt_length]
 rintro ⟨x,hx,hp⟩
 obtain ⟨i,hi,rfl⟩:=List.getElem_of_mem hx
 rw [h i hi] at hp
 cases hp
theorem fF {α:Type} {p:α→Bool} {xs:List α} {k:Nat} (hk:k<xs.length) (hp:p xs[k]=true) (h:∀i (hi:i<k),p (xs[i]'(by omega))=false):tY p xs=k:=by
 have e:xs.findIdx p=k:=(List.findIdx_eq hk).2 ⟨hp,fun j hj=>h j hj⟩
 unfold tY
 rw [e,if_pos hk]
theorem ir {α:Type} (p:α→Bool) (xs:List α):decide (0≤tY p xs)=xs.any p:=by
 rw [Bool.eq_iff_iff,yC,List.any_eq_true]
 unfold tY
 by_cases h:xs.findIdx p<xs.length
 ·rw [if_pos h]
  have:=List.findIdx_lt_length.1 h
  simp only [this,iff_true]
  omega
 ·rw [if_neg h]
  rw [List.findIdx_lt_length] at h
  simp only [h,iff_false]
  omega
def bS (P:Program) {α:Type} (R:Reader α) (val:List Value→Value) (B:Nat) (w:World) (F:FuncId) (cap:Array Value) (p:α→Bool):Prop:=
 ∀(x:α) (vs:List Value) (w1:World),Below w.heap.size w w1→R.rd w1 B x vs→Calls P F (#[val vs]++cap) w1 fun e w'=>e=.returned (.bool (p x))∧Below w1.heap.size w1 w'
theorem bS.later {P:Program} {α:Type} {R:Reader α} {val:List Value→Value} {B:Nat} {w w':World} {F:FuncId} {cap:Array Value} {p:α→Bool} (h:bS P R val B w F cap p) (hb:Below w.heap.size w w'):bS P R val B w' F cap p:=
 fun x vs w1 h1 hr=>h x vs w1 (hb.trans (h1.mono hb.size)) hr
def cS (vs:List Value):Value:=.agg vs.toArray
def yc (vs:List Value):Value:=vs.getD 0 undef
theorem jb (d:Nat) (F:FuncId) (cap:Array Value) (p:Tm→Bool) (xs:List Tm) (A:Option Addr) (c B:Nat) (w:World)
 (hF:∀args (w:World),(callFunc F args).run Tryz.prog w=.ok (.enter F args) w) (hl:RL (TmR d) w B xs A) (hB:B≤w.heap.size) (hn:xs.length≤140737488351232)
 (ht:bS Tryz.prog (TmR d) cS B w F cap p) :
 Calls Tryz.prog 67 #[.slice A xs.length c,.func (.func F) #[] cap] w fun e w'=>e=.returned (.int .i64 (tY p xs))∧Below w.heap.size w w':=by
 have HT:=ym ht
 clear ht
 have hRk:(TmR d).k=4:=rfl
 go_enter Tryz.func67,Tryz.ntmps67
 go_wp2_with fail
 go_loopw [8] (fun i wr=>∃k:Nat,k≤xs.length∧i=.int .i64 k∧Below w.heap.size w wr∧∀i (hi:i<xs.length),i<k→p xs[i]=false) (fun i _=>xs.length-(intOf i).toNat)
 case atStart=>exact ⟨0,yp _,rfl,yq _ _,fun i hi h=>absurd h (by omega)⟩
 case round=>
  obtain ⟨k,hk,rfl,hbw,hall⟩:=hrel
  have HA:=ym hall
  clear hall
  by_cases hlt:k<xs.length
  ·obtain ⟨b,off,rfl,hb⟩:=hl.base hbw hB (by omega)
   obtain ⟨x,vs,hx,hlen,hcell,hr⟩:=hl.at_ hbw hB hlt
   rw [hRk] at hlen hcell
   obtain ⟨v0,v1,v2,v3,rfl⟩:∃v0 v1 v2 v3,vs=[v0,v1,v2,v3]:=by
    match vs,hlen with
    | [v0,v1,v2,v3],_=>exact ⟨_,_,_,_,rfl⟩
   have c0:wr.cell? ⟨b,off+k*4,none⟩=some v0:=hcell 0 _ rfl
   have c1:wr.cell? ⟨b,off+k*4+1,none⟩=some v1:=hcell 1 _ rfl
   have c2:wr.cell? ⟨b,off+k*4+2,none⟩=some v2:=hcell 2 _ rfl
   have c3:wr.cell? ⟨b,off+k*4+3,none⟩=some v3:=hcell 3 _ rfl
   have hsz:=hbw.size
   have HX:=ym hx
   clear hcell hlen hx
   go_wp2_with fail
   refine (HT.out x [v0,v1,v2,v3] _ hbw hr).mono ?_
   rintro e w1 ⟨rfl,hb1⟩
   have hbw1:=ym (hbw.trans (hb1.mono hsz))
   clear hb1
   have hxe:xs[k]=x:=(List.getElem?_eq_some_iff.1 HX.out).2
   have HXE:=ym hxe
   clear hxe
   by_cases hp:p x=true
   ·go_wp2_with fail
    go_ret
    exact ⟨az (fF hlt (by rw [HXE.out];exact hp) (fun i hi=>HA.out i (by omega) hi)).symm,hbw1.out⟩
   ·have hp:p x=false:=by simpa using hp
    go_wp2_with fail
    go_roundw
    case rel=>exact ⟨k+1,by omega,by go_num,hbw1.out,fun i hi h=>by
     rcases Nat.lt_or_ge i k with h1 | h1
     ·exact HA.out i hi h1
     ·obtain rfl:i=k:=by omega
      rw [HXE.out];exact hp⟩
    case measure=>simp [intOf];omega
  ·go_wp2_with fail
   go_ret
   exact ⟨az (fE (fun i hi=>HA.out i hi (by omega))).symm,hbw⟩
theorem bl (d:Nat) (F:FuncId) (cap:Array Value) (p:Tm→Bool) (xs:List Tm) (A:Option Addr) (c B:Nat) (w:World)
 (hF:∀args (w:World),(callFunc F args).run Tryz.prog w=.ok (.enter F args) w) (hl:RL (TmR d) w B xs A) (hB:B≤w.heap.size) (hn:xs.length≤140737488351232)
 (ht:bS Tryz.prog (TmR d) cS B w F cap p) :
 Calls Tryz.prog 45 #[.slice A xs.length c,.func (.func F) #[] cap] w fun e w'=>e=.returned (.bool (xs.any p))∧Below w.heap.size w w':=by
 have HT:=ym ht
 clear ht
 go_enter Tryz.func45,Tryz.ntmps45
 go_wp2_with (go_at_call 67;refine (jb d F cap p xs A c B w hF hl hB hn HT.out).mono ?_;rintro e w1 ⟨rfl,hb1⟩)
 go_ret
 exact ⟨ae (ir p xs),hb1⟩
theorem lS (d:Nat) (M:FuncId) (p:Tm→Bool) (B G:Nat) (w:World) (hM:∀args (w:World),(callFunc M args).run Tryz.prog w=.ok (.enter M args) w)
 (hB:B≤w.heap.size) (hG:w.cell? ⟨G,0,none⟩=some (.func (.func M) #[] #[])) (ht:bS Tryz.prog (TmR d) cS B w M #[] p) :
 bS Tryz.prog (TmR d) cS B w 137 #[.pointer (some ⟨G,0,none⟩)] (fun x=>!p x):=by
 intro x vs w1 hb hr
 have hlen:vs.length=4:=(TmR d).len hr
 obtain ⟨v0,v1,v2,v3,rfl⟩:∃v0 v1 v2 v3,vs=[v0,v1,v2,v3]:=by
  match vs,hlen with
  | [v0,v1,v2,v3],_=>exact ⟨_,_,_,_,rfl⟩
 have hGl:G<w.heap.size:=block_lt_of_cell hG
 have hG1:w1.cell? ⟨G,0,none⟩=some (.func (.func M) #[] #[]):=(hb.cell (p:=⟨G,0,none⟩) hGl).trans hG
 have hGl1:G<w1.heap.size:=by have:=hb.size;omega
 have HB:=ym (fun o:Obj=>(yq w1.heap.size w1).alloc (yo _) o)
 have HT:=ym ht
 have HR:=ym hr
 have hBw:B≤w1.heap.size:=by have:=hb.size;omega
 clear ht hr
 show Calls Tryz.prog 137 #[.agg #[v0,v1,v2,v3],.pointer (some ⟨G,0,none⟩)] w1 _
 go_enter Tryz.func137,Tryz.ntmps137
 go_wp2_with fail
 refine (HT.out x [v0,v1,v2,v3] _ (hb.trans ((HB.out _).mono hb.size)) ((TmR d).keep (HB.out _) hBw HR.out)).mono ?_
 rintro e w2 ⟨rfl,hb2⟩
 have hfin:=ym ((HB.out _).trans (hb2.mono (HB.out _).size))
 clear hb2
 go_wp2_with fail
 go_ret
 exact ⟨rfl,hfin.out⟩
theorem pP (d:Nat) (M:FuncId) (p:Tm→Bool) (most:Int) (xs:List Tm) (A:Option Addr) (c B:Nat) (w:World) (hM:∀args (w:World),(callFunc M args).run Tryz.prog w=.ok (.enter M args) w)
 (hl:RL (TmR d) w B xs A) (hB:B≤w.heap.size) (hn:xs.length≤140737488351232) (ht:bS Tryz.prog (TmR d) cS B w M #[] p) :
 Calls Tryz.prog 101 #[.slice A xs.length c,.int .i64 most,.func (.func M) #[] #[]] w fun e w'=>e=.returned (.bool (decide ((xs.length:Int)≤most)&&xs.all p))∧Below w.heap.size w w':=by
 have HB:=ym (fun o:Obj=>(yq w.heap.size w).alloc (yo _) o)
 have HT:=ym ht
 have HL:=ym hl
 clear ht hl
 by_cases hm:(xs.length:Int)≤most
 ·go_enter Tryz.func101,Tryz.ntmps101
  go_wp2_with fail
  refine (bl d 137 _ _ xs A c B _ (ent Tryz.func137 (by kernel_rfl) rfl) (HL.out.keep (HB.out _) hB) (yn hB (HB.out _).size) hn
   (lS d M p B w.heap.size _ hM (yn hB (HB.out _).size) (by go_simp) (HT.out.later (HB.out _)))).mono ?_
  rintro e w1 ⟨rfl,hb1⟩
  have hfin:=ym ((HB.out _).trans (hb1.mono (HB.out _).size))
  clear hb1
  go_wp2_with fail
  go_ret
  exact ⟨ae (by simp [hm,List.all_eq_not_any_not]),hfin.out⟩
 ·have hm':decide ((xs.length:Int)≤most)=false:=by simpa using hm
  go_enter Tryz.func101,Tryz.ntmps101
  go_wp2_with fail
  go_ret
  exact ⟨ae (by simp [hm]),HB.out _⟩
structure Pr where
 name:ByteArray
 terms:List Tm
structure OpD where
 kind:Int
 term:Tm
 code:Int
 skip:Int
structure Sc where
 kind:Int
 key:ByteArray
structure Ru where
 head:Pr
 body:List Pr
 exprs:List (List OpD)
 scopes:List Sc
def RSl {α:Type} (R:Reader α) (w:World) (B:Nat) (xs:List α) (v:Value):Prop:=∃A c,v=.slice A xs.length c∧xs.length≤c∧(xs.length*(8*R.k)≤140737488351232∧c≤9223372036854775807)∧RL R w B xs A
section
variable {α:Type} {R:Reader α} {w w':World} {B B' C:Nat} {xs:List α} {v:Value}
theorem RSl.keep (h:RSl R w B xs v) (hw:Below C w w') (hB:B≤C):RSl R w' B xs v:=by
 obtain ⟨A,c,rfl,h1,h2,h3⟩:=h
 exact ⟨A,c,rfl,h1,h2,h3.keep hw hB⟩
theorem RSl.wide (h:RSl R w B xs v) (hB:B≤B'):RSl R w B' xs v:=by
 obtain ⟨A,c,rfl,h1,h2,h3⟩:=h
 exact ⟨A,c,rfl,h1,h2,h3.wide hB⟩
end
def cR:Reader ByteArray where
 k:=1
 rd:=fun _ _ s vs=>vs=[.string s]∧s.size≤140737488351232
 keep:=fun _ _ h=>h
 wide:=fun _ h=>h
 len:=fun h=>by rw [h.1];rfl
def PrR (d:Nat):Reader Pr where
 k:=2
 rd:=fun w B p vs=>∃v,vs=[.string p.name,v]∧p.name.size≤140737488351232∧RSl (TmR d) w B p.terms v
 keep:=fun hw hB ⟨v,e,h1,h2⟩=>⟨v,e,h1,h2.keep hw hB⟩
 wide:=fun hB ⟨v,e,h1,h2⟩=>⟨v,e,h1,h2.wide hB⟩
 len:=fun ⟨_,e,_⟩=>by rw [e];rfl
def OpR (d:Nat):Reader OpD where
 k:=7
 rd:=fun w B o vs=>∃ts,vs=.int .i64 o.kind::(ts++[.int .i64 o.code,.int .i64 o.skip])∧I64 o.kind∧I64 o.code∧I64 o.skip∧RTm w B d o.term ts
 keep:=fun hw hB ⟨ts,e,h1,h2,h3,h⟩=>⟨ts,e,h1,h2,h3,RTm.below hw hB h⟩
 wide:=fun hB ⟨ts,e,h1,h2,h3,h⟩=>⟨ts,e,h1,h2,h3,RTm.more hB h⟩
 len:=fun ⟨ts,e,_,_,_,h⟩=>by
  obtain ⟨_,_,rfl,_⟩:=RTm.cells h
  rw [e];rfl
def ExR (d:Nat):Reader (List OpD) where
 k:=1
 rd:=fun w B e vs=>∃v,vs=[v]∧RSl (OpR d) w B e v
 keep:=fun hw hB ⟨v,e,h⟩=>⟨v,e,h.keep hw hB⟩
 wide:=fun hB ⟨v,e,h⟩=>⟨v,e,h.wide hB⟩
 len:=fun ⟨_,e,_⟩=>by rw [e];rfl
def ScR:Reader Sc where
 k:=2
 rd:=fun _ _ s vs=>vs=[.int .i64 s.kind,.string s.key]∧I64 s.kind∧s.key.size≤140737488351232
 keep:=fun _ _ h=>h
 wide:=fun _ h=>h
 len:=fun h=>by rw [h.1];rfl
def RuR (d:Nat):Reader Ru where
 k:=5
 rd:=fun w B r vs=>∃v0 v1 v2 v3,vs=[.string r.head.name,v0,v1,v2,v3]∧r.head.name.size≤140737488351232∧RSl (TmR d) w B r.head.terms v0∧RSl (PrR d) w B r.body v1∧RSl (ExR d) w B r.exprs v2∧RSl ScR w B r.scopes v3
 keep:=fun hw hB ⟨a,b,c,d,e,h,h0,h1,h2,h3⟩=>⟨a,b,c,d,e,h,h0.keep hw hB,h1.keep hw hB,h2.keep hw hB,h3.keep hw hB⟩
 wide:=fun hB ⟨a,b,c,d,e,h,h0,h1,h2,h3⟩=>⟨a,b,c,d,e,h,h0.wide hB,h1.wide hB,h2.wide hB,h3.wide hB⟩
 len:=fun ⟨_,_,_,_,e,_⟩=>by rw [e];rfl
def Blk (w:World) (b:Nat) (vs:Array Value):Prop:=∃T,w.heap[b]? = some (.cells vs T (0,0))
section
variable {w w':World} {b c:Nat} {vs:Array Value}
theorem Blk.lt (h:Blk w b vs):b<w.heap.size:=by
 obtain ⟨T,h⟩:=h
 rcases Nat.lt_or_ge b w.heap.size with h' | h'
 ·exact h'
 ·rw [Array.getElem?_eq_none h'] at h;cases h
theorem Blk.cell (h:Blk w b vs) (o:Nat):w.cell? ⟨b,o,none⟩=vs[o]?:=by
 obtain ⟨T,h⟩:=h
 exact cell_of_row w b o vs T (0,0) h
theorem Blk.free (h:Blk w b vs) (o:Nat):w.frozen? ⟨b,o,none⟩=false:=by
 obtain ⟨T,h⟩:=h
 simp [World.frozen?,h]
theorem Blk.keep {B:Nat} (h:Blk w b vs) (hb:Below B w w') (hB:b<B):Blk w' b vs:=by
 obtain ⟨T,h⟩:=h
 exact ⟨T,(hb.block b hB).trans h⟩
theorem Blk.later (h:Blk w b vs) (hb:Below w.heap.size w w'):Blk w' b vs:=h.keep hb h.lt
theorem Blk.old (h:Blk w b vs) (o:Obj):Blk (w.alloc o) b vs:=h.later ((yq _ _).alloc (yo _) o)
theorem Blk.new (w:World) (vs:Array Value) (T:TypeId):Blk (w.alloc (.cells vs T)) w.heap.size vs:=⟨T,heap_alloc_new w _⟩
theorem Blk.set_ (h:Blk w b vs) (i:Nat) (u:Value):Blk (w.setCell ⟨b,i,none⟩ u) b (vs.setIfInBounds i u):=by
 obtain ⟨T,h⟩:=h
 exact ⟨T,by simp [World.setCell,Array.getElem?_modify,h]⟩
theorem Blk.regrown (h:Blk w b vs) (d:Nat) (os:Array Obj) (o:Nat):(Sort.grow (redrawn w d) os).cell? ⟨b,o,none⟩=vs[o]?:=(h.later (below_regrown w d os)).cell o
theorem Blk.drew (h:Blk w b vs):Blk w.drew b vs:=h
theorem Blk.far (h:Blk w b vs) (hne:b≠c) (i:Nat) (u:Value):Blk (w.setCell ⟨c,i,none⟩ u) b vs:=by
 obtain ⟨T,h⟩:=h
 exact ⟨T,(Below.heap_setCell w ⟨c,i,none⟩ u b hne).trans h⟩
end
theorem ac {a b c:World} (h:Below a.heap.size a b) (k:Below b.heap.size b c):Below a.heap.size a c:=h.trans (k.mono h.size)
section
variable {w W:World} {o1 o2 o3 o4 o5 o6 o7 o8 o9 o10 o11 o12:Obj} {v1 v2 v3 v4 v5 v6 v7 v8 v9 v10 v11 v12:Array Value} {T1 T2 T3 T4 T5 T6 T7 T8 T9 T10 T11 T12:TypeId}
theorem ft {u V:World} {n:Nat} {o:Obj} (h:Below w.heap.size w u∧u.heap.size=n):Below w.heap.size w (u.alloc o)∧(u.alloc o).heap.size=n+1:=⟨h.1.alloc h.1.size _,by rw [World.size_alloc,h.2]⟩
theorem al1 (h:w.alloc o1=W):Below w.heap.size w W∧W.heap.size=w.heap.size+1:=h▸ft (V:=W) ⟨yq _ _,rfl⟩
theorem al2 (h:(w.alloc o1).alloc o2=W):Below w.heap.size w W∧W.heap.size=w.heap.size+1+1:=h▸ft (V:=W) (al1 rfl)
theorem al3 (h:((w.alloc o1).alloc o2).alloc o3=W):Below w.heap.size w W∧W.heap.size=w.heap.size+1+1+1:=h▸ft (V:=W) (al2 rfl)
theorem al4 (h:(((w.alloc o1).alloc o2).alloc o3).alloc o4=W):Below w.heap.size w W∧W.heap.size=w.heap.size+1+1+1+1:=h▸ft (V:=W) (al3 rfl)
theorem al5 (h:((((w.alloc o1).alloc o2).alloc o3).alloc o4).alloc o5=W):Below w.heap.size w W∧W.heap.size=w.heap.size+1+1+1+1+1:=h▸ft (V:=W) (al4 rfl)
theorem al6 (h:(((((w.alloc o1).alloc o2).alloc o3).alloc o4).alloc o5).alloc o6=W):Below w.heap.size w W∧W.heap.size=w.heap.size+1+1+1+1+1+1:=h▸ft (V:=W) (al5 rfl)
theorem al7 (h:((((((w.alloc o1).alloc o2).alloc o3).alloc o4).alloc o5).alloc o6).alloc o7=W):Below w.heap.size w W∧W.heap.size=w.heap.size+1+1+1+1+1+1+1:=h▸ft (V:=W) (al6 rfl)
theorem al8 (h:(((((((w.alloc o1).alloc o2).alloc o3).alloc o4).alloc o5).alloc o6).alloc o7).alloc o8=W):Below w.heap.size w W∧W.heap.size=w.heap.size+1+1+1+1+1+1+1+1:=h▸ft (V:=W) (al7 rfl)
theorem n11 (h:w.alloc (.cells v1 T1)=W):Blk W w.heap.size v1:=h▸Blk.new w v1 T1
theorem n21 (h:(w.alloc (.cells v1 T1)).alloc o2=W):Blk W (w.heap.size) v1:=h▸(n11 rfl).old _
theorem n22 (h:(w.alloc o1).alloc (.cells v2 T2)=W):Blk W (w.heap.size+1) v2:=by
 have e:=(al1 (W:=w.alloc o1) rfl).2
 have:=Blk.new (w.alloc o1) v2 T2
 rw [e] at this
 exact h▸this
theorem n31 (h:((w.alloc (.cells v1 T1)).alloc o2).alloc o3=W):Blk W (w.heap.size) v1:=h▸(n21 rfl).old _
theorem n32 (h:((w.alloc o1).alloc (.cells v2 T2)).alloc o3=W):Blk W (w.heap.size+1) v2:=h▸(n22 rfl).old _
theorem n33 (h:((w.alloc o1).alloc o2).alloc (.cells v3 T3)=W):Blk W (w.heap.size+1+1) v3:=by
 have e:=(al2 (W:=(w.alloc o1).alloc o2) rfl).2
 have:=Blk.new ((w.alloc o1).alloc o2) v3 T3
 rw [e] at this
 exact h▸this
theorem n41 (h:(((w.alloc (.cells v1 T1)).alloc o2).alloc o3).alloc o4=W):Blk W (w.heap.size) v1:=h▸(n31 rfl).old _
theorem n42 (h:(((w.alloc o1).alloc (.cells v2 T2)).alloc o3).alloc o4=W):Blk W (w.heap.size+1) v2:=h▸(n32 rfl).old _
theorem n43 (h:(((w.alloc o1).alloc o2).alloc (.cells v3 T3)).alloc o4=W):Blk W (w.heap.size+1+1) v3:=h▸(n33 rfl).old _
theorem n44 (h:(((w.alloc o1).alloc o2).alloc o3).alloc (.cells v4 T4)=W):Blk W (w.heap.size+1+1+1) v4:=by
 have e:=(al3 (W:=((w.alloc o1).alloc o2).alloc o3) rfl).2
 have:=Blk.new (((w.alloc o1).alloc o2).alloc o3) v4 T4
 rw [e] at this
 exact h▸this
theorem n99 (h:((((((((w.alloc o1).alloc o2).alloc o3).alloc o4).alloc o5).alloc o6).alloc o7).alloc o8).alloc (.cells v9 T9)=W):Blk W (w.heap.size+1+1+1+1+1+1+1+1) v9:=by
 have e:=(al8 (W:=(((((((w.alloc o1).alloc o2).alloc o3).alloc o4).alloc o5).alloc o6).alloc o7).alloc o8) rfl).2
 have:=Blk.new ((((((((w.alloc o1).alloc o2).alloc o3).alloc o4).alloc o5).alloc o6).alloc o7).alloc o8) v9 T9
 rw [e] at this
 exact h▸this
end
theorem cV {P:Program} {f:FuncId} {args:Array Value} {w:World} {x y:Bool} (h:x=y) (hc:Calls P f args w fun e w'=>e=.returned (.bool x)∧Below w.heap.size w w'):Calls P f args w fun e w'=>e=.returned (.bool y)∧Below w.heap.size w w':=h▸hc
def bA {α:Type} (R:Reader α) (w:World) (B:Nat) (xs:List α) (news:List Value):Prop:=
 news.length=xs.length*R.k∧∀i (hi:i<xs.length),R.rd w B xs[i] ((news.drop (i*R.k)).take R.k)
def dz {α:Type} (R:Reader α):Prop:=∀{w:World} {B:Nat} {x:α} {vs:List Value},R.rd w B x vs→∀u∈vs,u.oneCell'=true
section
variable {α:Type} {R:Reader α} {w w':World} {B B' C:Nat} {xs ys:List α} {news olds:List Value}
theorem bA.keep (h:bA R w B xs news) (hw:Below C w w') (hB:B≤C):bA R w' B xs news:=⟨h.1,fun i hi=>R.keep hw hB (h.2 i hi)⟩
theorem bA.wide (h:bA R w B xs news) (hB:B≤B'):bA R w B' xs news:=⟨h.1,fun i hi=>R.wide hB (h.2 i hi)⟩
theorem bA.nil:bA R w B [] []:=⟨by simp,fun i hi=>absurd hi (by simp)⟩
theorem bA.append (h:bA R w B xs olds) (k:bA R w B ys news):bA R w B (xs++ys) (olds++news):=by
 refine ⟨by rw [yv,yv,h.1,k.1,Nat.add_mul],fun i hi=>?_⟩
 rw [yv] at hi
 by_cases hx:i<xs.length
 ·rw [List.getElem_append_left hx]
  have h1:(i+1)*R.k≤xs.length*R.k:=Nat.mul_le_mul_right _ hx
  rw [Nat.add_mul,Nat.one_mul] at h1
  have h2:=h.1
  rw [List.drop_append_of_le_length (by omega),List.take_append_of_le_length (by rw [List.length_drop];omega)]
  exact h.2 i hx
 ·obtain ⟨j,rfl⟩:∃j,i=xs.length+j:=⟨i-xs.length,by omega⟩
  have hj:j<ys.length:=by omega
  rw [List.getElem_append_right (by omega)]
  have e:(xs.length+j)*R.k=olds.length+j*R.k:=by rw [Nat.add_mul,h.1]
  rw [e,List.drop_length_add_append]
  have:=k.2 j hj
  simpa using this
theorem bA.one {x:α} {vs:List Value} (h:R.rd w B x vs):bA R w B [x] vs:=by
 have hl:=R.len h
 refine ⟨by simp [hl],fun i hi=>?_⟩
 have hi0:i=0:=by simpa using hi
 subst hi0
 simp only [List.getElem_cons_zero,Nat.zero_mul,List.drop_zero]
 rw [List.take_of_length_le (by omega)]
 exact h
theorem bA.single (hs:dz R) (h:bA R w B xs news):∀u∈news,u.oneCell'=true:=by
 intro u hu
 obtain ⟨j,hj,rfl⟩:=List.getElem_of_mem hu
 have hk:0<R.k:=by
  rcases Nat.eq_zero_or_pos R.k with h0 | h0
  ·have:=h.1;rw [h0,Nat.mul_zero] at this;omega
  ·exact h0
 have hi:j / R.k<xs.length:=by
  rw [Nat.div_lt_iff_lt_mul hk,←h.1];exact hj
 refine hs (h.2 (j / R.k) hi) _ ?_
 have hm:=Nat.mod_lt j hk
 have hd:j / R.k*R.k+j % R.k=j:=by rw [Nat.mul_comm];exact Nat.div_add_mod j R.k
 rw [List.mem_iff_getElem?]
 refine ⟨j % R.k,?_⟩
 rw [List.getElem?_take,if_pos hm,List.getElem?_drop,hd,yy hj]
theorem RL.flat {A:Option Addr} (h:RL R w B xs A):∃news,bA R w B xs news∧∀b off,A=some ⟨b,off,none⟩→∀j u,news[j]? = some u→w.cell? ⟨b,off+j,none⟩=some u:=by
 have key:∀n,n≤xs.length→∃news,bA R w B (xs.take n) news∧∀b off,A=some ⟨b,off,none⟩→∀j u,news[j]? = some u→w.cell? ⟨b,off+j,none⟩=some u:=by
  intro n
  induction n with
  | zero=>intro _;exact ⟨[],by rw [List.take_zero];exact bA.nil,fun b off _ j u hu=>by simp at hu⟩
  | succ n ih=>
    intro hn
    obtain ⟨news,hf,hc⟩:=ih (by omega)
    obtain ⟨b,off,rfl,hb,hcell⟩:=h (by omega)
    obtain ⟨vs,hl,⟨x,hx,hr⟩,hv⟩:=hcell n (by omega)
    obtain ⟨hn',rfl⟩:=List.getElem?_eq_some_iff.1 hx
    refine ⟨news++vs,?_,?_⟩
    ·rw [List.take_succ_eq_append_getElem hn']
     exact hf.append (bA.one hr)
    ·intro b' off' e j u hu
     simp only [yz,Addr.mk.injEq,and_true] at e
     obtain ⟨rfl,rfl⟩:=e
     have hfl:=hf.1
     rw [yF,Nat.min_eq_left (by omega)] at hfl
     by_cases hj:j<news.length
     ·rw [List.getElem?_append_left hj] at hu
      exact hc _ _ rfl j u hu
     ·rw [List.getElem?_append_right (by omega)] at hu
      have:=hv (j-news.length) u hu
      rw [hfl] at this
      have e2:off+n*R.k+(j-n*R.k)=off+j:=by omega
      rw [e2] at this
      exact this
 obtain ⟨news,h1,h2⟩:=key xs.length (yo _)
 rw [List.take_length] at h1
 exact ⟨news,h1,h2⟩
end
def am {α:Type} (R:Reader α) (e:TypeId) (w:World) (base B:Nat) (v:Value) (xs:List α):Prop:=
 ∃cells,w.ownsRow base e R.k v xs.length cells∧bA R w B xs cells
section
variable {α:Type} {R:Reader α} {e:TypeId} {w w':World} {base B B':Nat} {v:Value} {xs ys:List α}
theorem am.nil (R:Reader α) (e:TypeId) (w:World) (base B:Nat):am R e w base B (.slice none 0 0) []:=⟨[],World.ownsRow_nil _ _ _ _,bA.nil⟩
theorem am.empty (R:Reader α) (e:TypeId) {b:Nat} (h:w.heap[b]? = some (.cells #[] e (0,0))) (hb:base≤b) (B:Nat):am R e w base B (.slice (some ⟨b,0,none⟩) 0 0) []:=
 ⟨[],⟨by simp,.inr ⟨b,0,#[],rfl,hb,h,by simp,by simp [maxLen],by simp,by simp⟩⟩,bA.nil⟩
theorem am.wide (h:am R e w base B v xs) (hB:B≤B'):am R e w base B' v xs:=by
 obtain ⟨cells,h,hf⟩:=h
 exact ⟨cells,h,hf.wide hB⟩
theorem am.later (h:am R e w base B v xs) (hb:Below w.heap.size w w') (hB:B≤w.heap.size):am R e w' base B v xs:=by
 obtain ⟨cells,h,hf⟩:=h
 refine ⟨cells,⟨h.1,?_⟩,hf.keep hb hB⟩
 rcases h.2 with h2 | ⟨g,cap,cur,hv,hg,hh,r⟩
 ·exact .inl h2
 ·refine .inr ⟨g,cap,cur,hv,hg,?_,r⟩
  have hlt:g<w.heap.size:=by
   rcases Nat.lt_or_ge g w.heap.size with h' | h'
   ·exact h'
   ·rw [Array.getElem?_eq_none h'] at hh;cases hh
  rw [hb.block g hlt];exact hh
theorem am.far (h:am R e w base B v xs) {c i:Nat} (hc:c<base) (hB:B≤c) (u:Value):am R e (w.setCell ⟨c,i,none⟩ u) base B v xs:=by
 obtain ⟨cells,h,hf⟩:=h
 refine ⟨cells,⟨h.1,?_⟩,hf.keep ((yq B w).setCell (p:=⟨c,i,none⟩) hB u) (yo _)⟩
 rcases h.2 with h2 | ⟨g,cap,cur,hv,hg,hh,r⟩
 ·exact .inl h2
 ·exact .inr ⟨g,cap,cur,hv,hg,(Below.heap_setCell w ⟨c,i,none⟩ u g (by show g≠c;omega)).trans hh,r⟩
theorem am.reads (h:am R e w base B v xs) (hB:B≤w.heap.size) (hn:xs.length*(8*R.k)≤140737488351232):RSl R w w.heap.size xs v:=by
 obtain ⟨cells,h,hf⟩:=h
 rcases h.2 with ⟨h1,h2⟩ | ⟨g,cap,cur,hv,hg,hh,h1,h2,h3,h4⟩
 ·refine ⟨none,0,by rw [h1,h2],by omega,⟨hn,by omega⟩,?_⟩
  intro h0
  omega
 ·refine ⟨_,cap,hv,h1,⟨hn,by unfold maxLen at h2;omega⟩,fun _=>⟨g,0,rfl,?_,fun i hi=>?_⟩⟩
  ·rcases Nat.lt_or_ge g w.heap.size with h' | h'
   ·exact h'
   ·rw [Array.getElem?_eq_none h'] at hh;cases hh
  ·refine ⟨_,R.len (hf.2 i hi),⟨xs[i],yy hi,R.wide hB (hf.2 i hi)⟩,fun j u hj=>?_⟩
   rw [List.getElem?_take] at hj
   split at hj
   ·rename_i hjk
    rw [List.getElem?_drop] at hj
    rw [←h4,List.getElem?_take] at hj
    split at hj
    ·show World.cell? w ⟨g,0+i*R.k+j,none⟩=_
     rw [cell_of_row w g _ cur e (0,0) hh,Nat.zero_add]
     simpa using hj
    ·cases hj
   ·cases hj
theorem am.form (h:am R e w base B v xs):∃A c,v=.slice A xs.length c:=by
 obtain ⟨cells,h,_⟩:=h
 rcases h.2 with ⟨h1,h2⟩ | ⟨g,cap,cur,hv,_⟩
 ·exact ⟨none,0,by rw [h1,h2]⟩
 ·exact ⟨_,cap,hv⟩
def gH (R:Reader α) (w:World) (B:Nat) (A:Option Addr) (xs:List α):Prop:=
 ∃cells,bA R w B xs cells∧(A=none→xs=[])∧∀a,A=some a→∀j u,cells[j]? = some u→w.cell? (a.add j)=some u
theorem RL.src {A:Option Addr} (h:RL R w B xs A):gH R w B A xs:=by
 obtain ⟨cells,hf,hc⟩:=h.flat
 refine ⟨cells,hf,fun e=>?_,fun a ha j u hu=>?_⟩
 ·subst e
  rcases xs with _ | ⟨x,xs⟩
  ·rfl
  ·obtain ⟨b,off,e,_⟩:=h (by simp)
   cases e
 ·have h0:0<xs.length:=by
   rcases xs with _ | ⟨x,xs⟩
   ·have:=hf.1
    rw [List.length_nil,Nat.zero_mul] at this
    rw [List.eq_nil_of_length_eq_zero this] at hu
    simp at hu
   ·simp
  obtain ⟨b,off,e,_⟩:=h h0
  subst e
  simp only [yz] at ha
  subst ha
  have:=hc b off rfl j u hu
  unfold Addr.add
  split
  ·rename_i hj;subst hj;exact this
  ·exact this
theorem Blk.rl {x:α} {vs:Array Value} {b:Nat} (h:Blk w b vs) (hr:R.rd w B x vs.toList) (hb:b<B):RL R w B [x] (some ⟨b,0,none⟩):=fun _=>
 ⟨b,0,rfl,hb,fun i hi=>by
  have hi0:i=0:=by simpa using hi
  subst hi0
  exact ⟨vs.toList,R.len hr,⟨x,rfl,hr⟩,fun j v hv=>by
   have:=h.cell j
   rw [←Array.getElem?_toList,hv] at this
   simpa using this⟩⟩
theorem Blk.src {x:α} {vs:Array Value} {b:Nat} (h:Blk w b vs) (hr:R.rd w B x vs.toList):gH R w B (some ⟨b,0,none⟩) [x]:=by
 refine ⟨vs.toList,bA.one hr,fun e=>by (cases e),fun a ha j u hu=>?_⟩
 simp only [yz] at ha
 subst ha
 have:=h.cell j
 rw [←Array.getElem?_toList,hu] at this
 unfold Addr.add
 split
 ·rename_i hj;subst hj;exact this
 ·simpa using this
theorem eo {P:Program} {cells:List Value} {size n:Nat} {i:TypeInfo} (t ty e:TypeId) (ht:P.underlying t=some (.slice e)) (hi:P.info? e=some i) (hown:w.ownsRow base e size v n cells) (c:Nat) :
 (Builtin.append_ #[t,t] ty #[v,.slice none 0 c]).run P w=.ok v w:=by
 rcases hown.2 with ⟨rfl,rfl⟩ | ⟨g,cap,cur,rfl,_,_,hnc,_⟩
 ·simp [Builtin.append_,run_underlying ht,sizeOf,typeInfo,hi,Builtin.lenOf,Builtin.firstCells]
 ·simp [Builtin.append_,run_underlying ht,sizeOf,typeInfo,hi,Builtin.lenOf,Builtin.firstCells,hnc,storeCells]
theorem am.drew (h:am R e w base B v xs) (hB:B≤w.heap.size):am R e w.drew base B v xs:=h.later (yq _ _).drew hB
theorem gH.drew {A:Option Addr} (h:gH R w B A xs):gH R w.drew B A xs:=by
 obtain ⟨cells,hf,h1,h2⟩:=h
 exact ⟨cells,hf.keep (yq B w).drew (yo _),h1,h2⟩
theorem gH.later {A:Option Addr} {C:Nat} (h:gH R w B A xs) (hc:∀a,A=some a→a.block<C) (hb:Below C w w') (hB:B≤C):gH R w' B A xs:=by
 obtain ⟨cells,hf,h1,h2⟩:=h
 refine ⟨cells,hf.keep hb hB,h1,fun a ha j u hu=>?_⟩
 rw [←h2 a ha j u hu]
 refine hb.cell ?_
 have:=hc a ha
 unfold Addr.add
 split<;>exact this
theorem lE {P:Program} {o:Oper} {a:Act} {K:Act→World→Prop} {Q:Exit→Act→World→Prop} (s x:Operand) (t:TypeId)
 (ho:o.op=.call { callee:=.builtin .append,args:=#[s,x],argTypes:=#[t,t] })
 {i:TypeInfo} {z:Value} {bytes:Nat} (ht:P.underlying t=some (.slice e)) (hi:P.info? e=some i) (hz:i.zero=some z)
 (hsize:i.size=R.k) (hby:i.bytes=bytes) (hzs:z.cells.size=R.k) (hsz:0<R.k) (hs1:dz R)
 (hs:a.eval s=v) (hown:am R e w base B v xs) {A:Option Addr} {m c:Nat} (hx:a.eval x=.slice A m c) (hsrc:gH R w B A ys) (hm:m=ys.length) (hB:B≤base)
 (hbytes:(xs.length+ys.length)*bytes≤140737488355328) (hb1:1≤bytes) (hbase:base≤w.heap.size)
 (h:∀v' w',am R e w' base B v' (xs++ys)→Below base w w'→w.grownBy w' v.ownBlock→K (a.put o.dst v') w'):o.wp P a w K Q:=by
 subst hm
 obtain ⟨cells,how,hf⟩:=hown
 obtain ⟨news,hf2,hnil,hc⟩:=hsrc
 have hle:xs.length+ys.length≤(xs.length+ys.length)*bytes:=Nat.le_mul_of_pos_right _ hb1
 rcases A with _ | ad
 ·obtain rfl:=hnil rfl
  have hrun:=eo (P:=P) t o.type e ht hi how c
  unfold Oper.wp
  simp [execOp,ho,resolve,invoke,builtin,hs,hx,hrun,Result.andThen]
  refine h _ _ ?_ (yq _ _) (World.grownBy.refl w _)
  rw [List.append_nil]
  exact ⟨cells,how,hf⟩
 ·refine wp_append_own w s x t ho base e i z R.k bytes ht hi hz hsize hby hzs hsz v xs.length cells hs how ad ys.length c news hx hf2.1 (hc ad rfl) (hf2.single hs1) (by unfold maxLen;omega) hbytes hbase ?_
  intro v' w' hown' hg _
  have hb:Below base w w':=(yq _ _).grown hg hbase (fun k hk=>(how.lt k hk).1)
  refine h v' w' ⟨cells++news,?_,(hf.append hf2).keep hb hB⟩ hb hg
  rw [yv]
  exact hown'
theorem aq {P:Program} {ops:Array Oper} {rest:List Oper} {o:Oper} {a:Act} {Q:Exit→Act→World→Prop} (hgd:o.guard=none) (s x:Operand) (t:TypeId)
 (ho:o.op=.call { callee:=.builtin .append,args:=#[s,x],argTypes:=#[t,t] })
 {i:TypeInfo} {z:Value} {bytes:Nat} (ht:P.underlying t=some (.slice e)) (hi:P.info? e=some i) (hz:i.zero=some z)
 (hsize:i.size=R.k) (hby:i.bytes=bytes) (hzs:z.cells.size=R.k) (hsz:0<R.k) (hs1:dz R)
 (hs:a.eval s=v) (hown:am R e w base B v xs) {A:Option Addr} {m c:Nat} (hx:a.eval x=.slice A m c) (hsrc:gH R w B A ys) (hm:m=ys.length) (hB:B≤base)
 (hbytes:(xs.length+ys.length)*bytes≤140737488355328) (hb1:1≤bytes) (hbase:base≤w.heap.size)
 (h:∀v' w',am R e w' base B v' (xs++ys)→Below base w w'→wpList P ops Q rest (a.put o.dst v') w'):wpList P ops Q (o::rest) a w:=
 wpList_plain hgd fun _ hK=>lE s x t ho ht hi hz hsize hby hzs hsz hs1 hs hown hx hsrc hm hB hbytes hb1 hbase fun v' w' h1 h2 _=>hK _ _ (h v' w' h1 h2)
end
section
variable {w w' W:World} {b g:Nat} {vs:Array Value} {o1 o2:Obj}
theorem Blk.grown {row:Option Nat} (h:Blk w b vs) (hg:w.grownBy w' row) (hne:some b≠row):Blk w' b vs:=by
 obtain ⟨T,h'⟩:=id h
 exact ⟨T,(hg.block b h.lt hne).trans h'⟩
theorem xY:(w.alloc o1).heap[w.heap.size]? = some o1:=heap_alloc_new w _
theorem hp21:((w.alloc o1).alloc o2).heap[w.heap.size]? = some o1:=(Below.heap_alloc _ _ _ (by simp)).trans xY
theorem hp22:((w.alloc o1).alloc o2).heap[w.heap.size+1]? = some o2:=by
 have:=xY (w:=w.alloc o1) (o1:=o2)
 rwa [World.size_alloc] at this
theorem am.grown {α:Type} {R:Reader α} {e:TypeId} {base B:Nat} {v:Value} {xs:List α} (h:am R e w base B v xs) (hg:w.grownBy w' (some g)) (hgb:g<base) (hBg:B≤g) (hB:B≤w.heap.size):am R e w' base B v xs:=by
 obtain ⟨cells,h,hf⟩:=h
 have hbel:Below B w w':=(yq _ _).grown hg hB (fun k hk=>by simp only [yz] at hk;omega)
 refine ⟨cells,⟨h.1,?_⟩,hf.keep hbel (yo _)⟩
 rcases h.2 with h2 | ⟨q,cap,cur,hv,hq,hh,r⟩
 ·exact .inl h2
 ·refine .inr ⟨q,cap,cur,hv,hq,?_,r⟩
  have hlt:q<w.heap.size:=by
   rcases Nat.lt_or_ge q w.heap.size with h' | h'
   ·exact h'
   ·rw [Array.getElem?_eq_none h'] at hh;cases hh
  rw [hg.block q hlt (fun e=>by simp only [yz] at e;omega)];exact hh
end
end Go.Proofs.YtjpndglegpcdnaaGreat
