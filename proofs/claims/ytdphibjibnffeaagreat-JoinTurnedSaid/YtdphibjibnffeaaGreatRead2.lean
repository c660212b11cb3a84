/- Readers of predicates, operations, expressions, scopes, rules, checks, policies, blocks. -/
import Derived.Test.YtdphibjibnffeaaGreatTerm4
set_option linter.unusedVariables false
set_option linter.unusedSimpArgs false
set_option maxRecDepth 100000
set_option maxHeartbeats 8000000
namespace Go.Proofs.YtdphibjibnffeaaGreat
open Go.ChangeShapes Go.WideShapes Go.ChangeAt Go.RowKit
theorem sd (s:ByteArray):s.toList=[]↔s.size=0:=by
 rw [ByteArray.toList_eq,Lib.size_eq]
 exact ⟨fun h=>by rw [h];rfl,fun h=>List.eq_nil_of_length_eq_zero h⟩
theorem lH (k:Nat):((k:Int)≤256)=(k≤256):=by rw [eq_iff_iff];omega
theorem dq (s:ByteArray):s.toList=[]↔s=ByteArray.empty:=by rw [sd];simp
theorem aU (s:ByteArray):s.toList.isEmpty=decide (s=ByteArray.empty):=by
 rw [Bool.eq_iff_iff,List.isEmpty_iff,dq];simp
theorem may_of (d:Nat) (hR:∀(l:List Tm) (A:Option Addr) (c B:Nat) (w:World),iB w B d l A→B≤w.heap.size→l.length*40≤140737488351232 →
 Calls Tryz.prog 188 #[.slice A l.length c] w fun e w'=>e=.returned (.bool (cH l))∧Below w.heap.size w w')
 (t:Tm) (vs:List Value) (B:Nat) (w:World) (ht:RTm w B (d+1) t vs) (hB:B≤w.heap.size) :
 Calls Tryz.prog 124 #[.agg vs.toArray] w fun e w'=>e=.returned (.bool (ff t))∧Below w.heap.size w w':=by
 have HR:=Lib.hid hR
 clear hR
 obtain ⟨A,c,rfl,hc1,hc2,hs,_,_,hl⟩:=ht.cells
 obtain ⟨kind,n,s,l⟩:=t
 dsimp only at hc1 hc2 hs hl
 have hbel:∀o:Obj,Below w.heap.size w (w.alloc o):=fun o=>(Below.refl _ _).alloc (Nat.le_refl _) _
 have HB:=Lib.hid hbel
 have HL:=Lib.hid hl
 clear hbel ht hl
 have hcases:kind=1∨kind=2∨kind=3∨kind=4∨kind=5∨kind=6∨kind=7∨((kind==1)=false∧(kind==2)=false∧(kind==3)=false∧(kind==4)=false∧(kind==5)=false∧(kind==6)=false∧(kind==7)=false∧(kind !=7)=true):=by
  simp only [beq_eq_false_iff_ne,bne_iff_ne];omega
 rcases hcases with rfl | rfl | rfl | rfl | rfl | rfl | rfl | ⟨k1,k2,k3,k4,k5,k6,k7,k8⟩
 all_goals
  go_enter Tryz.func124,Tryz.ntmps124
  go_wp2_with (first
   | (go_at_call 103;refine (eP _ _ (by unfold maxLen;omega)).mono ?_;rintro e w' ⟨rfl,rfl⟩)
   | (go_at_call 188;refine (HR.out l A c B _ (HL.out.below (HB.out _) hB) (Nat.le_trans hB (HB.out _).size) (by omega)).mono ?_;rintro e w1 ⟨rfl,hb1⟩))
  all_goals go_ret
  all_goals first
   | refine ⟨ae ?_,HB.out _⟩
   | refine ⟨ae ?_,(HB.out _).trans (hb1.mono (HB.out _).size)⟩
  all_goals
   clear HR HL HB
   try simp only [dq,aU,Nat.not_lt,Nat.le_zero_eq,List.length_pos_iff,ne_eq,Classical.not_not,beq_eq_false_iff_ne] at *
   simp [ff,dK,lH, *]
   try first
    | omega
    | (rw [Bool.eq_iff_iff];simp;omega)
theorem tT (d:Nat):∀(t:Tm) (vs:List Value) (B:Nat) (w:World),RTm w B d t vs→B≤w.heap.size →
 Calls Tryz.prog 124 #[.agg vs.toArray] w fun e w'=>e=.returned (.bool (ff t))∧Below w.heap.size w w':=by
 induction d with
 | zero=>intro t vs B w h;exact h.elim
 | succ d ih=>exact fun t vs B w=>may_of d (fun l A c B w h1 h2 h3=>uk d (qk d ih) l A c B w h1 h2 h3) t vs B w
theorem tU {d:Nat} {t:Tm} {vs:List Value} {B:Nat} {w:World} (h:RTm w B d t vs) (hB:B≤w.heap.size) :
 Calls Tryz.prog 124 #[.agg vs.toArray] w fun e w'=>e=.returned (.bool (ff t))∧Below w.heap.size w w':=tT d t vs B w h hB
theorem ak {d:Nat} {t:Tm} {vs:List Value} {B:Nat} {w:World} (h:RTm w B d t vs) (hB:B≤w.heap.size) :
 Calls Tryz.prog 106 #[.agg vs.toArray] w fun e w'=>e=.returned (.bool (ah t))∧Below w.heap.size w w':=qk d (tT d) t vs B w h hB
structure Reader (α:Type) where
 k:Nat
 rd:World→Nat→α→List Value→Prop
 keep:∀{w w':World} {B C:Nat} {x:α} {vs:List Value},Below C w w'→B≤C→rd w B x vs→rd w' B x vs
 wide:∀{w:World} {B B':Nat} {x:α} {vs:List Value},B≤B'→rd w B x vs→rd w B' x vs
 len:∀{w:World} {B:Nat} {x:α} {vs:List Value},rd w B x vs→vs.length=k
def RL {α:Type} (R:Reader α) (w:World) (B:Nat) (xs:List α) (A:Option Addr):Prop:=gh w B R.k A xs.length (fun i vs=>∃x,xs[i]? = some x∧R.rd w B x vs)
section
variable {α:Type} {R:Reader α} {w wr w':World} {B B' C:Nat} {xs:List α} {A:Option Addr}
theorem RL.keep (h:RL R w B xs A) (hw:Below C w w') (hB:B≤C):RL R w' B xs A:=
 (gh.below h hw hB).mono fun _ _ _ ⟨x,hx,hr⟩=>⟨x,hx,R.keep hw hB hr⟩
theorem RL.wide (h:RL R w B xs A) (hB:B≤B'):RL R w B' xs A:=
 (gh.more h hB).mono fun _ _ _ ⟨x,hx,hr⟩=>⟨x,hx,R.wide hB hr⟩
theorem RL.base (h:RL R w B xs A) (hbw:Below w.heap.size w wr) (hB:B≤w.heap.size) (hk:0<xs.length):∃b off,A=some ⟨b,off,none⟩∧b<wr.heap.size:=by
 obtain ⟨b,off,rfl,hb,_⟩:=h hk
 exact ⟨b,off,rfl,by have:=hbw.size;omega⟩
theorem RL.at_ {b off k:Nat} (h:RL R w B xs (some ⟨b,off,none⟩)) (hbw:Below w.heap.size w wr) (hB:B≤w.heap.size) (hk:k<xs.length) :
 ∃x vs,xs[k]? = some x∧vs.length=R.k∧(∀j v,vs[j]? = some v→wr.cell? ⟨b,off+k*R.k+j,none⟩=some v)∧R.rd wr B x vs:=by
 obtain ⟨b',off',e,hb,hc⟩:=h (by omega)
 simp only [Option.some.injEq,Addr.mk.injEq,and_true] at e
 obtain ⟨rfl,rfl⟩:=e
 obtain ⟨vs,hl,⟨x,hx,hr⟩,hcell⟩:=hc k hk
 have hlt:b<w.heap.size:=by omega
 exact ⟨x,vs,hx,hl,fun j v hv=>(hbw.cell (p:=⟨b,off+k*R.k+j,none⟩) hlt).trans (hcell j v hv),R.keep hbw hB hr⟩
end
section
variable {α:Type} {R:Reader α} {w wr:World} {B:Nat} {xs:List α}
theorem RL.at0 {b off k:Nat} (h:RL R w B xs (some ⟨b,off,none⟩)) (hbw:Below w.heap.size w wr) (hB:B≤w.heap.size) (hk:k<xs.length) :
 ∃x vs,xs[k]? = some x∧vs.length=R.k∧(∀j v,vs[j]? = some v→wr.cell? ⟨b,off+k*R.k+j,none⟩=some v)∧R.rd w B x vs:=by
 obtain ⟨b',off',e,hb,hc⟩:=h (by omega)
 simp only [Option.some.injEq,Addr.mk.injEq,and_true] at e
 obtain ⟨rfl,rfl⟩:=e
 obtain ⟨vs,hl,⟨x,hx,hr⟩,hcell⟩:=hc k hk
 have hlt:b<w.heap.size:=by omega
 exact ⟨x,vs,hx,hl,fun j v hv=>(hbw.cell (p:=⟨b,off+k*R.k+j,none⟩) hlt).trans (hcell j v hv),hr⟩
end
def TmR (d:Nat):Reader Tm where
 k:=4
 rd:=fun w B t vs=>RTm w B d t vs
 keep:=fun hw hB h=>RTm.below hw hB h
 wide:=fun hB h=>RTm.more hB h
 len:=fun h=>by obtain ⟨_,_,rfl,_⟩:=RTm.cells h;rfl
theorem iB.rl {w:World} {B d:Nat} {ts:List Tm} {A:Option Addr} (h:iB w B d ts A):RL (TmR d) w B ts A:=h
theorem iE {W w1:World} (hb:Below W.heap.size W w1):∀b o,b<W.heap.size→w1.cell? ⟨b,o,none⟩=W.cell? ⟨b,o,none⟩:=fun b o h=>hb.cell (p:=⟨b,o,none⟩) h
def tw {α:Type} (p:α→Bool) (xs:List α):Int:=if xs.findIdx p<xs.length then (xs.findIdx p:Int) else -1
theorem fy {α:Type} {p:α→Bool} {xs:List α} (h:∀i (hi:i<xs.length),p xs[i]=false):tw p xs=-1:=by
 unfold tw
 rw [if_neg]
 rw [List.findIdx_lt_length]
 rintro ⟨x,hx,hp⟩
 obtain ⟨i,hi,rfl⟩:=List.getElem_of_mem hx
 rw [h i hi] at hp
 cases hp
theorem fz {α:Type} {p:α→Bool} {xs:List α} {k:Nat} (hk:k<xs.length) (hp:p xs[k]=true) (h:∀i (hi:i<k),p (xs[i]'(by omega))=false):tw p xs=k:=by
 have e:xs.findIdx p=k:=(List.findIdx_eq hk).2 ⟨hp,fun j hj=>h j hj⟩
 unfold tw
 rw [e,if_pos hk]
theorem hU {α:Type} (p:α→Bool) (xs:List α):decide (0≤tw p xs)=xs.any p:=by
 rw [Bool.eq_iff_iff,decide_eq_true_eq,List.any_eq_true]
 unfold tw
 by_cases h:xs.findIdx p<xs.length
 ·rw [if_pos h]
  have:=List.findIdx_lt_length.1 h
  simp only [this,iff_true]
  omega
 ·rw [if_neg h]
  rw [List.findIdx_lt_length] at h
  simp only [h,iff_false]
  omega
def bQ (P:Program) {α:Type} (R:Reader α) (val:List Value→Value) (B:Nat) (w:World) (F:FuncId) (cap:Array Value) (p:α→Bool):Prop:=
 ∀(x:α) (vs:List Value) (w1:World),Below w.heap.size w w1→R.rd w1 B x vs→Calls P F (#[val vs]++cap) w1 fun e w'=>e=.returned (.bool (p x))∧Below w1.heap.size w1 w'
theorem bQ.later {P:Program} {α:Type} {R:Reader α} {val:List Value→Value} {B:Nat} {w w':World} {F:FuncId} {cap:Array Value} {p:α→Bool} (h:bQ P R val B w F cap p) (hb:Below w.heap.size w w'):bQ P R val B w' F cap p:=
 fun x vs w1 h1 hr=>h x vs w1 (hb.trans (h1.mono hb.size)) hr
def cN (vs:List Value):Value:=.agg vs.toArray
def xl (vs:List Value):Value:=vs.getD 0 undef
theorem iL (d:Nat) (F:FuncId) (cap:Array Value) (p:Tm→Bool) (xs:List Tm) (A:Option Addr) (c B:Nat) (w:World)
 (hF:∀args (w:World),(callFunc F args).run Tryz.prog w=.ok (.enter F args) w) (hl:RL (TmR d) w B xs A) (hB:B≤w.heap.size) (hn:xs.length≤140737488351232)
 (ht:bQ Tryz.prog (TmR d) cN B w F cap p) :
 Calls Tryz.prog 154 #[.slice A xs.length c,.func (.func F) #[] cap] w fun e w'=>e=.returned (.int .i64 (tw p xs))∧Below w.heap.size w w':=by
 have HT:=Lib.hid ht
 clear ht
 have hRk:(TmR d).k=4:=rfl
 go_enter Tryz.func154,Tryz.ntmps154
 go_wp2_with fail
 go_loopw [8] (fun i wr=>∃k:Nat,k≤xs.length∧i=.int .i64 k∧Below w.heap.size w wr∧∀i (hi:i<xs.length),i<k→p xs[i]=false) (fun i _=>xs.length-(intOf i).toNat)
 case atStart=>exact ⟨0,Nat.zero_le _,rfl,Below.refl _ _,fun i hi h=>absurd h (by omega)⟩
 case round=>
  obtain ⟨k,hk,rfl,hbw,hall⟩:=hrel
  have HA:=Lib.hid hall
  clear hall
  by_cases hlt:k<xs.length
  ·obtain ⟨b,off,rfl,hb⟩:=hl.base hbw hB (by omega)
   obtain ⟨x,vs,hx,hlen,hcell,hr⟩:=hl.at_ hbw hB hlt
   rw [hRk] at hlen hcell
   obtain ⟨v0,v1,v2,v3,rfl⟩:∃v0 v1 v2 v3,vs=[v0,v1,v2,v3]:=by
    match vs,hlen with
    | [v0,v1,v2,v3],_=>exact ⟨_,_,_,_,rfl⟩
   have c0:wr.cell? ⟨b,off+k*4,none⟩=some v0:=hcell 0 _ rfl
   have c1:wr.cell? ⟨b,off+k*4+1,none⟩=some v1:=hcell 1 _ rfl
   have c2:wr.cell? ⟨b,off+k*4+2,none⟩=some v2:=hcell 2 _ rfl
   have c3:wr.cell? ⟨b,off+k*4+3,none⟩=some v3:=hcell 3 _ rfl
   have hsz:=hbw.size
   have HX:=Lib.hid hx
   clear hcell hlen hx
   go_wp2_with fail
   refine (HT.out x [v0,v1,v2,v3] _ hbw hr).mono ?_
   rintro e w1 ⟨rfl,hb1⟩
   have hbw1:=Lib.hid (hbw.trans (hb1.mono hsz))
   clear hb1
   have hxe:xs[k]=x:=(List.getElem?_eq_some_iff.1 HX.out).2
   have HXE:=Lib.hid hxe
   clear hxe
   by_cases hp:p x=true
   ·go_wp2_with fail
    go_ret
    exact ⟨ay (fz hlt (by rw [HXE.out];exact hp) (fun i hi=>HA.out i (by omega) hi)).symm,hbw1.out⟩
   ·have hp:p x=false:=by simpa using hp
    go_wp2_with fail
    go_roundw
    case rel=>exact ⟨k+1,by omega,by go_num,hbw1.out,fun i hi h=>by
     rcases Nat.lt_or_ge i k with h1 | h1
     ·exact HA.out i hi h1
     ·obtain rfl:i=k:=by omega
      rw [HXE.out];exact hp⟩
    case measure=>simp [intOf];omega
  ·go_wp2_with fail
   go_ret
   exact ⟨ay (fy (fun i hi=>HA.out i hi (by omega))).symm,hbw⟩
theorem bk (d:Nat) (F:FuncId) (cap:Array Value) (p:Tm→Bool) (xs:List Tm) (A:Option Addr) (c B:Nat) (w:World)
 (hF:∀args (w:World),(callFunc F args).run Tryz.prog w=.ok (.enter F args) w) (hl:RL (TmR d) w B xs A) (hB:B≤w.heap.size) (hn:xs.length≤140737488351232)
 (ht:bQ Tryz.prog (TmR d) cN B w F cap p) :
 Calls Tryz.prog 104 #[.slice A xs.length c,.func (.func F) #[] cap] w fun e w'=>e=.returned (.bool (xs.any p))∧Below w.heap.size w w':=by
 have HT:=Lib.hid ht
 clear ht
 go_enter Tryz.func104,Tryz.ntmps104
 go_wp2_with (go_at_call 154;refine (iL d F cap p xs A c B w hF hl hB hn HT.out).mono ?_;rintro e w1 ⟨rfl,hb1⟩)
 go_ret
 exact ⟨ae (hU p xs),hb1⟩
theorem lm (d:Nat) (M:FuncId) (p:Tm→Bool) (B G:Nat) (w:World) (hM:∀args (w:World),(callFunc M args).run Tryz.prog w=.ok (.enter M args) w)
 (hB:B≤w.heap.size) (hG:w.cell? ⟨G,0,none⟩=some (.func (.func M) #[] #[])) (ht:bQ Tryz.prog (TmR d) cN B w M #[] p) :
 bQ Tryz.prog (TmR d) cN B w 187 #[.pointer (some ⟨G,0,none⟩)] (fun x=>!p x):=by
 intro x vs w1 hb hr
 have hlen:vs.length=4:=(TmR d).len hr
 obtain ⟨v0,v1,v2,v3,rfl⟩:∃v0 v1 v2 v3,vs=[v0,v1,v2,v3]:=by
  match vs,hlen with
  | [v0,v1,v2,v3],_=>exact ⟨_,_,_,_,rfl⟩
 have hGl:G<w.heap.size:=block_lt_of_cell hG
 have hG1:w1.cell? ⟨G,0,none⟩=some (.func (.func M) #[] #[]):=(hb.cell (p:=⟨G,0,none⟩) hGl).trans hG
 have hGl1:G<w1.heap.size:=by have:=hb.size;omega
 have HB:=Lib.hid (fun o:Obj=>(Below.refl w1.heap.size w1).alloc (Nat.le_refl _) o)
 have HT:=Lib.hid ht
 have HR:=Lib.hid hr
 have hBw:B≤w1.heap.size:=by have:=hb.size;omega
 clear ht hr
 show Calls Tryz.prog 187 #[.agg #[v0,v1,v2,v3],.pointer (some ⟨G,0,none⟩)] w1 _
 go_enter Tryz.func187,Tryz.ntmps187
 go_wp2_with fail
 refine (HT.out x [v0,v1,v2,v3] _ (hb.trans ((HB.out _).mono hb.size)) ((TmR d).keep (HB.out _) hBw HR.out)).mono ?_
 rintro e w2 ⟨rfl,hb2⟩
 have hfin:=Lib.hid ((HB.out _).trans (hb2.mono (HB.out _).size))
 clear hb2
 go_wp2_with fail
 go_ret
 exact ⟨rfl,hfin.out⟩
theorem oY (d:Nat) (M:FuncId) (p:Tm→Bool) (most:Int) (xs:List Tm) (A:Option Addr) (c B:Nat) (w:World) (hM:∀args (w:World),(callFunc M args).run Tryz.prog w=.ok (.enter M args) w)
 (hl:RL (TmR d) w B xs A) (hB:B≤w.heap.size) (hn:xs.length≤140737488351232) (ht:bQ Tryz.prog (TmR d) cN B w M #[] p) :
 Calls Tryz.prog 123 #[.slice A xs.length c,.int .i64 most,.func (.func M) #[] #[]] w fun e w'=>e=.returned (.bool (decide ((xs.length:Int)≤most)&&xs.all p))∧Below w.heap.size w w':=by
 have HB:=Lib.hid (fun o:Obj=>(Below.refl w.heap.size w).alloc (Nat.le_refl _) o)
 have HT:=Lib.hid ht
 have HL:=Lib.hid hl
 clear ht hl
 by_cases hm:(xs.length:Int)≤most
 ·go_enter Tryz.func123,Tryz.ntmps123
  go_wp2_with fail
  refine (bk d 187 _ _ xs A c B _ (ent Tryz.func187 (by kernel_rfl) rfl) (HL.out.keep (HB.out _) hB) (Nat.le_trans hB (HB.out _).size) hn
   (lm d M p B w.heap.size _ hM (Nat.le_trans hB (HB.out _).size) (by go_simp) (HT.out.later (HB.out _)))).mono ?_
  rintro e w1 ⟨rfl,hb1⟩
  have hfin:=Lib.hid ((HB.out _).trans (hb1.mono (HB.out _).size))
  clear hb1
  go_wp2_with fail
  go_ret
  exact ⟨ae (by simp [hm,List.all_eq_not_any_not]),hfin.out⟩
 ·have hm':decide ((xs.length:Int)≤most)=false:=by simpa using hm
  go_enter Tryz.func123,Tryz.ntmps123
  go_wp2_with fail
  go_ret
  exact ⟨ae (by simp [hm]),HB.out _⟩
structure Pr where
 name:ByteArray
 terms:List Tm
structure OpD where
 kind:Int
 term:Tm
 code:Int
 skip:Int
structure Sc where
 kind:Int
 key:ByteArray
structure Ru where
 head:Pr
 body:List Pr
 exprs:List (List OpD)
 scopes:List Sc
def RSl {α:Type} (R:Reader α) (w:World) (B:Nat) (xs:List α) (v:Value):Prop:=∃A c,v=.slice A xs.length c∧xs.length≤c∧(xs.length*(8*R.k)≤140737488351232∧c≤9223372036854775807)∧RL R w B xs A
section
variable {α:Type} {R:Reader α} {w w':World} {B B' C:Nat} {xs:List α} {v:Value}
theorem RSl.keep (h:RSl R w B xs v) (hw:Below C w w') (hB:B≤C):RSl R w' B xs v:=by
 obtain ⟨A,c,rfl,h1,h2,h3⟩:=h
 exact ⟨A,c,rfl,h1,h2,h3.keep hw hB⟩
theorem RSl.wide (h:RSl R w B xs v) (hB:B≤B'):RSl R w B' xs v:=by
 obtain ⟨A,c,rfl,h1,h2,h3⟩:=h
 exact ⟨A,c,rfl,h1,h2,h3.wide hB⟩
end
def cR:Reader ByteArray where
 k:=1
 rd:=fun _ _ s vs=>vs=[.string s]∧s.size≤140737488351232
 keep:=fun _ _ h=>h
 wide:=fun _ h=>h
 len:=fun h=>by rw [h.1];rfl
def PrR (d:Nat):Reader Pr where
 k:=2
 rd:=fun w B p vs=>∃v,vs=[.string p.name,v]∧p.name.size≤140737488351232∧RSl (TmR d) w B p.terms v
 keep:=fun hw hB ⟨v,e,h1,h2⟩=>⟨v,e,h1,h2.keep hw hB⟩
 wide:=fun hB ⟨v,e,h1,h2⟩=>⟨v,e,h1,h2.wide hB⟩
 len:=fun ⟨_,e,_⟩=>by rw [e];rfl
def OpR (d:Nat):Reader OpD where
 k:=7
 rd:=fun w B o vs=>∃ts,vs=.int .i64 o.kind::(ts++[.int .i64 o.code,.int .i64 o.skip])∧I64 o.kind∧I64 o.code∧I64 o.skip∧RTm w B d o.term ts
 keep:=fun hw hB ⟨ts,e,h1,h2,h3,h⟩=>⟨ts,e,h1,h2,h3,RTm.below hw hB h⟩
 wide:=fun hB ⟨ts,e,h1,h2,h3,h⟩=>⟨ts,e,h1,h2,h3,RTm.more hB h⟩
 len:=fun ⟨ts,e,_,_,_,h⟩=>by
  obtain ⟨_,_,rfl,_⟩:=RTm.cells h
  rw [e];rfl
def ExR (d:Nat):Reader (List OpD) where
 k:=1
 rd:=fun w B e vs=>∃v,vs=[v]∧RSl (OpR d) w B e v
 keep:=fun hw hB ⟨v,e,h⟩=>⟨v,e,h.keep hw hB⟩
 wide:=fun hB ⟨v,e,h⟩=>⟨v,e,h.wide hB⟩
 len:=fun ⟨_,e,_⟩=>by rw [e];rfl
def ScR:Reader Sc where
 k:=2
 rd:=fun _ _ s vs=>vs=[.int .i64 s.kind,.string s.key]∧I64 s.kind∧s.key.size≤140737488351232
 keep:=fun _ _ h=>h
 wide:=fun _ h=>h
 len:=fun h=>by rw [h.1];rfl
def RuR (d:Nat):Reader Ru where
 k:=5
 rd:=fun w B r vs=>∃v0 v1 v2 v3,vs=[.string r.head.name,v0,v1,v2,v3]∧r.head.name.size≤140737488351232∧RSl (TmR d) w B r.head.terms v0∧RSl (PrR d) w B r.body v1∧RSl (ExR d) w B r.exprs v2∧RSl ScR w B r.scopes v3
 keep:=fun hw hB ⟨a,b,c,d,e,h,h0,h1,h2,h3⟩=>⟨a,b,c,d,e,h,h0.keep hw hB,h1.keep hw hB,h2.keep hw hB,h3.keep hw hB⟩
 wide:=fun hB ⟨a,b,c,d,e,h,h0,h1,h2,h3⟩=>⟨a,b,c,d,e,h,h0.wide hB,h1.wide hB,h2.wide hB,h3.wide hB⟩
 len:=fun ⟨_,_,_,_,e,_⟩=>by rw [e];rfl
end Go.Proofs.YtdphibjibnffeaaGreat
