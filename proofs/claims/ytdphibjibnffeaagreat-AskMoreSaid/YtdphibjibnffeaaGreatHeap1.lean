/- term.pile: Len, Less, Swap, Pop, over a block that holds the terms. -/
import Derived.Test.YtdphibjibnffeaaGreatShelf
import Derived.Laws.Cover3
import Derived.Test.YtdphibjibnffeaaGreatTerm5
set_option linter.unusedVariables false
set_option linter.unusedSimpArgs false
set_option maxRecDepth 100000
set_option maxHeartbeats 8000000
namespace Go.Proofs.YtdphibjibnffeaaGreat
open Go.ChangeShapes Go.WideShapes Go.ChangeAt Go.RowKit
theorem iq {P:Program} (t e:TypeId) (a:Addr) (l c:Nat) (h:P.underlying t=some (.slice e)) (w:World):(binOp .eql t (.slice (some a) l c) (.slice none 0 0)).run P w=.ok (.bool false) w:=by
 simp only [binOp]
 simp [run_equal_slice_nil w t e (some a) l c h]
theorem jz {P:Program} (t e:TypeId) (l c:Nat) (h:P.underlying t=some (.slice e)) (w:World):(binOp .eql t (.slice none l c) (.slice none 0 0)).run P w=.ok (.bool true) w:=by
 simp only [binOp]
 simp [run_equal_slice_nil w t e none l c h]
def ic (a b:Tm):Bool:=decide (aU 3 a b=0)
def jO (s t:Tm):Bool:=decide (s.kind=7)&&s.l.any fun x=>ic x t
theorem ff {d d' B:Nat} {a b:Tm} {vs ws:List Value} {w:World} (ha:RTm w B d a vs) (hb:RTm w B d' b ws) (hB:B≤w.heap.size) :
 Calls Tryz.prog 171 #[.agg vs.toArray,.agg ws.toArray] w fun e w'=>e=.returned (.bool (ic a b))∧Below w.heap.size w w':=by
 have HA:=yW ha
 have HB_:=yW hb
 obtain ⟨A,c,rfl,_⟩:=ha.cells
 obtain ⟨A',c',rfl,_⟩:=hb.cells
 clear ha hb
 go_enter Tryz.func171,Tryz.ntmps171
 go_wp2_with fail
 generalize hW:World.alloc _ _=w1
 obtain ⟨hb,hz⟩:=al2 hW
 have HB1:=yW hb
 clear hW hz hb
 refine (df d d' a b [_,_,_,_] [_,_,_,_] B w1 (HA.out.below HB1.out hB) (HB_.out.below HB1.out hB) (yX hB HB1.out.size)).mono ?_
 rintro e w2 ⟨rfl,hb⟩
 have HB2:=yW (ab HB1.out hb)
 clear hb
 go_wp2_with fail
 go_ret
 exact ⟨rfl,HB2.out⟩
theorem sn {d d' B G:Nat} {t:Tm} {ws:List Value} {w:World} (hG:Blk w G ws.toArray) (ht:RTm w B d' t ws) (hB:B≤w.heap.size) :
 bP Tryz.prog (TmR d) cS B w 309 #[.pointer (some ⟨G,0,none⟩)] (fun x=>ic x t):=by
 intro x vs w1 hb hr
 have HR:Hid (RTm w1 B d x vs):=yW hr
 obtain ⟨A,c,rfl,_⟩:=RTm.cells (show RTm w1 B d x vs from hr)
 have HT:=yW (ht.below hb hB)
 have hG1:=hG.later hb
 have hB1:=yX hB hb.size
 obtain ⟨A',c',rfl,_⟩:=ht.cells
 clear hr ht hb hG
 show Calls Tryz.prog 309 #[.agg #[_,_,_,_],.pointer (some ⟨G,0,none⟩)] w1 _
 have kG:=hG1.cell
 have lG:=hG1.lt
 go_enter Tryz.func309,Tryz.ntmps309
 go_wp2_with fail
 generalize hW:World.alloc _ _=w2
 obtain ⟨hb,hz⟩:=al1 hW
 have HB1:=yW hb
 clear hW hz hb kG lG
 refine (ff (d:=d) (d':=d') (a:=x) (b:=t) (vs:=[_,_,_,_]) (ws:=[_,_,_,_]) (B:=B) (HR.out.below HB1.out hB1) (HT.out.below HB1.out hB1) (yX hB1 HB1.out.size)).mono ?_
 rintro e w3 ⟨rfl,hb⟩
 have HB2:=yW (ab HB1.out hb)
 clear hb
 go_wp2_with fail
 go_ret
 exact ⟨rfl,HB2.out⟩
theorem kL {d d' B:Nat} {s t:Tm} {vs ws:List Value} {w:World} (hs:RTm w B (d+1) s vs) (ht:RTm w B d' t ws) (hB:B≤w.heap.size) :
 Calls Tryz.prog 298 #[.agg vs.toArray,.agg ws.toArray] w fun e w'=>e=.returned (.bool (jO s t))∧Below w.heap.size w w':=by
 obtain ⟨A,c,rfl,q1,q2,q3,q4,q5,hl⟩:=hs
 have HT:=yW ht
 obtain ⟨A',c',rfl,_⟩:=ht.cells
 have HL:Hid (RL (TmR d) w B s.l A):=yW hl
 clear hl ht
 by_cases h7:s.kind=7
 ·go_enter Tryz.func298,Tryz.ntmps298
  go_wp2_with fail
  generalize hW:World.alloc _ _=w1
  obtain ⟨hb,hz⟩:=al2 hW
  have bt:=n22 hW
  have HB1:=yW hb
  clear hW hz hb
  refine (bi d 309 _ _ s.l A _ B w1 (ent Tryz.func309 (by kernel_rfl) rfl) (HL.out.keep HB1.out hB) (yX hB HB1.out.size) (by omega) (sn (d':=d') (ws:=[_,_,_,_]) bt (HT.out.below HB1.out hB) (yX hB HB1.out.size))).mono ?_
  rintro e w2 ⟨rfl,hb⟩
  have HB2:=yW (ab HB1.out hb)
  clear hb
  go_wp2_with fail
  go_ret
  exact ⟨ac (by simp [jO,h7]),HB2.out⟩
 ·go_enter Tryz.func298,Tryz.ntmps298
  go_wp2_with fail
  go_ret
  exact ⟨ac (by simp [jO,h7]),((za _ _).alloc (yY _) _).alloc (by simp) _⟩
theorem bM {d B c:Nat} {xs:List Tm} {A:Option Addr} {w:World} (hl:RL (TmR d) w B xs A) (hB:B≤w.heap.size) (hn:xs.length*56≤140737488351232) :
 Calls Tryz.prog 126 #[.slice A xs.length c] w fun e w'=>(∃v,e=.returned v∧am (TmR d) 79 w' w.heap.size B v xs)∧Below w.heap.size w w':=by
 obtain ⟨i0,hi0,hz0,hz1,hz2⟩:=info_parts iz
 have hsrc:=yW (hl.keep ((za w.heap.size w).alloc (yY _) (.cells #[] 79)) hB).src
 have hown:=yW (am.empty (base:=w.heap.size) (TmR d) 79 (w:=w.alloc (.cells #[] 79)) (b:=w.heap.size) (heap_alloc_new w _) (yY _) B)
 have HA:=yW ((za w.heap.size w).alloc (yY _) (.cells #[] 79))
 rcases A with _ | a
 ·have h0:xs=[]:=by
   rcases xs with _ | ⟨x,xs⟩
   ·rfl
   ·obtain ⟨_,_,e,_⟩:=hl (by simp)
    cases e
  subst h0
  clear hl
  have he:∀wx:World,(binOp BinOp.eql 23 (.slice none 0 c) (.slice none 0 0)).run Tryz.prog wx=.ok (.bool true) wx:=fun wx=>jz 23 79 0 c Tryz.underlying23 wx
  go_enter Tryz.func126,Tryz.ntmps126
  go_wp2_with fail
  go_ret
  exact ⟨⟨_,rfl,am.nil _ _ _ _ _⟩,za _ _⟩
 ·clear hl
  have he:∀wx:World,(binOp BinOp.eql 23 (.slice (some a) xs.length c) (.slice none 0 0)).run Tryz.prog wx=.ok (.bool false) wx:=fun wx=>iq 23 79 a xs.length c Tryz.underlying23 wx
  go_enter Tryz.func126,Tryz.ntmps126
  go_wp2_with ((
   at_builtin
   refine av (R:=TmR d) (e:=79) rfl (.tmp 5) (.tmp 6) 23 rfl (bytes:=56) Tryz.underlying23 hi0 hz0 hz1 hz2 rfl (show 0<4 by omega) (ed d) rfl hown.out rfl hsrc.out rfl hB (by simp only [List.length_nil];omega) (by omega) HA.out.size ?_
   intro v1 w1 hown1 hb1
   have HO:=yW hown1
   have HB1:=yW (HA.out.trans hb1)
   clear hown1 hb1))
  go_ret
  exact ⟨⟨_,rfl,HO.out⟩,HB1.out⟩
theorem ud (x y:Int):cR x y=-cR y x:=by unfold cR;split<;>split<;>omega
theorem io {x y:Int}:cR x y=0↔x=y:=by unfold cR;split<;>(try split)<;>omega
theorem nG (x y:List UInt8):cZ x y=-cZ y x:=by
 unfold cZ
 by_cases h1:x<y
 ·rw [if_pos h1,if_neg (List.lt_asymm h1),if_pos h1]
 ·by_cases h2:y<x
  ·rw [if_neg h1,if_pos h2,if_pos h2];rfl
  ·rw [if_neg h1,if_neg h2,if_neg h2,if_neg h1];rfl
theorem nI {x y:List UInt8}:cZ x y=0↔x=y:=by
 constructor
 ·intro h
  unfold cZ at h
  by_cases h1:x<y
  ·rw [if_pos h1] at h;omega
  ·by_cases h2:y<x
   ·rw [if_neg h1,if_pos h2] at h;omega
   ·exact List.le_antisymm (List.not_lt.1 h2) (List.not_lt.1 h1)
 ·rintro rfl
  unfold cZ
  rw [if_neg (List.lt_irrefl _),if_neg (List.lt_irrefl _)]
theorem wQ {x y:List UInt8}:cZ x y<0↔x<y:=by
 unfold cZ
 by_cases h1:x<y
 ·simp [h1]
 ·by_cases h2:y<x
  ·rw [if_neg h1,if_pos h2];simp [h1]
  ·rw [if_neg h1,if_neg h2];simp [h1]
structure Ord3 {α:Type} (c:α→α→Int):Prop where
 anti:∀x y,c x y=-c y x
 trans:∀x y z,c x y≤0→c y z≤0→c x z≤0
section
variable {α:Type} {c:α→α→Int}
theorem Ord3.self (h:Ord3 c) (x:α):c x x=0:=by have:=h.anti x x;omega
theorem Ord3.lt_le (h:Ord3 c) {x y z:α} (h1:c x y<0) (h2:c y z≤0):c x z<0:=by
 have t:=h.trans x y z (by omega) h2
 rcases Int.lt_or_eq_of_le t with t | t
 ·exact t
 ·have a:=h.anti x z
  have b:=h.trans y z x h2 (by omega)
  have d:=h.anti x y
  omega
theorem Ord3.le_lt (h:Ord3 c) {x y z:α} (h1:c x y≤0) (h2:c y z<0):c x z<0:=by
 have t:=h.trans x y z h1 (by omega)
 rcases Int.lt_or_eq_of_le t with t | t
 ·exact t
 ·have a:=h.anti x z
  have b:=h.trans z x y (by omega) h1
  have d:=h.anti y z
  omega
theorem Ord3.zero_l (h:Ord3 c) {x y z:α} (h1:c x y=0):c x z=c y z∨(c x z<0∧c y z<0)∨(0<c x z∧0<c y z):=by
 have h1':=h.anti x y
 rcases Int.lt_trichotomy (c y z) 0 with k | k | k
 ·exact .inr (.inl ⟨h.le_lt (by omega) k,k⟩)
 ·left
  have a:=h.trans x y z (by omega) (by omega)
  have b:=h.trans z y x (by have:=h.anti z y;omega) (by omega)
  have d:=h.anti x z
  omega
 ·right;right
  have a:=h.anti y z
  have b:=h.anti x z
  have d:=h.lt_le (x:=z) (y:=y) (z:=x) (by omega) (by omega)
  omega
end
theorem gu:Ord3 cR:=⟨ud,fun x y z h k=>by unfold cR at *;split at h<;>split at k<;>(try split at h)<;>(try split at k)<;>split<;>(try split)<;>omega⟩
theorem cmpS_le {x y:List UInt8}:cZ x y≤0↔x≤y:=by
 have h:=nG x y
 have k:=@wQ y x
 rw [show (cZ x y≤0)↔¬(cZ y x<0) by omega,k]
 exact List.not_lt
theorem jS:Ord3 cZ:=⟨nG,fun x y z h k=>by rw [cmpS_le] at *;exact List.le_trans h k⟩
theorem xC {x y z:Int}:or3 x y z=0↔x=0∧y=0∧z=0:=by
 unfold or3;split<;>(try split)<;>omega
def jp {α:Type} (c d:α→α→Int) (x y:α):Int:=if c x y=0 then d x y else c x y
theorem Ord3.andThen {α:Type} {c d:α→α→Int} (hc:Ord3 c) (hd:Ord3 d):Ord3 (jp c d):=by
 refine ⟨fun x y=>?_,fun x y z h k=>?_⟩
 ·unfold jp
  have h1:=hc.anti x y
  have h2:=hd.anti x y
  split<;>split<;>omega
 ·unfold jp at *
  by_cases h1:c x y=0
  ·rw [if_pos h1] at h
   by_cases h2:c y z=0
   ·rw [if_pos h2] at k
    have e:c x z=0:=by rcases hc.zero_l (z:=z) h1 with e | e | e<;>omega
    rw [if_pos e]
    exact hd.trans x y z h k
   ·rw [if_neg h2] at k
    have e:c x z<0:=by rcases hc.zero_l (z:=z) h1 with e | e | e<;>omega
    rw [if_neg (by omega)];omega
  ·rw [if_neg h1] at h
   have h':c x y<0:=by omega
   by_cases h2:c y z=0
   ·have e:=hc.lt_le h' (by omega:c y z≤0)
    rw [if_neg (by omega)];omega
   ·rw [if_neg h2] at k
    have e:=hc.lt_le h' k
    rw [if_neg (by omega)];omega
theorem Ord3.by {α β:Type} {c:β→β→Int} (hc:Ord3 c) (f:α→β):Ord3 (fun x y=>c (f x) (f y)):=⟨fun _ _=>hc.anti _ _,fun _ _ _=>hc.trans _ _ _⟩
theorem qQ:Ord3 ik:=by
 have h:ik=jp (fun a b=>cR a.kind b.kind) (jp (fun a b=>cR a.n b.n) (fun a b=>cZ (bs a.s) (bs b.s))):=by
  funext a b;rfl
 rw [h]
 exact (gu.by Tm.kind).andThen ((gu.by Tm.n).andThen (jS.by fun t:Tm=>bs t.s))
theorem mN {f:Tm→Tm→Int} (hf:Ord3 f):Ord3 (cF f):=by
 refine ⟨?_,?_⟩
 ·intro x
  induction x with
  | nil=>intro y;cases y<;>simp [cF]
  | cons a x ih=>
    intro y
    cases y with
    | nil=>simp [cF]
    | cons b y=>
      have h:=hf.anti a b
      have:=ih y
      simp only [cF]
      split<;>split<;>omega
 ·intro x
  induction x with
  | nil=>intro y z _ _;cases z<;>simp [cF]
  | cons a x ih=>
    intro y z h k
    cases y with
    | nil=>simp [cF] at h
    | cons b y=>
      cases z with
      | nil=>simp [cF] at k
      | cons d z=>
        have key:=(hf.andThen (c:=f) (d:=fun _ _=>0) ⟨fun _ _=>rfl,fun _ _ _ _ _=>by simp⟩)
        simp only [cF] at *
        by_cases h1:f a b=0
        ·rw [if_pos h1] at h
         by_cases h2:f b d=0
         ·rw [if_pos h2] at k
          have e:f a d=0:=by rcases hf.zero_l (z:=d) h1 with e | e | e<;>omega
          rw [if_pos e]
          exact ih y z h k
         ·rw [if_neg h2] at k
          have e:f a d<0:=by rcases hf.zero_l (z:=d) h1 with e | e | e<;>omega
          rw [if_neg (by omega)];omega
        ·rw [if_neg h1] at h
         have e:f a d<0:=by
          by_cases h2:f b d=0
          ·exact hf.lt_le (y:=b) (by omega) (by omega)
          ·rw [if_neg h2] at k;exact hf.lt_le (y:=b) (by omega) k
         rw [if_neg (by omega)];omega
theorem eV:∀d,Ord3 (aU d)
 | 0=>by
   have h:aU 0=ik:=by funext a b;rfl
   rw [h];exact qQ
 | d+1=>by
   have h:aU (d+1)=jp ik (fun a b=>cF (aU d) a.l b.l):=by funext a b;rfl
   rw [h]
   exact qQ.andThen ((mN (eV d)).by Tm.l)
theorem tP {a b:ByteArray} (h:bs a=bs b):a=b:=by
 have:a.data.toList=b.data.toList:=h
 cases a;cases b
 simp only [ByteArray.mk.injEq]
 exact Array.toList_inj.1 this
theorem tZ {a b:Tm}:ik a b=0↔a.kind=b.kind∧a.n=b.n∧a.s=b.s:=by
 unfold ik
 rw [xC,io,io,nI]
 exact ⟨fun ⟨h,k,l⟩=>⟨h,k,tP l⟩,fun ⟨h,k,l⟩=>⟨h,k,by rw [l]⟩⟩
def lU (t:Tm):Prop:=t.l=[]
def Two (t:Tm):Prop:=∀x∈t.l,lU x
theorem uV {d:Nat} {a b:Tm} (ha:lU a) (hb:lU b) (h:aU d a b=0):a=b:=by
 have h0:ik a b=0:=by
  cases d with
  | zero=>exact h
  | succ d=>
    unfold aU at h
    by_cases k:ik a b=0
    ·exact k
    ·rw [if_neg k] at h;exact absurd h k
 obtain ⟨h1,h2,h3⟩:=tZ.1 h0
 clear h0 h
 cases a;cases b
 unfold lU at ha hb
 simp only at *
 subst h1 h2 h3 ha hb
 rfl
theorem fM {t:Tm} (h:dS t=true):lU t:=by
 unfold dS at h
 rw [Bool.and_eq_true,decide_eq_true_eq] at h
 exact List.eq_nil_of_length_eq_zero h.1
section
variable {α:Type} (z:α)
def atL (xs:List α) (k:Nat):α:=xs.getD k z
def sw (xs:List α) (i j:Nat):List α:=(xs.set i (atL z xs j)).set j (atL z xs i)
variable {z} {xs ys:List α} {i j k n:Nat}
theorem cG (h:k<xs.length):atL z xs k=xs[k]:=by simp [atL,h]
theorem ef:(sw z xs i j).length=xs.length:=by simp [sw]
theorem mK (hi:i<xs.length) (hj:j<xs.length):atL z (sw z xs i j) k=if k=j then atL z xs i else if k=i then atL z xs j else atL z xs k:=by
 by_cases hk:k<xs.length
 ·rw [cG (by rw [ef];exact hk)]
  simp only [sw,List.getElem_set]
  by_cases h1:j=k
  ·rw [if_pos h1,if_pos h1.symm]
  ·rw [if_neg h1,if_neg (Ne.symm h1)]
   by_cases h2:i=k
   ·rw [if_pos h2,if_pos h2.symm]
   ·rw [if_neg h2,if_neg (Ne.symm h2),cG hk]
 ·rw [if_neg (by omega),if_neg (by omega)]
  unfold atL
  rw [List.getD_eq_getElem?_getD,List.getD_eq_getElem?_getD,List.getElem?_eq_none (by rw [ef];omega),List.getElem?_eq_none (by omega)]
theorem qD (hi:i<xs.length) (hj:j<xs.length):(sw z xs i j).Perm xs:=by
 unfold sw
 rw [cG hi,cG hj]
 exact List.set_set_perm hi hj
end
section
variable {α:Type} {c:α→α→Int} {z:α}
def iT (c:α→α→Int) (g:Nat→α) (i0 n:Nat):Prop:=∀k,0<k→k<n→i0≤(k-1) / 2→c (g ((k-1) / 2)) (g k)≤0
theorem iT.least (hc:Ord3 c) {g:Nat→α} {n:Nat} (h:iT c g 0 n):∀k,k<n→c (g 0) (g k)≤0:=by
 intro k
 induction k using Nat.strongRecOn with
 | ind k ih=>
   intro hk
   rcases Nat.eq_zero_or_pos k with h0 | h0
   ·subst h0;have:=hc.self (g 0);omega
   ·exact hc.trans _ _ _ (ih ((k-1) / 2) (by omega) (by omega)) (h k h0 hk (yZ _))
structure Sunk (c:α→α→Int) (z:α) (xs0 xs:List α) (i0 i n:Nat):Prop where
 perm:xs.Perm xs0
 out:∀k,n≤k→atL z xs k=atL z xs0 k
 ge:i0≤i
 path:i0<i→i0≤(i-1) / 2
 heap:∀k,0<k→k<n→i0≤(k-1) / 2→(k-1) / 2≠i→c (atL z xs ((k-1) / 2)) (atL z xs k)≤0
 up:∀k,0<k→k<n→(k-1) / 2=i→i0<i→c (atL z xs ((i-1) / 2)) (atL z xs k)≤0
theorem Sunk.start {xs:List α} {i0 n:Nat} (h:iT c (atL z xs) (i0+1) n):Sunk c z xs xs i0 i0 n:=
 ⟨List.Perm.refl _,fun _ _=>rfl,yY _,fun h=>by omega,fun k h0 h1 h2 h3=>h k h0 h1 (by omega),fun _ _ _ _ h=>by omega⟩
theorem Sunk.step (hc:Ord3 c) {xs0 xs:List α} {i0 i n j:Nat} (h:Sunk c z xs0 xs i0 i n) (hn:n≤xs.length) (hj:j<n) (hij:j=2*i+1∨j=2*i+2)
 (hmin:∀k,k<n→(k=2*i+1∨k=2*i+2)→c (atL z xs j) (atL z xs k)≤0) (hlt:c (atL z xs j) (atL z xs i)<0):Sunk c z xs0 (sw z xs i j) i0 j n:=by
 have hil:i<xs.length:=by omega
 have hjl:j<xs.length:=by omega
 have hpj:(j-1) / 2=i:=by omega
 have hge:=h.ge
 refine ⟨(qD hil hjl).trans h.perm,fun k hk=>?_,by omega,fun _=>by omega,fun k h0 h1 h2 h3=>?_,fun k h0 h1 h2 h3=>?_⟩
 ·rw [mK hil hjl,if_neg (by omega),if_neg (by omega),h.out k hk]
 ·rw [mK hil hjl,mK hil hjl,if_neg h3]
  by_cases hp:(k-1) / 2=i
  ·rw [if_pos hp]
   by_cases hk:k=j
   ·rw [if_pos hk];omega
   ·rw [if_neg hk,if_neg (by omega)]
    exact hmin k h1 (by omega)
  ·rw [if_neg hp,if_neg (by intro e;subst e;exact hp hpj)]
   by_cases hk:k=i
   ·rw [if_pos hk]
    subst hk
    exact h.up j (by omega) hj hpj (by omega)
   ·rw [if_neg hk]
    exact h.heap k h0 h1 h2 hp
 ·rw [mK hil hjl,mK hil hjl,hpj,if_neg (by omega),if_pos rfl,if_neg (by omega),if_neg (by omega)]
  have:=h.heap k h0 h1 (by omega) (by omega)
  rw [h2] at this
  exact this
theorem Sunk.stop {xs0 xs:List α} {i0 i n:Nat} (h:Sunk c z xs0 xs i0 i n) (hmin:∀k,k<n→(k=2*i+1∨k=2*i+2)→c (atL z xs i) (atL z xs k)≤0):iT c (atL z xs) i0 n:=by
 intro k h0 h1 h2
 by_cases hp:(k-1) / 2=i
 ·rw [hp];exact hmin k h1 (by omega)
 ·exact h.heap k h0 h1 h2 hp
structure Sank (c:α→α→Int) (z:α) (xs0 xs:List α) (i0 n:Nat):Prop where
 perm:xs.Perm xs0
 out:∀k,n≤k→atL z xs k=atL z xs0 k
 heap:iT c (atL z xs) i0 n
theorem Sunk.sank {xs0 xs:List α} {i0 i n:Nat} (h:Sunk c z xs0 xs i0 i n) (hmin:∀k,k<n→(k=2*i+1∨k=2*i+2)→c (atL z xs i) (atL z xs k)≤0):Sank c z xs0 xs i0 n:=⟨h.perm,h.out,h.stop hmin⟩
theorem iT.swapped {xs:List α} {n:Nat} (h:iT c (atL z xs) 0 (n+1)) (hn:n<xs.length):iT c (atL z (sw z xs 0 n)) 1 n:=by
 intro k h0 h1 h2
 rw [mK (by omega) hn,mK (by omega) hn,if_neg (by omega),if_neg (by omega),if_neg (by omega),if_neg (by omega)]
 exact h k h0 (by omega) (yZ _)
theorem popped (hc:Ord3 c) {xs zs:List α} {n:Nat} (hx:xs.length=n+1) (h:iT c (atL z xs) 0 (n+1)) (hs:Sank c z (sw z xs 0 n) zs 0 n) :
 zs.length=n+1∧atL z zs n=atL z xs 0∧xs.Perm (atL z zs n::zs.take n)∧iT c (atL z (zs.take n)) 0 n∧∀b∈zs.take n,c (atL z zs n) b≤0:=by
 have hl:zs.length=n+1:=by rw [hs.perm.length_eq,ef,hx]
 have h1:atL z zs n=atL z xs 0:=by
  rw [hs.out n (yY _),mK (by omega) (by omega),if_pos rfl]
 have h2:xs.Perm (atL z zs n::zs.take n):=by
  have e:zs=zs.take n++[atL z zs n]:=by
   rw [cG (by omega),←List.take_succ_eq_append_getElem (by omega:n<zs.length),List.take_of_length_le (by omega)]
  have p:xs.Perm zs:=((qD (z:=z) (xs:=xs) (by omega) (by omega)).symm).trans hs.perm.symm
  refine p.trans ?_
  conv=>lhs;rw [e]
  exact List.perm_append_singleton _ _
 refine ⟨hl,h1,h2,?_,?_⟩
 ·intro k h0 h1 h2
  have e:∀m,m<n→atL z (zs.take n) m=atL z zs m:=fun m hm=>by
   rw [cG (by rw [List.length_take];omega),cG (by omega),List.getElem_take]
  rw [e _ (by omega),e _ h1]
  exact hs.heap k h0 h1 h2
 ·intro b hb
  rw [h1]
  have hb':b∈xs:=h2.symm.subset (List.mem_cons_of_mem _ hb)
  obtain ⟨k,hk,rfl⟩:=List.getElem_of_mem hb'
  rw [←cG hk]
  exact h.least hc k (by omega)
structure Piled (c:α→α→Int) (z:α) (l out xs:List α):Prop where
 heap:iT c (atL z xs) 0 xs.length
 sorted:out.Pairwise (fun a b=>c a b<0)
 le:∀a∈out,∀b∈xs,c a b≤0
 mem:∀t,(t∈out∨t∈xs)↔t∈l
 len:out.length+xs.length≤l.length
theorem Piled.more (hc:Ord3 c) {l out xs rest:List α} {x:α} (h:Piled c z l out xs) (hp:xs.Perm (x::rest)) (hh:iT c (atL z rest) 0 rest.length) (hm:∀b∈rest,c x b≤0)
 (hlast:∀y,out.getLast? = some y→c y x≠0):Piled c z l (out++[x]) rest:=by
 have hx:x∈xs:=hp.symm.subset (by simp)
 refine ⟨hh,?_,?_,fun t=>?_,?_⟩
 ·rw [List.pairwise_append]
  refine ⟨h.sorted,by simp,fun a ha b hb=>?_⟩
  obtain rfl:b=x:=by simpa using hb
  rcases List.eq_nil_or_concat out with e | ⟨o,y,e⟩
  ·subst e;simp at ha
  ·rw [List.concat_eq_append] at e
   subst e
   have hy:c y b<0:=by
    have:=h.le y (by simp) b hx
    have:=hlast y (by simp)
    omega
   rcases List.mem_append.1 ha with ha | ha
   ·have:=(List.pairwise_append.1 h.sorted).2.2 a ha y (by simp)
    exact hc.lt_le this (by omega)
   ·obtain rfl:a=y:=by simpa using ha
    exact hy
 ·intro a ha b hb
  rcases List.mem_append.1 ha with ha | ha
  ·exact h.le a ha b (hp.symm.subset (List.mem_cons_of_mem _ hb))
  ·obtain rfl:a=x:=by simpa using ha
   exact hm b hb
 ·rw [←h.mem t,hp.mem_iff,List.mem_append,List.mem_singleton,List.mem_cons,or_assoc]
 ·have:=h.len;have:=hp.length_eq
  simp only [List.length_append,List.length_cons,List.length_nil] at *;omega
theorem Piled.skip {l out xs rest:List α} {x y:α} (h:Piled c z l out xs) (hp:xs.Perm (x::rest)) (hh:iT c (atL z rest) 0 rest.length) (hlast:out.getLast? = some y) (he:y=x):Piled c z l out rest:=by
 subst he
 have hy:y∈out:=List.mem_of_getLast? hlast
 refine ⟨hh,h.sorted,fun a ha b hb=>h.le a ha b (hp.symm.subset (List.mem_cons_of_mem _ hb)),fun t=>?_,?_⟩
 ·rw [←h.mem t,hp.mem_iff,List.mem_cons]
  constructor
  ·rintro (k | k)
   ·exact .inl k
   ·exact .inr (.inr k)
  ·rintro (k | k | k)
   ·exact .inl k
   ·subst k;exact .inl hy
   ·exact .inr k
 ·have:=h.len;have:=hp.length_eq
  simp only [List.length_cons] at *;omega
def uH (c:α→α→Int) (t:α):List α→List α
 | []=>[t]
 | x::xs=>if c x t<0 then x::uH c t xs else if c x t=0 then x::xs else t::x::xs
def setL (c:α→α→Int) (l:List α):List α:=l.foldl (fun out t=>uH c t out) []
theorem mU {t:α}:∀{xs:List α},(∀x∈xs,c x t=0→x=t)→∀u,u∈uH c t xs↔u=t∨u∈xs
 | [],_,u=>by simp [uH]
 | x::xs,h,u=>by
   unfold uH
   split
   ·rw [List.mem_cons,mU (fun y hy=>h y (by simp [hy])),List.mem_cons]
    constructor
    ·rintro (k | k | k)
     ·exact .inr (.inl k)
     ·exact .inl k
     ·exact .inr (.inr k)
    ·rintro (k | k | k)
     ·exact .inr (.inl k)
     ·exact .inl k
     ·exact .inr (.inr k)
   ·split
    ·rename_i h0
     have:=h x (by simp) h0
     subst this
     simp
    ·simp
theorem kQ (hc:Ord3 c) {t:α}:∀{xs:List α},xs.Pairwise (fun a b=>c a b<0)→(∀x∈xs,c x t=0→x=t)→(uH c t xs).Pairwise (fun a b=>c a b<0)
 | [],_,_=>by simp [uH]
 | x::xs,h,he=>by
   obtain ⟨h1,h2⟩:=List.pairwise_cons.1 h
   unfold uH
   split
   ·rename_i hlt
    rw [List.pairwise_cons]
    refine ⟨fun a ha=>?_,kQ hc h2 (fun y hy=>he y (by simp [hy]))⟩
    rcases (mU (fun y hy=>he y (by simp [hy])) a).1 ha with e | e
    ·rw [e];exact hlt
    ·exact h1 a e
   ·split
    ·exact h
    ·rename_i h3 h4
     rw [List.pairwise_cons]
     refine ⟨fun a ha=>?_,h⟩
     have ht:c t x<0:=by have:=hc.anti x t;omega
     rcases List.mem_cons.1 ha with e | e
     ·rw [e];exact ht
     ·exact hc.lt_le ht (by have:=h1 a e;omega)
theorem ng (hc:Ord3 c):∀(l out:List α),(∀a,(a∈out∨a∈l)→∀b,(b∈out∨b∈l)→c a b=0→a=b)→out.Pairwise (fun a b=>c a b<0) →
 (l.foldl (fun out t=>uH c t out) out).Pairwise (fun a b=>c a b<0)∧∀t,t∈l.foldl (fun out t=>uH c t out) out↔t∈out∨t∈l
 | [],out,_,h=>⟨h,fun t=>by simp⟩
 | x::l,out,he,h=>by
   have hx:∀y∈out,c y x=0→y=x:=fun y hy=>he y (.inl hy) x (.inr (by simp))
   have hm:=mU (c:=c) hx
   obtain ⟨h1,h2⟩:=ng hc l (uH c x out) (fun a ha b hb=>by
    refine he a ?_ b ?_
    ·rw [hm] at ha
     rcases ha with (k | k) | k
     ·exact .inr (by simp [k])
     ·exact .inl k
     ·exact .inr (by simp [k])
    ·rw [hm] at hb
     rcases hb with (k | k) | k
     ·exact .inr (by simp [k])
     ·exact .inl k
     ·exact .inr (by simp [k])) (kQ hc h hx)
   refine ⟨h1,fun t=>?_⟩
   rw [List.foldl_cons,h2,hm,List.mem_cons]
   constructor
   ·rintro ((k | k) | k)
    ·exact .inr (.inl k)
    ·exact .inl k
    ·exact .inr (.inr k)
   ·rintro (k | k | k)
    ·exact .inl (.inr k)
    ·exact .inl (.inl k)
    ·exact .inr k
theorem qA (hc:Ord3 c) {l:List α} (he:∀a∈l,∀b∈l,c a b=0→a=b):(setL c l).Pairwise (fun a b=>c a b<0):=
 (ng hc l [] (fun a ha b hb=>he a (by simpa using ha) b (by simpa using hb)) (by simp)).1
theorem xP (hc:Ord3 c) {l:List α} (he:∀a∈l,∀b∈l,c a b=0→a=b) (t:α):t∈setL c l↔t∈l:=by
 have:=(ng hc l [] (fun a ha b hb=>he a (by simpa using ha) b (by simpa using hb)) (by simp)).2 t
 simpa [setL] using this
theorem lv (hc:Ord3 c):∀{xs ys:List α},xs.Pairwise (fun a b=>c a b<0)→ys.Pairwise (fun a b=>c a b<0)→(∀t,t∈xs↔t∈ys)→xs=ys
 | [],[],_,_,_=>rfl
 | [],y::ys,_,_,h=>absurd ((h y).2 (by simp)) (by simp)
 | x::xs,[],_,_,h=>absurd ((h x).1 (by simp)) (by simp)
 | x::xs,y::ys,hx,hy,h=>by
   obtain ⟨x1,x2⟩:=List.pairwise_cons.1 hx
   obtain ⟨y1,y2⟩:=List.pairwise_cons.1 hy
   have e:x=y:=by
    rcases List.mem_cons.1 ((h x).1 (by simp)) with e | e
    ·exact e
    ·rcases List.mem_cons.1 ((h y).2 (by simp)) with e' | e'
     ·exact e'.symm
     ·have a:=y1 x e
      have b:=x1 y e'
      have:=hc.anti x y
      omega
   subst e
   rw [lv hc x2 y2 fun t=>?_]
   have hn:∀{zs:List α},(∀a∈zs,c x a<0)→x∉zs:=fun hz hm=>by
    have:=hz x hm
    have:=hc.self x
    omega
   constructor
   ·intro k
    rcases List.mem_cons.1 ((h t).1 (by simp [k])) with e | e
    ·subst e;exact absurd k (hn x1)
    ·exact e
   ·intro k
    rcases List.mem_cons.1 ((h t).2 (by simp [k])) with e | e
    ·subst e;exact absurd k (hn y1)
    ·exact e
theorem Piled.done (hc:Ord3 c) {l out:List α} (he:∀a∈l,∀b∈l,c a b=0→a=b) (h:Piled c z l out []):out=setL c l:=
 lv hc h.sorted (qA hc he) fun t=>by
  rw [xP hc he,←h.mem t];simp
end
structure TV where
 t:Tm
 a:Option Addr
 c:Nat
def TV.cs (x:TV):List Value:=[.int .i64 x.t.kind,.int .i64 x.t.n,.string x.t.s,.slice x.a 0 x.c]
def tv0:TV:=⟨⟨0,0,⟨#[]⟩,[]⟩,none,0⟩
def cTV (x y:TV):Int:=aU 3 x.t y.t
theorem cTV_ord:Ord3 cTV:=(eV 3).by TV.t
def qN (cur:Array Value) (xs:List TV):Prop:=∀k,k<xs.length→∀b,b<4→cur[k*4+b]? = (atL tv0 xs k).cs[b]?
def sM (cur:Array Value) (o:Nat) (x:TV):Array Value:=
 (((cur.setIfInBounds o (.int .i64 x.t.kind)).setIfInBounds (o+1) (.int .i64 x.t.n)).setIfInBounds (o+2) (.string x.t.s)).setIfInBounds (o+3) (.slice x.a 0 x.c)
theorem oO {cur:Array Value} {i k b:Nat} {x:TV} (h:i*4+3<cur.size) (hb:b<4):(sM cur (i*4) x)[k*4+b]? = if k=i then x.cs[b]? else cur[k*4+b]?:=by
 unfold sM
 simp only [Array.getElem?_setIfInBounds,Array.size_setIfInBounds]
 by_cases hk:k=i
 ·subst hk
  have h4:b=0∨b=1∨b=2∨b=3:=by omega
  rcases h4 with rfl | rfl | rfl | rfl
  ·rw [if_neg (by omega),if_neg (by omega),if_neg (by omega),if_pos (by omega),if_pos (by omega),if_pos rfl];rfl
  ·rw [if_neg (by omega),if_neg (by omega),if_pos (by omega),if_pos (by omega),if_pos rfl];rfl
  ·rw [if_neg (by omega),if_pos (by omega),if_pos (by omega),if_pos rfl];rfl
  ·rw [if_pos (by omega),if_pos (by omega),if_pos rfl];rfl
 ·rw [if_neg (by omega),if_neg (by omega),if_neg (by omega),if_neg (by omega),if_neg hk]
theorem sN {cur:Array Value} {o:Nat} {x:TV}:(sM cur o x).size=cur.size:=by simp [sM]
theorem qN.size {cur:Array Value} {xs:List TV} (h:qN cur xs) {k:Nat} (hk:k<xs.length):k*4+3<cur.size:=by
 have:=h k hk 3 (by omega)
 rcases Nat.lt_or_ge (k*4+3) cur.size with h1 | h1
 ·exact h1
 ·rw [Array.getElem?_eq_none h1] at this;cases this
theorem qN.swap {cur:Array Value} {xs:List TV} {i j:Nat} (h:qN cur xs) (hi:i<xs.length) (hj:j<xs.length) :
 qN (sM (sM cur (i*4) (atL tv0 xs j)) (j*4) (atL tv0 xs i)) (sw tv0 xs i j):=by
 intro k hk b hb
 rw [ef] at hk
 rw [oO (by rw [sN];exact h.size hj) hb,mK hi hj]
 by_cases h1:k=j
 ·rw [if_pos h1,if_pos h1]
 ·rw [if_neg h1,if_neg h1,oO (h.size hi) hb]
  by_cases h2:k=i
  ·rw [if_pos h2,if_pos h2]
  ·rw [if_neg h2,if_neg h2];exact h k hk b hb
theorem qN.take {cur:Array Value} {xs:List TV} (h:qN cur xs) (n:Nat):qN cur (xs.take n):=by
 intro k hk b hb
 rw [List.length_take] at hk
 rw [h k (by omega) b hb]
 congr 2
 rw [cG (by omega),cG (by rw [List.length_take];omega),List.getElem_take]
def PAt (w:World) (P G:Nat) (xs:List TV) (c:Nat):Prop:=Blk w P #[.slice (some ⟨G,0,none⟩) xs.length c]∧∃cur,Blk w G cur∧qN cur xs
def PRd (w:World) (B d:Nat) (xs:List TV):Prop:=∀x∈xs,RTm w B d x.t x.cs
theorem PRd.below {w w':World} {B C d:Nat} {xs:List TV} (h:PRd w B d xs) (hb:Below C w w') (hB:B≤C):PRd w' B d xs:=fun x hx=>(h x hx).below hb hB
theorem pn {α:Type} {z:α} {xs:List α} {k:Nat} (h:k<xs.length):atL z xs k∈xs:=by rw [cG h];exact List.getElem_mem h
theorem dY (A:Option Addr) (n c:Nat) (w:World) :
 Calls Tryz.prog 314 #[.slice A n c] w fun e w'=>e=.returned (.int .i64 n)∧w=w':=by
 go_enter Tryz.func314,Tryz.ntmps314
 go_wp2_with fail
 go_ret
 exact ⟨rfl,rfl⟩
theorem oJ {w:World} {G c B d i j:Nat} {xs:List TV} {cur:Array Value} (hG:Blk w G cur) (hr:qN cur xs) (hd:PRd w B d xs) (hB:B≤w.heap.size) (hi:i<xs.length) (hj:j<xs.length) (hn:xs.length≤1000000) :
 Calls Tryz.prog 357 #[.slice (some ⟨G,0,none⟩) xs.length c,.int .i64 i,.int .i64 j] w fun e w'=>e=.returned (.bool (decide (cTV (atL tv0 xs i) (atL tv0 xs j)<0)))∧Below w.heap.size w w':=by
 have hx:=hd _ (pn (z:=tv0) hi)
 have hy:=hd _ (pn (z:=tv0) hj)
 have i0:=hr i hi 0 (by omega)
 have i1:=hr i hi 1 (by omega)
 have i2:=hr i hi 2 (by omega)
 have i3:=hr i hi 3 (by omega)
 have j0:=hr j hj 0 (by omega)
 have j1:=hr j hj 1 (by omega)
 have j2:=hr j hj 2 (by omega)
 have j3:=hr j hj 3 (by omega)
 unfold cTV
 generalize atL tv0 xs i=x at *
 generalize atL tv0 xs j=y at *
 simp only [TV.cs,List.getElem?_cons_zero,List.getElem?_cons_succ,Nat.add_zero] at i0 i1 i2 i3 j0 j1 j2 j3
 have HX:=yW hx
 have HY:=yW hy
 clear hx hy
 have q_G:=hG.regrown
 go_enter Tryz.func357,Tryz.ntmps357
 have k_G:=hG.cell
 go_wp2_with fail
 refine wp_region_quiet_below (by kernel_rfl) (by kernel_rfl) ?_
 repeat (go_big_quiet_step ((go_at_call 62;exact Calls.regrown_of (df d d x.t y.t x.cs y.cs B _ (HX.out.below (below_regrown _ _ _) hB) (HY.out.below (below_regrown _ _ _) hB) (yX hB (below_regrown _ _ _).size)))))
 refine wpQuiet_nil ?_
 intro w1 hw1
 have hb1:Below w.heap.size w w1:=by obtain ⟨p,rfl⟩:=hw1;exact below_regrown _ _ _
 clear hw1 q_G k_G
 go_wp2_with fail
 go_ret
 exact ⟨rfl,hb1⟩
theorem oK {w:World} {G c i j:Nat} {xs:List TV} {cur:Array Value} (hG:Blk w G cur) (hr:qN cur xs) (hi:i<xs.length) (hj:j<xs.length) (hn:xs.length≤1000000) :
 Calls Tryz.prog 358 #[.slice (some ⟨G,0,none⟩) xs.length c,.int .i64 i,.int .i64 j] w fun e w'=>e=.returned (.tuple #[])∧Exc G w w'∧∃cur',Blk w' G cur'∧qN cur' (sw tv0 xs i j):=by
 have HS:=yW (hr.swap hi hj)
 have i0:=hr i hi 0 (by omega)
 have i1:=hr i hi 1 (by omega)
 have i2:=hr i hi 2 (by omega)
 have i3:=hr i hi 3 (by omega)
 have j0:=hr j hj 0 (by omega)
 have j1:=hr j hj 1 (by omega)
 have j2:=hr j hj 2 (by omega)
 have j3:=hr j hj 3 (by omega)
 generalize hxe:atL tv0 xs i=x at *
 generalize hye:atL tv0 xs j=y at *
 simp only [TV.cs,List.getElem?_cons_zero,List.getElem?_cons_succ,Nat.add_zero] at i0 i1 i2 i3 j0 j1 j2 j3
 go_enter Tryz.func358,Tryz.ntmps358
 have k_G:=hG.cell
 have f_G:=hG.free
 by_cases e:j=i
 ·subst e
  obtain rfl:x=y:=by rw [←hxe,←hye]
  go_wp2_with fail
  go_region
  all_goals go_end0
  all_goals exact ⟨rfl,((((((((((Exc.refl G w).set _ _).set _ _).set _ _).set _ _).set _ _).set _ _).set _ _).set _ _)).drew,_,((((((((hG.set_ _ _).set_ _ _).set_ _ _).set_ _ _).set_ _ _).set_ _ _).set_ _ _).set_ _ _).drew,HS.out⟩
 ·have n00:¬(j*4=i*4):=by omega
  have n01:¬(j*4=i*4+1):=by omega
  have n02:¬(j*4=i*4+2):=by omega
  have n03:¬(j*4=i*4+3):=by omega
  have n10:¬(j*4+1=i*4):=by omega
  have n11:¬(j*4+1=i*4+1):=by omega
  have n12:¬(j*4+1=i*4+2):=by omega
  have n13:¬(j*4+1=i*4+3):=by omega
  have n20:¬(j*4+2=i*4):=by omega
  have n21:¬(j*4+2=i*4+1):=by omega
  have n22:¬(j*4+2=i*4+2):=by omega
  have n23:¬(j*4+2=i*4+3):=by omega
  have n30:¬(j*4+3=i*4):=by omega
  have n31:¬(j*4+3=i*4+1):=by omega
  have n32:¬(j*4+3=i*4+2):=by omega
  have n33:¬(j*4+3=i*4+3):=by omega
  go_wp2_with fail
  go_region
  all_goals go_end0
  all_goals exact ⟨rfl,((((((((((Exc.refl G w).set _ _).set _ _).set _ _).set _ _).set _ _).set _ _).set _ _).set _ _)).drew,_,((((((((hG.set_ _ _).set_ _ _).set_ _ _).set_ _ _).set_ _ _).set_ _ _).set_ _ _).set_ _ _).drew,HS.out⟩
end Go.Proofs.YtdphibjibnffeaaGreat
