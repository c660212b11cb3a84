/- A heap in a list: sinking, the least one; a set made of a list. Plain. -/
import Derived.Test.YtjpndglegpcdnaaGreatTerm5
import Derived.Test.YtjpndglegpcdnaaGreatBSearch
import Derived.Test.YtjpndglegpcdnaaGreatOwn
import Derived.Test.YtjpndglegpcdnaaGreatBS
import Derived.Laws.Cover3
set_option linter.unusedVariables false
set_option linter.unusedSimpArgs false
set_option maxRecDepth 100000
set_option maxHeartbeats 8000000
namespace Go.Proofs.YtjpndglegpcdnaaGreat
theorem yr {a b c:Nat}(h:a<b)(k:b≤c):a<c:=Nat.lt_of_lt_of_le h k
theorem yE {α:Type _}{a:α}{l:List α}:(a::l).length=l.length+1:=List.length_cons
theorem tE (x y:Int):eA x y=-eA y x:=by unfold eA;split<;>split<;>omega
theorem dL {x y:Int}:eA x y=0↔x=y:=by unfold eA;split<;>(try split)<;>omega
theorem nV (x y:List UInt8):dE x y=-dE y x:=by
 unfold dE
 by_cases h1:x<y
 ·rw [if_pos h1,if_neg (List.lt_asymm h1),if_pos h1]
 ·by_cases h2:y<x
  ·rw [if_neg h1,if_pos h2,if_pos h2];rfl
  ·rw [if_neg h1,if_neg h2,if_neg h2,if_neg h1];rfl
theorem dM {x y:List UInt8}:dE x y=0↔x=y:=by
 constructor
 ·intro h
  unfold dE at h
  by_cases h1:x<y
  ·rw [if_pos h1] at h;omega
  ·by_cases h2:y<x
   ·rw [if_neg h1,if_pos h2] at h;omega
   ·exact List.le_antisymm (List.not_lt.1 h2) (List.not_lt.1 h1)
 ·rintro rfl
  unfold dE
  rw [if_neg (List.lt_irrefl _),if_neg (List.lt_irrefl _)]
theorem vZ {x y:List UInt8}:dE x y<0↔x<y:=by
 unfold dE
 by_cases h1:x<y
 ·simp [h1]
 ·by_cases h2:y<x
  ·rw [if_neg h1,if_pos h2];simp [h1]
  ·rw [if_neg h1,if_neg h2];simp [h1]
structure Ord3 {α:Type} (c:α→α→Int):Prop where
 anti:∀x y,c x y=-c y x
 trans:∀x y z,c x y≤0→c y z≤0→c x z≤0
section
variable {α:Type} {c:α→α→Int}
theorem Ord3.self (h:Ord3 c) (x:α):c x x=0:=by have:=h.anti x x;omega
theorem Ord3.lt_le (h:Ord3 c) {x y z:α} (h1:c x y<0) (h2:c y z≤0):c x z<0:=by
 have t:=h.trans x y z (by omega) h2
 rcases Int.lt_or_eq_of_le t with t | t
 ·exact t
 ·have a:=h.anti x z
  have b:=h.trans y z x h2 (by omega)
  have d:=h.anti x y
  omega
theorem Ord3.le_lt (h:Ord3 c) {x y z:α} (h1:c x y≤0) (h2:c y z<0):c x z<0:=by
 have t:=h.trans x y z h1 (by omega)
 rcases Int.lt_or_eq_of_le t with t | t
 ·exact t
 ·have a:=h.anti x z
  have b:=h.trans z x y (by omega) h1
  have d:=h.anti y z
  omega
theorem Ord3.zero_l (h:Ord3 c) {x y z:α} (h1:c x y=0):c x z=c y z∨(c x z<0∧c y z<0)∨(0<c x z∧0<c y z):=by
 have h1':=h.anti x y
 rcases Int.lt_trichotomy (c y z) 0 with k | k | k
 ·exact .inr (.inl ⟨h.le_lt (by omega) k,k⟩)
 ·left
  have a:=h.trans x y z (by omega) (by omega)
  have b:=h.trans z y x (by have:=h.anti z y;omega) (by omega)
  have d:=h.anti x z
  omega
 ·right;right
  have a:=h.anti y z
  have b:=h.anti x z
  have d:=h.lt_le (x:=z) (y:=y) (z:=x) (by omega) (by omega)
  omega
end
theorem gi:Ord3 eA:=⟨tE,fun x y z h k=>by unfold eA at *;split at h<;>split at k<;>(try split at h)<;>(try split at k)<;>split<;>(try split)<;>omega⟩
theorem cmpS_le {x y:List UInt8}:dE x y≤0↔x≤y:=by
 have h:=nV x y
 have k:=@vZ y x
 rw [show (dE x y≤0)↔¬(dE y x<0) by omega,k]
 exact List.not_lt
theorem jT:Ord3 dE:=⟨nV,fun x y z h k=>by rw [cmpS_le] at *;exact List.le_trans h k⟩
theorem wV {x y z:Int}:or3 x y z=0↔x=0∧y=0∧z=0:=by
 unfold or3;split<;>(try split)<;>omega
def jk {α:Type} (c d:α→α→Int) (x y:α):Int:=if c x y=0 then d x y else c x y
theorem Ord3.andThen {α:Type} {c d:α→α→Int} (hc:Ord3 c) (hd:Ord3 d):Ord3 (jk c d):=by
 refine ⟨fun x y=>?_,fun x y z h k=>?_⟩
 ·unfold jk
  have h1:=hc.anti x y
  have h2:=hd.anti x y
  split<;>split<;>omega
 ·unfold jk at *
  by_cases h1:c x y=0
  ·rw [if_pos h1] at h
   by_cases h2:c y z=0
   ·rw [if_pos h2] at k
    have e:c x z=0:=by rcases hc.zero_l (z:=z) h1 with e | e | e<;>omega
    rw [if_pos e]
    exact hd.trans x y z h k
   ·rw [if_neg h2] at k
    have e:c x z<0:=by rcases hc.zero_l (z:=z) h1 with e | e | e<;>omega
    rw [if_neg (by omega)];omega
  ·rw [if_neg h1] at h
   have h':c x y<0:=by omega
   by_cases h2:c y z=0
   ·have e:=hc.lt_le h' (by omega:c y z≤0)
    rw [if_neg (by omega)];omega
   ·rw [if_neg h2] at k
    have e:=hc.lt_le h' k
    rw [if_neg (by omega)];omega
theorem Ord3.by {α β:Type} {c:β→β→Int} (hc:Ord3 c) (f:α→β):Ord3 (fun x y=>c (f x) (f y)):=⟨fun _ _=>hc.anti _ _,fun _ _ _=>hc.trans _ _ _⟩
theorem qF:Ord3 mg:=by
 have h:mg=jk (fun a b=>eA a.kind b.kind) (jk (fun a b=>eA a.n b.n) (fun a b=>dE (bs a.s) (bs b.s))):=by
  funext a b;rfl
 rw [h]
 exact (gi.by Tm.kind).andThen ((gi.by Tm.n).andThen (jT.by fun t:Tm=>bs t.s))
theorem mS {f:Tm→Tm→Int} (hf:Ord3 f):Ord3 (dG f):=by
 refine ⟨?_,?_⟩
 ·intro x
  induction x with
  | nil=>intro y;cases y<;>simp [dG]
  | cons a x ih=>
    intro y
    cases y with
    | nil=>simp [dG]
    | cons b y=>
      have h:=hf.anti a b
      have:=ih y
      simp only [dG]
      split<;>split<;>omega
 ·intro x
  induction x with
  | nil=>intro y z _ _;cases z<;>simp [dG]
  | cons a x ih=>
    intro y z h k
    cases y with
    | nil=>simp [dG] at h
    | cons b y=>
      cases z with
      | nil=>simp [dG] at k
      | cons d z=>
        have key:=(hf.andThen (c:=f) (d:=fun _ _=>0) ⟨fun _ _=>rfl,fun _ _ _ _ _=>by simp⟩)
        simp only [dG] at *
        by_cases h1:f a b=0
        ·rw [if_pos h1] at h
         by_cases h2:f b d=0
         ·rw [if_pos h2] at k
          have e:f a d=0:=by rcases hf.zero_l (z:=d) h1 with e | e | e<;>omega
          rw [if_pos e]
          exact ih y z h k
         ·rw [if_neg h2] at k
          have e:f a d<0:=by rcases hf.zero_l (z:=d) h1 with e | e | e<;>omega
          rw [if_neg (by omega)];omega
        ·rw [if_neg h1] at h
         have e:f a d<0:=by
          by_cases h2:f b d=0
          ·exact hf.lt_le (y:=b) (by omega) (by omega)
          ·rw [if_neg h2] at k;exact hf.lt_le (y:=b) (by omega) k
         rw [if_neg (by omega)];omega
theorem eP:∀d,Ord3 (cH d)
 | 0=>by
   have h:cH 0=mg:=by funext a b;rfl
   rw [h];exact qF
 | d+1=>by
   have h:cH (d+1)=jk mg (fun a b=>dG (cH d) a.l b.l):=by funext a b;rfl
   rw [h]
   exact qF.andThen ((mS (eP d)).by Tm.l)
theorem mf {a b:ByteArray} (h:bs a=bs b):a=b:=by
 have:a.data.toList=b.data.toList:=h
 cases a;cases b
 simp only [ByteArray.mk.injEq]
 exact Array.toList_inj.1 this
theorem nU {a b:Tm}:mg a b=0↔a.kind=b.kind∧a.n=b.n∧a.s=b.s:=by
 unfold mg
 rw [wV,dL,dL,dM]
 exact ⟨fun ⟨h,k,l⟩=>⟨h,k,mf l⟩,fun ⟨h,k,l⟩=>⟨h,k,by rw [l]⟩⟩
def iP (t:Tm):Prop:=t.l=[]
def Two (t:Tm):Prop:=∀x∈t.l,iP x
theorem pW {d:Nat} {a b:Tm} (ha:iP a) (hb:iP b) (h:cH d a b=0):a=b:=by
 have h0:mg a b=0:=by
  cases d with
  | zero=>exact h
  | succ d=>
    unfold cH at h
    by_cases k:mg a b=0
    ·exact k
    ·rw [if_neg k] at h;exact absurd h k
 obtain ⟨h1,h2,h3⟩:=nU.1 h0
 clear h0 h
 cases a;cases b
 unfold iP at ha hb
 simp only at *
 subst h1 h2 h3 ha hb
 rfl
theorem qY {d:Nat}:∀{a b:List Tm},(∀x∈a,iP x)→(∀x∈b,iP x)→dG (cH d) a b=0→a=b
 | [],[],_,_,_=>rfl
 | [],_::_,_,_,h=>by simp [dG] at h
 | _::_,[],_,_,h=>by simp [dG] at h
 | x::a,y::b,ha,hb,h=>by
   simp only [dG] at h
   by_cases k:cH d x y=0
   ·rw [if_pos k] at h
    rw [pW (ha x (by simp)) (hb y (by simp)) k,qY (fun z hz=>ha z (by simp [hz])) (fun z hz=>hb z (by simp [hz])) h]
   ·rw [if_neg k] at h;exact absurd h k
theorem two_eq {d:Nat} {a b:Tm} (ha:Two a) (hb:Two b) (h:cH (d+1) a b=0):a=b:=by
 unfold cH at h
 by_cases k:mg a b=0
 ·rw [if_pos k] at h
  obtain ⟨h1,h2,h3⟩:=nU.1 k
  have h4:=qY ha hb h
  clear h k ha hb
  cases a;cases b
  simp only at *
  subst h1 h2 h3 h4
  rfl
 ·rw [if_neg k] at h;exact absurd h k
theorem fB {t:Tm} (h:ew t=true):iP t:=by
 unfold ew at h
 rw [yx,yC] at h
 exact List.eq_nil_of_length_eq_zero h.1
open Go.ChangeShapes Go.WideShapes Go.ChangeAt Go.RowKit
theorem ar {w W:World} {o:Obj} (h:w.alloc o=W):Below w.heap.size w W:=(al1 h).1
theorem kL {t:Tm} (h:af t=true):if t.kind=7 then t.n=0∧t.s.size=0∧fT t.l=true else t.l=[]:=by
 unfold af kc at h
 rw [yx] at h
 by_cases h7:t.kind=7
 ·rw [if_pos h7] at h ⊢
  have h2:=h.2
  simp only [yx,yC] at h2
  exact ⟨h2.1.1,h2.1.2,h2.2⟩
 ·rw [if_neg h7] at h ⊢
  exact fB h.2
theorem dr {l:List Tm} (h:fT l=true):l.length≤16∧∀x∈l,iP x:=by
 unfold fT at h
 rw [yx,List.all_eq_true,yC] at h
 refine ⟨h.2,fun x hx=>?_⟩
 obtain ⟨i,hi,rfl⟩:=List.getElem_of_mem hx
 have:=h.1 i (List.mem_range.2 hi)
 unfold jC at this
 rw [yy hi,yy (show 0<l.length by omega),yy (show i-1<l.length by omega)] at this
 simp only [yx] at this
 exact fB this.1.1.1
theorem dV (d:Nat):dz (TmR d):=fun h u hu=>by
 obtain ⟨_,_,rfl,_⟩:=RTm.cells h
 simp only [List.mem_cons,List.not_mem_nil,or_false] at hu
 rcases hu with rfl | rfl | rfl | rfl<;>rfl
theorem gJ:(Tryz.prog.info? 29).map (fun i=>(i.zero,i.size,i.bytes))=some (some (.agg #[.int .i64 0,.int .i64 0,.string ⟨#[]⟩,.slice none 0 0]),4,56):=by kernel_rfl
def Exc (g:Nat) (w w':World):Prop:=Below g w w'∧∀b,b<w.heap.size→b≠g→w'.heap[b]? = w.heap[b]?
section
variable {g:Nat} {a b c:World}
theorem Exc.refl (g:Nat) (w:World):Exc g w w:=⟨yq _ _,fun _ _ _=>rfl⟩
theorem Exc.trans (h:Exc g a b) (k:Exc g b c):Exc g a c:=
 ⟨h.1.trans k.1,fun i hi hg=>(k.2 i (yr hi h.1.size) hg).trans (h.2 i hi hg)⟩
theorem Exc.of (hg:g≤a.heap.size) (h:Below a.heap.size a b):Exc g a b:=⟨h.mono hg,fun i hi _=>h.block i hi⟩
theorem Exc.then (h:Exc g a b) (hg:g≤a.heap.size) (k:Below b.heap.size b c):Exc g a c:=h.trans (Exc.of (yn hg h.1.size) k)
theorem Exc.set (h:Exc g a b) (i:Nat) (v:Value):Exc g a (b.setCell ⟨g,i,none⟩ v):=
 ⟨h.1.setCell (p:=⟨g,i,none⟩) (yo _) v,fun k hk hg=>(Below.heap_setCell b ⟨g,i,none⟩ v k hg).trans (h.2 k hk hg)⟩
theorem Exc.drew (h:Exc g a b):Exc g a b.drew:=⟨h.1.drew,h.2⟩
theorem Exc.blk {x:Nat} {vs:Array Value} (h:Exc g a b) (hx:x≠g) (hb:Blk a x vs):Blk b x vs:=by
 have hl:=hb.lt
 obtain ⟨T,hb⟩:=hb
 exact ⟨T,(h.2 x hl hx).trans hb⟩
end
theorem am.exc {α:Type} {R:Reader α} {e:TypeId} {w w':World} {base g:Nat} {v:Value} {xs:List α} (h:am R e w base 0 v xs) (he:Exc g w w') (hg:g<base):am R e w' base 0 v xs:=by
 obtain ⟨cells,h,hf⟩:=h
 refine ⟨cells,⟨h.1,?_⟩,hf.keep (he.1.mono (yp _)) (yo _)⟩
 rcases h.2 with h2 | ⟨g',cap,cur,hv,hg',hh,r⟩
 ·exact .inl h2
 ·refine .inr ⟨g',cap,cur,hv,hg',?_,r⟩
  have hlt:g'<w.heap.size:=by
   rcases Nat.lt_or_ge g' w.heap.size with h' | h'
   ·exact h'
   ·rw [Array.getElem?_eq_none h'] at hh;cases hh
  rw [he.2 g' hlt (by omega)];exact hh
theorem Exc.own {g base:Nat} {a b c:World} (h:Exc g a b) (k:Below base b c) (hb:a.heap.size≤base) (hg:g<base):Exc g a c:=
 ⟨h.1.trans (k.mono (by omega)),fun i hi hne=>(k.block i (by omega)).trans (h.2 i hi hne)⟩
def gc (g h:Nat) (w w':World):Prop:=Below (min g h) w w'∧∀b,b<w.heap.size→b≠g→b≠h→w'.heap[b]? = w.heap[b]?
section
variable {g h:Nat} {a b c:World}
theorem gc.refl (g h:Nat) (w:World):gc g h w w:=⟨yq _ _,fun _ _ _ _=>rfl⟩
theorem gc.trans (k:gc g h a b) (l:gc g h b c):gc g h a c:=
 ⟨k.1.trans l.1,fun i hi h1 h2=>(l.2 i (yr hi k.1.size) h1 h2).trans (k.2 i hi h1 h2)⟩
theorem Exc.left (k:Exc g a b) (h:Nat):gc g h a b:=⟨k.1.mono (Nat.min_le_left _ _),fun i hi h1 _=>k.2 i hi h1⟩
theorem Exc.right (k:Exc h a b) (g:Nat):gc g h a b:=⟨k.1.mono (Nat.min_le_right _ _),fun i hi _ h2=>k.2 i hi h2⟩
theorem gc.of (hg:min g h≤a.heap.size) (k:Below a.heap.size a b):gc g h a b:=⟨k.mono hg,fun i hi _ _=>k.block i hi⟩
theorem gc.then (k:gc g h a b) (hg:min g h≤a.heap.size) (l:Below b.heap.size b c):gc g h a c:=k.trans (gc.of (yn hg k.1.size) l)
theorem gc.blk {x:Nat} {vs:Array Value} (k:gc g h a b) (h1:x≠g) (h2:x≠h) (hb:Blk a x vs):Blk b x vs:=by
 have hl:=hb.lt
 obtain ⟨T,hb⟩:=hb
 exact ⟨T,(k.2 x hl h1 h2).trans hb⟩
end
theorem am.exc2 {α:Type} {R:Reader α} {e:TypeId} {w w':World} {base B g h:Nat} {v:Value} {xs:List α} (k:am R e w base B v xs) (he:gc g h w w') (hg:g<base) (hh:h<base) (hB:B≤min g h):am R e w' base B v xs:=by
 obtain ⟨cells,k,hf⟩:=k
 refine ⟨cells,⟨k.1,?_⟩,hf.keep he.1 hB⟩
 rcases k.2 with h2 | ⟨g',cap,cur,hv,hg',hh',r⟩
 ·exact .inl h2
 ·refine .inr ⟨g',cap,cur,hv,hg',?_,r⟩
  have hlt:g'<w.heap.size:=by
   rcases Nat.lt_or_ge g' w.heap.size with h' | h'
   ·exact h'
   ·rw [Array.getElem?_eq_none h'] at hh';cases hh'
  rw [he.2 g' hlt (by omega) (by omega)];exact hh'
theorem il {P:Program} (t e:TypeId) (a:Addr) (l c:Nat) (h:P.underlying t=some (.slice e)) (w:World):(binOp .eql t (.slice (some a) l c) (.slice none 0 0)).run P w=.ok (.bool false) w:=by
 simp only [binOp]
 simp [run_equal_slice_nil w t e (some a) l c h]
theorem jv {P:Program} (t e:TypeId) (l c:Nat) (h:P.underlying t=some (.slice e)) (w:World):(binOp .eql t (.slice none l c) (.slice none 0 0)).run P w=.ok (.bool true) w:=by
 simp only [binOp]
 simp [run_equal_slice_nil w t e none l c h]
def hJ (a b:Tm):Bool:=decide (cH 3 a b=0)
def jM (s t:Tm):Bool:=decide (s.kind=7)&&s.l.any fun x=>hJ x t
theorem eZ {d d' B:Nat} {a b:Tm} {vs ws:List Value} {w:World} (ha:RTm w B d a vs) (hb:RTm w B d' b ws) (hB:B≤w.heap.size) :
 Calls Tryz.prog 124 #[.agg vs.toArray,.agg ws.toArray] w fun e w'=>e=.returned (.bool (hJ a b))∧Below w.heap.size w w':=by
 have HA:=ym ha
 have HB_:=ym hb
 obtain ⟨A,c,rfl,_⟩:=ha.cells
 obtain ⟨A',c',rfl,_⟩:=hb.cells
 clear ha hb
 go_enter Tryz.func124,Tryz.ntmps124
 go_wp2_with fail
 generalize hW:World.alloc _ _=w1
 obtain ⟨hb,hz⟩:=al2 hW
 have HB1:=ym hb
 clear hW hz hb
 refine (cX d d' a b [_,_,_,_] [_,_,_,_] B w1 (HA.out.below HB1.out hB) (HB_.out.below HB1.out hB) (yn hB HB1.out.size)).mono ?_
 rintro e w2 ⟨rfl,hb⟩
 have HB2:=ym (ac HB1.out hb)
 clear hb
 go_wp2_with fail
 go_ret
 exact ⟨rfl,HB2.out⟩
theorem rY {d d' B G:Nat} {t:Tm} {ws:List Value} {w:World} (hG:Blk w G ws.toArray) (ht:RTm w B d' t ws) (hB:B≤w.heap.size) :
 bS Tryz.prog (TmR d) cS B w 214 #[.pointer (some ⟨G,0,none⟩)] (fun x=>hJ x t):=by
 intro x vs w1 hb hr
 have HR:Hid (RTm w1 B d x vs):=ym hr
 obtain ⟨A,c,rfl,_⟩:=RTm.cells (show RTm w1 B d x vs from hr)
 have HT:=ym (ht.below hb hB)
 have hG1:=hG.later hb
 have hB1:=yn hB hb.size
 obtain ⟨A',c',rfl,_⟩:=ht.cells
 clear hr ht hb hG
 show Calls Tryz.prog 214 #[.agg #[_,_,_,_],.pointer (some ⟨G,0,none⟩)] w1 _
 have kG:=hG1.cell
 have lG:=hG1.lt
 go_enter Tryz.func214,Tryz.ntmps214
 go_wp2_with fail
 generalize hW:World.alloc _ _=w2
 obtain ⟨hb,hz⟩:=al1 hW
 have HB1:=ym hb
 clear hW hz hb kG lG
 refine (eZ (d:=d) (d':=d') (a:=x) (b:=t) (vs:=[_,_,_,_]) (ws:=[_,_,_,_]) (B:=B) (HR.out.below HB1.out hB1) (HT.out.below HB1.out hB1) (yn hB1 HB1.out.size)).mono ?_
 rintro e w3 ⟨rfl,hb⟩
 have HB2:=ym (ac HB1.out hb)
 clear hb
 go_wp2_with fail
 go_ret
 exact ⟨rfl,HB2.out⟩
theorem kQ {d d' B:Nat} {s t:Tm} {vs ws:List Value} {w:World} (hs:RTm w B (d+1) s vs) (ht:RTm w B d' t ws) (hB:B≤w.heap.size) :
 Calls Tryz.prog 207 #[.agg vs.toArray,.agg ws.toArray] w fun e w'=>e=.returned (.bool (jM s t))∧Below w.heap.size w w':=by
 obtain ⟨A,c,rfl,q1,q2,q3,q4,q5,hl⟩:=hs
 have HT:=ym ht
 obtain ⟨A',c',rfl,_⟩:=ht.cells
 have HL:Hid (RL (TmR d) w B s.l A):=ym hl
 clear hl ht
 by_cases h7:s.kind=7
 ·go_enter Tryz.func207,Tryz.ntmps207
  go_wp2_with fail
  generalize hW:World.alloc _ _=w1
  obtain ⟨hb,hz⟩:=al2 hW
  have bt:=n22 hW
  have HB1:=ym hb
  clear hW hz hb
  refine (bl d 214 _ _ s.l A _ B w1 (ent Tryz.func214 (by kernel_rfl) rfl) (HL.out.keep HB1.out hB) (yn hB HB1.out.size) (by omega) (rY (d':=d') (ws:=[_,_,_,_]) bt (HT.out.below HB1.out hB) (yn hB HB1.out.size))).mono ?_
  rintro e w2 ⟨rfl,hb⟩
  have HB2:=ym (ac HB1.out hb)
  clear hb
  go_wp2_with fail
  go_ret
  exact ⟨ae (by simp [jM,h7]),HB2.out⟩
 ·go_enter Tryz.func207,Tryz.ntmps207
  go_wp2_with fail
  go_ret
  exact ⟨ae (by simp [jM,h7]),((yq _ _).alloc (yo _) _).alloc (by simp) _⟩
theorem bP {d B c:Nat} {xs:List Tm} {A:Option Addr} {w:World} (hl:RL (TmR d) w B xs A) (hB:B≤w.heap.size) (hn:xs.length*56≤140737488351232) :
 Calls Tryz.prog 71 #[.slice A xs.length c] w fun e w'=>(∃v,e=.returned v∧am (TmR d) 29 w' w.heap.size B v xs)∧Below w.heap.size w w':=by
 obtain ⟨i0,hi0,hz0,hz1,hz2⟩:=info_parts gJ
 have hsrc:=ym (hl.keep ((yq w.heap.size w).alloc (yo _) (.cells #[] 29)) hB).src
 have hown:=ym (am.empty (base:=w.heap.size) (TmR d) 29 (w:=w.alloc (.cells #[] 29)) (b:=w.heap.size) (heap_alloc_new w _) (yo _) B)
 have HA:=ym ((yq w.heap.size w).alloc (yo _) (.cells #[] 29))
 rcases A with _ | a
 ·have h0:xs=[]:=by
   rcases xs with _ | ⟨x,xs⟩
   ·rfl
   ·obtain ⟨_,_,e,_⟩:=hl (by simp)
    cases e
  subst h0
  clear hl
  have he:∀wx:World,(binOp BinOp.eql 24 (.slice none 0 c) (.slice none 0 0)).run Tryz.prog wx=.ok (.bool true) wx:=fun wx=>jv 24 29 0 c Tryz.underlying24 wx
  go_enter Tryz.func71,Tryz.ntmps71
  go_wp2_with fail
  go_ret
  exact ⟨⟨_,rfl,am.nil _ _ _ _ _⟩,yq _ _⟩
 ·clear hl
  have he:∀wx:World,(binOp BinOp.eql 24 (.slice (some a) xs.length c) (.slice none 0 0)).run Tryz.prog wx=.ok (.bool false) wx:=fun wx=>il 24 29 a xs.length c Tryz.underlying24 wx
  go_enter Tryz.func71,Tryz.ntmps71
  go_wp2_with ((
   at_builtin
   refine aq (R:=TmR d) (e:=29) rfl (.tmp 5) (.tmp 6) 24 rfl (bytes:=56) Tryz.underlying24 hi0 hz0 hz1 hz2 rfl (show 0<4 by omega) (dV d) rfl hown.out rfl hsrc.out rfl hB (by simp only [List.length_nil];omega) (by omega) HA.out.size ?_
   intro v1 w1 hown1 hb1
   have HO:=ym hown1
   have HB1:=ym (HA.out.trans hb1)
   clear hown1 hb1))
  go_ret
  exact ⟨⟨_,rfl,HO.out⟩,HB1.out⟩
section
variable {α:Type} (z:α)
def atL (xs:List α) (k:Nat):α:=xs.getD k z
def sw (xs:List α) (i j:Nat):List α:=(xs.set i (atL z xs j)).set j (atL z xs i)
variable {z} {xs ys:List α} {i j k n:Nat}
theorem bJ (h:k<xs.length):atL z xs k=xs[k]:=by simp [atL,h]
theorem ck:(sw z xs i j).length=xs.length:=by simp [sw]
theorem lM (hi:i<xs.length) (hj:j<xs.length):atL z (sw z xs i j) k=if k=j then atL z xs i else if k=i then atL z xs j else atL z xs k:=by
 by_cases hk:k<xs.length
 ·rw [bJ (by rw [ck];exact hk)]
  simp only [sw,List.getElem_set]
  by_cases h1:j=k
  ·rw [if_pos h1,if_pos h1.symm]
  ·rw [if_neg h1,if_neg (Ne.symm h1)]
   by_cases h2:i=k
   ·rw [if_pos h2,if_pos h2.symm]
   ·rw [if_neg h2,if_neg (Ne.symm h2),bJ hk]
 ·rw [if_neg (by omega),if_neg (by omega)]
  unfold atL
  rw [List.getD_eq_getElem?_getD,List.getD_eq_getElem?_getD,List.getElem?_eq_none (by rw [ck];omega),List.getElem?_eq_none (by omega)]
theorem nA (hi:i<xs.length) (hj:j<xs.length):(sw z xs i j).Perm xs:=by
 unfold sw
 rw [bJ hi,bJ hj]
 exact List.set_set_perm hi hj
end
section
variable {α:Type} {c:α→α→Int} {z:α}
def gv (c:α→α→Int) (g:Nat→α) (i0 n:Nat):Prop:=∀k,0<k→k<n→i0≤(k-1) / 2→c (g ((k-1) / 2)) (g k)≤0
theorem gv.least (hc:Ord3 c) {g:Nat→α} {n:Nat} (h:gv c g 0 n):∀k,k<n→c (g 0) (g k)≤0:=by
 intro k
 induction k using Nat.strongRecOn with
 | ind k ih=>
   intro hk
   rcases Nat.eq_zero_or_pos k with h0 | h0
   ·subst h0;have:=hc.self (g 0);omega
   ·exact hc.trans _ _ _ (ih ((k-1) / 2) (by omega) (by omega)) (h k h0 hk (yp _))
structure Sunk (c:α→α→Int) (z:α) (xs0 xs:List α) (i0 i n:Nat):Prop where
 perm:xs.Perm xs0
 out:∀k,n≤k→atL z xs k=atL z xs0 k
 ge:i0≤i
 path:i0<i→i0≤(i-1) / 2
 heap:∀k,0<k→k<n→i0≤(k-1) / 2→(k-1) / 2≠i→c (atL z xs ((k-1) / 2)) (atL z xs k)≤0
 up:∀k,0<k→k<n→(k-1) / 2=i→i0<i→c (atL z xs ((i-1) / 2)) (atL z xs k)≤0
theorem Sunk.start {xs:List α} {i0 n:Nat} (h:gv c (atL z xs) (i0+1) n):Sunk c z xs xs i0 i0 n:=
 ⟨List.Perm.refl _,fun _ _=>rfl,yo _,fun h=>by omega,fun k h0 h1 h2 h3=>h k h0 h1 (by omega),fun _ _ _ _ h=>by omega⟩
theorem Sunk.step (hc:Ord3 c) {xs0 xs:List α} {i0 i n j:Nat} (h:Sunk c z xs0 xs i0 i n) (hn:n≤xs.length) (hj:j<n) (hij:j=2*i+1∨j=2*i+2)
 (hmin:∀k,k<n→(k=2*i+1∨k=2*i+2)→c (atL z xs j) (atL z xs k)≤0) (hlt:c (atL z xs j) (atL z xs i)<0):Sunk c z xs0 (sw z xs i j) i0 j n:=by
 have hil:i<xs.length:=by omega
 have hjl:j<xs.length:=by omega
 have hpj:(j-1) / 2=i:=by omega
 have hge:=h.ge
 refine ⟨(nA hil hjl).trans h.perm,fun k hk=>?_,by omega,fun _=>by omega,fun k h0 h1 h2 h3=>?_,fun k h0 h1 h2 h3=>?_⟩
 ·rw [lM hil hjl,if_neg (by omega),if_neg (by omega),h.out k hk]
 ·rw [lM hil hjl,lM hil hjl,if_neg h3]
  by_cases hp:(k-1) / 2=i
  ·rw [if_pos hp]
   by_cases hk:k=j
   ·rw [if_pos hk];omega
   ·rw [if_neg hk,if_neg (by omega)]
    exact hmin k h1 (by omega)
  ·rw [if_neg hp,if_neg (by intro e;subst e;exact hp hpj)]
   by_cases hk:k=i
   ·rw [if_pos hk]
    subst hk
    exact h.up j (by omega) hj hpj (by omega)
   ·rw [if_neg hk]
    exact h.heap k h0 h1 h2 hp
 ·rw [lM hil hjl,lM hil hjl,hpj,if_neg (by omega),if_pos rfl,if_neg (by omega),if_neg (by omega)]
  have:=h.heap k h0 h1 (by omega) (by omega)
  rw [h2] at this
  exact this
theorem Sunk.stop {xs0 xs:List α} {i0 i n:Nat} (h:Sunk c z xs0 xs i0 i n) (hmin:∀k,k<n→(k=2*i+1∨k=2*i+2)→c (atL z xs i) (atL z xs k)≤0):gv c (atL z xs) i0 n:=by
 intro k h0 h1 h2
 by_cases hp:(k-1) / 2=i
 ·rw [hp];exact hmin k h1 (by omega)
 ·exact h.heap k h0 h1 h2 hp
structure Sank (c:α→α→Int) (z:α) (xs0 xs:List α) (i0 n:Nat):Prop where
 perm:xs.Perm xs0
 out:∀k,n≤k→atL z xs k=atL z xs0 k
 heap:gv c (atL z xs) i0 n
theorem Sunk.sank {xs0 xs:List α} {i0 i n:Nat} (h:Sunk c z xs0 xs i0 i n) (hmin:∀k,k<n→(k=2*i+1∨k=2*i+2)→c (atL z xs i) (atL z xs k)≤0):Sank c z xs0 xs i0 n:=⟨h.perm,h.out,h.stop hmin⟩
theorem gv.swapped {xs:List α} {n:Nat} (h:gv c (atL z xs) 0 (n+1)) (hn:n<xs.length):gv c (atL z (sw z xs 0 n)) 1 n:=by
 intro k h0 h1 h2
 rw [lM (by omega) hn,lM (by omega) hn,if_neg (by omega),if_neg (by omega),if_neg (by omega),if_neg (by omega)]
 exact h k h0 (by omega) (yp _)
theorem popped (hc:Ord3 c) {xs zs:List α} {n:Nat} (hx:xs.length=n+1) (h:gv c (atL z xs) 0 (n+1)) (hs:Sank c z (sw z xs 0 n) zs 0 n) :
 zs.length=n+1∧atL z zs n=atL z xs 0∧xs.Perm (atL z zs n::zs.take n)∧gv c (atL z (zs.take n)) 0 n∧∀b∈zs.take n,c (atL z zs n) b≤0:=by
 have hl:zs.length=n+1:=by rw [hs.perm.length_eq,ck,hx]
 have h1:atL z zs n=atL z xs 0:=by
  rw [hs.out n (yo _),lM (by omega) (by omega),if_pos rfl]
 have h2:xs.Perm (atL z zs n::zs.take n):=by
  have e:zs=zs.take n++[atL z zs n]:=by
   rw [bJ (by omega),←List.take_succ_eq_append_getElem (by omega:n<zs.length),List.take_of_length_le (by omega)]
  have p:xs.Perm zs:=((nA (z:=z) (xs:=xs) (by omega) (by omega)).symm).trans hs.perm.symm
  refine p.trans ?_
  conv=>lhs;rw [e]
  exact List.perm_append_singleton _ _
 refine ⟨hl,h1,h2,?_,?_⟩
 ·intro k h0 h1 h2
  have e:∀m,m<n→atL z (zs.take n) m=atL z zs m:=fun m hm=>by
   rw [bJ (by rw [yF];omega),bJ (by omega),List.getElem_take]
  rw [e _ (by omega),e _ h1]
  exact hs.heap k h0 h1 h2
 ·intro b hb
  rw [h1]
  have hb':b∈xs:=h2.symm.subset (List.mem_cons_of_mem _ hb)
  obtain ⟨k,hk,rfl⟩:=List.getElem_of_mem hb'
  rw [←bJ hk]
  exact h.least hc k (by omega)
structure Piled (c:α→α→Int) (z:α) (l out xs:List α):Prop where
 heap:gv c (atL z xs) 0 xs.length
 sorted:out.Pairwise (fun a b=>c a b<0)
 le:∀a∈out,∀b∈xs,c a b≤0
 mem:∀t,(t∈out∨t∈xs)↔t∈l
 len:out.length+xs.length≤l.length
theorem Piled.more (hc:Ord3 c) {l out xs rest:List α} {x:α} (h:Piled c z l out xs) (hp:xs.Perm (x::rest)) (hh:gv c (atL z rest) 0 rest.length) (hm:∀b∈rest,c x b≤0)
 (hlast:∀y,out.getLast? = some y→c y x≠0):Piled c z l (out++[x]) rest:=by
 have hx:x∈xs:=hp.symm.subset (by simp)
 refine ⟨hh,?_,?_,fun t=>?_,?_⟩
 ·rw [List.pairwise_append]
  refine ⟨h.sorted,by simp,fun a ha b hb=>?_⟩
  obtain rfl:b=x:=by simpa using hb
  rcases List.eq_nil_or_concat out with e | ⟨o,y,e⟩
  ·subst e;simp at ha
  ·rw [List.concat_eq_append] at e
   subst e
   have hy:c y b<0:=by
    have:=h.le y (by simp) b hx
    have:=hlast y (by simp)
    omega
   rcases List.mem_append.1 ha with ha | ha
   ·have:=(List.pairwise_append.1 h.sorted).2.2 a ha y (by simp)
    exact hc.lt_le this (by omega)
   ·obtain rfl:a=y:=by simpa using ha
    exact hy
 ·intro a ha b hb
  rcases List.mem_append.1 ha with ha | ha
  ·exact h.le a ha b (hp.symm.subset (List.mem_cons_of_mem _ hb))
  ·obtain rfl:a=x:=by simpa using ha
   exact hm b hb
 ·rw [←h.mem t,hp.mem_iff,List.mem_append,List.mem_singleton,List.mem_cons,or_assoc]
 ·have:=h.len;have:=hp.length_eq
  simp only [yv,yE,List.length_nil] at *;omega
theorem Piled.skip {l out xs rest:List α} {x y:α} (h:Piled c z l out xs) (hp:xs.Perm (x::rest)) (hh:gv c (atL z rest) 0 rest.length) (hlast:out.getLast? = some y) (he:y=x):Piled c z l out rest:=by
 subst he
 have hy:y∈out:=List.mem_of_getLast? hlast
 refine ⟨hh,h.sorted,fun a ha b hb=>h.le a ha b (hp.symm.subset (List.mem_cons_of_mem _ hb)),fun t=>?_,?_⟩
 ·rw [←h.mem t,hp.mem_iff,List.mem_cons]
  constructor
  ·rintro (k | k)
   ·exact .inl k
   ·exact .inr (.inr k)
  ·rintro (k | k | k)
   ·exact .inl k
   ·subst k;exact .inl hy
   ·exact .inr k
 ·have:=h.len;have:=hp.length_eq
  simp only [yE] at *;omega
def pp (c:α→α→Int) (t:α):List α→List α
 | []=>[t]
 | x::xs=>if c x t<0 then x::pp c t xs else if c x t=0 then x::xs else t::x::xs
def setL (c:α→α→Int) (l:List α):List α:=l.foldl (fun out t=>pp c t out) []
theorem nh {t:α}:∀{xs:List α},(∀x∈xs,c x t=0→x=t)→∀u,u∈pp c t xs↔u=t∨u∈xs
 | [],_,u=>by simp [pp]
 | x::xs,h,u=>by
   unfold pp
   split
   ·rw [List.mem_cons,nh (fun y hy=>h y (by simp [hy])),List.mem_cons]
    constructor
    ·rintro (k | k | k)
     ·exact .inr (.inl k)
     ·exact .inl k
     ·exact .inr (.inr k)
    ·rintro (k | k | k)
     ·exact .inr (.inl k)
     ·exact .inl k
     ·exact .inr (.inr k)
   ·split
    ·rename_i h0
     have:=h x (by simp) h0
     subst this
     simp
    ·simp
theorem kV (hc:Ord3 c) {t:α}:∀{xs:List α},xs.Pairwise (fun a b=>c a b<0)→(∀x∈xs,c x t=0→x=t)→(pp c t xs).Pairwise (fun a b=>c a b<0)
 | [],_,_=>by simp [pp]
 | x::xs,h,he=>by
   obtain ⟨h1,h2⟩:=List.pairwise_cons.1 h
   unfold pp
   split
   ·rename_i hlt
    rw [List.pairwise_cons]
    refine ⟨fun a ha=>?_,kV hc h2 (fun y hy=>he y (by simp [hy]))⟩
    rcases (nh (fun y hy=>he y (by simp [hy])) a).1 ha with e | e
    ·rw [e];exact hlt
    ·exact h1 a e
   ·split
    ·exact h
    ·rename_i h3 h4
     rw [List.pairwise_cons]
     refine ⟨fun a ha=>?_,h⟩
     have ht:c t x<0:=by have:=hc.anti x t;omega
     rcases List.mem_cons.1 ha with e | e
     ·rw [e];exact ht
     ·exact hc.lt_le ht (by have:=h1 a e;omega)
theorem nz (hc:Ord3 c):∀(l out:List α),(∀a,(a∈out∨a∈l)→∀b,(b∈out∨b∈l)→c a b=0→a=b)→out.Pairwise (fun a b=>c a b<0) →
 (l.foldl (fun out t=>pp c t out) out).Pairwise (fun a b=>c a b<0)∧∀t,t∈l.foldl (fun out t=>pp c t out) out↔t∈out∨t∈l
 | [],out,_,h=>⟨h,fun t=>by simp⟩
 | x::l,out,he,h=>by
   have hx:∀y∈out,c y x=0→y=x:=fun y hy=>he y (.inl hy) x (.inr (by simp))
   have hm:=nh (c:=c) hx
   obtain ⟨h1,h2⟩:=nz hc l (pp c x out) (fun a ha b hb=>by
    refine he a ?_ b ?_
    ·rw [hm] at ha
     rcases ha with (k | k) | k
     ·exact .inr (by simp [k])
     ·exact .inl k
     ·exact .inr (by simp [k])
    ·rw [hm] at hb
     rcases hb with (k | k) | k
     ·exact .inr (by simp [k])
     ·exact .inl k
     ·exact .inr (by simp [k])) (kV hc h hx)
   refine ⟨h1,fun t=>?_⟩
   rw [List.foldl_cons,h2,hm,List.mem_cons]
   constructor
   ·rintro ((k | k) | k)
    ·exact .inr (.inl k)
    ·exact .inl k
    ·exact .inr (.inr k)
   ·rintro (k | k | k)
    ·exact .inl (.inr k)
    ·exact .inl (.inl k)
    ·exact .inr k
theorem lv (hc:Ord3 c) {l:List α} (he:∀a∈l,∀b∈l,c a b=0→a=b):(setL c l).Pairwise (fun a b=>c a b<0):=
 (nz hc l [] (fun a ha b hb=>he a (by simpa using ha) b (by simpa using hb)) (by simp)).1
theorem ro (hc:Ord3 c) {l:List α} (he:∀a∈l,∀b∈l,c a b=0→a=b) (t:α):t∈setL c l↔t∈l:=by
 have:=(nz hc l [] (fun a ha b hb=>he a (by simpa using ha) b (by simpa using hb)) (by simp)).2 t
 simpa [setL] using this
theorem lx (hc:Ord3 c):∀{xs ys:List α},xs.Pairwise (fun a b=>c a b<0)→ys.Pairwise (fun a b=>c a b<0)→(∀t,t∈xs↔t∈ys)→xs=ys
 | [],[],_,_,_=>rfl
 | [],y::ys,_,_,h=>absurd ((h y).2 (by simp)) (by simp)
 | x::xs,[],_,_,h=>absurd ((h x).1 (by simp)) (by simp)
 | x::xs,y::ys,hx,hy,h=>by
   obtain ⟨x1,x2⟩:=List.pairwise_cons.1 hx
   obtain ⟨y1,y2⟩:=List.pairwise_cons.1 hy
   have e:x=y:=by
    rcases List.mem_cons.1 ((h x).1 (by simp)) with e | e
    ·exact e
    ·rcases List.mem_cons.1 ((h y).2 (by simp)) with e' | e'
     ·exact e'.symm
     ·have a:=y1 x e
      have b:=x1 y e'
      have:=hc.anti x y
      omega
   subst e
   rw [lx hc x2 y2 fun t=>?_]
   have hn:∀{zs:List α},(∀a∈zs,c x a<0)→x∉zs:=fun hz hm=>by
    have:=hz x hm
    have:=hc.self x
    omega
   constructor
   ·intro k
    rcases List.mem_cons.1 ((h t).1 (by simp [k])) with e | e
    ·subst e;exact absurd k (hn x1)
    ·exact e
   ·intro k
    rcases List.mem_cons.1 ((h t).2 (by simp [k])) with e | e
    ·subst e;exact absurd k (hn y1)
    ·exact e
theorem Piled.done (hc:Ord3 c) {l out:List α} (he:∀a∈l,∀b∈l,c a b=0→a=b) (h:Piled c z l out []):out=setL c l:=
 lx hc h.sorted (lv hc he) fun t=>by
  rw [ro hc he,←h.mem t];simp
theorem qt (hc:Ord3 c) {l:List α} (he:∀a∈l,∀b∈l,c a b=0→a=b):(setL c l).length≤l.length:=by
 have key:∀(l out:List α),(l.foldl (fun out t=>pp c t out) out).length≤out.length+l.length:=by
  have one:∀(t:α) (xs:List α),(pp c t xs).length≤xs.length+1:=by
   intro t xs
   induction xs with
   | nil=>simp [pp]
   | cons x xs ih=>unfold pp;split<;>(try split)<;>simp<;>omega
  intro l
  induction l with
  | nil=>simp
  | cons x l ih=>intro out;have:=ih (pp c x out);have:=one x out;simp only [List.foldl_cons,yE];omega
 simpa [setL] using key l []
end
end Go.Proofs.YtjpndglegpcdnaaGreat
