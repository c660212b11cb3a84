/- Appending to a slice of the call's own, in a region that draws its order: which row is written; blocks that no append writes. -/
import Derived.Test.YtjpndglegpcdnaaGreatReg3
import Derived.RegionTactic
import Derived.Test.YtjpndglegpcdnaaGreatFound
import Derived.Test.YtjpndglegpcdnaaGreatFc1
import Derived.Deep.RegionHeld3
import Derived.Deep.RegionLaw
import Derived.Deep.DeepCutAuto
set_option linter.unusedVariables false
set_option linter.unusedSimpArgs false
set_option maxRecDepth 100000
set_option maxHeartbeats 8000000
namespace Go.Proofs.YtjpndglegpcdnaaGreat
open Go.ChangeShapes Go.WideShapes Go.ChangeAt Go.RowKit
def wfI (n:Nat) (i:Ins):Prop:=(i.kind=2→0≤i.x∧i.x≤n∧0≤i.y∧i.y≤n)∧(i.kind=3→0≤i.x∧i.x≤n)
def wfN (n:Nat) (l:List Ins):Prop:=∀i∈l,wfI n i
theorem wfI.mono {n m:Nat} {i:Ins} (h:wfI n i) (hn:n≤m):wfI m i:=⟨fun k=>by have:=h.1 k;omega,fun k=>by have:=h.2 k;omega⟩
theorem wfN.mono {n m:Nat} {l:List Ins} (h:wfN n l) (hn:n≤m):wfN m l:=fun i hi=>(h i hi).mono hn
theorem wfN.append {n:Nat} {a b:List Ins} (h:wfN n a) (k:wfN n b):wfN n (a++b):=fun i hi=>by
 rcases List.mem_append.1 hi with h1 | h1
 ·exact h i h1
 ·exact k i h1
theorem wfN.nil {n:Nat}:wfN n []:=fun _ h=>by cases h
theorem wfN.one {n:Nat} {i:Ins} (h:wfI n i):wfN n [i]:=fun j hj=>by
 rw [List.mem_singleton] at hj;subst hj;exact h
theorem jB {n:Int} (h0:0≤n) (h1:n≤1000000000):wrap64 n=n:=by unfold wrap64;omega
theorem wfN.moved {m n k:Nat} {l:List Ins} (h:wfN m l) (hk:m+k≤n) (hn:n≤1000000000):wfN n (aK l k):=by
 intro i hi
 obtain ⟨j,hj,rfl⟩:=List.mem_map.1 hi
 have hw:=h j hj
 unfold gT
 by_cases h2:j.kind=2
 ·have:=hw.1 h2
  rw [if_pos h2]
  refine ⟨fun _=>?_,fun h3=>?_⟩
  ·simp only
   rw [jB (by omega) (by omega),jB (by omega) (by omega)]
   omega
  ·simp only at h3;omega
 ·rw [if_neg h2]
  by_cases h3:j.kind=3
  ·have:=hw.2 h3
   rw [if_pos h3]
   refine ⟨fun h=>absurd h h2,fun _=>?_⟩
   simp only
   rw [jB (by omega) (by omega)]
   omega
  ·rw [if_neg h3]
   exact ⟨fun h=>absurd h h2,fun h=>absurd h h3⟩
theorem kw {n:Nat} {x y:Int} (h0:0≤x) (h1:x≤n) (h2:0≤y) (h3:y≤n):wfI n (bE x y):=⟨fun _=>⟨h0,h1,h2,h3⟩,fun h=>by simp [bE] at h⟩
theorem wM {n:Nat} {x:Int} (h0:0≤x) (h1:x≤n):wfI n (iG x):=⟨fun h=>by simp [iG] at h,fun _=>⟨h0,h1⟩⟩
theorem sn {n:Nat} {i:Ins} (h2:i.kind≠2) (h3:i.kind≠3):wfI n i:=⟨fun h=>absurd h h2,fun h=>absurd h h3⟩
theorem fU (i:Ins) (c:Nat):(me i c).kind=i.kind:=by
 unfold me Ins.put
 split
 ·rfl
 ·split
  ·rfl
  ·split<;>rfl
theorem qX (i:Ins) (f t:Nat):(ei i f t).kind=i.kind:=by
 unfold ei
 generalize List.range (t+1-f)=l
 induction l generalizing i with
 | nil=>rfl
 | cons a l ih=>rw [List.foldl_cons,ih,fU]
theorem hI (s:ByteArray):∀n p i,(bk s n p i).1.kind=i.kind
 | 0,p,i=>rfl
 | n+1,p,i=>by
   unfold bk
   split
   ·simp only
    rw [hI s n,qX]
   ·rfl
theorem kI (s:ByteArray) (p:PS):(dV s p).1.kind=1:=by
 unfold dV
 simp only
 split
 ·show (bk s _ _ ci).1.kind=1
  rw [hI];rfl
 ·rw [hI];rfl
theorem wf_all (s:ByteArray) (hs:s.size≤1000000):∀n,(∀p,wfN (qS s n p).1.length (qS s n p).1)∧(∀p out,wfN out.length out→out.length+2*bG s p≤4000000→wfN (jv s n p out).1.length (jv s n p out).1)∧(∀p,bG s p≠0→wfN (eQ s n p).1.length (eQ s n p).1)∧(∀p,bG s p≠0→wfN (fI s n p).1.length (fI s n p).1):=by
 intro n
 induction n with
 | zero=>exact ⟨fun p=>wfN.nil,fun p out h _=>h,fun p _=>wfN.nil,fun p _=>wfN.nil⟩
 | succ n ih=>
   obtain ⟨ihp,ihr,ihc,iha⟩:=ih
   refine ⟨fun p=>?_,fun p out ho hb=>?_,fun p hp=>?_,fun p hp=>?_⟩
   ·have hr:=jM s p
    unfold qS
    simp only
    obtain ⟨h1,h2⟩:=(fg s n).2.1 p []
    have h3:=ihr p [] wfN.nil (by simp;omega)
    split
    ·have h4:=ihp (jv s n p []).2.step
     have h5:=(iO s n (jv s n p []).2.step).len
     have h6:=jM s (jv s n p []).2.step
     simp only [List.length_nil] at h2
     generalize (jv s n p []).1=a at *
     generalize (qS s n (jv s n p []).2.step).1=b at *
     have e:(hJ a b).length=a.length+b.length+2:=by simp [hJ,ah];omega
     simp only [e]
     refine wfN.append (wfN.append (wfN.append (wfN.one (kw (by omega) (by omega) (by omega) (by omega))) (h3.moved (k:=1) (by omega) (by omega))) (wfN.one (wM (by omega) (by omega)))) ?_
     exact h4.moved (k:=a.length+2) (by omega) (by omega)
    ·exact h3
   ·unfold jv
    split
    ·rename_i hc
     have hne:bG s p≠0:=by
      rw [zC] at hc
      have:=hc.1
      rw [eB] at this
      simpa using this
     have h1:=(fg s n).2.2.1 p hne
     have h4:=h1.len
     refine ihr _ _ ?_ ?_
     ·rw [zA,ah]
      refine wfN.append (ho.mono (by omega)) ((ihc p hne).moved (k:=out.length) (by omega) (by omega))
     ·rw [zA,ah]
      omega
    ·exact ho
   ·unfold eQ
    simp only
    have h1:=iha p hp
    have h2:=((fg s n).2.2.2 p hp).len
    have h3:=jM s p
    generalize fI s n p=r at *
    obtain ⟨a,q⟩:=r
    simp only at h1 h2 ⊢
    split
    ·have e:([bE 1 (↑a.length+2)]++aK a 1++[iG 0]).length=a.length+2:=by simp [ah]
     simp only [e]
     exact wfN.append (wfN.append (wfN.one (kw (by omega) (by omega) (by omega) (by omega))) (h1.moved (k:=1) (by omega) (by omega))) (wfN.one (wM (by omega) (by omega)))
    ·split
     ·have e:(a++[bE 0 (↑a.length+1)]).length=a.length+1:=by simp
      simp only [e]
      exact wfN.append (h1.mono (by omega)) (wfN.one (kw (by omega) (by omega) (by omega) (by omega)))
     ·split
      ·have e:([bE 1 (↑a.length+1)]++aK a 1).length=a.length+1:=by simp [ah]
       simp only [e]
       exact wfN.append (wfN.one (kw (by omega) (by omega) (by omega) (by omega))) (h1.moved (k:=1) (by omega) (by omega))
      ·exact h1
   ·unfold fI
    simp only
    have leaf:∀(i:Ins),i.kind≠2→i.kind≠3→wfN [i].length [i]:=fun i h2 h3=>wfN.one (sn h2 h3)
    split
    ·split
     ·exact wfN.nil
     ·exact ihp _
    ·split
     ·exact leaf _ (by rw [kI];decide) (by rw [kI];decide)
     ·split
      ·exact leaf _ (by decide) (by decide)
      ·split
       ·exact leaf _ (by decide) (by decide)
       ·split
        ·exact leaf _ (by decide) (by decide)
        ·split
         ·exact leaf _ (by rw [fU];decide) (by rw [fU];decide)
         ·split
          ·exact leaf _ (by decide) (by decide)
          ·exact leaf _ (by rw [fU];decide) (by rw [fU];decide)
structure Prg (l:List Ins):Prop where
 pos:0<l.length
 len:l.length≤1000
 wf:wfN (l.length-1) l
 last:∀i,i+1=l.length→(l.getD i ci).kind=6
theorem xu {s:ByteArray} (h:(dY s).2=0):Prg (dY s).1:=by
 unfold dY at h ⊢
 split
 ·rename_i hs;rw [if_pos hs] at h;simp at h
 ·rename_i hs
  rw [if_neg hs] at h
  simp only at h ⊢
  split
  ·have h1:=(wf_all s (by omega) (fx s.size)).1 ⟨0,0,0⟩
   have h2:=(iO s (fx s.size) ⟨0,0,0⟩).len
   have h3:=jM s ⟨0,0,0⟩
   generalize qS s (fx s.size) ⟨0,0,0⟩=r at *
   obtain ⟨l,q⟩:=r
   simp only at h1 h2 ⊢
   refine ⟨by simp,by simp;omega,?_,?_⟩
   ·rw [zA,List.length_singleton,Nat.add_sub_cancel]
    exact wfN.append h1 (wfN.one (sn (by decide) (by decide)))
   ·intro i hi
    rw [zA,List.length_singleton] at hi
    obtain rfl:i=l.length:=by omega
    simp [List.getD_eq_getElem?_getD,List.getElem?_append_right,qw]
  ·rename_i hc
   rw [if_neg hc] at h
   exact absurd h hc
def fX (l:List Ins) (i:Int):Ins:=l.getD i.toNat ci
def eI (x:Ins) (i:Int) (first last:Bool):List Int:=
 if x.kind=2 then [x.x,x.y] else if x.kind=3 then [x.x] else if (x.kind=4∧first=true)∨(x.kind=5∧last=true) then [i+1] else []
def kN (l:List Ins) (first last:Bool):Nat→List Int→List Bool × Bool→List Bool × Bool
 | 0,_,st=>st
 | _+1,[],st=>st
 | n+1,i::todo,st=>
   if st.1.getD i.toNat false=true then kN l first last n todo st
   else kN l first last n (eI (fX l i) i first last++todo) (st.1.set i.toNat true,st.2||decide ((fX l i).kind=6))
def zj (on:List Bool):Nat:=on.countP (fun b=>!b)
def bQ (l:List Ins) (first last:Bool) (i:Int) (st:List Bool × Bool):List Bool × Bool:=kN l first last (3*l.length+2) [i] st
def dB (x:Ins) (c:Nat):Bool:=decide (x.kind=1)&&(bits .and .u64 (x.word (c / 64) / 2 ^ (c % 64)) 1==1)
def dM (l:List Ins) (c:Nat) (last:Bool):Nat→List Bool→List Bool × Bool→List Bool × Bool
 | _,[],st=>st
 | k,on::r,st=>dM l c last (k+1) r (if on&&dB (fX l k) c then bQ l false last (k+1) st else st)
def iL (l:List Ins):List Bool × Bool:=(List.replicate l.length false,false)
def takes (l:List Ins) (c:Nat) (last:Bool) (st:List Bool × Bool):List Bool × Bool:=dM l c last 0 st.1 (iL l)
def jj (l:List Ins) (t:ByteArray) (whole:Bool):Nat→Nat→List Bool × Bool→Bool
 | 0,_,st=>st.2
 | n+1,i,st=>
   if st.2&&!whole then true
   else
    let last:=decide (i+1=t.size)
    let st1:=takes l (ch t i) last st
    jj l t whole n (i+1) (if whole then st1 else bQ l false last 0 st1)
def fO (pat t:ByteArray) (whole:Bool):Bool × Int:=
 if 256<t.size then (false,1)
 else if (dY pat).2≠0 then (false,(dY pat).2)
 else (jj (dY pat).1 t whole t.size 0 (bQ (dY pat).1 true (decide (t.size=0)) 0 (iL (dY pat).1)),0)
theorem outs_in {l:List Ins} (h:Prg l) {i:Int} (h0:0≤i) (h1:i<l.length) (f t:Bool):∀k∈eI (fX l i) i f t,0≤k∧k<l.length:=by
 have hi:i.toNat<l.length:=by omega
 have hx:fX l i=l[i.toNat]:=by unfold fX;rw [List.getD_eq_getElem?_getD,zD hi];rfl
 have hw:=h.wf l[i.toNat] (List.getElem_mem hi)
 have hp:=h.pos
 intro k hk
 unfold eI at hk
 split at hk
 ·rename_i h2
  rw [hx] at h2 hk
  have:=hw.1 h2
  simp only [List.mem_cons,List.not_mem_nil,or_false] at hk
  omega
 ·split at hk
  ·rename_i h3
   rw [hx] at h3 hk
   have:=hw.2 h3
   simp only [List.mem_cons,List.not_mem_nil,or_false] at hk
   omega
  ·split at hk
   ·rename_i h4
    simp only [List.mem_cons,List.not_mem_nil,or_false] at hk
    by_cases he:i.toNat+1=l.length
    ·have:=h.last i.toNat he
     unfold fX at h4
     rw [this] at h4
     simp at h4
    ·omega
   ·cases hk
theorem yl {on:List Bool} {i:Nat} (h:on.getD i false=false) (hi:i<on.length):zj (on.set i true)+1=zj on:=by
 unfold zj
 rw [List.getD_eq_getElem?_getD,zD hi] at h
 have h:on[i]=false:=h
 have key:∀(l:List Bool) (i:Nat) (hi:i<l.length),l[i]=false→(l.set i true).countP (fun b=>!b)+1=l.countP (fun b=>!b):=by
  intro l
  induction l with
  | nil=>intro i hi;simp at hi
  | cons a l ih=>
    intro i hi h
    cases i with
    | zero=>simp only [List.getElem_cons_zero] at h;subst h;simp
    | succ i=>
      simp only [List.getElem_cons_succ] at h
      have:=ih i (by simpa using hi) h
      simp only [List.set_cons_succ,List.countP_cons]
      omega
 exact key on i hi h
theorem offs_le (on:List Bool):zj on≤on.length:=List.countP_le_length
theorem uL (l:List Ins) (f t:Bool) (n:Nat) (st:List Bool × Bool):kN l f t n [] st=st:=by cases n<;>rfl
theorem yr {l:List Ins} (h:Prg l) {k c:Nat} (hk:k<l.length) (ht:dB (fX l k) c=true):k+1<l.length:=by
 by_cases he:k+1=l.length
 ·have:=h.last k he
  unfold dB fX at ht
  rw [Int.toNat_natCast,this] at ht
  simp at ht
 ·omega
def su:Reader Int where
 k:=1
 rd:=fun _ _ i vs=>vs=[.int .i64 i]
 keep:=fun _ _ h=>h
 wide:=fun _ h=>h
 len:=fun h=>by subst h;rfl
theorem tE:dJ su:=fun {w B x vs} h u hu=>by
 obtain rfl:vs=[.int .i64 x]:=h
 simp only [List.mem_cons,List.not_mem_nil,or_false] at hu
 subst hu;rfl
theorem infoInt:(Tryz.prog.info? 3).map (fun i=>(i.zero,i.size,i.bytes))=some (some (.int .i64 0),1,8):=by kernel_rfl
theorem xG:(Tryz.prog.info? 4).map (fun i=>(i.zero,i.size,i.bytes))=some (some (.bool false),1,1):=by kernel_rfl
section
variable {α:Type} {R:Reader α} {e T:TypeId} {w w':World} {base B D:Nat} {v:Value} {xs:List α} {vs:Array Value}
theorem am.ne (h:am R e w base B v xs) (hD:bS w D vs T) (hT:T≠e):v.ownBlock≠some D:=by
 obtain ⟨cells,h,_⟩:=h
 rcases h.2 with ⟨h1,_⟩ | ⟨g,cap,cur,hv,hg,hh,r⟩
 ·rw [h1];simp [Value.ownBlock]
 ·rw [hv]
  simp only [Value.ownBlock,ne_eq,zE]
  intro hgd
  subst hgd
  unfold bS at hD
  rw [hD] at hh
  simp only [zE,Obj.cells.injEq] at hh
  exact hT hh.2.1
theorem am.farT (h:am R e w base 0 v xs) (hD:bS w D vs T) (hT:T≠e) (i:Nat) (u:Value):am R e (w.setCell ⟨D,i,none⟩ u) base 0 v xs:=by
 have hne:=h.ne hD hT
 obtain ⟨cells,h,hf⟩:=h
 refine ⟨cells,⟨h.1,?_⟩,hf.keep ((zy 0 w).setCell (p:=⟨D,i,none⟩) (zx _) u) (zw _)⟩
 rcases h.2 with h2 | ⟨g,cap,cur,hv,hg,hh,r⟩
 ·exact .inl h2
 ·refine .inr ⟨g,cap,cur,hv,hg,?_,r⟩
  rw [hv] at hne
  simp only [Value.ownBlock,ne_eq,zE] at hne
  exact (Below.heap_setCell w ⟨D,i,none⟩ u g hne).trans hh
theorem bS.grown {row:Option Nat} (h:bS w D vs T) (hg:w.grownBy w' row) (hne:row≠some D):bS w' D vs T:=by
 exact (hg.block D h.blk.lt (Ne.symm hne)).trans h
end
def ot (D:Nat) (w w':World):Prop:=∀b vs T,T≠3→b≠D→bS w b vs T→bS w' b vs T
theorem ot.trans {D:Nat} {a b c:World} (h:ot D a b) (k:ot D b c):ot D a c:=fun x vs T h1 h2 h3=>k x vs T h1 h2 (h x vs T h1 h2 h3)
structure Stk (D base:Nat) (w:World) (A:Option Addr) (c:Nat) (xs:List Int):Prop where
 hd:bS w D #[.slice A xs.length c] 97
 own:am su 3 w base 0 (.slice A xs.length c) xs
theorem t_ne:(97:TypeId)≠3:=by decide
def PushE (D base:Nat) (w w':World) (xs:List Int) (e:Ending):Prop:=
 e=.returned (.tuple #[])∧Below base w w'∧ot D w w'∧∃A c,Stk D base w' A c xs
theorem iS {w:World} {D base c:Nat} {A:Option Addr} {xs:List Int} {k:Int} (hs:Stk D base w A c xs) (hb:base≤w.heap.size) (hbD:base≤D) (hn:xs.length≤100000) :
 Calls Tryz.prog 224 #[.int .i64 k,.pointer (some ⟨D,0,none⟩)] w fun e w'=>PushE D base w w' (xs++[k]) e:=by
 obtain ⟨i0,hi0,hz0,hz1,hz2⟩:=info_parts infoInt
 have HS:=zu hs
 have k_d:=hs.hd.blk.cell
 have f_d:=hs.hd.blk.free
 have l_d:=hs.hd.blk.lt
 have hb1:=ar (w:=w) (o:=.cells #[.int .i64 k] 3) rfl
 have HN:=zu (And.intro (And.intro (hs.own.later hb1 (zx _)) (hs.hd.later hb1)) (Blk.src (R:=su) (B:=0) (x:=k) (Blk.new w #[.int .i64 k] 3) rfl))
 clear hs hb1
 go_enter Tryz.func224,Tryz.ntmps224
 go_wp2_with ((
  at_builtin
  refine wpList_plain rfl fun _ hK=>lX (R:=su) (e:=3) (base:=base) (B:=0) (xs:=xs) (ys:=[k]) (.tmp 3) (.tmp 5) 97 rfl (bytes:=8) Tryz.underlying97 hi0 hz0 hz1 hz2 rfl (show 0<1 by omega) tE rfl HN.out.1.1 rfl HN.out.2 rfl (zx _) (by simp only [zJ,List.length_nil];omega) (by omega) (by rw [World.size_alloc];omega) ?_
  intro v w2 hown hb2 hg2
  refine hK _ _ ?_
  obtain ⟨A2,c2,rfl⟩:=hown.form
  have hne:=HN.out.1.1.ne HN.out.1.2 t_ne
  have bd:=HN.out.1.2.grown hg2 hne
  have kd2:=bd.blk.cell
  have fd2:=bd.blk.free
  have HW:=zu hown
  have HB2:=zu (And.intro hb2 hg2)
  have HBD:=zu bd
  clear hown hb2 hg2 hne bd k_d f_d l_d))
 go_end0
 have e1:xs.length+1=(xs++[k]).length:=by simp
 rw [e1]
 refine ⟨rfl,?_,?_,A2,c2,HBD.out.set_ 0 _,HW.out.farT HBD.out t_ne 0 _⟩
 ·exact (((zy base w).alloc hb _).trans HB2.out.1).setCell (p:=⟨D,0,none⟩) hbD _
 ·intro b vs T hT hbd hbt
  have h1:=hbt.later (ar (w:=w) (o:=.cells #[.int .i64 k] 3) rfl)
  exact (h1.grown HB2.out.2 (HN.out.1.1.ne h1 hT)).far hbd 0 _
theorem Stk.pop {D base c:Nat} {w:World} {A:Option Addr} {xs:List Int} {k:Int} (h:Stk D base w A c (xs++[k])) :
 ∃g,A=some ⟨g,0,none⟩∧g≠D∧xs.length+1≤c∧c≤maxLen∧w.cell? ⟨g,xs.length,none⟩=some (.int .i64 k)∧Stk D base (w.setCell ⟨D,0,none⟩ (.slice A xs.length c)) A c xs:=by
 have hne:=h.own.ne h.hd t_ne
 have hfar:=h.own.farT h.hd t_ne 0 (.slice A xs.length c)
 obtain ⟨cells,ho,hf⟩:=h.own
 have hl:cells.length=xs.length+1:=by have:=hf.1;simpa [su] using this
 rcases ho.2 with ⟨h1,h2⟩ | ⟨g,cap,cur,hv,hg,hh,k1,k2,k3,k4⟩
 ·simp at h2
 ·simp only [zG] at hv
  obtain ⟨rfl,_,rfl⟩:=hv
  simp only [Value.ownBlock,ne_eq,zE] at hne
  rw [zA,List.length_singleton] at k1
  have hcell:cells[xs.length]? = some (.int .i64 k):=by
   have:=hf.2 xs.length (by simp)
   simp only [su,Nat.mul_one,List.getElem_append_right (zw _),Nat.sub_self,List.getElem_singleton] at this
   have h3:((cells.drop xs.length).take 1)[0]? = some (.int .i64 k):=by rw [this];rfl
   rw [List.getElem?_take,if_pos (by omega),List.getElem?_drop] at h3
   simpa using h3
  refine ⟨g,rfl,hne,k1,k2,?_,?_,?_⟩
  ·rw [cell_of_row w g _ cur 3 (0,0) hh]
   rw [←k4,List.getElem?_take] at hcell
   split at hcell
   ·simpa using hcell
   ·cases hcell
  ·exact h.hd.set_ 0 _
  ·obtain ⟨cells',ho',hf'⟩:=hfar
   rcases ho'.2 with ⟨h1',h2'⟩ | ⟨g',cap',cur',hv',hg',hh',k1',k2',k3',k4'⟩
   ·simp at h2'
   ·simp only [zG,zE,Addr.mk.injEq,and_true] at hv'
    obtain ⟨rfl,_,rfl⟩:=hv'
    have hl':cells'.length=xs.length+1:=by have:=hf'.1;simpa [su] using this
    refine ⟨cells'.take xs.length,⟨by simp [su,hl'],.inr ⟨g,c,cur',rfl,hg',hh',by omega,k2',k3',?_⟩⟩,?_⟩
    ·have e2:(xs++[k]).length*su.k=xs.length+1:=by simp [su]
     rw [e2] at k4'
     rw [←k4',List.take_take]
     congr 1
     simp [su]
    ·have:=hf'.take xs.length
     simpa [su] using this
structure SV where
 t:Tm
 a:Option Addr
 c:Nat
def SV.cs (x:SV):List Value:=[.int .i64 x.t.kind,.int .i64 x.t.n,.string x.t.s,.slice x.a x.t.l.length x.c]
def SvR:Reader SV where
 k:=4
 rd:=fun _ _ x vs=>vs=x.cs
 keep:=fun _ _ h=>h
 wide:=fun _ h=>h
 len:=fun h=>by subst h;rfl
theorem ck:dJ SvR:=fun {w B x vs} h u hu=>by
 obtain rfl:vs=x.cs:=h
 simp only [SV.cs,List.mem_cons,List.not_mem_nil,or_false] at hu
 rcases hu with rfl | rfl | rfl | rfl<;>rfl
def dr (D:Nat) (w:World) (x:SV):Prop:=RTm w w.heap.size (D+1) x.t x.cs∧∀u∈x.t.l,jc u
section
variable {D:Nat} {w w':World} {x:SV}
theorem dr.keep (h:dr D w x) (hb:Below 0 w w') (he:∀a,x.a=some a→w'.heap[a.block]? = w.heap[a.block]?):dr D w' x:=by
 obtain ⟨⟨A,c,e,h1,h2,h3,h4,h5,h6⟩,hl⟩:=h
 simp only [SV.cs,List.cons.injEq,zG,and_true,true_and] at e
 obtain ⟨rfl,rfl⟩:=e
 refine ⟨⟨x.a,x.c,rfl,h1,h2,h3,h4,h5,fun hn=>?_⟩,hl⟩
 obtain ⟨b,off,ha,hlt,hc⟩:=h6 hn
 refine ⟨b,off,ha,zz hlt hb.size,fun i hi=>?_⟩
 obtain ⟨vs,hv,⟨y,hy,hr⟩,hcell⟩:=hc i hi
 have hm:y∈x.t.l:=List.mem_of_getElem? hy
 refine ⟨vs,hv,⟨y,hy,((vz (hl y hm) hr).below hb (zw _)).more (zx _)⟩,fun j u hj=>?_⟩
 have:=he _ ha
 have h9:=hcell j u hj
 unfold World.cell? at h9 ⊢
 simp only at this h9 ⊢
 rw [this]
 exact h9
theorem dr.later (h:dr D w x) (hb:Below w.heap.size w w'):dr D w' x:=⟨(h.1.below hb (zw _)).more hb.size,h.2⟩
theorem dr.lt (h:dr D w x) {a:Addr} (ha:x.a=some a) (hn:0<x.t.l.length):a.block<w.heap.size:=by
 obtain ⟨⟨A,c,e,h1,h2,h3,h4,h5,h6⟩,hl⟩:=h
 simp only [SV.cs,List.cons.injEq,zG,and_true,true_and] at e
 obtain ⟨rfl,rfl⟩:=e
 obtain ⟨b,off,he,hlt,_⟩:=h6 hn
 rw [ha] at he
 simp only [zE] at he
 rw [he];exact hlt
end
structure StkE (S base D:Nat) (bn bt:Value) (w:World) (xs:List SV) (next:Int) (A:Option Addr) (c:Nat):Prop where
 hd:bS w S #[bn,bt,.slice A xs.length c,.int .i64 next] 219
 own:am SvR 29 w base 0 (.slice A xs.length c) xs
 tms:∀x∈xs,dr D w x
 sep:∀x∈xs,∀a,x.a=some a→a.block≠S∧∀b,A=some b→a.block≠b.block
 lt:∀x∈xs,∀a,x.a=some a→base≤a.block∧a.block<w.heap.size
def na (S:Nat) (A:Option Addr) (x:SV):Prop:=∀a,x.a=some a→a.block≠S∧∀b,A=some b→a.block≠b.block
theorem zn:(219:TypeId)≠29:=by decide
section
variable {S base D c:Nat} {bn bt:Value} {w w':World} {xs:List SV} {next:Int} {A:Option Addr}
theorem StkE.later (h:StkE S base D bn bt w xs next A c) (hb:Below w.heap.size w w'):StkE S base D bn bt w' xs next A c:=
 ⟨h.hd.later hb,h.own.later hb (zx _),fun x hx=>(h.tms x hx).later hb,h.sep,fun x hx a ha=>⟨(h.lt x hx a ha).1,zz (h.lt x hx a ha).2 hb.size⟩⟩
theorem StkE.head (h:StkE S base D bn bt w xs next A c) (next':Int):StkE S base D bn bt (w.setCell ⟨S,3,none⟩ (.int .i64 next')) xs next' A c:=by
 refine ⟨h.hd.set_ 3 _,h.own.farT h.hd zn 3 _,fun x hx=>(h.tms x hx).keep ((zy 0 w).setCell (p:=⟨S,3,none⟩) (zx _) _) fun a ha=>?_,h.sep,fun x hx a ha=>by rw [World.size_setCell];exact h.lt x hx a ha⟩
 exact Below.heap_setCell w ⟨S,3,none⟩ _ a.block (h.sep x hx a ha).1
end
theorem StkE.pop {S base D c:Nat} {bn bt:Value} {w:World} {xs:List SV} {x:SV} {next:Int} {A:Option Addr} (h:StkE S base D bn bt w (xs++[x]) next A c) :
 ∃g,A=some ⟨g,0,none⟩∧g≠S∧g<w.heap.size∧xs.length+1≤c∧c≤maxLen∧(∀j u,x.cs[j]? = some u→w.cell? ⟨g,xs.length*4+j,none⟩=some u) ∧
  StkE S base D bn bt (w.setCell ⟨S,2,none⟩ (.slice A xs.length c)) xs next A c∧dr D (w.setCell ⟨S,2,none⟩ (.slice A xs.length c)) x:=by
 have hne:=h.own.ne h.hd zn
 have hfar:=h.own.farT h.hd zn 2 (.slice A xs.length c)
 have htm:∀y∈xs++[x],dr D (w.setCell ⟨S,2,none⟩ (.slice A xs.length c)) y:=fun y hy=>(h.tms y hy).keep ((zy 0 w).setCell (p:=⟨S,2,none⟩) (zx _) _) fun a ha=>Below.heap_setCell w ⟨S,2,none⟩ _ a.block (h.sep y hy a ha).1
 obtain ⟨cells,ho,hf⟩:=h.own
 have hl:cells.length=(xs.length+1)*4:=by have:=hf.1;simpa [SvR] using this
 rcases ho.2 with ⟨h1,h2⟩ | ⟨g,cap,cur,hv,hg,hh,k1,k2,k3,k4⟩
 ·simp at h2
 ·simp only [zG] at hv
  obtain ⟨rfl,_,rfl⟩:=hv
  simp only [Value.ownBlock,ne_eq,zE] at hne
  rw [zA,List.length_singleton] at k1
  have hglt:g<w.heap.size:=by
   rcases Nat.lt_or_ge g w.heap.size with h' | h'
   ·exact h'
   ·rw [Array.getElem?_eq_none h'] at hh;cases hh
  refine ⟨g,rfl,hne,hglt,k1,k2,?_,⟨h.hd.set_ 2 _,?_,fun y hy=>htm y (List.mem_append_left _ hy),fun y hy=>h.sep y (List.mem_append_left _ hy),fun y hy a ha=>by rw [World.size_setCell];exact h.lt y (List.mem_append_left _ hy) a ha⟩,htm x (by simp)⟩
  ·intro j u hj
   have h0:=hf.2 xs.length (by simp)
   simp only [List.getElem_append_right (zw _),Nat.sub_self,List.getElem_singleton] at h0
   have h0:(cells.drop (xs.length*4)).take 4=x.cs:=h0
   rw [←h0,List.getElem?_take] at hj
   split at hj
   ·rw [List.getElem?_drop] at hj
    rw [cell_of_row w g _ cur 29 (0,0) hh]
    rw [←k4,List.getElem?_take] at hj
    split at hj
    ·simpa using hj
    ·cases hj
   ·cases hj
  ·obtain ⟨cells',ho',hf'⟩:=hfar
   rcases ho'.2 with ⟨h1',h2'⟩ | ⟨g',cap',cur',hv',hg',hh',k1',k2',k3',k4'⟩
   ·simp at h2'
   ·simp only [zG,zE,Addr.mk.injEq,and_true] at hv'
    obtain ⟨rfl,_,rfl⟩:=hv'
    have hl':cells'.length=(xs.length+1)*4:=by have:=hf'.1;simpa [SvR] using this
    refine ⟨cells'.take (xs.length*4),⟨by simp only [SvR,zK];omega,.inr ⟨g,c,cur',rfl,hg',hh',by omega,k2',k3',?_⟩⟩,?_⟩
    ·have e2:(xs++[x]).length*SvR.k=(xs.length+1)*4:=by simp [SvR]
     rw [e2] at k4'
     rw [←k4',List.take_take]
     congr 1
     simp [SvR]
    ·have:=hf'.take xs.length
     simpa [SvR] using this
theorem Exc.head {S:Nat} {w:World} (i:Nat) (v:Value):Exc S w (w.setCell ⟨S,i,none⟩ v):=(Exc.refl S w).set i v
theorem lA {S base D c:Nat} {bn bt:Value} {w:World} {xs:List SV} {x:SV} {next:Int} {A:Option Addr} (h:StkE S base D bn bt w (xs++[x]) next A c) (hn:xs.length≤100000) :
 Calls Tryz.prog 179 #[.pointer (some ⟨S,0,none⟩)] w fun e w'=>e=.returned (.agg x.cs.toArray)∧Exc S w w'∧StkE S base D bn bt w' xs next A c∧dr D w' x∧na S A x∧∀a,x.a=some a→base≤a.block∧a.block<w.heap.size:=by
 obtain ⟨g,rfl,hgS,hglt,hc1,hc2,hcell,hpop,htm⟩:=h.pop
 have HS:=zu h
 have hSlt:=h.hd.blk.lt
 have k_s:∀o,w.cell? ⟨S,o,none⟩=(#[bn,bt,.slice (some ⟨g,0,none⟩) (xs.length+1) c,.int .i64 next]:Array Value)[o]?:=by have:=h.hd.blk.cell;rwa [zA,List.length_singleton] at this
 have f_s:=h.hd.blk.free
 have c0:w.cell? ⟨g,xs.length*4,none⟩=some (.int .i64 x.t.kind):=hcell 0 _ rfl
 have c1:w.cell? ⟨g,xs.length*4+1,none⟩=some (.int .i64 x.t.n):=hcell 1 _ rfl
 have c2:w.cell? ⟨g,xs.length*4+2,none⟩=some (.string x.t.s):=hcell 2 _ rfl
 have c3:w.cell? ⟨g,xs.length*4+3,none⟩=some (.slice x.a x.t.l.length x.c):=hcell 3 _ rfl
 unfold maxLen at hc2
 have HP:=zu (And.intro hpop htm)
 generalize xs.length=n at *
 clear hcell hpop htm h
 go_enter Tryz.func179,Tryz.ntmps179
 go_wp2_with fail
 go_region
 go_wp2_with fail
 go_region
 have hsz:(w.setCell ⟨S,2,none⟩ (.slice (some ⟨g,0,none⟩) n c)).heap.size=w.heap.size:=World.size_setCell _ _ _
 have HX:Hid (Exc S w (w.setCell ⟨S,2,none⟩ (.slice (some ⟨g,0,none⟩) n c))):=zu (Exc.head 2 _)
 clear k_s f_s c0 c1 c2 c3
 generalize w.setCell ⟨S,2,none⟩ (.slice (some ⟨g,0,none⟩) n c)=ws at *
 rw [←hsz]
 have HSZ:=zu hsz
 have HB:Hid (Below ws.heap.size ws ((ws.alloc (.cells #[.int .i64 0,.int .i64 0,.string ⟨#[]⟩,.slice none 0 0] 29)).alloc (.cells #[.int .i64 x.t.kind,.int .i64 x.t.n,.string x.t.s,.slice x.a x.t.l.length x.c] 29)).drew.drew):=zu (al2 rfl).1.drew.drew
 have b_r:Blk ((ws.alloc (.cells #[.int .i64 0,.int .i64 0,.string ⟨#[]⟩,.slice none 0 0] 29)).alloc (.cells #[.int .i64 x.t.kind,.int .i64 x.t.n,.string x.t.s,.slice x.a x.t.l.length x.c] 29)).drew.drew ws.heap.size wR:=(n21 rfl:Blk ((ws.alloc (.cells #[.int .i64 0,.int .i64 0,.string ⟨#[]⟩,.slice none 0 0] 29)).alloc (.cells #[.int .i64 x.t.kind,.int .i64 x.t.n,.string x.t.s,.slice x.a x.t.l.length x.c] 29)) _ _)
 have b_t:Blk ((ws.alloc (.cells #[.int .i64 0,.int .i64 0,.string ⟨#[]⟩,.slice none 0 0] 29)).alloc (.cells #[.int .i64 x.t.kind,.int .i64 x.t.n,.string x.t.s,.slice x.a x.t.l.length x.c] 29)).drew.drew (ws.heap.size+1) #[.int .i64 x.t.kind,.int .i64 x.t.n,.string x.t.s,.slice x.a x.t.l.length x.c]:=(n22 rfl:Blk ((ws.alloc (.cells #[.int .i64 0,.int .i64 0,.string ⟨#[]⟩,.slice none 0 0] 29)).alloc (.cells #[.int .i64 x.t.kind,.int .i64 x.t.n,.string x.t.s,.slice x.a x.t.l.length x.c] 29)) _ _)
 generalize World.drew _=w3 at *
 have HB2:=zu (And.intro b_r b_t)
 have k_r:=b_r.cell
 have f_r:=b_r.free
 have k_t:=b_t.cell
 clear hsz b_r b_t
 go_wp2_with fail
 have hb:=cB HB.out (zw _) (.int .i64 x.t.kind) (.int .i64 x.t.n) (.string x.t.s) (.slice x.a x.t.l.length x.c)
 refine bodyPost_ret (mU rfl rfl (dy HB2.out.1 (.int .i64 x.t.kind) (.int .i64 x.t.n) (.string x.t.s) (.slice x.a x.t.l.length x.c)) rfl) rfl ?_
 exact ⟨rfl,HX.out.then (by omega) hb,HP.out.1.later hb,HP.out.2.later hb,HS.out.sep x (by simp),fun a ha=>by rw [HSZ.out.symm,HSZ.out];exact HS.out.lt x (by simp) a ha⟩
theorem four {β:Type}:∀Q:List β,4≤Q.length→∃q0 q1 q2 q3 R,Q=q0::q1::q2::q3::R
 | q0::q1::q2::q3::R,_=>⟨q0,q1,q2,q3,R,rfl⟩
 | [],h=>by simp at h
 | [_],h=>by simp at h
 | [_,_],h=>by simp at h
 | [_,_,_],h=>by simp at h
theorem wk {β:Type} (L:List β) (m:Nat) (h:m+4≤L.length) (a b c d:β):((((L.set m a).set (m+1) b).set (m+2) c).set (m+3) d).take (m+4)=L.take m++[a,b,c,d]:=by
 obtain ⟨P,Q,rfl,hP⟩:∃P Q,L=P++Q∧P.length=m:=⟨L.take m,L.drop m,(List.take_append_drop _ _).symm,by rw [zK];omega⟩
 subst hP
 rw [zA] at h
 obtain ⟨q0,q1,q2,q3,R,rfl⟩:=four Q (by omega)
 simp [List.set_append_right,List.take_append]
 exact List.take_of_length_le (by omega)
theorem am.last {w:World} {base:Nat} {v:Value} {xs:List SV} {y:SV} (h:am SvR 29 w base 0 v (xs++[y])) :
 ∃g c,v=.slice (some ⟨g,0,none⟩) (xs.length+1) c∧g<w.heap.size∧base≤g∧xs.length+1≤c∧c≤9223372036854775807∧(∀j u,y.cs[j]? = some u→w.cell? ⟨g,xs.length*4+j,none⟩=some u)∧(∀o,w.frozen? ⟨g,o,none⟩=false) ∧
  ∀x:SV,am SvR 29 ((((w.setCell ⟨g,xs.length*4,none⟩ (.int .i64 x.t.kind)).setCell ⟨g,xs.length*4+1,none⟩ (.int .i64 x.t.n)).setCell ⟨g,xs.length*4+2,none⟩ (.string x.t.s)).setCell ⟨g,xs.length*4+3,none⟩ (.slice x.a x.t.l.length x.c)) base 0 v (xs++[x]):=by
 obtain ⟨cells,ho,hf⟩:=h
 have hl:cells.length=(xs.length+1)*4:=by have:=hf.1;simpa [SvR] using this
 rcases ho.2 with ⟨h1,h2⟩ | ⟨g,cap,cur,hv,hg,hh,k1,k2,k3,k4⟩
 ·simp at h2
 ·rw [zA,List.length_singleton] at k1 hv
  have hglt:g<w.heap.size:=by
   rcases Nat.lt_or_ge g w.heap.size with h' | h'
   ·exact h'
   ·rw [Array.getElem?_eq_none h'] at hh;cases hh
  have hbt:bS w g cur 29:=hh
  have hk3:cur.size=cap*4:=k3
  have e4:(xs++[y]).length*SvR.k=(xs.length+1)*4:=by simp [SvR]
  rw [e4] at k4
  refine ⟨g,cap,hv,hglt,hg,k1,by unfold maxLen at k2;omega,?_,hbt.blk.free,fun x=>?_⟩
  ·intro j u hj
   have h0:=hf.2 xs.length (by simp)
   simp only [List.getElem_append_right (zw _),Nat.sub_self,List.getElem_singleton] at h0
   have h0:(cells.drop (xs.length*4)).take 4=y.cs:=h0
   rw [←h0,List.getElem?_take] at hj
   split at hj
   ·rw [List.getElem?_drop,←k4,List.getElem?_take] at hj
    split at hj
    ·rw [cell_of_row w g _ cur 29 (0,0) hh]
     simpa using hj
    ·cases hj
   ·cases hj
  ·have hs:=(((hbt.set_ (xs.length*4) (.int .i64 x.t.kind)).set_ (xs.length*4+1) (.int .i64 x.t.n)).set_ (xs.length*4+2) (.string x.t.s)).set_ (xs.length*4+3) (.slice x.a x.t.l.length x.c)
   have hcs:xs.length*4+4≤cur.toList.length:=by
    have h9:cur.toList.length=cap*4:=(zF).trans hk3
    omega
   have htk:cells.take (xs.length*4)=cur.toList.take (xs.length*4):=by
    rw [←k4,List.take_take]
    congr 1
    omega
   refine ⟨cells.take (xs.length*4)++x.cs,⟨by simp [SvR,SV.cs,hl];omega,.inr ⟨g,cap,_,?_,hg,hs,by simp;exact k1,k2,by simp;exact hk3,?_⟩⟩,?_⟩
   ·rw [hv];simp
   ·have e5:(xs++[x]).length*SvR.k=xs.length*4+4:=by simp [SvR];omega
    rw [e5,htk]
    simp only [Array.toList_setIfInBounds]
    exact wk _ _ hcs _ _ _ _
   ·have h1:=hf.take xs.length
    simp only [List.take_left'] at h1
    have h2:bp SvR w 0 xs (cells.take (xs.length*4)):=h1
    have h3:bp SvR w 0 (xs++[x]) (cells.take (xs.length*4)++x.cs):=h2.append (bp.one (R:=SvR) rfl)
    exact ⟨h3.1,fun i hi=>h3.2 i hi⟩
theorem TmOwn.at_ {d base:Nat} {w:World} {t:Tm} {A:Option Addr} {c:Nat} (h:TmOwn d base w t A c):dr d w ⟨t,A,c⟩:=by
 refine ⟨h.rtm,fun u hu=>?_⟩
 obtain ⟨cells,_,hf⟩:=h.own
 obtain ⟨i,hi,rfl⟩:=List.getElem_of_mem hu
 have:=hf.2 i hi
 generalize (cells.drop (i*(TmR d).k)).take (TmR d).k=vs at this
 have h2:RTm w 0 d t.l[i] vs:=this
 cases d with
 | zero=>exact h2.elim
 | succ d=>
   obtain ⟨A2,c2,_,_,_,_,_,_,h6⟩:=h2
   show t.l[i].l=[]
   rcases Nat.eq_zero_or_pos t.l[i].l.length with h0 | h0
   ·exact List.eq_nil_of_length_eq_zero h0
   ·obtain ⟨b,off,_,hb,_⟩:=h6 h0
    omega
theorem TmOwn.blk {d base:Nat} {w:World} {t:Tm} {A:Option Addr} {c:Nat} (h:TmOwn d base w t A c):∀a,A=some a→base≤a.block∧a.block<w.heap.size:=by
 intro a ha
 subst ha
 obtain ⟨cells,how,_⟩:=h.own
 exact how.lt a.block rfl
section
variable {α:Type} {R:Reader α} {P:Program} {w:World} {e:TypeId} {base:Nat} {v:Value} {xs ys:List α}
def bA (w:World) (v v':Value):Prop:=v'.ownBlock=v.ownBlock∨∃k,v'.ownBlock=some k∧w.heap.size≤k
theorem ow (t ty:TypeId) {i:TypeInfo} {z:Value} {bytes:Nat} (ht:P.underlying t=some (.slice e)) (hi:P.info? e=some i) (hz:i.zero=some z)
 (hsize:i.size=R.k) (hby:i.bytes=bytes) (hzs:z.cells.size=R.k) (hsz:0<R.k) (hs1:dJ R)
 (hown:am R e w base 0 v xs) {ad:Addr} {m c:Nat} (hsrc:fu R w 0 (some ad) ys) (hm:m=ys.length)
 (hbytes:(xs.length+ys.length)*bytes≤140737488355328) (hb1:1≤bytes) (hbase:base≤w.heap.size) :
 ∃v' w',(Builtin.append_ #[t,t] ty #[v,.slice (some ad) m c]).run P w=.ok v' w'∧am R e w' base 0 v' (xs++ys)∧w.grownBy w' v.ownBlock∧bA w v v':=by
 subst hm
 obtain ⟨cells,how,hf⟩:=hown
 obtain ⟨news,hf2,_,hc⟩:=hsrc
 have hle:xs.length+ys.length≤(xs.length+ys.length)*bytes:=Nat.le_mul_of_pos_right _ hb1
 have hnews:=hc ad rfl
 have h63:xs.length+ys.length≤maxLen:=by unfold maxLen;omega
 have key:=fun (b:Nat) (hb:b≤w.heap.size) (ho:w.ownsRow b e R.k v xs.length cells)=>run_append_own (P:=P) w b t ty e i z R.k bytes ht hi hz hsize hby hzs hsz v xs.length cells ho ad ys.length c news hf2.1 hnews (hf2.single hs1) h63 hbytes hb
 obtain ⟨v',w',hr,ho',hg,_⟩:=key base hbase how
 have hbel:Below 0 w w':=(zy 0 w).grown hg (zx _) (fun k hk=>zx _)
 refine ⟨v',w',hr,⟨cells++news,by rw [zA];exact ho',(hf.append hf2).keep hbel (zw _)⟩,hg,?_⟩
 rcases how.2 with ⟨rfl,h0⟩ | ⟨g,cap,cur,rfl,hbg,hgb,hnc,hcm,hcs,htake⟩
 ·have hcn:cells=[]:=List.eq_nil_of_length_eq_zero (by rw [how.1,h0,Nat.zero_mul])
  subst hcn
  obtain ⟨v2,w2,hr2,ho2,_,_⟩:=key w.heap.size (zw _) (by rw [h0];exact World.ownsRow_nil _ _ _ _)
  rw [hr] at hr2
  simp only [Result.ok.injEq] at hr2
  obtain ⟨rfl,rfl⟩:=hr2
  rcases ho2.2 with ⟨h1,_⟩ | ⟨g,cap,cur,rfl,hbg,_⟩
  ·rw [h1];exact .inl rfl
  ·exact .inr ⟨g,rfl,hbg⟩
 ·by_cases hroom:xs.length+ys.length≤cap
  ·have hfit:xs.length*i.size+news.length≤cur.size:=by rw [hf2.1,hcs,hsize,←Nat.add_mul];exact Nat.mul_le_mul_right _ hroom
   have hr2:=run_append_room (P:=P) w t ty e i ht hi g xs.length cap cur hgb ad ys.length c news (by rw [hf2.1,hsize]) hnews (hf2.single hs1) hroom hfit
   rw [hr] at hr2
   simp only [Result.ok.injEq] at hr2
   obtain ⟨rfl,rfl⟩:=hr2
   exact .inl rfl
  ·have holds:∀j u,cells[j]? = some u→w.cell? ((⟨g,0,none⟩:Addr).add j)=some u:=how.cells (g:=g) rfl
   subst hby
   have hr2:=run_append_grow (P:=P) w t ty e i z ht hi hz ⟨g,0,none⟩ xs.length cap cells (by rw [how.1,hsize]) holds ad ys.length c news (by rw [hf2.1,hsize]) hnews (by omega) (by omega) (growslice_fits (by omega) hbytes)
   rw [hr] at hr2
   simp only [Result.ok.injEq] at hr2
   obtain ⟨rfl,rfl⟩:=hr2
   exact .inr ⟨w.heap.size,rfl,zw _⟩
theorem lW {o:Oper} {a:Act} {K:Act→World→Prop} {Q:Exit→Act→World→Prop} (s x:Operand) (t:TypeId)
 (ho:o.op=.call { callee:=.builtin .append,args:=#[s,x],argTypes:=#[t,t] })
 {i:TypeInfo} {z:Value} {bytes:Nat} (ht:P.underlying t=some (.slice e)) (hi:P.info? e=some i) (hz:i.zero=some z)
 (hsize:i.size=R.k) (hby:i.bytes=bytes) (hzs:z.cells.size=R.k) (hsz:0<R.k) (hs1:dJ R)
 (hs:a.eval s=v) (hown:am R e w base 0 v xs) {ad:Addr} {m c:Nat} (hx:a.eval x=.slice (some ad) m c) (hsrc:fu R w 0 (some ad) ys) (hm:m=ys.length)
 (hbytes:(xs.length+ys.length)*bytes≤140737488355328) (hb1:1≤bytes) (hbase:base≤w.heap.size)
 (h:∀v' w',am R e w' base 0 v' (xs++ys)→w.grownBy w' v.ownBlock→bA w v v'→K (a.put o.dst v') w'):o.wp P a w K Q:=by
 obtain ⟨v',w',hr,h2,h3,h4⟩:=ow (P:=P) t o.type (c:=c) ht hi hz hsize hby hzs hsz hs1 hown hsrc hm hbytes hb1 hbase
 unfold Oper.wp execOp
 simp only [ho,resolve,invoke,builtin,Sem.run_bind,Sem.run_pure,Result.andThen_ok,List.map_toArray,List.map_cons,List.map_nil,hs,hx,hr]
 exact h v' w' h2 h3 h4
theorem cR {ops:Array Oper} {o:Oper} {a:Act} {K:Act→World→Prop} {Q:Exit→Act→World→Prop} {E:Prop} (hgd:o.guard=none) (s x:Operand) (t:TypeId)
 (ho:o.op=.call { callee:=.builtin .append,args:=#[s,x],argTypes:=#[t,t] })
 {i:TypeInfo} {z:Value} {bytes:Nat} (ht:P.underlying t=some (.slice e)) (hi:P.info? e=some i) (hz:i.zero=some z)
 (hsize:i.size=R.k) (hby:i.bytes=bytes) (hzs:z.cells.size=R.k) (hsz:0<R.k) (hs1:dJ R)
 (hs:a.eval s=v) (hown:am R e w base 0 v xs) {ad:Addr} {m c:Nat} (hx:a.eval x=.slice (some ad) m c) (hsrc:fu R w 0 (some ad) ys) (hm:m=ys.length)
 (hbytes:(xs.length+ys.length)*bytes≤140737488355328) (hb1:1≤bytes) (hbase:base≤w.heap.size)
 (h:∀v' w',am R e w' base 0 v' (xs++ys)→w.grownBy w' v.ownBlock→bA w v v'→K (a.put o.dst v') w') :
 if Region.wanted o (yielded ops a.tmps)=true then Oper.wp P o a w K Q else E:=by
 have hw:Region.wanted o (yielded ops a.tmps)=true:=by simp [Region.wanted,hgd]
 rw [if_pos hw]
 exact lW s x t ho ht hi hz hsize hby hzs hsz hs1 hs hown hx hsrc hm hbytes hb1 hbase h
end
section
variable {α:Type} {R:Reader α} {P:Program} {w:World} {e:TypeId} {base B:Nat} {v:Value} {xs ys:List α}
theorem ni (t ty:TypeId) {i:TypeInfo} {z:Value} {bytes:Nat} (ht:P.underlying t=some (.slice e)) (hi:P.info? e=some i) (hz:i.zero=some z)
 (hsize:i.size=R.k) (hby:i.bytes=bytes) (hzs:z.cells.size=R.k) (hsz:0<R.k) (hs1:dJ R)
 (hown:am R e w base B v xs) {A:Option Addr} {m c:Nat} (hsrc:fu R w B A ys) (hm:m=ys.length) (hB:B≤base)
 (hbytes:(xs.length+ys.length)*bytes≤140737488355328) (hb1:1≤bytes) (hbase:base≤w.heap.size) :
 ∃v' w',(Builtin.append_ #[t,t] ty #[v,.slice A m c]).run P w=.ok v' w'∧am R e w' base B v' (xs++ys)∧Below base w w'∧w.grownBy w' v.ownBlock∧bA w v v':=by
 subst hm
 obtain ⟨cells,how,hf⟩:=hown
 obtain ⟨news,hf2,hnil,hc⟩:=hsrc
 have hle:xs.length+ys.length≤(xs.length+ys.length)*bytes:=Nat.le_mul_of_pos_right _ hb1
 rcases A with _ | ad
 ·obtain rfl:=hnil rfl
  refine ⟨v,w,eE (P:=P) t ty e ht hi how c,?_,zy _ _,World.grownBy.refl w _,.inl rfl⟩
  rw [List.append_nil]
  exact ⟨cells,how,hf⟩
 have hnews:=hc ad rfl
 have h63:xs.length+ys.length≤maxLen:=by unfold maxLen;omega
 have key:=fun (b:Nat) (hb:b≤w.heap.size) (ho:w.ownsRow b e R.k v xs.length cells)=>run_append_own (P:=P) w b t ty e i z R.k bytes ht hi hz hsize hby hzs hsz v xs.length cells ho ad ys.length c news hf2.1 hnews (hf2.single hs1) h63 hbytes hb
 obtain ⟨v',w',hr,ho',hg,_⟩:=key base hbase how
 have hbel:Below base w w':=(zy base w).grown hg hbase (fun k hk=>(how.lt k hk).1)
 refine ⟨v',w',hr,⟨cells++news,by rw [zA];exact ho',(hf.append hf2).keep hbel hB⟩,hbel,hg,?_⟩
 rcases how.2 with ⟨rfl,h0⟩ | ⟨g,cap,cur,rfl,hbg,hgb,hnc,hcm,hcs,htake⟩
 ·have hcn:cells=[]:=List.eq_nil_of_length_eq_zero (by rw [how.1,h0,Nat.zero_mul])
  subst hcn
  obtain ⟨v2,w2,hr2,ho2,_,_⟩:=key w.heap.size (zw _) (by rw [h0];exact World.ownsRow_nil _ _ _ _)
  rw [hr] at hr2
  simp only [Result.ok.injEq] at hr2
  obtain ⟨rfl,rfl⟩:=hr2
  rcases ho2.2 with ⟨h1,_⟩ | ⟨g,cap,cur,rfl,hbg,_⟩
  ·rw [h1];exact .inl rfl
  ·exact .inr ⟨g,rfl,hbg⟩
 ·by_cases hroom:xs.length+ys.length≤cap
  ·have hfit:xs.length*i.size+news.length≤cur.size:=by rw [hf2.1,hcs,hsize,←Nat.add_mul];exact Nat.mul_le_mul_right _ hroom
   have hr2:=run_append_room (P:=P) w t ty e i ht hi g xs.length cap cur hgb ad ys.length c news (by rw [hf2.1,hsize]) hnews (hf2.single hs1) hroom hfit
   rw [hr] at hr2
   simp only [Result.ok.injEq] at hr2
   obtain ⟨rfl,rfl⟩:=hr2
   exact .inl rfl
  ·have holds:∀j u,cells[j]? = some u→w.cell? ((⟨g,0,none⟩:Addr).add j)=some u:=how.cells (g:=g) rfl
   subst hby
   have hr2:=run_append_grow (P:=P) w t ty e i z ht hi hz ⟨g,0,none⟩ xs.length cap cells (by rw [how.1,hsize]) holds ad ys.length c news (by rw [hf2.1,hsize]) hnews (by omega) (by omega) (growslice_fits (by omega) hbytes)
   rw [hr] at hr2
   simp only [Result.ok.injEq] at hr2
   obtain ⟨rfl,rfl⟩:=hr2
   exact .inr ⟨w.heap.size,rfl,zw _⟩
theorem dD {o:Oper} {a:Act} {K:Act→World→Prop} {Q:Exit→Act→World→Prop} (s x:Operand) (t:TypeId)
 (ho:o.op=.call { callee:=.builtin .append,args:=#[s,x],argTypes:=#[t,t] })
 {i:TypeInfo} {z:Value} {bytes:Nat} (ht:P.underlying t=some (.slice e)) (hi:P.info? e=some i) (hz:i.zero=some z)
 (hsize:i.size=R.k) (hby:i.bytes=bytes) (hzs:z.cells.size=R.k) (hsz:0<R.k) (hs1:dJ R)
 (hs:a.eval s=v) (hown:am R e w base B v xs) {A:Option Addr} {m c:Nat} (hx:a.eval x=.slice A m c) (hsrc:fu R w B A ys) (hm:m=ys.length) (hB:B≤base)
 (hbytes:(xs.length+ys.length)*bytes≤140737488355328) (hb1:1≤bytes) (hbase:base≤w.heap.size)
 (h:∀v' w',am R e w' base B v' (xs++ys)→Below base w w'→w.grownBy w' v.ownBlock→bA w v v'→K (a.put o.dst v') w'):o.wp P a w K Q:=by
 obtain ⟨v',w',hr,h2,h3,h4,h5⟩:=ni (P:=P) t o.type (c:=c) ht hi hz hsize hby hzs hsz hs1 hown hsrc hm hB hbytes hb1 hbase
 unfold Oper.wp execOp
 simp only [ho,resolve,invoke,builtin,Sem.run_bind,Sem.run_pure,Result.andThen_ok,List.map_toArray,List.map_cons,List.map_nil,hs,hx,hr]
 exact h v' w' h2 h3 h4 h5
end
def fA (w:World) (v:Value) (k:Nat) (cs:Array Value) (T:TypeId):Prop:=w.heap[k]? = some (.cells cs T (0,0))∧v.ownBlock≠some k
section
variable {w w':World} {v v':Value} {k:Nat} {cs:Array Value} {T:TypeId} {o:Obj}
theorem fA.lt (h:fA w v k cs T):k<w.heap.size:=(Array.getElem?_eq_some_iff.1 h.1).1
theorem fA.mk' (h1:w.heap[k]? = some (.cells cs T (0,0))) (h2:v.ownBlock≠some k):fA w v k cs T:=⟨h1,h2⟩
theorem fA.below (h:fA w v k cs T) (hb:Below w.heap.size w w'):fA w' v k cs T:=by
 have hb2:Blk w k cs:=⟨T,h.1⟩
 refine ⟨?_,h.2⟩
 exact (hb.block k h.lt).trans h.1
theorem fA.app (h:fA w v k cs T) (hg:w.grownBy w' v.ownBlock) (hf:bA w v v'):fA w' v' k cs T:=by
 refine ⟨(hg.block k h.lt (Ne.symm h.2)).trans h.1,?_⟩
 rcases hf with e | ⟨g,e,hge⟩
 ·rw [e];exact h.2
 ·rw [e];have:=h.lt;simp;omega
theorem fA.blk (h:fA w v k cs T):Blk w k cs:=⟨T,h.1⟩
end
theorem am.own_lt {α:Type} {R:Reader α} {e:TypeId} {w:World} {base B k:Nat} {v:Value} {xs:List α} (h:am R e w base B v xs) (hk:w.heap.size≤k):v.ownBlock≠some k:=by
 obtain ⟨cells,h,_⟩:=h
 intro e
 have:=(h.lt k e).2
 omega
theorem fA.new {α:Type} {R:Reader α} {e T:TypeId} {w:World} {base B:Nat} {v:Value} {xs:List α} {cs:Array Value} (h:am R e w base B v xs):fA (w.alloc (.cells cs T)) v w.heap.size cs T:=⟨heap_alloc_new w _,h.own_lt (zw _)⟩
theorem Blk.srcs {α:Type} {R:Reader α} {w:World} {B b:Nat} {xs:List α} {vs:Array Value} (h:Blk w b vs) (hf:bp R w B xs vs.toList):fu R w B (some ⟨b,0,none⟩) xs:=by
 refine ⟨vs.toList,hf,fun e=>by (cases e),fun a ha j u hu=>?_⟩
 simp only [zE] at ha
 subst ha
 have:=h.cell j
 rw [←Array.getElem?_toList,hu] at this
 unfold Addr.add
 split
 ·rename_i hj;subst hj;exact this
 ·simpa using this
theorem am.fresh {α:Type} {R:Reader α} {e:TypeId} {w:World} {base B k:Nat} {v:Value} {xs:List α} (h:am R e w base B v xs) (hk:w.heap.size≤k):some k≠v.ownBlock:=by
 obtain ⟨cells,h,_⟩:=h
 intro e
 have:=(h.lt k e.symm).2
 omega
section
variable {α:Type} {R:Reader α} {w:World} {B b:Nat} {xs:List α} {vs:Array Value} {T:TypeId} {o2:Obj}
end
section
variable {α:Type} {R:Reader α} {w:World} {B b:Nat} {xs:List α} {vs:Array Value} {T:TypeId} {o2:Obj}
theorem ym (h:w.heap[b]? = some (.cells vs T)) (hf:bp R w B xs vs.toList):fu R w B (some ⟨b,0,none⟩) xs:=Blk.srcs ⟨_,h⟩ hf
end
end Go.Proofs.YtjpndglegpcdnaaGreat
