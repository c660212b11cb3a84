/- A term whose list is the call's own, as the stack wants it. -/
import Derived.Test.YtjpndglegpcdnaaGreatReg3
import Derived.RegionTactic
import Derived.Test.YtjpndglegpcdnaaGreatSet2
set_option linter.unusedVariables false
set_option linter.unusedSimpArgs false
set_option maxRecDepth 100000
set_option maxHeartbeats 8000000
namespace Go.Proofs.YtjpndglegpcdnaaGreat
open Go.ChangeShapes Go.WideShapes Go.ChangeAt Go.RowKit
def wfI (n:Nat) (i:Ins):Prop:=(i.kind=2→0≤i.x∧i.x≤n∧0≤i.y∧i.y≤n)∧(i.kind=3→0≤i.x∧i.x≤n)
def wfN (n:Nat) (l:List Ins):Prop:=∀i∈l,wfI n i
theorem wfI.mono {n m:Nat} {i:Ins} (h:wfI n i) (hn:n≤m):wfI m i:=⟨fun k=>by have:=h.1 k;omega,fun k=>by have:=h.2 k;omega⟩
theorem wfN.mono {n m:Nat} {l:List Ins} (h:wfN n l) (hn:n≤m):wfN m l:=fun i hi=>(h i hi).mono hn
theorem wfN.append {n:Nat} {a b:List Ins} (h:wfN n a) (k:wfN n b):wfN n (a++b):=fun i hi=>by
 rcases List.mem_append.1 hi with h1 | h1
 ·exact h i h1
 ·exact k i h1
theorem wfN.nil {n:Nat}:wfN n []:=fun _ h=>by cases h
theorem wfN.one {n:Nat} {i:Ins} (h:wfI n i):wfN n [i]:=fun j hj=>by
 rw [List.mem_singleton] at hj;subst hj;exact h
theorem jn {n:Int} (h0:0≤n) (h1:n≤1000000000):wrap64 n=n:=by unfold wrap64;omega
theorem wfN.moved {m n k:Nat} {l:List Ins} (h:wfN m l) (hk:m+k≤n) (hn:n≤1000000000):wfN n (aH l k):=by
 intro i hi
 obtain ⟨j,hj,rfl⟩:=List.mem_map.1 hi
 have hw:=h j hj
 unfold gK
 by_cases h2:j.kind=2
 ·have:=hw.1 h2
  rw [if_pos h2]
  refine ⟨fun _=>?_,fun h3=>?_⟩
  ·simp only
   rw [jn (by omega) (by omega),jn (by omega) (by omega)]
   omega
  ·simp only at h3;omega
 ·rw [if_neg h2]
  by_cases h3:j.kind=3
  ·have:=hw.2 h3
   rw [if_pos h3]
   refine ⟨fun h=>absurd h h2,fun _=>?_⟩
   simp only
   rw [jn (by omega) (by omega)]
   omega
  ·rw [if_neg h3]
   exact ⟨fun h=>absurd h h2,fun h=>absurd h h3⟩
theorem kl {n:Nat} {x y:Int} (h0:0≤x) (h1:x≤n) (h2:0≤y) (h3:y≤n):wfI n (bu x y):=⟨fun _=>⟨h0,h1,h2,h3⟩,fun h=>by simp [bu] at h⟩
theorem vw {n:Nat} {x:Int} (h0:0≤x) (h1:x≤n):wfI n (iv x):=⟨fun h=>by simp [iv] at h,fun _=>⟨h0,h1⟩⟩
theorem rx {n:Nat} {i:Ins} (h2:i.kind≠2) (h3:i.kind≠3):wfI n i:=⟨fun h=>absurd h h2,fun h=>absurd h h3⟩
theorem fD (i:Ins) (c:Nat):(lI i c).kind=i.kind:=by
 unfold lI Ins.put
 split
 ·rfl
 ·split
  ·rfl
  ·split<;>rfl
theorem qp (i:Ins) (f t:Nat):(dU i f t).kind=i.kind:=by
 unfold dU
 generalize List.range (t+1-f)=l
 induction l generalizing i with
 | nil=>rfl
 | cons a l ih=>rw [List.foldl_cons,ih,fD]
theorem gR (s:ByteArray):∀n p i,(bg s n p i).1.kind=i.kind
 | 0,p,i=>rfl
 | n+1,p,i=>by
   unfold bg
   split
   ·simp only
    rw [gR s n,qp]
   ·rfl
theorem kw (s:ByteArray) (p:PS):(dK s p).1.kind=1:=by
 unfold dK
 simp only
 split
 ·show (bg s _ _ ch).1.kind=1
  rw [gR];rfl
 ·rw [gR];rfl
theorem wf_all (s:ByteArray) (hs:s.size≤1000000):∀n,(∀p,wfN (qi s n p).1.length (qi s n p).1)∧(∀p out,wfN out.length out→out.length+2*bz s p≤4000000→wfN (jh s n p out).1.length (jh s n p out).1)∧(∀p,bz s p≠0→wfN (eG s n p).1.length (eG s n p).1)∧(∀p,bz s p≠0→wfN (fw s n p).1.length (fw s n p).1):=by
 intro n
 induction n with
 | zero=>exact ⟨fun p=>wfN.nil,fun p out h _=>h,fun p _=>wfN.nil,fun p _=>wfN.nil⟩
 | succ n ih=>
   obtain ⟨ihp,ihr,ihc,iha⟩:=ih
   refine ⟨fun p=>?_,fun p out ho hb=>?_,fun p hp=>?_,fun p hp=>?_⟩
   ·have hr:=jA s p
    unfold qi
    simp only
    obtain ⟨h1,h2⟩:=(eT s n).2.1 p []
    have h3:=ihr p [] wfN.nil (by simp;omega)
    split
    ·have h4:=ihp (jh s n p []).2.step
     have h5:=(iD s n (jh s n p []).2.step).len
     have h6:=jA s (jh s n p []).2.step
     simp only [List.length_nil] at h2
     generalize (jh s n p []).1=a at *
     generalize (qi s n (jh s n p []).2.step).1=b at *
     have e:(gS a b).length=a.length+b.length+2:=by simp [gS,ah];omega
     simp only [e]
     refine wfN.append (wfN.append (wfN.append (wfN.one (kl (by omega) (by omega) (by omega) (by omega))) (h3.moved (k:=1) (by omega) (by omega))) (wfN.one (vw (by omega) (by omega)))) ?_
     exact h4.moved (k:=a.length+2) (by omega) (by omega)
    ·exact h3
   ·unfold jh
    split
    ·rename_i hc
     have hne:bz s p≠0:=by
      rw [yx] at hc
      have:=hc.1
      rw [ej] at this
      simpa using this
     have h1:=(eT s n).2.2.1 p hne
     have h4:=h1.len
     refine ihr _ _ ?_ ?_
     ·rw [yv,ah]
      refine wfN.append (ho.mono (by omega)) ((ihc p hne).moved (k:=out.length) (by omega) (by omega))
     ·rw [yv,ah]
      omega
    ·exact ho
   ·unfold eG
    simp only
    have h1:=iha p hp
    have h2:=((eT s n).2.2.2 p hp).len
    have h3:=jA s p
    generalize fw s n p=r at *
    obtain ⟨a,q⟩:=r
    simp only at h1 h2 ⊢
    split
    ·have e:([bu 1 (↑a.length+2)]++aH a 1++[iv 0]).length=a.length+2:=by simp [ah]
     simp only [e]
     exact wfN.append (wfN.append (wfN.one (kl (by omega) (by omega) (by omega) (by omega))) (h1.moved (k:=1) (by omega) (by omega))) (wfN.one (vw (by omega) (by omega)))
    ·split
     ·have e:(a++[bu 0 (↑a.length+1)]).length=a.length+1:=by simp
      simp only [e]
      exact wfN.append (h1.mono (by omega)) (wfN.one (kl (by omega) (by omega) (by omega) (by omega)))
     ·split
      ·have e:([bu 1 (↑a.length+1)]++aH a 1).length=a.length+1:=by simp [ah]
       simp only [e]
       exact wfN.append (wfN.one (kl (by omega) (by omega) (by omega) (by omega))) (h1.moved (k:=1) (by omega) (by omega))
      ·exact h1
   ·unfold fw
    simp only
    have leaf:∀(i:Ins),i.kind≠2→i.kind≠3→wfN [i].length [i]:=fun i h2 h3=>wfN.one (rx h2 h3)
    split
    ·split
     ·exact wfN.nil
     ·exact ihp _
    ·split
     ·exact leaf _ (by rw [kw];decide) (by rw [kw];decide)
     ·split
      ·exact leaf _ (by decide) (by decide)
      ·split
       ·exact leaf _ (by decide) (by decide)
       ·split
        ·exact leaf _ (by decide) (by decide)
        ·split
         ·exact leaf _ (by rw [fD];decide) (by rw [fD];decide)
         ·split
          ·exact leaf _ (by decide) (by decide)
          ·exact leaf _ (by rw [fD];decide) (by rw [fD];decide)
structure Prg (l:List Ins):Prop where
 pos:0<l.length
 len:l.length≤1000
 wf:wfN (l.length-1) l
 last:∀i,i+1=l.length→(l.getD i ch).kind=6
theorem wg {s:ByteArray} (h:(dN s).2=0):Prg (dN s).1:=by
 unfold dN at h ⊢
 split
 ·rename_i hs;rw [if_pos hs] at h;simp at h
 ·rename_i hs
  rw [if_neg hs] at h
  simp only at h ⊢
  split
  ·have h1:=(wf_all s (by omega) (fi s.size)).1 ⟨0,0,0⟩
   have h2:=(iD s (fi s.size) ⟨0,0,0⟩).len
   have h3:=jA s ⟨0,0,0⟩
   generalize qi s (fi s.size) ⟨0,0,0⟩=r at *
   obtain ⟨l,q⟩:=r
   simp only at h1 h2 ⊢
   refine ⟨by simp,by simp;omega,?_,?_⟩
   ·rw [yv,List.length_singleton,Nat.add_sub_cancel]
    exact wfN.append h1 (wfN.one (rx (by decide) (by decide)))
   ·intro i hi
    rw [yv,List.length_singleton] at hi
    obtain rfl:i=l.length:=by omega
    simp [List.getD_eq_getElem?_getD,List.getElem?_append_right,pM]
  ·rename_i hc
   rw [if_neg hc] at h
   exact absurd h hc
def fH (l:List Ins) (i:Int):Ins:=l.getD i.toNat ch
def ez (x:Ins) (i:Int) (first last:Bool):List Int:=
 if x.kind=2 then [x.x,x.y] else if x.kind=3 then [x.x] else if (x.kind=4∧first=true)∨(x.kind=5∧last=true) then [i+1] else []
def kD (l:List Ins) (first last:Bool):Nat→List Int→List Bool × Bool→List Bool × Bool
 | 0,_,st=>st
 | _+1,[],st=>st
 | n+1,i::todo,st=>
   if st.1.getD i.toNat false=true then kD l first last n todo st
   else kD l first last n (ez (fH l i) i first last++todo) (st.1.set i.toNat true,st.2||decide ((fH l i).kind=6))
def yb (on:List Bool):Nat:=on.countP (fun b=>!b)
def bL (l:List Ins) (first last:Bool) (i:Int) (st:List Bool × Bool):List Bool × Bool:=kD l first last (3*l.length+2) [i] st
def dt (x:Ins) (c:Nat):Bool:=decide (x.kind=1)&&(bits .and .u64 (x.word (c / 64) / 2 ^ (c % 64)) 1==1)
def dC (l:List Ins) (c:Nat) (last:Bool):Nat→List Bool→List Bool × Bool→List Bool × Bool
 | _,[],st=>st
 | k,on::r,st=>dC l c last (k+1) r (if on&&dt (fH l k) c then bL l false last (k+1) st else st)
def iz (l:List Ins):List Bool × Bool:=(List.replicate l.length false,false)
def takes (l:List Ins) (c:Nat) (last:Bool) (st:List Bool × Bool):List Bool × Bool:=dC l c last 0 st.1 (iz l)
def iW (l:List Ins) (t:ByteArray) (whole:Bool):Nat→Nat→List Bool × Bool→Bool
 | 0,_,st=>st.2
 | n+1,i,st=>
   if st.2&&!whole then true
   else
    let last:=decide (i+1=t.size)
    let st1:=takes l (cd t i) last st
    iW l t whole n (i+1) (if whole then st1 else bL l false last 0 st1)
def fz (pat t:ByteArray) (whole:Bool):Bool × Int:=
 if 256<t.size then (false,1)
 else if (dN pat).2≠0 then (false,(dN pat).2)
 else (iW (dN pat).1 t whole t.size 0 (bL (dN pat).1 true (decide (t.size=0)) 0 (iz (dN pat).1)),0)
theorem outs_in {l:List Ins} (h:Prg l) {i:Int} (h0:0≤i) (h1:i<l.length) (f t:Bool):∀k∈ez (fH l i) i f t,0≤k∧k<l.length:=by
 have hi:i.toNat<l.length:=by omega
 have hx:fH l i=l[i.toNat]:=by unfold fH;rw [List.getD_eq_getElem?_getD,yy hi];rfl
 have hw:=h.wf l[i.toNat] (List.getElem_mem hi)
 have hp:=h.pos
 intro k hk
 unfold ez at hk
 split at hk
 ·rename_i h2
  rw [hx] at h2 hk
  have:=hw.1 h2
  simp only [List.mem_cons,List.not_mem_nil,or_false] at hk
  omega
 ·split at hk
  ·rename_i h3
   rw [hx] at h3 hk
   have:=hw.2 h3
   simp only [List.mem_cons,List.not_mem_nil,or_false] at hk
   omega
  ·split at hk
   ·rename_i h4
    simp only [List.mem_cons,List.not_mem_nil,or_false] at hk
    by_cases he:i.toNat+1=l.length
    ·have:=h.last i.toNat he
     unfold fH at h4
     rw [this] at h4
     simp at h4
    ·omega
   ·cases hk
theorem xk {on:List Bool} {i:Nat} (h:on.getD i false=false) (hi:i<on.length):yb (on.set i true)+1=yb on:=by
 unfold yb
 rw [List.getD_eq_getElem?_getD,yy hi] at h
 have h:on[i]=false:=h
 have key:∀(l:List Bool) (i:Nat) (hi:i<l.length),l[i]=false→(l.set i true).countP (fun b=>!b)+1=l.countP (fun b=>!b):=by
  intro l
  induction l with
  | nil=>intro i hi;simp at hi
  | cons a l ih=>
    intro i hi h
    cases i with
    | zero=>simp only [List.getElem_cons_zero] at h;subst h;simp
    | succ i=>
      simp only [List.getElem_cons_succ] at h
      have:=ih i (by simpa using hi) h
      simp only [List.set_cons_succ,List.countP_cons]
      omega
 exact key on i hi h
theorem offs_le (on:List Bool):yb on≤on.length:=List.countP_le_length
theorem tL (l:List Ins) (f t:Bool) (n:Nat) (st:List Bool × Bool):kD l f t n [] st=st:=by cases n<;>rfl
theorem xq {l:List Ins} (h:Prg l) {k c:Nat} (hk:k<l.length) (ht:dt (fH l k) c=true):k+1<l.length:=by
 by_cases he:k+1=l.length
 ·have:=h.last k he
  unfold dt fH at ht
  rw [Int.toNat_natCast,this] at ht
  simp at ht
 ·omega
def rA:Reader Int where
 k:=1
 rd:=fun _ _ i vs=>vs=[.int .i64 i]
 keep:=fun _ _ h=>h
 wide:=fun _ h=>h
 len:=fun h=>by subst h;rfl
theorem sI:dz rA:=fun {w B x vs} h u hu=>by
 obtain rfl:vs=[.int .i64 x]:=h
 simp only [List.mem_cons,List.not_mem_nil,or_false] at hu
 subst hu;rfl
theorem infoInt:(Tryz.prog.info? 3).map (fun i=>(i.zero,i.size,i.bytes))=some (some (.int .i64 0),1,8):=by kernel_rfl
theorem wC:(Tryz.prog.info? 4).map (fun i=>(i.zero,i.size,i.bytes))=some (some (.bool false),1,1):=by kernel_rfl
section
variable {α:Type} {R:Reader α} {e T:TypeId} {w w':World} {base B D:Nat} {v:Value} {xs:List α} {vs:Array Value}
theorem am.ne (h:am R e w base B v xs) (hD:bN w D vs T) (hT:T≠e):v.ownBlock≠some D:=by
 obtain ⟨cells,h,_⟩:=h
 rcases h.2 with ⟨h1,_⟩ | ⟨g,cap,cur,hv,hg,hh,r⟩
 ·rw [h1];simp [Value.ownBlock]
 ·rw [hv]
  simp only [Value.ownBlock,ne_eq,yz]
  intro hgd
  subst hgd
  unfold bN at hD
  rw [hD] at hh
  simp only [yz,Obj.cells.injEq] at hh
  exact hT hh.2.1
theorem am.farT (h:am R e w base 0 v xs) (hD:bN w D vs T) (hT:T≠e) (i:Nat) (u:Value):am R e (w.setCell ⟨D,i,none⟩ u) base 0 v xs:=by
 have hne:=h.ne hD hT
 obtain ⟨cells,h,hf⟩:=h
 refine ⟨cells,⟨h.1,?_⟩,hf.keep ((yq 0 w).setCell (p:=⟨D,i,none⟩) (yp _) u) (yo _)⟩
 rcases h.2 with h2 | ⟨g,cap,cur,hv,hg,hh,r⟩
 ·exact .inl h2
 ·refine .inr ⟨g,cap,cur,hv,hg,?_,r⟩
  rw [hv] at hne
  simp only [Value.ownBlock,ne_eq,yz] at hne
  exact (Below.heap_setCell w ⟨D,i,none⟩ u g hne).trans hh
theorem bN.grown {row:Option Nat} (h:bN w D vs T) (hg:w.grownBy w' row) (hne:row≠some D):bN w' D vs T:=by
 exact (hg.block D h.blk.lt (Ne.symm hne)).trans h
end
def nK (D:Nat) (w w':World):Prop:=∀b vs T,T≠3→b≠D→bN w b vs T→bN w' b vs T
theorem nK.trans {D:Nat} {a b c:World} (h:nK D a b) (k:nK D b c):nK D a c:=fun x vs T h1 h2 h3=>k x vs T h1 h2 (h x vs T h1 h2 h3)
structure Stk (D base:Nat) (w:World) (A:Option Addr) (c:Nat) (xs:List Int):Prop where
 hd:bN w D #[.slice A xs.length c] 97
 own:am rA 3 w base 0 (.slice A xs.length c) xs
theorem t_ne:(97:TypeId)≠3:=by decide
def PushE (D base:Nat) (w w':World) (xs:List Int) (e:Ending):Prop:=
 e=.returned (.tuple #[])∧Below base w w'∧nK D w w'∧∃A c,Stk D base w' A c xs
theorem iF {w:World} {D base c:Nat} {A:Option Addr} {xs:List Int} {k:Int} (hs:Stk D base w A c xs) (hb:base≤w.heap.size) (hbD:base≤D) (hn:xs.length≤100000) :
 Calls Tryz.prog 224 #[.int .i64 k,.pointer (some ⟨D,0,none⟩)] w fun e w'=>PushE D base w w' (xs++[k]) e:=by
 obtain ⟨i0,hi0,hz0,hz1,hz2⟩:=info_parts infoInt
 have HS:=ym hs
 have k_d:=hs.hd.blk.cell
 have f_d:=hs.hd.blk.free
 have l_d:=hs.hd.blk.lt
 have hb1:=ar (w:=w) (o:=.cells #[.int .i64 k] 3) rfl
 have HN:=ym (And.intro (And.intro (hs.own.later hb1 (yp _)) (hs.hd.later hb1)) (Blk.src (R:=rA) (B:=0) (x:=k) (Blk.new w #[.int .i64 k] 3) rfl))
 clear hs hb1
 go_enter Tryz.func224,Tryz.ntmps224
 go_wp2_with ((
  at_builtin
  refine wpList_plain rfl fun _ hK=>lE (R:=rA) (e:=3) (base:=base) (B:=0) (xs:=xs) (ys:=[k]) (.tmp 3) (.tmp 5) 97 rfl (bytes:=8) Tryz.underlying97 hi0 hz0 hz1 hz2 rfl (show 0<1 by omega) sI rfl HN.out.1.1 rfl HN.out.2 rfl (yp _) (by simp only [yE,List.length_nil];omega) (by omega) (by rw [World.size_alloc];omega) ?_
  intro v w2 hown hb2 hg2
  refine hK _ _ ?_
  obtain ⟨A2,c2,rfl⟩:=hown.form
  have hne:=HN.out.1.1.ne HN.out.1.2 t_ne
  have bd:=HN.out.1.2.grown hg2 hne
  have kd2:=bd.blk.cell
  have fd2:=bd.blk.free
  have HW:=ym hown
  have HB2:=ym (And.intro hb2 hg2)
  have HBD:=ym bd
  clear hown hb2 hg2 hne bd k_d f_d l_d))
 go_end0
 have e1:xs.length+1=(xs++[k]).length:=by simp
 rw [e1]
 refine ⟨rfl,?_,?_,A2,c2,HBD.out.set_ 0 _,HW.out.farT HBD.out t_ne 0 _⟩
 ·exact (((yq base w).alloc hb _).trans HB2.out.1).setCell (p:=⟨D,0,none⟩) hbD _
 ·intro b vs T hT hbd hbt
  have h1:=hbt.later (ar (w:=w) (o:=.cells #[.int .i64 k] 3) rfl)
  exact (h1.grown HB2.out.2 (HN.out.1.1.ne h1 hT)).far hbd 0 _
theorem Stk.pop {D base c:Nat} {w:World} {A:Option Addr} {xs:List Int} {k:Int} (h:Stk D base w A c (xs++[k])) :
 ∃g,A=some ⟨g,0,none⟩∧g≠D∧xs.length+1≤c∧c≤maxLen∧w.cell? ⟨g,xs.length,none⟩=some (.int .i64 k)∧Stk D base (w.setCell ⟨D,0,none⟩ (.slice A xs.length c)) A c xs:=by
 have hne:=h.own.ne h.hd t_ne
 have hfar:=h.own.farT h.hd t_ne 0 (.slice A xs.length c)
 obtain ⟨cells,ho,hf⟩:=h.own
 have hl:cells.length=xs.length+1:=by have:=hf.1;simpa [rA] using this
 rcases ho.2 with ⟨h1,h2⟩ | ⟨g,cap,cur,hv,hg,hh,k1,k2,k3,k4⟩
 ·simp at h2
 ·simp only [yB] at hv
  obtain ⟨rfl,_,rfl⟩:=hv
  simp only [Value.ownBlock,ne_eq,yz] at hne
  rw [yv,List.length_singleton] at k1
  have hcell:cells[xs.length]? = some (.int .i64 k):=by
   have:=hf.2 xs.length (by simp)
   simp only [rA,Nat.mul_one,List.getElem_append_right (yo _),Nat.sub_self,List.getElem_singleton] at this
   have h3:((cells.drop xs.length).take 1)[0]? = some (.int .i64 k):=by rw [this];rfl
   rw [List.getElem?_take,if_pos (by omega),List.getElem?_drop] at h3
   simpa using h3
  refine ⟨g,rfl,hne,k1,k2,?_,?_,?_⟩
  ·rw [cell_of_row w g _ cur 3 (0,0) hh]
   rw [←k4,List.getElem?_take] at hcell
   split at hcell
   ·simpa using hcell
   ·cases hcell
  ·exact h.hd.set_ 0 _
  ·obtain ⟨cells',ho',hf'⟩:=hfar
   rcases ho'.2 with ⟨h1',h2'⟩ | ⟨g',cap',cur',hv',hg',hh',k1',k2',k3',k4'⟩
   ·simp at h2'
   ·simp only [yB,yz,Addr.mk.injEq,and_true] at hv'
    obtain ⟨rfl,_,rfl⟩:=hv'
    have hl':cells'.length=xs.length+1:=by have:=hf'.1;simpa [rA] using this
    refine ⟨cells'.take xs.length,⟨by simp [rA,hl'],.inr ⟨g,c,cur',rfl,hg',hh',by omega,k2',k3',?_⟩⟩,?_⟩
    ·have e2:(xs++[k]).length*rA.k=xs.length+1:=by simp [rA]
     rw [e2] at k4'
     rw [←k4',List.take_take]
     congr 1
     simp [rA]
    ·have:=hf'.take xs.length
     simpa [rA] using this
structure SV where
 t:Tm
 a:Option Addr
 c:Nat
def SV.cs (x:SV):List Value:=[.int .i64 x.t.kind,.int .i64 x.t.n,.string x.t.s,.slice x.a x.t.l.length x.c]
def SvR:Reader SV where
 k:=4
 rd:=fun _ _ x vs=>vs=x.cs
 keep:=fun _ _ h=>h
 wide:=fun _ h=>h
 len:=fun h=>by subst h;rfl
theorem cj:dz SvR:=fun {w B x vs} h u hu=>by
 obtain rfl:vs=x.cs:=h
 simp only [SV.cs,List.mem_cons,List.not_mem_nil,or_false] at hu
 rcases hu with rfl | rfl | rfl | rfl<;>rfl
def dh (D:Nat) (w:World) (x:SV):Prop:=RTm w w.heap.size (D+1) x.t x.cs∧∀u∈x.t.l,iP u
section
variable {D:Nat} {w w':World} {x:SV}
theorem dh.keep (h:dh D w x) (hb:Below 0 w w') (he:∀a,x.a=some a→w'.heap[a.block]? = w.heap[a.block]?):dh D w' x:=by
 obtain ⟨⟨A,c,e,h1,h2,h3,h4,h5,h6⟩,hl⟩:=h
 simp only [SV.cs,List.cons.injEq,yB,and_true,true_and] at e
 obtain ⟨rfl,rfl⟩:=e
 refine ⟨⟨x.a,x.c,rfl,h1,h2,h3,h4,h5,fun hn=>?_⟩,hl⟩
 obtain ⟨b,off,ha,hlt,hc⟩:=h6 hn
 refine ⟨b,off,ha,yr hlt hb.size,fun i hi=>?_⟩
 obtain ⟨vs,hv,⟨y,hy,hr⟩,hcell⟩:=hc i hi
 have hm:y∈x.t.l:=List.mem_of_getElem? hy
 refine ⟨vs,hv,⟨y,hy,((uo (hl y hm) hr).below hb (yo _)).more (yp _)⟩,fun j u hj=>?_⟩
 have:=he _ ha
 have h9:=hcell j u hj
 unfold World.cell? at h9 ⊢
 simp only at this h9 ⊢
 rw [this]
 exact h9
theorem dh.later (h:dh D w x) (hb:Below w.heap.size w w'):dh D w' x:=⟨(h.1.below hb (yo _)).more hb.size,h.2⟩
theorem dh.lt (h:dh D w x) {a:Addr} (ha:x.a=some a) (hn:0<x.t.l.length):a.block<w.heap.size:=by
 obtain ⟨⟨A,c,e,h1,h2,h3,h4,h5,h6⟩,hl⟩:=h
 simp only [SV.cs,List.cons.injEq,yB,and_true,true_and] at e
 obtain ⟨rfl,rfl⟩:=e
 obtain ⟨b,off,he,hlt,_⟩:=h6 hn
 rw [ha] at he
 simp only [yz] at he
 rw [he];exact hlt
end
structure StkE (S base D:Nat) (bn bt:Value) (w:World) (xs:List SV) (next:Int) (A:Option Addr) (c:Nat):Prop where
 hd:bN w S #[bn,bt,.slice A xs.length c,.int .i64 next] 219
 own:am SvR 29 w base 0 (.slice A xs.length c) xs
 tms:∀x∈xs,dh D w x
 sep:∀x∈xs,∀a,x.a=some a→a.block≠S∧∀b,A=some b→a.block≠b.block
 lt:∀x∈xs,∀a,x.a=some a→base≤a.block∧a.block<w.heap.size
def mK (S:Nat) (A:Option Addr) (x:SV):Prop:=∀a,x.a=some a→a.block≠S∧∀b,A=some b→a.block≠b.block
theorem yf:(219:TypeId)≠29:=by decide
section
variable {S base D c:Nat} {bn bt:Value} {w w':World} {xs:List SV} {next:Int} {A:Option Addr}
theorem StkE.later (h:StkE S base D bn bt w xs next A c) (hb:Below w.heap.size w w'):StkE S base D bn bt w' xs next A c:=
 ⟨h.hd.later hb,h.own.later hb (yp _),fun x hx=>(h.tms x hx).later hb,h.sep,fun x hx a ha=>⟨(h.lt x hx a ha).1,yr (h.lt x hx a ha).2 hb.size⟩⟩
theorem StkE.head (h:StkE S base D bn bt w xs next A c) (next':Int):StkE S base D bn bt (w.setCell ⟨S,3,none⟩ (.int .i64 next')) xs next' A c:=by
 refine ⟨h.hd.set_ 3 _,h.own.farT h.hd yf 3 _,fun x hx=>(h.tms x hx).keep ((yq 0 w).setCell (p:=⟨S,3,none⟩) (yp _) _) fun a ha=>?_,h.sep,fun x hx a ha=>by rw [World.size_setCell];exact h.lt x hx a ha⟩
 exact Below.heap_setCell w ⟨S,3,none⟩ _ a.block (h.sep x hx a ha).1
end
theorem StkE.pop {S base D c:Nat} {bn bt:Value} {w:World} {xs:List SV} {x:SV} {next:Int} {A:Option Addr} (h:StkE S base D bn bt w (xs++[x]) next A c) :
 ∃g,A=some ⟨g,0,none⟩∧g≠S∧g<w.heap.size∧xs.length+1≤c∧c≤maxLen∧(∀j u,x.cs[j]? = some u→w.cell? ⟨g,xs.length*4+j,none⟩=some u) ∧
  StkE S base D bn bt (w.setCell ⟨S,2,none⟩ (.slice A xs.length c)) xs next A c∧dh D (w.setCell ⟨S,2,none⟩ (.slice A xs.length c)) x:=by
 have hne:=h.own.ne h.hd yf
 have hfar:=h.own.farT h.hd yf 2 (.slice A xs.length c)
 have htm:∀y∈xs++[x],dh D (w.setCell ⟨S,2,none⟩ (.slice A xs.length c)) y:=fun y hy=>(h.tms y hy).keep ((yq 0 w).setCell (p:=⟨S,2,none⟩) (yp _) _) fun a ha=>Below.heap_setCell w ⟨S,2,none⟩ _ a.block (h.sep y hy a ha).1
 obtain ⟨cells,ho,hf⟩:=h.own
 have hl:cells.length=(xs.length+1)*4:=by have:=hf.1;simpa [SvR] using this
 rcases ho.2 with ⟨h1,h2⟩ | ⟨g,cap,cur,hv,hg,hh,k1,k2,k3,k4⟩
 ·simp at h2
 ·simp only [yB] at hv
  obtain ⟨rfl,_,rfl⟩:=hv
  simp only [Value.ownBlock,ne_eq,yz] at hne
  rw [yv,List.length_singleton] at k1
  have hglt:g<w.heap.size:=by
   rcases Nat.lt_or_ge g w.heap.size with h' | h'
   ·exact h'
   ·rw [Array.getElem?_eq_none h'] at hh;cases hh
  refine ⟨g,rfl,hne,hglt,k1,k2,?_,⟨h.hd.set_ 2 _,?_,fun y hy=>htm y (List.mem_append_left _ hy),fun y hy=>h.sep y (List.mem_append_left _ hy),fun y hy a ha=>by rw [World.size_setCell];exact h.lt y (List.mem_append_left _ hy) a ha⟩,htm x (by simp)⟩
  ·intro j u hj
   have h0:=hf.2 xs.length (by simp)
   simp only [List.getElem_append_right (yo _),Nat.sub_self,List.getElem_singleton] at h0
   have h0:(cells.drop (xs.length*4)).take 4=x.cs:=h0
   rw [←h0,List.getElem?_take] at hj
   split at hj
   ·rw [List.getElem?_drop] at hj
    rw [cell_of_row w g _ cur 29 (0,0) hh]
    rw [←k4,List.getElem?_take] at hj
    split at hj
    ·simpa using hj
    ·cases hj
   ·cases hj
  ·obtain ⟨cells',ho',hf'⟩:=hfar
   rcases ho'.2 with ⟨h1',h2'⟩ | ⟨g',cap',cur',hv',hg',hh',k1',k2',k3',k4'⟩
   ·simp at h2'
   ·simp only [yB,yz,Addr.mk.injEq,and_true] at hv'
    obtain ⟨rfl,_,rfl⟩:=hv'
    have hl':cells'.length=(xs.length+1)*4:=by have:=hf'.1;simpa [SvR] using this
    refine ⟨cells'.take (xs.length*4),⟨by simp only [SvR,yF];omega,.inr ⟨g,c,cur',rfl,hg',hh',by omega,k2',k3',?_⟩⟩,?_⟩
    ·have e2:(xs++[x]).length*SvR.k=(xs.length+1)*4:=by simp [SvR]
     rw [e2] at k4'
     rw [←k4',List.take_take]
     congr 1
     simp [SvR]
    ·have:=hf'.take xs.length
     simpa [SvR] using this
theorem Exc.head {S:Nat} {w:World} (i:Nat) (v:Value):Exc S w (w.setCell ⟨S,i,none⟩ v):=(Exc.refl S w).set i v
theorem ll {S base D c:Nat} {bn bt:Value} {w:World} {xs:List SV} {x:SV} {next:Int} {A:Option Addr} (h:StkE S base D bn bt w (xs++[x]) next A c) (hn:xs.length≤100000) :
 Calls Tryz.prog 179 #[.pointer (some ⟨S,0,none⟩)] w fun e w'=>e=.returned (.agg x.cs.toArray)∧Exc S w w'∧StkE S base D bn bt w' xs next A c∧dh D w' x∧mK S A x∧∀a,x.a=some a→base≤a.block∧a.block<w.heap.size:=by
 obtain ⟨g,rfl,hgS,hglt,hc1,hc2,hcell,hpop,htm⟩:=h.pop
 have HS:=ym h
 have hSlt:=h.hd.blk.lt
 have k_s:∀o,w.cell? ⟨S,o,none⟩=(#[bn,bt,.slice (some ⟨g,0,none⟩) (xs.length+1) c,.int .i64 next]:Array Value)[o]?:=by have:=h.hd.blk.cell;rwa [yv,List.length_singleton] at this
 have f_s:=h.hd.blk.free
 have c0:w.cell? ⟨g,xs.length*4,none⟩=some (.int .i64 x.t.kind):=hcell 0 _ rfl
 have c1:w.cell? ⟨g,xs.length*4+1,none⟩=some (.int .i64 x.t.n):=hcell 1 _ rfl
 have c2:w.cell? ⟨g,xs.length*4+2,none⟩=some (.string x.t.s):=hcell 2 _ rfl
 have c3:w.cell? ⟨g,xs.length*4+3,none⟩=some (.slice x.a x.t.l.length x.c):=hcell 3 _ rfl
 unfold maxLen at hc2
 have HP:=ym (And.intro hpop htm)
 generalize xs.length=n at *
 clear hcell hpop htm h
 go_enter Tryz.func179,Tryz.ntmps179
 go_wp2_with fail
 go_region
 go_wp2_with fail
 go_region
 have hsz:(w.setCell ⟨S,2,none⟩ (.slice (some ⟨g,0,none⟩) n c)).heap.size=w.heap.size:=World.size_setCell _ _ _
 have HX:Hid (Exc S w (w.setCell ⟨S,2,none⟩ (.slice (some ⟨g,0,none⟩) n c))):=ym (Exc.head 2 _)
 clear k_s f_s c0 c1 c2 c3
 generalize w.setCell ⟨S,2,none⟩ (.slice (some ⟨g,0,none⟩) n c)=ws at *
 rw [←hsz]
 have HSZ:=ym hsz
 have HB:Hid (Below ws.heap.size ws ((ws.alloc (.cells #[.int .i64 0,.int .i64 0,.string ⟨#[]⟩,.slice none 0 0] 29)).alloc (.cells #[.int .i64 x.t.kind,.int .i64 x.t.n,.string x.t.s,.slice x.a x.t.l.length x.c] 29)).drew.drew):=ym (al2 rfl).1.drew.drew
 have b_r:Blk ((ws.alloc (.cells #[.int .i64 0,.int .i64 0,.string ⟨#[]⟩,.slice none 0 0] 29)).alloc (.cells #[.int .i64 x.t.kind,.int .i64 x.t.n,.string x.t.s,.slice x.a x.t.l.length x.c] 29)).drew.drew ws.heap.size vC:=(n21 rfl:Blk ((ws.alloc (.cells #[.int .i64 0,.int .i64 0,.string ⟨#[]⟩,.slice none 0 0] 29)).alloc (.cells #[.int .i64 x.t.kind,.int .i64 x.t.n,.string x.t.s,.slice x.a x.t.l.length x.c] 29)) _ _)
 have b_t:Blk ((ws.alloc (.cells #[.int .i64 0,.int .i64 0,.string ⟨#[]⟩,.slice none 0 0] 29)).alloc (.cells #[.int .i64 x.t.kind,.int .i64 x.t.n,.string x.t.s,.slice x.a x.t.l.length x.c] 29)).drew.drew (ws.heap.size+1) #[.int .i64 x.t.kind,.int .i64 x.t.n,.string x.t.s,.slice x.a x.t.l.length x.c]:=(n22 rfl:Blk ((ws.alloc (.cells #[.int .i64 0,.int .i64 0,.string ⟨#[]⟩,.slice none 0 0] 29)).alloc (.cells #[.int .i64 x.t.kind,.int .i64 x.t.n,.string x.t.s,.slice x.a x.t.l.length x.c] 29)) _ _)
 generalize World.drew _=w3 at *
 have HB2:=ym (And.intro b_r b_t)
 have k_r:=b_r.cell
 have f_r:=b_r.free
 have k_t:=b_t.cell
 clear hsz b_r b_t
 go_wp2_with fail
 have hb:=cB HB.out (yo _) (.int .i64 x.t.kind) (.int .i64 x.t.n) (.string x.t.s) (.slice x.a x.t.l.length x.c)
 refine bodyPost_ret (mF rfl rfl (dq HB2.out.1 (.int .i64 x.t.kind) (.int .i64 x.t.n) (.string x.t.s) (.slice x.a x.t.l.length x.c)) rfl) rfl ?_
 exact ⟨rfl,HX.out.then (by omega) hb,HP.out.1.later hb,HP.out.2.later hb,HS.out.sep x (by simp),fun a ha=>by rw [HSZ.out.symm,HSZ.out];exact HS.out.lt x (by simp) a ha⟩
theorem four {β:Type}:∀Q:List β,4≤Q.length→∃q0 q1 q2 q3 R,Q=q0::q1::q2::q3::R
 | q0::q1::q2::q3::R,_=>⟨q0,q1,q2,q3,R,rfl⟩
 | [],h=>by simp at h
 | [_],h=>by simp at h
 | [_,_],h=>by simp at h
 | [_,_,_],h=>by simp at h
theorem uX {β:Type} (L:List β) (m:Nat) (h:m+4≤L.length) (a b c d:β):((((L.set m a).set (m+1) b).set (m+2) c).set (m+3) d).take (m+4)=L.take m++[a,b,c,d]:=by
 obtain ⟨P,Q,rfl,hP⟩:∃P Q,L=P++Q∧P.length=m:=⟨L.take m,L.drop m,(List.take_append_drop _ _).symm,by rw [yF];omega⟩
 subst hP
 rw [yv] at h
 obtain ⟨q0,q1,q2,q3,R,rfl⟩:=four Q (by omega)
 simp [List.set_append_right,List.take_append]
 exact List.take_of_length_le (by omega)
theorem am.last {w:World} {base:Nat} {v:Value} {xs:List SV} {y:SV} (h:am SvR 29 w base 0 v (xs++[y])) :
 ∃g c,v=.slice (some ⟨g,0,none⟩) (xs.length+1) c∧g<w.heap.size∧base≤g∧xs.length+1≤c∧c≤9223372036854775807∧(∀j u,y.cs[j]? = some u→w.cell? ⟨g,xs.length*4+j,none⟩=some u)∧(∀o,w.frozen? ⟨g,o,none⟩=false) ∧
  ∀x:SV,am SvR 29 ((((w.setCell ⟨g,xs.length*4,none⟩ (.int .i64 x.t.kind)).setCell ⟨g,xs.length*4+1,none⟩ (.int .i64 x.t.n)).setCell ⟨g,xs.length*4+2,none⟩ (.string x.t.s)).setCell ⟨g,xs.length*4+3,none⟩ (.slice x.a x.t.l.length x.c)) base 0 v (xs++[x]):=by
 obtain ⟨cells,ho,hf⟩:=h
 have hl:cells.length=(xs.length+1)*4:=by have:=hf.1;simpa [SvR] using this
 rcases ho.2 with ⟨h1,h2⟩ | ⟨g,cap,cur,hv,hg,hh,k1,k2,k3,k4⟩
 ·simp at h2
 ·rw [yv,List.length_singleton] at k1 hv
  have hglt:g<w.heap.size:=by
   rcases Nat.lt_or_ge g w.heap.size with h' | h'
   ·exact h'
   ·rw [Array.getElem?_eq_none h'] at hh;cases hh
  have hbt:bN w g cur 29:=hh
  have hk3:cur.size=cap*4:=k3
  have e4:(xs++[y]).length*SvR.k=(xs.length+1)*4:=by simp [SvR]
  rw [e4] at k4
  refine ⟨g,cap,hv,hglt,hg,k1,by unfold maxLen at k2;omega,?_,hbt.blk.free,fun x=>?_⟩
  ·intro j u hj
   have h0:=hf.2 xs.length (by simp)
   simp only [List.getElem_append_right (yo _),Nat.sub_self,List.getElem_singleton] at h0
   have h0:(cells.drop (xs.length*4)).take 4=y.cs:=h0
   rw [←h0,List.getElem?_take] at hj
   split at hj
   ·rw [List.getElem?_drop,←k4,List.getElem?_take] at hj
    split at hj
    ·rw [cell_of_row w g _ cur 29 (0,0) hh]
     simpa using hj
    ·cases hj
   ·cases hj
  ·have hs:=(((hbt.set_ (xs.length*4) (.int .i64 x.t.kind)).set_ (xs.length*4+1) (.int .i64 x.t.n)).set_ (xs.length*4+2) (.string x.t.s)).set_ (xs.length*4+3) (.slice x.a x.t.l.length x.c)
   have hcs:xs.length*4+4≤cur.toList.length:=by
    have h9:cur.toList.length=cap*4:=(yA).trans hk3
    omega
   have htk:cells.take (xs.length*4)=cur.toList.take (xs.length*4):=by
    rw [←k4,List.take_take]
    congr 1
    omega
   refine ⟨cells.take (xs.length*4)++x.cs,⟨by simp [SvR,SV.cs,hl];omega,.inr ⟨g,cap,_,?_,hg,hs,by simp;exact k1,k2,by simp;exact hk3,?_⟩⟩,?_⟩
   ·rw [hv];simp
   ·have e5:(xs++[x]).length*SvR.k=xs.length*4+4:=by simp [SvR];omega
    rw [e5,htk]
    simp only [Array.toList_setIfInBounds]
    exact uX _ _ hcs _ _ _ _
   ·have h1:=hf.take xs.length
    simp only [List.take_left'] at h1
    have h2:bA SvR w 0 xs (cells.take (xs.length*4)):=h1
    have h3:bA SvR w 0 (xs++[x]) (cells.take (xs.length*4)++x.cs):=h2.append (bA.one (R:=SvR) rfl)
    exact ⟨h3.1,fun i hi=>h3.2 i hi⟩
theorem TmOwn.at_ {d base:Nat} {w:World} {t:Tm} {A:Option Addr} {c:Nat} (h:TmOwn d base w t A c):dh d w ⟨t,A,c⟩:=by
 refine ⟨h.rtm,fun u hu=>?_⟩
 obtain ⟨cells,_,hf⟩:=h.own
 obtain ⟨i,hi,rfl⟩:=List.getElem_of_mem hu
 have:=hf.2 i hi
 generalize (cells.drop (i*(TmR d).k)).take (TmR d).k=vs at this
 have h2:RTm w 0 d t.l[i] vs:=this
 cases d with
 | zero=>exact h2.elim
 | succ d=>
   obtain ⟨A2,c2,_,_,_,_,_,_,h6⟩:=h2
   show t.l[i].l=[]
   rcases Nat.eq_zero_or_pos t.l[i].l.length with h0 | h0
   ·exact List.eq_nil_of_length_eq_zero h0
   ·obtain ⟨b,off,_,hb,_⟩:=h6 h0
    omega
theorem TmOwn.blk {d base:Nat} {w:World} {t:Tm} {A:Option Addr} {c:Nat} (h:TmOwn d base w t A c):∀a,A=some a→base≤a.block∧a.block<w.heap.size:=by
 intro a ha
 subst ha
 obtain ⟨cells,how,_⟩:=h.own
 exact how.lt a.block rfl
end Go.Proofs.YtjpndglegpcdnaaGreat
