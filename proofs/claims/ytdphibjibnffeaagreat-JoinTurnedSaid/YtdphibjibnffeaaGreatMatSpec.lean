/- Texts that fit a pattern: what match.Find computes, as functions (a mirror of the program's own steps). -/
import Derived.Test.YtdphibjibnffeaaGreatSrc
import Derived.Laws.MakeOwn
import Derived.Test.YtdphibjibnffeaaGreatHeapLaw
import Derived.Deep.Cut
import Derived.Deep.CutRange
import Derived.Deep.LoopGhost
set_option linter.unusedVariables false
set_option linter.unusedSimpArgs false
set_option maxRecDepth 100000
set_option maxHeartbeats 8000000
namespace Go.Proofs.YtdphibjibnffeaaGreat
open Go.ChangeShapes Go.WideShapes Go.ChangeAt Go.RowKit
def jx (i:Ins):List Value:=[.int .i64 i.kind,.int .u64 i.a,.int .u64 i.b,.int .u64 i.c,.int .u64 i.d,.int .i64 i.x,.int .i64 i.y]
def eW:Reader Ins where
 k:=7
 rd:=fun _ _ i vs=>vs=jx i
 keep:=fun _ _ h=>h
 wide:=fun _ h=>h
 len:=fun h=>by subst h;rfl
theorem cI:cP eW:=fun {w B x vs} h u hu=>by
 obtain rfl:vs=jx x:=h
 simp only [jx,List.mem_cons,List.not_mem_nil,or_false] at hu
 rcases hu with rfl | rfl | rfl | rfl | rfl | rfl | rfl<;>rfl
theorem nv:(Tryz.prog.info? 336).map (fun i=>(i.zero,i.size,i.bytes))=some (some (.agg #[.int .i64 0,.int .u64 0,.int .u64 0,.int .u64 0,.int .u64 0,.int .i64 0,.int .i64 0]),7,56):=by kernel_rfl
def ew:List Ins→List Value
 | []=>[]
 | i::l=>jx i++ew l
theorem jk:∀l:List Ins,(ew l).length=l.length*7
 | []=>rfl
 | i::l=>by simp [ew,jk l,jx];omega
theorem ko:∀(l:List Ins) (k:Nat) (i:Ins) (j:Nat),l[k]? = some i→j<7→(ew l)[k*7+j]? = (jx i)[j]?
 | [],k,i,j,h,_=>by simp at h
 | a::l,0,i,j,h,hj=>by
   simp only [List.getElem?_cons_zero,Option.some.injEq] at h
   subst h
   rw [ew,List.getElem?_append_left (by simp [jx];omega)]
   simp
 | a::l,k+1,i,j,h,hj=>by
   rw [ew,List.getElem?_append_right (by simp [jx];omega)]
   have e:(k+1)*7+j-(jx a).length=k*7+j:=by simp [jx];omega
   rw [e]
   exact ko l k i j (by simpa using h) hj
theorem lF (w:World) (B:Nat):∀l:List Ins,be eW w B l (ew l)
 | []=>be.nil
 | i::l=>be.append (xs:=[i]) (be.one (R:=eW) rfl) (lF w B l)
theorem tq (l:List Ins) (k:Nat) (i:Ins) (hk:k<l.length) :
 (((((((ew l).set (k*7) (.int .i64 i.kind)).set (k*7+1) (.int .u64 i.a)).set (k*7+2) (.int .u64 i.b)).set (k*7+3) (.int .u64 i.c)).set (k*7+4) (.int .u64 i.d)).set (k*7+5) (.int .i64 i.x)).set (k*7+6) (.int .i64 i.y)=ew (l.set k i):=by
 induction l generalizing k with
 | nil=>simp at hk
 | cons a l ih=>
   cases k with
   | zero=>simp [ew,jx]
   | succ k=>
     have:=ih k (by simpa using hk)
     rw [List.set_cons_succ,ew,ew,←this]
     have e:∀(j:Nat) (v:Value) (m:List Value),(jx a++m).set ((k+1)*7+j) v=jx a++m.set (k*7+j) v:=by
      intro j v m
      rw [List.set_append_right _ _ (by simp [jx];omega)]
      congr 2
      simp [jx];omega
     have e0:=e 0
     simp only [Nat.add_zero] at e0
     rw [e0,e,e,e,e,e,e]
def fO:Ins:=⟨0,0,0,0,0,0,0⟩
theorem rB (n:Nat):madeCells #[.int .i64 0,.int .u64 0,.int .u64 0,.int .u64 0,.int .u64 0,.int .i64 0,.int .i64 0] (n*7)=(ew (List.replicate n fO)).toArray:=by
 apply Array.ext'
 apply List.ext_getElem?
 intro q
 by_cases hq:q<n*7
 ·have h1:(ew (List.replicate n fO))[q / 7*7+q % 7]? = (jx fO)[q % 7]?:=ko _ _ _ _ (by rw [List.getElem?_replicate,if_pos (by omega)]) (by omega)
  have e:q / 7*7+q % 7=q:=by omega
  rw [e] at h1
  rw [h1]
  have h2:q % 7=0∨q % 7=1∨q % 7=2∨q % 7=3∨q % 7=4∨q % 7=5∨q % 7=6:=by omega
  have h3:(madeCells #[.int .i64 0,.int .u64 0,.int .u64 0,.int .u64 0,.int .u64 0,.int .i64 0,.int .i64 0] (n*7)).toList[q]? = some ((#[.int .i64 0,.int .u64 0,.int .u64 0,.int .u64 0,.int .u64 0,.int .i64 0,.int .i64 0]:Array Value)[q % 7]!):=by
   have hs:q<(madeCells #[.int .i64 0,.int .u64 0,.int .u64 0,.int .u64 0,.int .u64 0,.int .i64 0,.int .i64 0] (n*7)).toList.length:=by rw [Array.length_toList,size_madeCells];exact hq
   rw [List.getElem?_eq_getElem hs]
   simp [madeCells]
  rw [h3]
  rcases h2 with h | h | h | h | h | h | h<;>(rw [h];rfl)
 ·rw [List.getElem?_eq_none (by rw [Array.length_toList,size_madeCells];omega),List.getElem?_eq_none (by show (ew _).length≤q;rw [jk];simp;omega)]
def bU (w:World) (b:Nat) (vs:Array Value) (T:TypeId):Prop:=w.heap[b]? = some (.cells vs T (0,0))
section
variable {w w':World} {b c:Nat} {vs:Array Value} {T:TypeId}
theorem bU.blk (h:bU w b vs T):Blk w b vs:=⟨T,h⟩
theorem bU.keep {B:Nat} (h:bU w b vs T) (hb:Below B w w') (hB:b<B):bU w' b vs T:=(hb.block b hB).trans h
theorem bU.later (h:bU w b vs T) (hb:Below w.heap.size w w'):bU w' b vs T:=h.keep hb h.blk.lt
theorem bU.set_ (h:bU w b vs T) (i:Nat) (u:Value):bU (w.setCell ⟨b,i,none⟩ u) b (vs.setIfInBounds i u) T:=by
 unfold bU at h ⊢
 simp [World.setCell,Array.getElem?_modify,h]
theorem bU.far (h:bU w b vs T) (hne:b≠c) (i:Nat) (u:Value):bU (w.setCell ⟨c,i,none⟩ u) b vs T:=(Below.heap_setCell w ⟨c,i,none⟩ u b hne).trans h
theorem bU.drew (h:bU w b vs T):bU w.drew b vs T:=h
theorem bU.own {α:Type} {R:Reader α} {base B n:Nat} {xs:List α} {cells:List Value} (h:bU w b cells.toArray T) (hf:be R w B xs cells) (hb:base≤b) (hn:xs.length=n) (hlen:n≤maxLen):au R T w base B (.slice (some ⟨b,0,none⟩) n n) xs:=by
 subst hn
 refine ⟨cells,⟨hf.1,.inr ⟨b,xs.length,cells.toArray,rfl,hb,h,Nat.le_refl _,hlen,?_,?_⟩⟩,hf⟩
 ·simp [hf.1]
 ·simp
  exact List.take_of_length_le (by rw [hf.1];exact Nat.le_refl _)
end
def ListE (w w':World) (l:List Ins) (e:Ending):Prop:=(∃A c,e=.returned (.slice A l.length c)∧au eW 336 w' w.heap.size 0 (.slice A l.length c) l)∧Below w.heap.size w w'
theorem vK (n:Nat) (hn:n≤1000000) (w:World):(Instr.makeSlice 317 (.int .i64 (n:Int)) (.int .i64 (n:Int))).run Tryz.prog w=.ok (.slice (some ⟨w.heap.size,0,none⟩) n n) (w.alloc (.cells (ew (List.replicate n fO)).toArray 336)):=by
 obtain ⟨i0,hi0,hz0,hz1,hz2⟩:=info_parts nv
 have hr:=run_make (P:=Tryz.prog) w 317 336 i0 _ Tryz.underlying317 hi0 hz0 .i64 .i64 n n (by omega) (Int.le_refl _) (by rw [hz2];omega) (by omega)
 simp only [Int.toNat_natCast] at hr
 rw [hz1] at hr
 rw [hr,←rB]
 rfl
theorem xm {w:World} {g k:Nat} {l:List Ins} {T:TypeId} (h:bU w g (ew l).toArray T) {i:Ins} {kd a b c d x y:Int} (hi:i=⟨kd,a,b,c,d,x,y⟩) (hk:k<l.length) :
 bU (((((((w.setCell ⟨g,k*7,none⟩ (.int .i64 kd)).setCell ⟨g,k*7+1,none⟩ (.int .u64 a)).setCell ⟨g,k*7+2,none⟩ (.int .u64 b)).setCell ⟨g,k*7+3,none⟩ (.int .u64 c)).setCell ⟨g,k*7+4,none⟩ (.int .u64 d)).setCell ⟨g,k*7+5,none⟩ (.int .i64 x)).setCell ⟨g,k*7+6,none⟩ (.int .i64 y)) g (ew (l.set k i)).toArray T:=by
 have e:=tq l k ⟨kd,a,b,c,d,x,y⟩ hk
 simp only at e
 subst hi
 have:=((((((h.set_ (k*7) (.int .i64 kd)).set_ (k*7+1) (.int .u64 a)).set_ (k*7+2) (.int .u64 b)).set_ (k*7+3) (.int .u64 c)).set_ (k*7+4) (.int .u64 d)).set_ (k*7+5) (.int .i64 x)).set_ (k*7+6) (.int .i64 y)
 simp only [List.setIfInBounds_toArray] at this
 rw [e] at this
 exact this
theorem sG {w w2:World} {B g:Nat} (h:Below B w w2) (hg:B≤g) {i0 i1 i2 i3 i4 i5 i6:Nat} (v0 v1 v2 v3 v4 v5 v6:Value) :
 Below B w (((((((w2.setCell ⟨g,i0,none⟩ v0).setCell ⟨g,i1,none⟩ v1).setCell ⟨g,i2,none⟩ v2).setCell ⟨g,i3,none⟩ v3).setCell ⟨g,i4,none⟩ v4).setCell ⟨g,i5,none⟩ v5).setCell ⟨g,i6,none⟩ v6):=
 ((((((h.setCell (p:=⟨g,i0,none⟩) hg v0).setCell (p:=⟨g,i1,none⟩) hg v1).setCell (p:=⟨g,i2,none⟩) hg v2).setCell (p:=⟨g,i3,none⟩) hg v3).setCell (p:=⟨g,i4,none⟩) hg v4).setCell (p:=⟨g,i5,none⟩) hg v5).setCell (p:=⟨g,i6,none⟩) hg v6
theorem rE {l:List Ins} {k:Nat} {i:Ins} {by_:Int} (h:l[k]? = some i):((aK (l.take k) by_++List.replicate (l.length-k) fO).set k (gt by_ i))=aK (l.take (k+1)) by_++List.replicate (l.length-(k+1)) fO:=by
 obtain ⟨hk,e⟩:=List.getElem?_eq_some_iff.1 h
 have hl:(aK (l.take k) by_).length=k:=by rw [aj,List.length_take];omega
 obtain ⟨m,hm⟩:∃m,l.length-k=m+1:=⟨l.length-k-1,by omega⟩
 have hm2:l.length-(k+1)=m:=by omega
 rw [hm,hm2,List.set_append_right _ _ (by omega),hl,Nat.sub_self,List.replicate_succ,List.set_cons_zero,List.take_succ_eq_append_getElem hk,e]
 simp [aK]
theorem kH {B c:Nat} {l:List Ins} {A:Option Addr} {k0:Int} {w:World} (hl:RL eW w B l A) (hB:B≤w.heap.size) (hn:l.length≤1000000) :
 Calls Tryz.prog 330 #[.slice A l.length c,.int .i64 k0] w fun e w'=>ListE w w' (aK l k0) e:=by
 have HL:=Lib.hid hl
 have HN:=Lib.hid hn
 have hmk:=fun w=>vK l.length hn w
 clear hl
 go_enter Tryz.func330,Tryz.ntmps330
 go_wp2_with fail
 generalize hW:World.alloc _ _=w1
 obtain ⟨hb,hz⟩:=al1 hW
 have bo:=Lib.hid (show bU w1 w.heap.size (ew (List.replicate l.length fO)).toArray 336 from hW▸heap_alloc_new w _)
 have HB1:=Lib.hid hb
 clear hW hz hb hmk
 go_loopw [13] (fun i wr=>∃k:Nat,k≤l.length∧i=.int .i64 k∧Hid (Below w.heap.size w wr)∧w.heap.size<wr.heap.size∧Hid (bU wr w.heap.size (ew (aK (l.take k) k0++List.replicate (l.length-k) fO)).toArray 336)) (fun i _=>l.length-(intOf i).toNat)
 case atStart=>exact ⟨0,Nat.zero_le _,rfl,HB1,bo.out.blk.lt,by simpa [aK] using bo⟩
 case round=>
  obtain ⟨k,hk,rfl,HBW,hsz,HI⟩:=hrel
  by_cases hlt:k<l.length
  ·have HLr:=Lib.hid (HL.out.keep HBW.out hB)
   have hBr:B≤wr.heap.size:=by omega
   obtain ⟨b_,off,rfl,hob⟩:=HLr.out.base (Below.refl _ _) hBr (by omega)
   obtain ⟨x,vs,hx,hlen,hcell,hr⟩:=HLr.out.at_ (Below.refl _ _) hBr hlt
   obtain rfl:vs=jx x:=hr
   have c0:wr.cell? ⟨b_,off+k*7,none⟩=some (.int .i64 x.kind):=hcell 0 _ rfl
   have c1:wr.cell? ⟨b_,off+k*7+1,none⟩=some (.int .u64 x.a):=hcell 1 _ rfl
   have c2:wr.cell? ⟨b_,off+k*7+2,none⟩=some (.int .u64 x.b):=hcell 2 _ rfl
   have c3:wr.cell? ⟨b_,off+k*7+3,none⟩=some (.int .u64 x.c):=hcell 3 _ rfl
   have c4:wr.cell? ⟨b_,off+k*7+4,none⟩=some (.int .u64 x.d):=hcell 4 _ rfl
   have c5:wr.cell? ⟨b_,off+k*7+5,none⟩=some (.int .i64 x.x):=hcell 5 _ rfl
   have c6:wr.cell? ⟨b_,off+k*7+6,none⟩=some (.int .i64 x.y):=hcell 6 _ rfl
   have HX:=Lib.hid hx
   have hG:=HI.out.blk.cell
   have fG:=HI.out.blk.free
   have hzk:(aK (l.take k) k0++List.replicate (l.length-k) fO)[k]? = some fO:=by
    have hl:(aK (l.take k) k0).length=k:=by rw [aj,List.length_take];omega
    rw [List.getElem?_append_right (by omega),hl,Nat.sub_self,List.getElem?_replicate,if_pos (by omega)]
   have gz:∀j,j<7→wr.cell? ⟨w.heap.size,k*7+j,none⟩=(jx fO)[j]?:=fun j hj=>(hG (k*7+j)).trans ((List.getElem?_toArray).trans (ko _ k fO j hzk hj))
   have g0:wr.cell? ⟨w.heap.size,k*7,none⟩=some (.int .i64 0):=gz 0 (by omega)
   have g1:wr.cell? ⟨w.heap.size,k*7+1,none⟩=some (.int .u64 0):=gz 1 (by omega)
   have g2:wr.cell? ⟨w.heap.size,k*7+2,none⟩=some (.int .u64 0):=gz 2 (by omega)
   have g3:wr.cell? ⟨w.heap.size,k*7+3,none⟩=some (.int .u64 0):=gz 3 (by omega)
   have g4:wr.cell? ⟨w.heap.size,k*7+4,none⟩=some (.int .u64 0):=gz 4 (by omega)
   have g5:wr.cell? ⟨w.heap.size,k*7+5,none⟩=some (.int .i64 0):=gz 5 (by omega)
   have g6:wr.cell? ⟨w.heap.size,k*7+6,none⟩=some (.int .i64 0):=gz 6 (by omega)
   have HS:Hid ((aK (l.take k) k0++List.replicate (l.length-k) fO).set k (gt k0 x)=aK (l.take (k+1)) k0++List.replicate (l.length-(k+1)) fO):=Lib.hid (rE HX.out)
   have HLN:Hid (k<(aK (l.take k) k0++List.replicate (l.length-k) fO).length):=Lib.hid (by rw [List.length_append,aj,List.length_take,List.length_replicate];omega)
   clear hG hzk gz
   generalize aK (l.take k) k0++List.replicate (l.length-k) fO=cur at *
   have hkind:x.kind=2∨x.kind≠2∧x.kind=3∨x.kind≠2∧x.kind≠3:=by omega
   rcases hkind with h2 | ⟨h2,h3⟩ | ⟨h2,h3⟩
   ·have HM:Hid (gt k0 x=⟨x.kind,x.a,x.b,x.c,x.d,wrap64 (x.x+k0),wrap64 (x.y+k0)⟩):=Lib.hid (by unfold gt;rw [if_pos h2])
    have hq2:(x.kind==2)=true:=by simpa using h2
    clear h2
    go_wp2_with fail
    go_roundw
    case rel=>
     have hp:=xm HI.out HM.out HLN.out
     rw [HS.out] at hp
     exact ⟨k+1,by omega,by go_num,Lib.hid ((sG HBW.out (Nat.le_refl _) _ _ _ _ _ _ _).alloc (by simp only [World.size_setCell];omega) _),by simp only [World.size_setCell,World.size_alloc];omega,Lib.hid (hp.later ((Below.refl _ _).alloc (Nat.le_refl _) _))⟩
    case measure=>simp [intOf];omega
   ·have HM:Hid (gt k0 x=⟨x.kind,x.a,x.b,x.c,x.d,wrap64 (x.x+k0),x.y⟩):=Lib.hid (by unfold gt;rw [if_neg h2,if_pos h3])
    have hq2:(x.kind==2)=false:=by simpa using h2
    have hq3:(x.kind==3)=true:=by simpa using h3
    clear h2 h3
    go_wp2_with fail
    go_roundw
    case rel=>
     have hp:=xm HI.out HM.out HLN.out
     rw [HS.out] at hp
     exact ⟨k+1,by omega,by go_num,Lib.hid ((sG HBW.out (Nat.le_refl _) _ _ _ _ _ _ _).alloc (by simp only [World.size_setCell];omega) _),by simp only [World.size_setCell,World.size_alloc];omega,Lib.hid (hp.later ((Below.refl _ _).alloc (Nat.le_refl _) _))⟩
    case measure=>simp [intOf];omega
   ·have HM:Hid (gt k0 x=x):=Lib.hid (by unfold gt;rw [if_neg h2,if_neg h3])
    have hq2:(x.kind==2)=false:=by simpa using h2
    have hq3:(x.kind==3)=false:=by simpa using h3
    clear h2 h3
    go_wp2_with fail
    go_roundw
    case rel=>
     have hp:=xm HI.out HM.out HLN.out
     rw [HS.out] at hp
     exact ⟨k+1,by omega,by go_num,Lib.hid ((sG HBW.out (Nat.le_refl _) _ _ _ _ _ _ _).alloc (by simp only [World.size_setCell];omega) _),by simp only [World.size_setCell,World.size_alloc];omega,Lib.hid (hp.later ((Below.refl _ _).alloc (Nat.le_refl _) _))⟩
    case measure=>simp [intOf];omega
  ·have HE:Hid (aK (l.take k) k0++List.replicate (l.length-k) fO=aK l k0):=Lib.hid (by rw [List.take_of_length_le (by omega),show l.length-k=0 by omega];simp)
   rw [HE.out] at HI
   go_wp2_with fail
   go_ret
   have ho:=HI.out.own (R:=eW) (base:=w.heap.size) (B:=0) (lF wr 0 (aK l k0)) (Nat.le_refl _) (aj l k0) (by unfold maxLen;omega)
   refine ⟨⟨some ⟨w.heap.size,0,none⟩,l.length,?_,?_⟩,HBW.out⟩
   ·rw [aj];rfl
   ·rw [aj];exact ho
theorem au.form' {w:World} {base n:Nat} {v:Value} {xs:List Ins} (h:au eW 336 w base 0 v xs) (hn:xs.length=n):∃A c,v=.slice A n c:=by
 subst hn
 exact h.form
theorem au.rows {w:World} {base n c:Nat} {A:Option Addr} {xs:List Ins} (h:au eW 336 w base 0 (.slice A n c) xs) (hn:xs.length≤1000000):RL eW w w.heap.size xs A:=by
 obtain ⟨A3,c3,e3,r1,r2,r3⟩:=h.reads (Nat.zero_le _) (by show xs.length*(8*7)≤_;omega)
 simp only [Value.slice.injEq] at e3
 obtain ⟨rfl,_,rfl⟩:=e3
 exact r3
theorem au.low {w:World} {base b0:Nat} {v:Value} {xs:List Ins} (h:au eW 336 w base 0 v xs) (hb:b0≤base):au eW 336 w b0 0 v xs:=by
 obtain ⟨cells,h,hf⟩:=h
 refine ⟨cells,⟨h.1,?_⟩,hf⟩
 rcases h.2 with h2 | ⟨g,cap,cur,hv,hg,r⟩
 ·exact .inl h2
 ·exact .inr ⟨g,cap,cur,hv,Nat.le_trans hb hg,r⟩
theorem au.srcn {w:World} {base n c:Nat} {A:Option Addr} {xs:List Ins} (h:au eW 336 w base 0 (.slice A n c) xs):eK eW w 0 A xs:=by
 obtain ⟨_,_,e⟩:=h.form
 simp only [Value.slice.injEq] at e
 obtain ⟨rfl,rfl,rfl⟩:=e
 exact h.src
theorem fB {w W:World} {i:Ins} {base:Nat} {o:Obj} (h:w.alloc o=W) (ho:o=.cells (jx i).toArray 336) (hb:base≤w.heap.size):au eW 336 W base 0 (.slice (some ⟨w.heap.size,0,none⟩) 1 1) [i]:=by
 subst ho
 have hB:bU W w.heap.size (jx i).toArray 336:=h▸heap_alloc_new w _
 exact hB.own (R:=eW) (xs:=[i]) (be.one rfl) hb rfl (by unfold maxLen;omega)
theorem rf {B c1 c2:Nat} {l1 l2:List Ins} {A1 A2:Option Addr} {w:World} (h1:RL eW w B l1 A1) (h2:RL eW w B l2 A2) (hB:B≤w.heap.size) (hn1:l1.length≤100000) (hn2:l2.length≤100000) :
 Calls Tryz.prog 328 #[.slice A1 l1.length c1,.slice A2 l2.length c2] w fun e w'=>ListE w w' (gG l1 l2) e:=by
 obtain ⟨i0,hi0,hz0,hz1,hz2⟩:=info_parts nv
 have H1:=Lib.hid h1
 have H2:=Lib.hid h2
 clear h1 h2
 go_enter Tryz.func328,Tryz.ntmps328
 go_wp2_with fail
 generalize hW:World.alloc _ _=w1
 obtain ⟨hb,hz⟩:=al1 hW
 have HO:=Lib.hid (fB (i:=bu 1 (l1.length+2)) hW rfl (Nat.le_refl _))
 have HB1:=Lib.hid hb
 clear hW hz hb
 refine (kH (B:=B) (H1.out.keep HB1.out hB) (Nat.le_trans hB HB1.out.size) (by omega)).mono ?_
 rintro e w2 ⟨⟨A3,c3,rfl,ho⟩,hb⟩
 rw [aj]
 have HB2:=Lib.hid (ac HB1.out hb)
 have HO2:=Lib.hid (HO.out.later hb (Nat.zero_le _))
 have HS2:=Lib.hid ho.src
 clear ho hb
 go_upto_region 3 with ((
  at_builtin
  refine aw (R:=eW) (e:=336) (base:=w.heap.size) (B:=0) (xs:=[bu 1 (l1.length+2)]) (ys:=aK l1 1) rfl (.tmp 12) (.tmp 14) 317 rfl (bytes:=56) Tryz.underlying317 hi0 hz0 hz1 hz2 rfl (show 0<7 by omega) cI rfl HO2.out rfl HS2.out (aj l1 1).symm (Nat.zero_le _) (by rw [aj];simp only [List.length_cons,List.length_nil];omega) (by omega) (HB2.out.size) ?_
  intro v w3 hown hb
  obtain ⟨A4,c4,rfl⟩:=hown.form' (show _=l1.length+1 by simp [aj])
  have HOW:=Lib.hid hown
  have HBW:=Lib.hid hb
  clear hown hb))
 have HB3:=Lib.hid (HB2.out.trans HBW.out)
 have HJ4:=Lib.hid (And.intro (HOW.out.later (ax (w:=w3) (o:=.cells #[.int .i64 3,.int .u64 0,.int .u64 0,.int .u64 0,.int .u64 0,.int .i64 ((l1.length:Int)+2+l2.length),.int .i64 0] 336) rfl) (Nat.zero_le _)) (au.src (xs:=[ib (l1.length+2+l2.length)]) (fB (w:=w3) (i:=ib (l1.length+2+l2.length)) (base:=w.heap.size) (o:=.cells #[.int .i64 3,.int .u64 0,.int .u64 0,.int .u64 0,.int .u64 0,.int .i64 ((l1.length:Int)+2+l2.length),.int .i64 0] 336) rfl rfl HB3.out.size)))
 clear HOW HBW
 go_upto_region 4 with ((
  at_builtin
  refine aw (R:=eW) (e:=336) (base:=w.heap.size) (B:=0) (xs:=[bu 1 (l1.length+2)]++aK l1 1) (ys:=[ib (l1.length+2+l2.length)]) rfl (.tmp 16) (.tmp 23) 317 rfl (bytes:=56) Tryz.underlying317 hi0 hz0 hz1 hz2 rfl (show 0<7 by omega) cI rfl HJ4.out.1 rfl HJ4.out.2 rfl (Nat.zero_le _) (by rw [List.length_append,aj];simp only [List.length_cons,List.length_nil];omega) (by omega) ((by rw [World.size_alloc];have:=HB3.out.size;omega)) ?_
  intro v w4 hown hb
  obtain ⟨A5,c5,rfl⟩:=hown.form' (show _=l1.length+2 by simp [aj])
  have HOW:=Lib.hid hown
  have HBW:=Lib.hid hb
  clear hown hb))
 have HB4:=Lib.hid ((HB3.out.alloc HB3.out.size (.cells #[.int .i64 3,.int .u64 0,.int .u64 0,.int .u64 0,.int .u64 0,.int .i64 ((l1.length:Int)+2+l2.length),.int .i64 0] 336)).trans HBW.out)
 have HO4:=Lib.hid HOW.out
 clear HOW HBW HJ4
 go_wp2_with fail
 refine (kH (B:=B) (H2.out.keep HB4.out hB) (Nat.le_trans hB HB4.out.size) (by omega)).mono ?_
 rintro e w5 ⟨⟨A6,c6,rfl,ho⟩,hb⟩
 rw [aj]
 have HB5:=Lib.hid (ac HB4.out hb)
 have HO5:=Lib.hid (HO4.out.later hb (Nat.zero_le _))
 have HS5:=Lib.hid ho.srcn
 clear ho hb
 go_wp2_with ((
  at_builtin
  refine aw (R:=eW) (e:=336) (base:=w.heap.size) (B:=0) (xs:=[bu 1 (l1.length+2)]++aK l1 1++[ib (l1.length+2+l2.length)]) (ys:=aK l2 (l1.length+2)) rfl (.tmp 25) (.tmp 29) 317 rfl (bytes:=56) Tryz.underlying317 hi0 hz0 hz1 hz2 rfl (show 0<7 by omega) cI rfl HO5.out rfl HS5.out (aj l2 _).symm (Nat.zero_le _) (by simp only [List.length_append,aj,List.length_cons,List.length_nil];omega) (by omega) (HB5.out.size) ?_
  intro v w6 hown hb
  obtain ⟨A7,c7,rfl⟩:=hown.form' (show _=(gG l1 l2).length from rfl)
  have HOW:=Lib.hid hown
  have HBW:=Lib.hid hb
  clear hown hb))
 go_ret
 exact ⟨⟨A7,c7,rfl,HOW.out⟩,HB5.out.trans HBW.out⟩
def wfI (n:Nat) (i:Ins):Prop:=(i.kind=2→0≤i.x∧i.x≤n∧0≤i.y∧i.y≤n)∧(i.kind=3→0≤i.x∧i.x≤n)
def wfN (n:Nat) (l:List Ins):Prop:=∀i∈l,wfI n i
theorem wfI.mono {n m:Nat} {i:Ins} (h:wfI n i) (hn:n≤m):wfI m i:=⟨fun k=>by have:=h.1 k;omega,fun k=>by have:=h.2 k;omega⟩
theorem wfN.mono {n m:Nat} {l:List Ins} (h:wfN n l) (hn:n≤m):wfN m l:=fun i hi=>(h i hi).mono hn
theorem wfN.append {n:Nat} {a b:List Ins} (h:wfN n a) (k:wfN n b):wfN n (a++b):=fun i hi=>by
 rcases List.mem_append.1 hi with h1 | h1
 ·exact h i h1
 ·exact k i h1
theorem wfN.nil {n:Nat}:wfN n []:=fun _ h=>by cases h
theorem wfN.one {n:Nat} {i:Ins} (h:wfI n i):wfN n [i]:=fun j hj=>by
 rw [List.mem_singleton] at hj;subst hj;exact h
theorem iY {n:Int} (h0:0≤n) (h1:n≤1000000000):wrap64 n=n:=by unfold wrap64;omega
theorem wfN.moved {m n k:Nat} {l:List Ins} (h:wfN m l) (hk:m+k≤n) (hn:n≤1000000000):wfN n (aK l k):=by
 intro i hi
 obtain ⟨j,hj,rfl⟩:=List.mem_map.1 hi
 have hw:=h j hj
 unfold gt
 by_cases h2:j.kind=2
 ·have:=hw.1 h2
  rw [if_pos h2]
  refine ⟨fun _=>?_,fun h3=>?_⟩
  ·simp only
   rw [iY (by omega) (by omega),iY (by omega) (by omega)]
   omega
  ·simp only at h3;omega
 ·rw [if_neg h2]
  by_cases h3:j.kind=3
  ·have:=hw.2 h3
   rw [if_pos h3]
   refine ⟨fun h=>absurd h h2,fun _=>?_⟩
   simp only
   rw [iY (by omega) (by omega)]
   omega
  ·rw [if_neg h3]
   exact ⟨fun h=>absurd h h2,fun h=>absurd h h3⟩
theorem jK {n:Nat} {x y:Int} (h0:0≤x) (h1:x≤n) (h2:0≤y) (h3:y≤n):wfI n (bu x y):=⟨fun _=>⟨h0,h1,h2,h3⟩,fun h=>by simp [bu] at h⟩
theorem uG {n:Nat} {x:Int} (h0:0≤x) (h1:x≤n):wfI n (ib x):=⟨fun h=>by simp [ib] at h,fun _=>⟨h0,h1⟩⟩
theorem qI {n:Nat} {i:Ins} (h2:i.kind≠2) (h3:i.kind≠3):wfI n i:=⟨fun h=>absurd h h2,fun h=>absurd h h3⟩
theorem fx (i:Ins) (c:Nat):(lh i c).kind=i.kind:=by
 unfold lh Ins.put
 split
 ·rfl
 ·split
  ·rfl
  ·split<;>rfl
theorem pD (i:Ins) (f t:Nat):(dR i f t).kind=i.kind:=by
 unfold dR
 generalize List.range (t+1-f)=l
 induction l generalizing i with
 | nil=>rfl
 | cons a l ih=>rw [List.foldl_cons,ih,fx]
theorem gF (s:ByteArray):∀n p i,(bh s n p i).1.kind=i.kind
 | 0,p,i=>rfl
 | n+1,p,i=>by
   unfold bh
   split
   ·simp only
    rw [gF s n,pD]
   ·rfl
theorem jT (s:ByteArray) (p:PS):(dF s p).1.kind=1:=by
 unfold dF
 simp only
 split
 ·show (bh s _ _ bZ).1.kind=1
  rw [gF];rfl
 ·rw [gF];rfl
theorem wf_all (s:ByteArray) (hs:s.size≤1000000):∀n,(∀p,wfN (pw s n p).1.length (pw s n p).1)∧(∀p out,wfN out.length out→out.length+2*bz s p≤4000000→wfN (iQ s n p out).1.length (iQ s n p out).1)∧(∀p,bz s p≠0→wfN (eD s n p).1.length (eD s n p).1)∧(∀p,bz s p≠0→wfN (fj s n p).1.length (fj s n p).1):=by
 intro n
 induction n with
 | zero=>exact ⟨fun p=>wfN.nil,fun p out h _=>h,fun p _=>wfN.nil,fun p _=>wfN.nil⟩
 | succ n ih=>
   obtain ⟨ihp,ihr,ihc,iha⟩:=ih
   refine ⟨fun p=>?_,fun p out ho hb=>?_,fun p hp=>?_,fun p hp=>?_⟩
   ·have hr:=jm s p
    unfold pw
    simp only
    obtain ⟨h1,h2⟩:=(eO s n).2.1 p []
    have h3:=ihr p [] wfN.nil (by simp;omega)
    split
    ·have h4:=ihp (iQ s n p []).2.step
     have h5:=(io s n (iQ s n p []).2.step).len
     have h6:=jm s (iQ s n p []).2.step
     simp only [List.length_nil] at h2
     generalize (iQ s n p []).1=a at *
     generalize (pw s n (iQ s n p []).2.step).1=b at *
     have e:(gG a b).length=a.length+b.length+2:=by simp [gG,aj];omega
     simp only [e]
     refine wfN.append (wfN.append (wfN.append (wfN.one (jK (by omega) (by omega) (by omega) (by omega))) (h3.moved (k:=1) (by omega) (by omega))) (wfN.one (uG (by omega) (by omega)))) ?_
     exact h4.moved (k:=a.length+2) (by omega) (by omega)
    ·exact h3
   ·unfold iQ
    split
    ·rename_i hc
     have hne:bz s p≠0:=by
      rw [Bool.and_eq_true] at hc
      have:=hc.1
      rw [ei] at this
      simpa using this
     have h1:=(eO s n).2.2.1 p hne
     have h4:=h1.len
     refine ihr _ _ ?_ ?_
     ·rw [List.length_append,aj]
      refine wfN.append (ho.mono (by omega)) ((ihc p hne).moved (k:=out.length) (by omega) (by omega))
     ·rw [List.length_append,aj]
      omega
    ·exact ho
   ·unfold eD
    simp only
    have h1:=iha p hp
    have h2:=((eO s n).2.2.2 p hp).len
    have h3:=jm s p
    generalize fj s n p=r at *
    obtain ⟨a,q⟩:=r
    simp only at h1 h2 ⊢
    split
    ·have e:([bu 1 (↑a.length+2)]++aK a 1++[ib 0]).length=a.length+2:=by simp [aj]
     simp only [e]
     exact wfN.append (wfN.append (wfN.one (jK (by omega) (by omega) (by omega) (by omega))) (h1.moved (k:=1) (by omega) (by omega))) (wfN.one (uG (by omega) (by omega)))
    ·split
     ·have e:(a++[bu 0 (↑a.length+1)]).length=a.length+1:=by simp
      simp only [e]
      exact wfN.append (h1.mono (by omega)) (wfN.one (jK (by omega) (by omega) (by omega) (by omega)))
     ·split
      ·have e:([bu 1 (↑a.length+1)]++aK a 1).length=a.length+1:=by simp [aj]
       simp only [e]
       exact wfN.append (wfN.one (jK (by omega) (by omega) (by omega) (by omega))) (h1.moved (k:=1) (by omega) (by omega))
      ·exact h1
   ·unfold fj
    simp only
    have leaf:∀(i:Ins),i.kind≠2→i.kind≠3→wfN [i].length [i]:=fun i h2 h3=>wfN.one (qI h2 h3)
    split
    ·split
     ·exact wfN.nil
     ·exact ihp _
    ·split
     ·exact leaf _ (by rw [jT];decide) (by rw [jT];decide)
     ·split
      ·exact leaf _ (by decide) (by decide)
      ·split
       ·exact leaf _ (by decide) (by decide)
       ·split
        ·exact leaf _ (by decide) (by decide)
        ·split
         ·exact leaf _ (by rw [fx];decide) (by rw [fx];decide)
         ·split
          ·exact leaf _ (by decide) (by decide)
          ·exact leaf _ (by rw [fx];decide) (by rw [fx];decide)
structure Prg (l:List Ins):Prop where
 pos:0<l.length
 len:l.length≤1000
 wf:wfN (l.length-1) l
 last:∀i,i+1=l.length→(l.getD i bZ).kind=6
theorem vl {s:ByteArray} (h:(dH s).2=0):Prg (dH s).1:=by
 unfold dH at h ⊢
 split
 ·rename_i hs;rw [if_pos hs] at h;simp at h
 ·rename_i hs
  rw [if_neg hs] at h
  simp only at h ⊢
  split
  ·have h1:=(wf_all s (by omega) (eZ s.size)).1 ⟨0,0,0⟩
   have h2:=(io s (eZ s.size) ⟨0,0,0⟩).len
   have h3:=jm s ⟨0,0,0⟩
   generalize pw s (eZ s.size) ⟨0,0,0⟩=r at *
   obtain ⟨l,q⟩:=r
   simp only at h1 h2 ⊢
   refine ⟨by simp,by simp;omega,?_,?_⟩
   ·rw [List.length_append,List.length_singleton,Nat.add_sub_cancel]
    exact wfN.append h1 (wfN.one (qI (by decide) (by decide)))
   ·intro i hi
    rw [List.length_append,List.length_singleton] at hi
    obtain rfl:i=l.length:=by omega
    simp [List.getD_eq_getElem?_getD,List.getElem?_append_right,oW]
  ·rename_i hc
   rw [if_neg hc] at h
   exact absurd h hc
def fA (l:List Ins) (i:Int):Ins:=l.getD i.toNat bZ
def eq (x:Ins) (i:Int) (first last:Bool):List Int:=
 if x.kind=2 then [x.x,x.y] else if x.kind=3 then [x.x] else if (x.kind=4∧first=true)∨(x.kind=5∧last=true) then [i+1] else []
def jZ (l:List Ins) (first last:Bool):Nat→List Int→List Bool × Bool→List Bool × Bool
 | 0,_,st=>st
 | _+1,[],st=>st
 | n+1,i::todo,st=>
   if st.1.getD i.toNat false=true then jZ l first last n todo st
   else jZ l first last n (eq (fA l i) i first last++todo) (st.1.set i.toNat true,st.2||decide ((fA l i).kind=6))
def xj (on:List Bool):Nat:=on.countP (fun b=>!b)
def bK (l:List Ins) (first last:Bool) (i:Int) (st:List Bool × Bool):List Bool × Bool:=jZ l first last (3*l.length+2) [i] st
def dn (x:Ins) (c:Nat):Bool:=decide (x.kind=1)&&(bits .and .u64 (x.word (c / 64) / 2 ^ (c % 64)) 1==1)
def dA (l:List Ins) (c:Nat) (last:Bool):Nat→List Bool→List Bool × Bool→List Bool × Bool
 | _,[],st=>st
 | k,on::r,st=>dA l c last (k+1) r (if on&&dn (fA l k) c then bK l false last (k+1) st else st)
def ij (l:List Ins):List Bool × Bool:=(List.replicate l.length false,false)
def takes (l:List Ins) (c:Nat) (last:Bool) (st:List Bool × Bool):List Bool × Bool:=dA l c last 0 st.1 (ij l)
def iH (l:List Ins) (t:ByteArray) (whole:Bool):Nat→Nat→List Bool × Bool→Bool
 | 0,_,st=>st.2
 | n+1,i,st=>
   if st.2&&!whole then true
   else
    let last:=decide (i+1=t.size)
    let st1:=takes l (bV t i) last st
    iH l t whole n (i+1) (if whole then st1 else bK l false last 0 st1)
def fu (pat t:ByteArray) (whole:Bool):Bool × Int:=
 if 256<t.size then (false,1)
 else if (dH pat).2≠0 then (false,(dH pat).2)
 else (iH (dH pat).1 t whole t.size 0 (bK (dH pat).1 true (decide (t.size=0)) 0 (ij (dH pat).1)),0)
theorem outs_in {l:List Ins} (h:Prg l) {i:Int} (h0:0≤i) (h1:i<l.length) (f t:Bool):∀k∈eq (fA l i) i f t,0≤k∧k<l.length:=by
 have hi:i.toNat<l.length:=by omega
 have hx:fA l i=l[i.toNat]:=by unfold fA;rw [List.getD_eq_getElem?_getD,List.getElem?_eq_getElem hi];rfl
 have hw:=h.wf l[i.toNat] (List.getElem_mem hi)
 have hp:=h.pos
 intro k hk
 unfold eq at hk
 split at hk
 ·rename_i h2
  rw [hx] at h2 hk
  have:=hw.1 h2
  simp only [List.mem_cons,List.not_mem_nil,or_false] at hk
  omega
 ·split at hk
  ·rename_i h3
   rw [hx] at h3 hk
   have:=hw.2 h3
   simp only [List.mem_cons,List.not_mem_nil,or_false] at hk
   omega
  ·split at hk
   ·rename_i h4
    simp only [List.mem_cons,List.not_mem_nil,or_false] at hk
    by_cases he:i.toNat+1=l.length
    ·have:=h.last i.toNat he
     unfold fA at h4
     rw [this] at h4
     simp at h4
    ·omega
   ·cases hk
theorem wh {on:List Bool} {i:Nat} (h:on.getD i false=false) (hi:i<on.length):xj (on.set i true)+1=xj on:=by
 unfold xj
 rw [List.getD_eq_getElem?_getD,List.getElem?_eq_getElem hi] at h
 have h:on[i]=false:=h
 have key:∀(l:List Bool) (i:Nat) (hi:i<l.length),l[i]=false→(l.set i true).countP (fun b=>!b)+1=l.countP (fun b=>!b):=by
  intro l
  induction l with
  | nil=>intro i hi;simp at hi
  | cons a l ih=>
    intro i hi h
    cases i with
    | zero=>simp only [List.getElem_cons_zero] at h;subst h;simp
    | succ i=>
      simp only [List.getElem_cons_succ] at h
      have:=ih i (by simpa using hi) h
      simp only [List.set_cons_succ,List.countP_cons]
      omega
 exact key on i hi h
theorem offs_le (on:List Bool):xj on≤on.length:=List.countP_le_length
theorem te (l:List Ins) (f t:Bool) (n:Nat) (st:List Bool × Bool):jZ l f t n [] st=st:=by cases n<;>rfl
theorem wq {l:List Ins} (h:Prg l) {k c:Nat} (hk:k<l.length) (ht:dn (fA l k) c=true):k+1<l.length:=by
 by_cases he:k+1=l.length
 ·have:=h.last k he
  unfold dn fA at ht
  rw [Int.toNat_natCast,this] at ht
  simp at ht
 ·omega
end Go.Proofs.YtdphibjibnffeaaGreat
