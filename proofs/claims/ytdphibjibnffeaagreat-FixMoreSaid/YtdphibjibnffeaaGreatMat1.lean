/- match.ways: the stack. -/
import Derived.Test.YtdphibjibnffeaaGreatSrc
import Derived.Laws.MakeOwn
import Derived.Test.YtdphibjibnffeaaGreatHeap1
import Derived.Deep.Cut
import Derived.Deep.CutRange
import Derived.Deep.LoopGhost
import Derived.RegionTactic
set_option linter.unusedVariables false
set_option linter.unusedSimpArgs false
set_option maxRecDepth 100000
set_option maxHeartbeats 8000000
namespace Go.Proofs.YtdphibjibnffeaaGreat
open Go.ChangeShapes Go.WideShapes Go.ChangeAt Go.RowKit
def km (i:Ins):List Value:=[.int .i64 i.kind,.int .u64 i.a,.int .u64 i.b,.int .u64 i.c,.int .u64 i.d,.int .i64 i.x,.int .i64 i.y]
def fq:Reader Ins where
 k:=7
 rd:=fun _ _ i vs=>vs=km i
 keep:=fun _ _ h=>h
 wide:=fun _ h=>h
 len:=fun h=>by subst h;rfl
theorem cQ:dn fq:=fun {w B x vs} h u hu=>by
 obtain rfl:vs=km x:=h
 simp only [km,List.mem_cons,List.not_mem_nil,or_false] at hu
 rcases hu with rfl | rfl | rfl | rfl | rfl | rfl | rfl<;>rfl
theorem pg:(Tryz.prog.info? 336).map (fun i=>(i.zero,i.size,i.bytes))=some (some (.agg #[.int .i64 0,.int .u64 0,.int .u64 0,.int .u64 0,.int .u64 0,.int .i64 0,.int .i64 0]),7,56):=by kernel_rfl
def eK:List Ins→List Value
 | []=>[]
 | i::l=>km i++eK l
theorem jU:∀l:List Ins,(eK l).length=l.length*7
 | []=>rfl
 | i::l=>by simp [eK,jU l,km];omega
theorem ll:∀(l:List Ins) (k:Nat) (i:Ins) (j:Nat),l[k]? = some i→j<7→(eK l)[k*7+j]? = (km i)[j]?
 | [],k,i,j,h,_=>by simp at h
 | a::l,0,i,j,h,hj=>by
   simp only [List.getElem?_cons_zero,Option.some.injEq] at h
   subst h
   rw [eK,List.getElem?_append_left (by simp [km];omega)]
   simp
 | a::l,k+1,i,j,h,hj=>by
   rw [eK,List.getElem?_append_right (by simp [km];omega)]
   have e:(k+1)*7+j-(km a).length=k*7+j:=by simp [km];omega
   rw [e]
   exact ll l k i j (by simpa using h) hj
theorem mI (w:World) (B:Nat):∀l:List Ins,bE fq w B l (eK l)
 | []=>bE.nil
 | i::l=>bE.append (xs:=[i]) (bE.one (R:=fq) rfl) (mI w B l)
theorem vl (l:List Ins) (k:Nat) (i:Ins) (hk:k<l.length) :
 (((((((eK l).set (k*7) (.int .i64 i.kind)).set (k*7+1) (.int .u64 i.a)).set (k*7+2) (.int .u64 i.b)).set (k*7+3) (.int .u64 i.c)).set (k*7+4) (.int .u64 i.d)).set (k*7+5) (.int .i64 i.x)).set (k*7+6) (.int .i64 i.y)=eK (l.set k i):=by
 induction l generalizing k with
 | nil=>simp at hk
 | cons a l ih=>
   cases k with
   | zero=>simp [eK,km]
   | succ k=>
     have:=ih k (by simpa using hk)
     rw [List.set_cons_succ,eK,eK,←this]
     have e:∀(j:Nat) (v:Value) (m:List Value),(km a++m).set ((k+1)*7+j) v=km a++m.set (k*7+j) v:=by
      intro j v m
      rw [List.set_append_right _ _ (by simp [km];omega)]
      congr 2
      simp [km];omega
     have e0:=e 0
     simp only [Nat.add_zero] at e0
     rw [e0,e,e,e,e,e,e]
def gC:Ins:=⟨0,0,0,0,0,0,0⟩
theorem tu (n:Nat):madeCells #[.int .i64 0,.int .u64 0,.int .u64 0,.int .u64 0,.int .u64 0,.int .i64 0,.int .i64 0] (n*7)=(eK (List.replicate n gC)).toArray:=by
 apply Array.ext'
 apply List.ext_getElem?
 intro q
 by_cases hq:q<n*7
 ·have h1:(eK (List.replicate n gC))[q / 7*7+q % 7]? = (km gC)[q % 7]?:=ll _ _ _ _ (by rw [List.getElem?_replicate,if_pos (by omega)]) (by omega)
  have e:q / 7*7+q % 7=q:=by omega
  rw [e] at h1
  rw [h1]
  have h2:q % 7=0∨q % 7=1∨q % 7=2∨q % 7=3∨q % 7=4∨q % 7=5∨q % 7=6:=by omega
  have h3:(madeCells #[.int .i64 0,.int .u64 0,.int .u64 0,.int .u64 0,.int .u64 0,.int .i64 0,.int .i64 0] (n*7)).toList[q]? = some ((#[.int .i64 0,.int .u64 0,.int .u64 0,.int .u64 0,.int .u64 0,.int .i64 0,.int .i64 0]:Array Value)[q % 7]!):=by
   have hs:q<(madeCells #[.int .i64 0,.int .u64 0,.int .u64 0,.int .u64 0,.int .u64 0,.int .i64 0,.int .i64 0] (n*7)).toList.length:=by rw [Array.length_toList,size_madeCells];exact hq
   rw [List.getElem?_eq_getElem hs]
   simp [madeCells]
  rw [h3]
  rcases h2 with h | h | h | h | h | h | h<;>(rw [h];rfl)
 ·rw [List.getElem?_eq_none (by rw [Array.length_toList,size_madeCells];omega),List.getElem?_eq_none (by show (eK _).length≤q;rw [jU];simp;omega)]
def bP (w:World) (b:Nat) (vs:Array Value) (T:TypeId):Prop:=w.heap[b]? = some (.cells vs T (0,0))
section
variable {w w':World} {b c:Nat} {vs:Array Value} {T:TypeId}
theorem bP.blk (h:bP w b vs T):Blk w b vs:=⟨T,h⟩
theorem bP.keep {B:Nat} (h:bP w b vs T) (hb:Below B w w') (hB:b<B):bP w' b vs T:=(hb.block b hB).trans h
theorem bP.later (h:bP w b vs T) (hb:Below w.heap.size w w'):bP w' b vs T:=h.keep hb h.blk.lt
theorem bP.set_ (h:bP w b vs T) (i:Nat) (u:Value):bP (w.setCell ⟨b,i,none⟩ u) b (vs.setIfInBounds i u) T:=by
 unfold bP at h ⊢
 simp [World.setCell,Array.getElem?_modify,h]
theorem bP.far (h:bP w b vs T) (hne:b≠c) (i:Nat) (u:Value):bP (w.setCell ⟨c,i,none⟩ u) b vs T:=(Below.heap_setCell w ⟨c,i,none⟩ u b hne).trans h
theorem bP.drew (h:bP w b vs T):bP w.drew b vs T:=h
theorem bP.own {α:Type} {R:Reader α} {base B n:Nat} {xs:List α} {cells:List Value} (h:bP w b cells.toArray T) (hf:bE R w B xs cells) (hb:base≤b) (hn:xs.length=n) (hlen:n≤maxLen):ar R T w base B (.slice (some ⟨b,0,none⟩) n n) xs:=by
 subst hn
 refine ⟨cells,⟨hf.1,.inr ⟨b,xs.length,cells.toArray,rfl,hb,h,zG _,hlen,?_,?_⟩⟩,hf⟩
 ·simp [hf.1]
 ·simp
  exact List.take_of_length_le (by rw [hf.1];exact zG _)
end
def ListE (w w':World) (l:List Ins) (e:Ending):Prop:=(∃A c,e=.returned (.slice A l.length c)∧ar fq 336 w' w.heap.size 0 (.slice A l.length c) l)∧Below w.heap.size w w'
theorem yf (n:Nat) (hn:n≤1000000) (w:World):(Instr.makeSlice 317 (.int .i64 (n:Int)) (.int .i64 (n:Int))).run Tryz.prog w=.ok (.slice (some ⟨w.heap.size,0,none⟩) n n) (w.alloc (.cells (eK (List.replicate n gC)).toArray 336)):=by
 obtain ⟨i0,hi0,hz0,hz1,hz2⟩:=info_parts pg
 have hr:=run_make (P:=Tryz.prog) w 317 336 i0 _ Tryz.underlying317 hi0 hz0 .i64 .i64 n n (by omega) (Int.le_refl _) (by rw [hz2];omega) (by omega)
 simp only [Int.toNat_natCast] at hr
 rw [hz1] at hr
 rw [hr,←tu]
 rfl
theorem zw {w:World} {g k:Nat} {l:List Ins} {T:TypeId} (h:bP w g (eK l).toArray T) {i:Ins} {kd a b c d x y:Int} (hi:i=⟨kd,a,b,c,d,x,y⟩) (hk:k<l.length) :
 bP (((((((w.setCell ⟨g,k*7,none⟩ (.int .i64 kd)).setCell ⟨g,k*7+1,none⟩ (.int .u64 a)).setCell ⟨g,k*7+2,none⟩ (.int .u64 b)).setCell ⟨g,k*7+3,none⟩ (.int .u64 c)).setCell ⟨g,k*7+4,none⟩ (.int .u64 d)).setCell ⟨g,k*7+5,none⟩ (.int .i64 x)).setCell ⟨g,k*7+6,none⟩ (.int .i64 y)) g (eK (l.set k i)).toArray T:=by
 have e:=vl l k ⟨kd,a,b,c,d,x,y⟩ hk
 simp only at e
 subst hi
 have:=((((((h.set_ (k*7) (.int .i64 kd)).set_ (k*7+1) (.int .u64 a)).set_ (k*7+2) (.int .u64 b)).set_ (k*7+3) (.int .u64 c)).set_ (k*7+4) (.int .u64 d)).set_ (k*7+5) (.int .i64 x)).set_ (k*7+6) (.int .i64 y)
 simp only [List.setIfInBounds_toArray] at this
 rw [e] at this
 exact this
theorem uG {w w2:World} {B g:Nat} (h:Below B w w2) (hg:B≤g) {i0 i1 i2 i3 i4 i5 i6:Nat} (v0 v1 v2 v3 v4 v5 v6:Value) :
 Below B w (((((((w2.setCell ⟨g,i0,none⟩ v0).setCell ⟨g,i1,none⟩ v1).setCell ⟨g,i2,none⟩ v2).setCell ⟨g,i3,none⟩ v3).setCell ⟨g,i4,none⟩ v4).setCell ⟨g,i5,none⟩ v5).setCell ⟨g,i6,none⟩ v6):=
 ((((((h.setCell (p:=⟨g,i0,none⟩) hg v0).setCell (p:=⟨g,i1,none⟩) hg v1).setCell (p:=⟨g,i2,none⟩) hg v2).setCell (p:=⟨g,i3,none⟩) hg v3).setCell (p:=⟨g,i4,none⟩) hg v4).setCell (p:=⟨g,i5,none⟩) hg v5).setCell (p:=⟨g,i6,none⟩) hg v6
theorem tx {l:List Ins} {k:Nat} {i:Ins} {by_:Int} (h:l[k]? = some i):((aK (l.take k) by_++List.replicate (l.length-k) gC).set k (hJ by_ i))=aK (l.take (k+1)) by_++List.replicate (l.length-(k+1)) gC:=by
 obtain ⟨hk,e⟩:=List.getElem?_eq_some_iff.1 h
 have hl:(aK (l.take k) by_).length=k:=by rw [ah,List.length_take];omega
 obtain ⟨m,hm⟩:∃m,l.length-k=m+1:=⟨l.length-k-1,by omega⟩
 have hm2:l.length-(k+1)=m:=by omega
 rw [hm,hm2,List.set_append_right _ _ (by omega),hl,Nat.sub_self,List.replicate_succ,List.set_cons_zero,List.take_succ_eq_append_getElem hk,e]
 simp [aK]
theorem lD {B c:Nat} {l:List Ins} {A:Option Addr} {k0:Int} {w:World} (hl:RL fq w B l A) (hB:B≤w.heap.size) (hn:l.length≤1000000) :
 Calls Tryz.prog 330 #[.slice A l.length c,.int .i64 k0] w fun e w'=>ListE w w' (aK l k0) e:=by
 have HL:=zE hl
 have HN:=zE hn
 have hmk:=fun w=>yf l.length hn w
 clear hl
 go_enter Tryz.func330,Tryz.ntmps330
 go_wp2_with fail
 generalize hW:World.alloc _ _=w1
 obtain ⟨hb,hz⟩:=al1 hW
 have bo:=zE (show bP w1 w.heap.size (eK (List.replicate l.length gC)).toArray 336 from hW▸heap_alloc_new w _)
 have HB1:=zE hb
 clear hW hz hb hmk
 go_loopw [13] (fun i wr=>∃k:Nat,k≤l.length∧i=.int .i64 k∧Hid (Below w.heap.size w wr)∧w.heap.size<wr.heap.size∧Hid (bP wr w.heap.size (eK (aK (l.take k) k0++List.replicate (l.length-k) gC)).toArray 336)) (fun i _=>l.length-(intOf i).toNat)
 case atStart=>exact ⟨0,zH _,rfl,HB1,bo.out.blk.lt,by simpa [aK] using bo⟩
 case round=>
  obtain ⟨k,hk,rfl,HBW,hsz,HI⟩:=hrel
  by_cases hlt:k<l.length
  ·have HLr:=zE (HL.out.keep HBW.out hB)
   have hBr:B≤wr.heap.size:=by omega
   obtain ⟨b_,off,rfl,hob⟩:=HLr.out.base (zI _ _) hBr (by omega)
   obtain ⟨x,vs,hx,hlen,hcell,hr⟩:=HLr.out.at_ (zI _ _) hBr hlt
   obtain rfl:vs=km x:=hr
   have c0:wr.cell? ⟨b_,off+k*7,none⟩=some (.int .i64 x.kind):=hcell 0 _ rfl
   have c1:wr.cell? ⟨b_,off+k*7+1,none⟩=some (.int .u64 x.a):=hcell 1 _ rfl
   have c2:wr.cell? ⟨b_,off+k*7+2,none⟩=some (.int .u64 x.b):=hcell 2 _ rfl
   have c3:wr.cell? ⟨b_,off+k*7+3,none⟩=some (.int .u64 x.c):=hcell 3 _ rfl
   have c4:wr.cell? ⟨b_,off+k*7+4,none⟩=some (.int .u64 x.d):=hcell 4 _ rfl
   have c5:wr.cell? ⟨b_,off+k*7+5,none⟩=some (.int .i64 x.x):=hcell 5 _ rfl
   have c6:wr.cell? ⟨b_,off+k*7+6,none⟩=some (.int .i64 x.y):=hcell 6 _ rfl
   have HX:=zE hx
   have hG:=HI.out.blk.cell
   have fG:=HI.out.blk.free
   have hzk:(aK (l.take k) k0++List.replicate (l.length-k) gC)[k]? = some gC:=by
    have hl:(aK (l.take k) k0).length=k:=by rw [ah,List.length_take];omega
    rw [List.getElem?_append_right (by omega),hl,Nat.sub_self,List.getElem?_replicate,if_pos (by omega)]
   have gz:∀j,j<7→wr.cell? ⟨w.heap.size,k*7+j,none⟩=(km gC)[j]?:=fun j hj=>(hG (k*7+j)).trans ((List.getElem?_toArray).trans (ll _ k gC j hzk hj))
   have g0:wr.cell? ⟨w.heap.size,k*7,none⟩=some (.int .i64 0):=gz 0 (by omega)
   have g1:wr.cell? ⟨w.heap.size,k*7+1,none⟩=some (.int .u64 0):=gz 1 (by omega)
   have g2:wr.cell? ⟨w.heap.size,k*7+2,none⟩=some (.int .u64 0):=gz 2 (by omega)
   have g3:wr.cell? ⟨w.heap.size,k*7+3,none⟩=some (.int .u64 0):=gz 3 (by omega)
   have g4:wr.cell? ⟨w.heap.size,k*7+4,none⟩=some (.int .u64 0):=gz 4 (by omega)
   have g5:wr.cell? ⟨w.heap.size,k*7+5,none⟩=some (.int .i64 0):=gz 5 (by omega)
   have g6:wr.cell? ⟨w.heap.size,k*7+6,none⟩=some (.int .i64 0):=gz 6 (by omega)
   have HS:Hid ((aK (l.take k) k0++List.replicate (l.length-k) gC).set k (hJ k0 x)=aK (l.take (k+1)) k0++List.replicate (l.length-(k+1)) gC):=zE (tx HX.out)
   have HLN:Hid (k<(aK (l.take k) k0++List.replicate (l.length-k) gC).length):=zE (by rw [List.length_append,ah,List.length_take,List.length_replicate];omega)
   clear hG hzk gz
   generalize aK (l.take k) k0++List.replicate (l.length-k) gC=cur at *
   have hkind:x.kind=2∨x.kind≠2∧x.kind=3∨x.kind≠2∧x.kind≠3:=by omega
   rcases hkind with h2 | ⟨h2,h3⟩ | ⟨h2,h3⟩
   ·have HM:Hid (hJ k0 x=⟨x.kind,x.a,x.b,x.c,x.d,wrap64 (x.x+k0),wrap64 (x.y+k0)⟩):=zE (by unfold hJ;rw [if_pos h2])
    have hq2:(x.kind==2)=true:=by simpa using h2
    clear h2
    go_wp2_with fail
    go_roundw
    case rel=>
     have hp:=zw HI.out HM.out HLN.out
     rw [HS.out] at hp
     exact ⟨k+1,by omega,by go_num,zE ((uG HBW.out (zG _) _ _ _ _ _ _ _).alloc (by simp only [World.size_setCell];omega) _),by simp only [World.size_setCell,World.size_alloc];omega,zE (hp.later ((zI _ _).alloc (zG _) _))⟩
    case measure=>simp [intOf];omega
   ·have HM:Hid (hJ k0 x=⟨x.kind,x.a,x.b,x.c,x.d,wrap64 (x.x+k0),x.y⟩):=zE (by unfold hJ;rw [if_neg h2,if_pos h3])
    have hq2:(x.kind==2)=false:=by simpa using h2
    have hq3:(x.kind==3)=true:=by simpa using h3
    clear h2 h3
    go_wp2_with fail
    go_roundw
    case rel=>
     have hp:=zw HI.out HM.out HLN.out
     rw [HS.out] at hp
     exact ⟨k+1,by omega,by go_num,zE ((uG HBW.out (zG _) _ _ _ _ _ _ _).alloc (by simp only [World.size_setCell];omega) _),by simp only [World.size_setCell,World.size_alloc];omega,zE (hp.later ((zI _ _).alloc (zG _) _))⟩
    case measure=>simp [intOf];omega
   ·have HM:Hid (hJ k0 x=x):=zE (by unfold hJ;rw [if_neg h2,if_neg h3])
    have hq2:(x.kind==2)=false:=by simpa using h2
    have hq3:(x.kind==3)=false:=by simpa using h3
    clear h2 h3
    go_wp2_with fail
    go_roundw
    case rel=>
     have hp:=zw HI.out HM.out HLN.out
     rw [HS.out] at hp
     exact ⟨k+1,by omega,by go_num,zE ((uG HBW.out (zG _) _ _ _ _ _ _ _).alloc (by simp only [World.size_setCell];omega) _),by simp only [World.size_setCell,World.size_alloc];omega,zE (hp.later ((zI _ _).alloc (zG _) _))⟩
    case measure=>simp [intOf];omega
  ·have HE:Hid (aK (l.take k) k0++List.replicate (l.length-k) gC=aK l k0):=zE (by rw [List.take_of_length_le (by omega),show l.length-k=0 by omega];simp)
   rw [HE.out] at HI
   go_wp2_with fail
   go_ret
   have ho:=HI.out.own (R:=fq) (base:=w.heap.size) (B:=0) (mI wr 0 (aK l k0)) (zG _) (ah l k0) (by unfold maxLen;omega)
   refine ⟨⟨some ⟨w.heap.size,0,none⟩,l.length,?_,?_⟩,HBW.out⟩
   ·rw [ah];rfl
   ·rw [ah];exact ho
theorem ar.form' {w:World} {base n:Nat} {v:Value} {xs:List Ins} (h:ar fq 336 w base 0 v xs) (hn:xs.length=n):∃A c,v=.slice A n c:=by
 subst hn
 exact h.form
theorem ar.rows {w:World} {base n c:Nat} {A:Option Addr} {xs:List Ins} (h:ar fq 336 w base 0 (.slice A n c) xs) (hn:xs.length≤1000000):RL fq w w.heap.size xs A:=by
 obtain ⟨A3,c3,e3,r1,r2,r3⟩:=h.reads (zH _) (by show xs.length*(8*7)≤_;omega)
 simp only [Value.slice.injEq] at e3
 obtain ⟨rfl,_,rfl⟩:=e3
 exact r3
theorem ar.low {w:World} {base b0:Nat} {v:Value} {xs:List Ins} (h:ar fq 336 w base 0 v xs) (hb:b0≤base):ar fq 336 w b0 0 v xs:=by
 obtain ⟨cells,h,hf⟩:=h
 refine ⟨cells,⟨h.1,?_⟩,hf⟩
 rcases h.2 with h2 | ⟨g,cap,cur,hv,hg,r⟩
 ·exact .inl h2
 ·exact .inr ⟨g,cap,cur,hv,zF hb hg,r⟩
theorem ar.srcn {w:World} {base n c:Nat} {A:Option Addr} {xs:List Ins} (h:ar fq 336 w base 0 (.slice A n c) xs):gY fq w 0 A xs:=by
 obtain ⟨_,_,e⟩:=h.form
 simp only [Value.slice.injEq] at e
 obtain ⟨rfl,rfl,rfl⟩:=e
 exact h.src
theorem gc {w W:World} {i:Ins} {base:Nat} {o:Obj} (h:w.alloc o=W) (ho:o=.cells (km i).toArray 336) (hb:base≤w.heap.size):ar fq 336 W base 0 (.slice (some ⟨w.heap.size,0,none⟩) 1 1) [i]:=by
 subst ho
 have hB:bP W w.heap.size (km i).toArray 336:=h▸heap_alloc_new w _
 exact hB.own (R:=fq) (xs:=[i]) (bE.one rfl) hb rfl (by unfold maxLen;omega)
theorem sS {B c1 c2:Nat} {l1 l2:List Ins} {A1 A2:Option Addr} {w:World} (h1:RL fq w B l1 A1) (h2:RL fq w B l2 A2) (hB:B≤w.heap.size) (hn1:l1.length≤100000) (hn2:l2.length≤100000) :
 Calls Tryz.prog 328 #[.slice A1 l1.length c1,.slice A2 l2.length c2] w fun e w'=>ListE w w' (ik l1 l2) e:=by
 obtain ⟨i0,hi0,hz0,hz1,hz2⟩:=info_parts pg
 have H1:=zE h1
 have H2:=zE h2
 clear h1 h2
 go_enter Tryz.func328,Tryz.ntmps328
 go_wp2_with fail
 generalize hW:World.alloc _ _=w1
 obtain ⟨hb,hz⟩:=al1 hW
 have HO:=zE (gc (i:=bC 1 (l1.length+2)) hW rfl (zG _))
 have HB1:=zE hb
 clear hW hz hb
 refine (lD (B:=B) (H1.out.keep HB1.out hB) (zF hB HB1.out.size) (by omega)).mono ?_
 rintro e w2 ⟨⟨A3,c3,rfl,ho⟩,hb⟩
 rw [ah]
 have HB2:=zE (ab HB1.out hb)
 have HO2:=zE (HO.out.later hb (zH _))
 have HS2:=zE ho.src
 clear ho hb
 go_upto_region 3 with ((
  at_builtin
  refine au (R:=fq) (e:=336) (base:=w.heap.size) (B:=0) (xs:=[bC 1 (l1.length+2)]) (ys:=aK l1 1) rfl (.tmp 12) (.tmp 14) 317 rfl (bytes:=56) Tryz.underlying317 hi0 hz0 hz1 hz2 rfl (show 0<7 by omega) cQ rfl HO2.out rfl HS2.out (ah l1 1).symm (zH _) (by rw [ah];simp only [List.length_cons,List.length_nil];omega) (by omega) (HB2.out.size) ?_
  intro v w3 hown hb
  obtain ⟨A4,c4,rfl⟩:=hown.form' (show _=l1.length+1 by simp [ah])
  have HOW:=zE hown
  have HBW:=zE hb
  clear hown hb))
 have HB3:=zE (HB2.out.trans HBW.out)
 have HJ4:=zE (And.intro (HOW.out.later (av (w:=w3) (o:=.cells #[.int .i64 3,.int .u64 0,.int .u64 0,.int .u64 0,.int .u64 0,.int .i64 ((l1.length:Int)+2+l2.length),.int .i64 0] 336) rfl) (zH _)) (ar.src (xs:=[iK (l1.length+2+l2.length)]) (gc (w:=w3) (i:=iK (l1.length+2+l2.length)) (base:=w.heap.size) (o:=.cells #[.int .i64 3,.int .u64 0,.int .u64 0,.int .u64 0,.int .u64 0,.int .i64 ((l1.length:Int)+2+l2.length),.int .i64 0] 336) rfl rfl HB3.out.size)))
 clear HOW HBW
 go_upto_region 4 with ((
  at_builtin
  refine au (R:=fq) (e:=336) (base:=w.heap.size) (B:=0) (xs:=[bC 1 (l1.length+2)]++aK l1 1) (ys:=[iK (l1.length+2+l2.length)]) rfl (.tmp 16) (.tmp 23) 317 rfl (bytes:=56) Tryz.underlying317 hi0 hz0 hz1 hz2 rfl (show 0<7 by omega) cQ rfl HJ4.out.1 rfl HJ4.out.2 rfl (zH _) (by rw [List.length_append,ah];simp only [List.length_cons,List.length_nil];omega) (by omega) ((by rw [World.size_alloc];have:=HB3.out.size;omega)) ?_
  intro v w4 hown hb
  obtain ⟨A5,c5,rfl⟩:=hown.form' (show _=l1.length+2 by simp [ah])
  have HOW:=zE hown
  have HBW:=zE hb
  clear hown hb))
 have HB4:=zE ((HB3.out.alloc HB3.out.size (.cells #[.int .i64 3,.int .u64 0,.int .u64 0,.int .u64 0,.int .u64 0,.int .i64 ((l1.length:Int)+2+l2.length),.int .i64 0] 336)).trans HBW.out)
 have HO4:=zE HOW.out
 clear HOW HBW HJ4
 go_wp2_with fail
 refine (lD (B:=B) (H2.out.keep HB4.out hB) (zF hB HB4.out.size) (by omega)).mono ?_
 rintro e w5 ⟨⟨A6,c6,rfl,ho⟩,hb⟩
 rw [ah]
 have HB5:=zE (ab HB4.out hb)
 have HO5:=zE (HO4.out.later hb (zH _))
 have HS5:=zE ho.srcn
 clear ho hb
 go_wp2_with ((
  at_builtin
  refine au (R:=fq) (e:=336) (base:=w.heap.size) (B:=0) (xs:=[bC 1 (l1.length+2)]++aK l1 1++[iK (l1.length+2+l2.length)]) (ys:=aK l2 (l1.length+2)) rfl (.tmp 25) (.tmp 29) 317 rfl (bytes:=56) Tryz.underlying317 hi0 hz0 hz1 hz2 rfl (show 0<7 by omega) cQ rfl HO5.out rfl HS5.out (ah l2 _).symm (zH _) (by simp only [List.length_append,ah,List.length_cons,List.length_nil];omega) (by omega) (HB5.out.size) ?_
  intro v w6 hown hb
  obtain ⟨A7,c7,rfl⟩:=hown.form' (show _=(ik l1 l2).length from rfl)
  have HOW:=zE hown
  have HBW:=zE hb
  clear hown hb))
 go_ret
 exact ⟨⟨A7,c7,rfl,HOW.out⟩,HB5.out.trans HBW.out⟩
def wfI (n:Nat) (i:Ins):Prop:=(i.kind=2→0≤i.x∧i.x≤n∧0≤i.y∧i.y≤n)∧(i.kind=3→0≤i.x∧i.x≤n)
def wfN (n:Nat) (l:List Ins):Prop:=∀i∈l,wfI n i
theorem wfI.mono {n m:Nat} {i:Ins} (h:wfI n i) (hn:n≤m):wfI m i:=⟨fun k=>by have:=h.1 k;omega,fun k=>by have:=h.2 k;omega⟩
theorem wfN.mono {n m:Nat} {l:List Ins} (h:wfN n l) (hn:n≤m):wfN m l:=fun i hi=>(h i hi).mono hn
theorem wfN.append {n:Nat} {a b:List Ins} (h:wfN n a) (k:wfN n b):wfN n (a++b):=fun i hi=>by
 rcases List.mem_append.1 hi with h1 | h1
 ·exact h i h1
 ·exact k i h1
theorem wfN.nil {n:Nat}:wfN n []:=fun _ h=>by cases h
theorem wfN.one {n:Nat} {i:Ins} (h:wfI n i):wfN n [i]:=fun j hj=>by
 rw [List.mem_singleton] at hj;subst hj;exact h
theorem jI {n:Int} (h0:0≤n) (h1:n≤1000000000):wrap64 n=n:=by unfold wrap64;omega
theorem wfN.moved {m n k:Nat} {l:List Ins} (h:wfN m l) (hk:m+k≤n) (hn:n≤1000000000):wfN n (aK l k):=by
 intro i hi
 obtain ⟨j,hj,rfl⟩:=List.mem_map.1 hi
 have hw:=h j hj
 unfold hJ
 by_cases h2:j.kind=2
 ·have:=hw.1 h2
  rw [if_pos h2]
  refine ⟨fun _=>?_,fun h3=>?_⟩
  ·simp only
   rw [jI (by omega) (by omega),jI (by omega) (by omega)]
   omega
  ·simp only at h3;omega
 ·rw [if_neg h2]
  by_cases h3:j.kind=3
  ·have:=hw.2 h3
   rw [if_pos h3]
   refine ⟨fun h=>absurd h h2,fun _=>?_⟩
   simp only
   rw [jI (by omega) (by omega)]
   omega
  ·rw [if_neg h3]
   exact ⟨fun h=>absurd h h2,fun h=>absurd h h3⟩
theorem kH {n:Nat} {x y:Int} (h0:0≤x) (h1:x≤n) (h2:0≤y) (h3:y≤n):wfI n (bC x y):=⟨fun _=>⟨h0,h1,h2,h3⟩,fun h=>by simp [bC] at h⟩
theorem wZ {n:Nat} {x:Int} (h0:0≤x) (h1:x≤n):wfI n (iK x):=⟨fun h=>by simp [iK] at h,fun _=>⟨h0,h1⟩⟩
theorem sy {n:Nat} {i:Ins} (h2:i.kind≠2) (h3:i.kind≠3):wfI n i:=⟨fun h=>absurd h h2,fun h=>absurd h h3⟩
theorem fX (i:Ins) (c:Nat):(mb i c).kind=i.kind:=by
 unfold mb Ins.put
 split
 ·rfl
 ·split
  ·rfl
  ·split<;>rfl
theorem rj (i:Ins) (f t:Nat):(ed i f t).kind=i.kind:=by
 unfold ed
 generalize List.range (t+1-f)=l
 induction l generalizing i with
 | nil=>rfl
 | cons a l ih=>rw [List.foldl_cons,ih,fX]
theorem ij (s:ByteArray):∀n p i,(bl s n p i).1.kind=i.kind
 | 0,p,i=>rfl
 | n+1,p,i=>by
   unfold bl
   split
   ·simp only
    rw [ij s n,rj]
   ·rfl
theorem kT (s:ByteArray) (p:PS):(dV s p).1.kind=1:=by
 unfold dV
 simp only
 split
 ·show (bl s _ _ ci).1.kind=1
  rw [ij];rfl
 ·rw [ij];rfl
theorem wf_all (s:ByteArray) (hs:s.size≤1000000):∀n,(∀p,wfN (rc s n p).1.length (rc s n p).1)∧(∀p out,wfN out.length out→out.length+2*bF s p≤4000000→wfN (jD s n p out).1.length (jD s n p out).1)∧(∀p,bF s p≠0→wfN (eP s n p).1.length (eP s n p).1)∧(∀p,bF s p≠0→wfN (fI s n p).1.length (fI s n p).1):=by
 intro n
 induction n with
 | zero=>exact ⟨fun p=>wfN.nil,fun p out h _=>h,fun p _=>wfN.nil,fun p _=>wfN.nil⟩
 | succ n ih=>
   obtain ⟨ihp,ihr,ihc,iha⟩:=ih
   refine ⟨fun p=>?_,fun p out ho hb=>?_,fun p hp=>?_,fun p hp=>?_⟩
   ·have hr:=jV s p
    unfold rc
    simp only
    obtain ⟨h1,h2⟩:=(ff s n).2.1 p []
    have h3:=ihr p [] wfN.nil (by simp;omega)
    split
    ·have h4:=ihp (jD s n p []).2.step
     have h5:=(iV s n (jD s n p []).2.step).len
     have h6:=jV s (jD s n p []).2.step
     simp only [List.length_nil] at h2
     generalize (jD s n p []).1=a at *
     generalize (rc s n (jD s n p []).2.step).1=b at *
     have e:(ik a b).length=a.length+b.length+2:=by simp [ik,ah];omega
     simp only [e]
     refine wfN.append (wfN.append (wfN.append (wfN.one (kH (by omega) (by omega) (by omega) (by omega))) (h3.moved (k:=1) (by omega) (by omega))) (wfN.one (wZ (by omega) (by omega)))) ?_
     exact h4.moved (k:=a.length+2) (by omega) (by omega)
    ·exact h3
   ·unfold jD
    split
    ·rename_i hc
     have hne:bF s p≠0:=by
      rw [Bool.and_eq_true] at hc
      have:=hc.1
      rw [eu] at this
      simpa using this
     have h1:=(ff s n).2.2.1 p hne
     have h4:=h1.len
     refine ihr _ _ ?_ ?_
     ·rw [List.length_append,ah]
      refine wfN.append (ho.mono (by omega)) ((ihc p hne).moved (k:=out.length) (by omega) (by omega))
     ·rw [List.length_append,ah]
      omega
    ·exact ho
   ·unfold eP
    simp only
    have h1:=iha p hp
    have h2:=((ff s n).2.2.2 p hp).len
    have h3:=jV s p
    generalize fI s n p=r at *
    obtain ⟨a,q⟩:=r
    simp only at h1 h2 ⊢
    split
    ·have e:([bC 1 (↑a.length+2)]++aK a 1++[iK 0]).length=a.length+2:=by simp [ah]
     simp only [e]
     exact wfN.append (wfN.append (wfN.one (kH (by omega) (by omega) (by omega) (by omega))) (h1.moved (k:=1) (by omega) (by omega))) (wfN.one (wZ (by omega) (by omega)))
    ·split
     ·have e:(a++[bC 0 (↑a.length+1)]).length=a.length+1:=by simp
      simp only [e]
      exact wfN.append (h1.mono (by omega)) (wfN.one (kH (by omega) (by omega) (by omega) (by omega)))
     ·split
      ·have e:([bC 1 (↑a.length+1)]++aK a 1).length=a.length+1:=by simp [ah]
       simp only [e]
       exact wfN.append (wfN.one (kH (by omega) (by omega) (by omega) (by omega))) (h1.moved (k:=1) (by omega) (by omega))
      ·exact h1
   ·unfold fI
    simp only
    have leaf:∀(i:Ins),i.kind≠2→i.kind≠3→wfN [i].length [i]:=fun i h2 h3=>wfN.one (sy h2 h3)
    split
    ·split
     ·exact wfN.nil
     ·exact ihp _
    ·split
     ·exact leaf _ (by rw [kT];decide) (by rw [kT];decide)
     ·split
      ·exact leaf _ (by decide) (by decide)
      ·split
       ·exact leaf _ (by decide) (by decide)
       ·split
        ·exact leaf _ (by decide) (by decide)
        ·split
         ·exact leaf _ (by rw [fX];decide) (by rw [fX];decide)
         ·split
          ·exact leaf _ (by decide) (by decide)
          ·exact leaf _ (by rw [fX];decide) (by rw [fX];decide)
structure Prg (l:List Ins):Prop where
 pos:0<l.length
 len:l.length≤1000
 wf:wfN (l.length-1) l
 last:∀i,i+1=l.length→(l.getD i ci).kind=6
theorem xH {s:ByteArray} (h:(dW s).2=0):Prg (dW s).1:=by
 unfold dW at h ⊢
 split
 ·rename_i hs;rw [if_pos hs] at h;simp at h
 ·rename_i hs
  rw [if_neg hs] at h
  simp only at h ⊢
  split
  ·have h1:=(wf_all s (by omega) (fw s.size)).1 ⟨0,0,0⟩
   have h2:=(iV s (fw s.size) ⟨0,0,0⟩).len
   have h3:=jV s ⟨0,0,0⟩
   generalize rc s (fw s.size) ⟨0,0,0⟩=r at *
   obtain ⟨l,q⟩:=r
   simp only at h1 h2 ⊢
   refine ⟨by simp,by simp;omega,?_,?_⟩
   ·rw [List.length_append,List.length_singleton,Nat.add_sub_cancel]
    exact wfN.append h1 (wfN.one (sy (by decide) (by decide)))
   ·intro i hi
    rw [List.length_append,List.length_singleton] at hi
    obtain rfl:i=l.length:=by omega
    simp [List.getD_eq_getElem?_getD,List.getElem?_append_right,qD]
  ·rename_i hc
   rw [if_neg hc] at h
   exact absurd h hc
def ga (l:List Ins) (i:Int):Ins:=l.getD i.toNat ci
def eF (x:Ins) (i:Int) (first last:Bool):List Int:=
 if x.kind=2 then [x.x,x.y] else if x.kind=3 then [x.x] else if (x.kind=4∧first=true)∨(x.kind=5∧last=true) then [i+1] else []
def kZ (l:List Ins) (first last:Bool):Nat→List Int→List Bool × Bool→List Bool × Bool
 | 0,_,st=>st
 | _+1,[],st=>st
 | n+1,i::todo,st=>
   if st.1.getD i.toNat false=true then kZ l first last n todo st
   else kZ l first last n (eF (ga l i) i first last++todo) (st.1.set i.toNat true,st.2||decide ((ga l i).kind=6))
def zu (on:List Bool):Nat:=on.countP (fun b=>!b)
def bN (l:List Ins) (first last:Bool) (i:Int) (st:List Bool × Bool):List Bool × Bool:=kZ l first last (3*l.length+2) [i] st
def dx (x:Ins) (c:Nat):Bool:=decide (x.kind=1)&&(bits .and .u64 (x.word (c / 64) / 2 ^ (c % 64)) 1==1)
def dH (l:List Ins) (c:Nat) (last:Bool):Nat→List Bool→List Bool × Bool→List Bool × Bool
 | _,[],st=>st
 | k,on::r,st=>dH l c last (k+1) r (if on&&dx (ga l k) c then bN l false last (k+1) st else st)
def iP (l:List Ins):List Bool × Bool:=(List.replicate l.length false,false)
def takes (l:List Ins) (c:Nat) (last:Bool) (st:List Bool × Bool):List Bool × Bool:=dH l c last 0 st.1 (iP l)
def jt (l:List Ins) (t:ByteArray) (whole:Bool):Nat→Nat→List Bool × Bool→Bool
 | 0,_,st=>st.2
 | n+1,i,st=>
   if st.2&&!whole then true
   else
    let last:=decide (i+1=t.size)
    let st1:=takes l (ch t i) last st
    jt l t whole n (i+1) (if whole then st1 else bN l false last 0 st1)
def fS (pat t:ByteArray) (whole:Bool):Bool × Int:=
 if 256<t.size then (false,1)
 else if (dW pat).2≠0 then (false,(dW pat).2)
 else (jt (dW pat).1 t whole t.size 0 (bN (dW pat).1 true (decide (t.size=0)) 0 (iP (dW pat).1)),0)
theorem outs_in {l:List Ins} (h:Prg l) {i:Int} (h0:0≤i) (h1:i<l.length) (f t:Bool):∀k∈eF (ga l i) i f t,0≤k∧k<l.length:=by
 have hi:i.toNat<l.length:=by omega
 have hx:ga l i=l[i.toNat]:=by unfold ga;rw [List.getD_eq_getElem?_getD,List.getElem?_eq_getElem hi];rfl
 have hw:=h.wf l[i.toNat] (List.getElem_mem hi)
 have hp:=h.pos
 intro k hk
 unfold eF at hk
 split at hk
 ·rename_i h2
  rw [hx] at h2 hk
  have:=hw.1 h2
  simp only [List.mem_cons,List.not_mem_nil,or_false] at hk
  omega
 ·split at hk
  ·rename_i h3
   rw [hx] at h3 hk
   have:=hw.2 h3
   simp only [List.mem_cons,List.not_mem_nil,or_false] at hk
   omega
  ·split at hk
   ·rename_i h4
    simp only [List.mem_cons,List.not_mem_nil,or_false] at hk
    by_cases he:i.toNat+1=l.length
    ·have:=h.last i.toNat he
     unfold ga at h4
     rw [this] at h4
     simp at h4
    ·omega
   ·cases hk
theorem yD {on:List Bool} {i:Nat} (h:on.getD i false=false) (hi:i<on.length):zu (on.set i true)+1=zu on:=by
 unfold zu
 rw [List.getD_eq_getElem?_getD,List.getElem?_eq_getElem hi] at h
 have h:on[i]=false:=h
 have key:∀(l:List Bool) (i:Nat) (hi:i<l.length),l[i]=false→(l.set i true).countP (fun b=>!b)+1=l.countP (fun b=>!b):=by
  intro l
  induction l with
  | nil=>intro i hi;simp at hi
  | cons a l ih=>
    intro i hi h
    cases i with
    | zero=>simp only [List.getElem_cons_zero] at h;subst h;simp
    | succ i=>
      simp only [List.getElem_cons_succ] at h
      have:=ih i (by simpa using hi) h
      simp only [List.set_cons_succ,List.countP_cons]
      omega
 exact key on i hi h
theorem offs_le (on:List Bool):zu on≤on.length:=List.countP_le_length
theorem uY (l:List Ins) (f t:Bool) (n:Nat) (st:List Bool × Bool):kZ l f t n [] st=st:=by cases n<;>rfl
theorem yJ {l:List Ins} (h:Prg l) {k c:Nat} (hk:k<l.length) (ht:dx (ga l k) c=true):k+1<l.length:=by
 by_cases he:k+1=l.length
 ·have:=h.last k he
  unfold dx ga at ht
  rw [Int.toNat_natCast,this] at ht
  simp at ht
 ·omega
def sD:Reader Int where
 k:=1
 rd:=fun _ _ i vs=>vs=[.int .i64 i]
 keep:=fun _ _ h=>h
 wide:=fun _ h=>h
 len:=fun h=>by subst h;rfl
theorem tT:dn sD:=fun {w B x vs} h u hu=>by
 obtain rfl:vs=[.int .i64 x]:=h
 simp only [List.mem_cons,List.not_mem_nil,or_false] at hu
 subst hu;rfl
theorem infoInt:(Tryz.prog.info? 3).map (fun i=>(i.zero,i.size,i.bytes))=some (some (.int .i64 0),1,8):=by kernel_rfl
theorem xS:(Tryz.prog.info? 4).map (fun i=>(i.zero,i.size,i.bytes))=some (some (.bool false),1,1):=by kernel_rfl
section
variable {α:Type} {R:Reader α} {e T:TypeId} {w w':World} {base B D:Nat} {v:Value} {xs:List α} {vs:Array Value}
theorem ar.ne (h:ar R e w base B v xs) (hD:bP w D vs T) (hT:T≠e):v.ownBlock≠some D:=by
 obtain ⟨cells,h,_⟩:=h
 rcases h.2 with ⟨h1,_⟩ | ⟨g,cap,cur,hv,hg,hh,r⟩
 ·rw [h1];simp [Value.ownBlock]
 ·rw [hv]
  simp only [Value.ownBlock,ne_eq,Option.some.injEq]
  intro hgd
  subst hgd
  unfold bP at hD
  rw [hD] at hh
  simp only [Option.some.injEq,Obj.cells.injEq] at hh
  exact hT hh.2.1
theorem ar.farT (h:ar R e w base 0 v xs) (hD:bP w D vs T) (hT:T≠e) (i:Nat) (u:Value):ar R e (w.setCell ⟨D,i,none⟩ u) base 0 v xs:=by
 have hne:=h.ne hD hT
 obtain ⟨cells,h,hf⟩:=h
 refine ⟨cells,⟨h.1,?_⟩,hf.keep ((zI 0 w).setCell (p:=⟨D,i,none⟩) (zH _) u) (zG _)⟩
 rcases h.2 with h2 | ⟨g,cap,cur,hv,hg,hh,r⟩
 ·exact .inl h2
 ·refine .inr ⟨g,cap,cur,hv,hg,?_,r⟩
  rw [hv] at hne
  simp only [Value.ownBlock,ne_eq,Option.some.injEq] at hne
  exact (Below.heap_setCell w ⟨D,i,none⟩ u g hne).trans hh
theorem bP.grown {row:Option Nat} (h:bP w D vs T) (hg:w.grownBy w' row) (hne:row≠some D):bP w' D vs T:=by
 exact (hg.block D h.blk.lt (Ne.symm hne)).trans h
end
def ou (D:Nat) (w w':World):Prop:=∀b vs T,T≠3→b≠D→bP w b vs T→bP w' b vs T
theorem ou.trans {D:Nat} {a b c:World} (h:ou D a b) (k:ou D b c):ou D a c:=fun x vs T h1 h2 h3=>k x vs T h1 h2 (h x vs T h1 h2 h3)
structure Stk (D base:Nat) (w:World) (A:Option Addr) (c:Nat) (xs:List Int):Prop where
 hd:bP w D #[.slice A xs.length c] 179
 own:ar sD 3 w base 0 (.slice A xs.length c) xs
theorem t_ne:(179:TypeId)≠3:=by decide
def PushE (D base:Nat) (w w':World) (xs:List Int) (e:Ending):Prop:=
 e=.returned (.tuple #[])∧Below base w w'∧ou D w w'∧∃A c,Stk D base w' A c xs
theorem iX {w:World} {D base c:Nat} {A:Option Addr} {xs:List Int} {k:Int} (hs:Stk D base w A c xs) (hb:base≤w.heap.size) (hbD:base≤D) (hn:xs.length≤100000) :
 Calls Tryz.prog 324 #[.int .i64 k,.pointer (some ⟨D,0,none⟩)] w fun e w'=>PushE D base w w' (xs++[k]) e:=by
 obtain ⟨i0,hi0,hz0,hz1,hz2⟩:=info_parts infoInt
 have HS:=zE hs
 have k_d:=hs.hd.blk.cell
 have f_d:=hs.hd.blk.free
 have l_d:=hs.hd.blk.lt
 have hb1:=av (w:=w) (o:=.cells #[.int .i64 k] 3) rfl
 have HN:=zE (And.intro (And.intro (hs.own.later hb1 (zH _)) (hs.hd.later hb1)) (Blk.src (R:=sD) (B:=0) (x:=k) (Blk.new w #[.int .i64 k] 3) rfl))
 clear hs hb1
 go_enter Tryz.func324,Tryz.ntmps324
 go_wp2_with ((
  at_builtin
  refine wpList_plain rfl fun _ hK=>lY (R:=sD) (e:=3) (base:=base) (B:=0) (xs:=xs) (ys:=[k]) (.tmp 3) (.tmp 5) 179 rfl (bytes:=8) Tryz.underlying179 hi0 hz0 hz1 hz2 rfl (show 0<1 by omega) tT rfl HN.out.1.1 rfl HN.out.2 rfl (zH _) (by simp only [List.length_cons,List.length_nil];omega) (by omega) (by rw [World.size_alloc];omega) ?_
  intro v w2 hown hb2 hg2
  refine hK _ _ ?_
  obtain ⟨A2,c2,rfl⟩:=hown.form
  have hne:=HN.out.1.1.ne HN.out.1.2 t_ne
  have bd:=HN.out.1.2.grown hg2 hne
  have kd2:=bd.blk.cell
  have fd2:=bd.blk.free
  have HW:=zE hown
  have HB2:=zE (And.intro hb2 hg2)
  have HBD:=zE bd
  clear hown hb2 hg2 hne bd k_d f_d l_d))
 go_end0
 have e1:xs.length+1=(xs++[k]).length:=by simp
 rw [e1]
 refine ⟨rfl,?_,?_,A2,c2,HBD.out.set_ 0 _,HW.out.farT HBD.out t_ne 0 _⟩
 ·exact (((zI base w).alloc hb _).trans HB2.out.1).setCell (p:=⟨D,0,none⟩) hbD _
 ·intro b vs T hT hbd hbt
  have h1:=hbt.later (av (w:=w) (o:=.cells #[.int .i64 k] 3) rfl)
  exact (h1.grown HB2.out.2 (HN.out.1.1.ne h1 hT)).far hbd 0 _
theorem Stk.pop {D base c:Nat} {w:World} {A:Option Addr} {xs:List Int} {k:Int} (h:Stk D base w A c (xs++[k])) :
 ∃g,A=some ⟨g,0,none⟩∧g≠D∧xs.length+1≤c∧c≤maxLen∧w.cell? ⟨g,xs.length,none⟩=some (.int .i64 k)∧Stk D base (w.setCell ⟨D,0,none⟩ (.slice A xs.length c)) A c xs:=by
 have hne:=h.own.ne h.hd t_ne
 have hfar:=h.own.farT h.hd t_ne 0 (.slice A xs.length c)
 obtain ⟨cells,ho,hf⟩:=h.own
 have hl:cells.length=xs.length+1:=by have:=hf.1;simpa [sD] using this
 rcases ho.2 with ⟨h1,h2⟩ | ⟨g,cap,cur,hv,hg,hh,k1,k2,k3,k4⟩
 ·simp at h2
 ·simp only [Value.slice.injEq] at hv
  obtain ⟨rfl,_,rfl⟩:=hv
  simp only [Value.ownBlock,ne_eq,Option.some.injEq] at hne
  rw [List.length_append,List.length_singleton] at k1
  have hcell:cells[xs.length]? = some (.int .i64 k):=by
   have:=hf.2 xs.length (by simp)
   simp only [sD,Nat.mul_one,List.getElem_append_right (zG _),Nat.sub_self,List.getElem_singleton] at this
   have h3:((cells.drop xs.length).take 1)[0]? = some (.int .i64 k):=by rw [this];rfl
   rw [List.getElem?_take,if_pos (by omega),List.getElem?_drop] at h3
   simpa using h3
  refine ⟨g,rfl,hne,k1,k2,?_,?_,?_⟩
  ·rw [cell_of_row w g _ cur 3 (0,0) hh]
   rw [←k4,List.getElem?_take] at hcell
   split at hcell
   ·simpa using hcell
   ·cases hcell
  ·exact h.hd.set_ 0 _
  ·obtain ⟨cells',ho',hf'⟩:=hfar
   rcases ho'.2 with ⟨h1',h2'⟩ | ⟨g',cap',cur',hv',hg',hh',k1',k2',k3',k4'⟩
   ·simp at h2'
   ·simp only [Value.slice.injEq,Option.some.injEq,Addr.mk.injEq,and_true] at hv'
    obtain ⟨rfl,_,rfl⟩:=hv'
    have hl':cells'.length=xs.length+1:=by have:=hf'.1;simpa [sD] using this
    refine ⟨cells'.take xs.length,⟨by simp [sD,hl'],.inr ⟨g,c,cur',rfl,hg',hh',by omega,k2',k3',?_⟩⟩,?_⟩
    ·have e2:(xs++[k]).length*sD.k=xs.length+1:=by simp [sD]
     rw [e2] at k4'
     rw [←k4',List.take_take]
     congr 1
     simp [sD]
    ·have:=hf'.take xs.length
     simpa [sD] using this
end Go.Proofs.YtdphibjibnffeaaGreat
