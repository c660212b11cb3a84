/- The stack of an expression's terms: what lies in memory; taking one off. -/
import Derived.Test.YtjpndglegpcdnaaGreatRule1
import Derived.Test.YtjpndglegpcdnaaGreatHeapLaw
import Derived.Test.YtjpndglegpcdnaaGreatRegLaw
import Derived.Laws.MakeOwn
import Derived.Deep.Cut
import Derived.Deep.CutRange
import Derived.Deep.LoopGhost
import Derived.RegionTactic
import Derived.Test.YtjpndglegpcdnaaGreatBind
set_option linter.unusedVariables false
set_option linter.unusedSimpArgs false
set_option maxRecDepth 100000
set_option maxHeartbeats 8000000
namespace Go.Proofs.YtjpndglegpcdnaaGreat
open Go.ChangeShapes Go.WideShapes Go.ChangeAt Go.RowKit
theorem AQ {α:Type _}{x:Array α}:x.toList.length=x.size:=Array.length_toList
section
variable {α:Type} {R:Reader α} {e:TypeId} {w:World} {base B:Nat} {v:Value} {xs:List α} {A:Option Addr} {c:Nat}
theorem rV (b off j:Nat):(⟨b,off,none⟩:Addr).add j=⟨b,off+j,none⟩:=by
 unfold Addr.add
 split
 ·rename_i h;subst h;rfl
 ·rfl
theorem aq.src (h:aq R e w base B (.slice A xs.length c) xs):fy R w B A xs:=by
 obtain ⟨cells,h,hf⟩:=h
 rcases h.2 with ⟨h1,h2⟩ | ⟨g,cap,cur,hv,hg,hh,k1,k2,k3,k4⟩
 ·have:xs=[]:=List.eq_nil_of_length_eq_zero h2
  subst this
  refine ⟨[],bu.nil,fun _=>rfl,fun a _ j u hu=>by simp at hu⟩
 ·simp only [AR] at hv
  obtain ⟨rfl,_,rfl⟩:=hv
  refine ⟨cells,hf,fun e=>(by cases e),fun a ha j u hu=>?_⟩
  simp only [AP] at ha
  subst ha
  rw [←k4,List.getElem?_take] at hu
  split at hu
  ·rw [rV]
   show w.cell? ⟨g,0+j,none⟩=_
   rw [cell_of_row w g _ cur e (0,0) hh,Nat.zero_add]
   simpa using hu
  ·cases hu
theorem bu.take {news:List Value} (h:bu R w B xs news) (k:Nat):bu R w B (xs.take k) (news.take (k*R.k)):=by
 refine ⟨?_,fun i hi=>?_⟩
 ·rw [AW,AW,h.1]
  rcases Nat.le_total k xs.length with hk | hk
  ·rw [Nat.min_eq_left hk,Nat.min_eq_left (Nat.mul_le_mul_right _ hk)]
  ·rw [Nat.min_eq_right hk,Nat.min_eq_right (Nat.mul_le_mul_right _ hk)]
 ·rw [AW] at hi
  have hik:i<k:=by omega
  have h1:(i+1)*R.k≤k*R.k:=Nat.mul_le_mul_right _ hik
  rw [Nat.add_mul,Nat.one_mul] at h1
  have:=h.2 i (by omega)
  rw [List.getElem_take,List.drop_take,List.take_take,Nat.min_eq_left (by omega)]
  exact this
theorem bu.drop {news:List Value} (h:bu R w B xs news) (k:Nat):bu R w B (xs.drop k) (news.drop (k*R.k)):=by
 refine ⟨?_,fun i hi=>?_⟩
 ·rw [List.length_drop,List.length_drop,h.1,Nat.sub_mul]
 ·rw [List.length_drop] at hi
  have:=h.2 (k+i) (by omega)
  rw [List.getElem_drop,List.drop_drop]
  rw [show k*R.k+i*R.k=(k+i)*R.k by rw [Nat.add_mul]]
  exact this
theorem fy.take (h:fy R w B A xs) (k:Nat):fy R w B A (xs.take k):=by
 obtain ⟨cells,hf,h1,h2⟩:=h
 refine ⟨_,hf.take k,fun e=>(by rw [h1 e];simp),fun a ha j u hu=>?_⟩
 rw [List.getElem?_take] at hu
 split at hu
 ·exact h2 a ha j u hu
 ·cases hu
theorem fy.drop {b off:Nat} (h:fy R w B (some ⟨b,off,none⟩) xs) (k:Nat):fy R w B (some ⟨b,off+k*R.k,none⟩) (xs.drop k):=by
 obtain ⟨cells,hf,h1,h2⟩:=h
 refine ⟨_,hf.drop k,fun e=>(by cases e),fun a ha j u hu=>?_⟩
 rw [List.getElem?_drop] at hu
 simp only [AP] at ha
 subst ha
 have:=h2 _ rfl _ _ hu
 rw [rV] at this ⊢
 rw [Nat.add_assoc];exact this
theorem fy.none {A:Option Addr} {ys:List α} (h:ys=[]):fy R w B A ys:=by
 subst h;exact ⟨[],bu.nil,fun _=>rfl,fun a _ j u hu=>by simp at hu⟩
end
section
variable {α:Type} {c:α→α→Int} {t:α}
end
def kA (i:Ins):List Value:=[.int .i64 i.kind,.int .u64 i.a,.int .u64 i.b,.int .u64 i.c,.int .u64 i.d,.int .i64 i.x,.int .i64 i.y]
def fx:Reader Ins where
 k:=7
 rd:=fun _ _ i vs=>vs=kA i
 keep:=fun _ _ h=>h
 wide:=fun _ h=>h
 len:=fun h=>by subst h;rfl
theorem cS:dL fx:=fun {w B x vs} h u hu=>by
 obtain rfl:vs=kA x:=h
 simp only [kA,List.mem_cons,List.not_mem_nil,or_false] at hu
 rcases hu with rfl | rfl | rfl | rfl | rfl | rfl | rfl<;>rfl
theorem pt:(Tryz.prog.info? 266).map (fun i=>(i.zero,i.size,i.bytes))=some (some (.agg #[.int .i64 0,.int .u64 0,.int .u64 0,.int .u64 0,.int .u64 0,.int .i64 0,.int .i64 0]),7,56):=by kernel_rfl
def eO:List Ins→List Value
 | []=>[]
 | i::l=>kA i++eO l
theorem kk:∀l:List Ins,(eO l).length=l.length*7
 | []=>rfl
 | i::l=>by simp [eO,kk l,kA];omega
theorem lA:∀(l:List Ins) (k:Nat) (i:Ins) (j:Nat),l[k]? = some i→j<7→(eO l)[k*7+j]? = (kA i)[j]?
 | [],k,i,j,h,_=>by simp at h
 | a::l,0,i,j,h,hj=>by
   simp only [AU,AP] at h
   subst h
   rw [eO,List.getElem?_append_left (by simp [kA];omega)]
   simp
 | a::l,k+1,i,j,h,hj=>by
   rw [eO,List.getElem?_append_right (by simp [kA];omega)]
   have e:(k+1)*7+j-(kA a).length=k*7+j:=by simp [kA];omega
   rw [e]
   exact lA l k i j (by simpa using h) hj
theorem mY (w:World) (B:Nat):∀l:List Ins,bu fx w B l (eO l)
 | []=>bu.nil
 | i::l=>bu.append (xs:=[i]) (bu.one (R:=fx) rfl) (mY w B l)
theorem vQ (l:List Ins) (k:Nat) (i:Ins) (hk:k<l.length) :
 (((((((eO l).set (k*7) (.int .i64 i.kind)).set (k*7+1) (.int .u64 i.a)).set (k*7+2) (.int .u64 i.b)).set (k*7+3) (.int .u64 i.c)).set (k*7+4) (.int .u64 i.d)).set (k*7+5) (.int .i64 i.x)).set (k*7+6) (.int .i64 i.y)=eO (l.set k i):=by
 induction l generalizing k with
 | nil=>simp at hk
 | cons a l ih=>
   cases k with
   | zero=>simp [eO,kA]
   | succ k=>
     have:=ih k (by simpa using hk)
     rw [List.set_cons_succ,eO,eO,←this]
     have e:∀(j:Nat) (v:Value) (m:List Value),(kA a++m).set ((k+1)*7+j) v=kA a++m.set (k*7+j) v:=by
      intro j v m
      rw [List.set_append_right _ _ (by simp [kA];omega)]
      congr 2
      simp [kA];omega
     have e0:=e 0
     simp only [Nat.add_zero] at e0
     rw [e0,e,e,e,e,e,e]
def gD:Ins:=⟨0,0,0,0,0,0,0⟩
theorem tN (n:Nat):madeCells #[.int .i64 0,.int .u64 0,.int .u64 0,.int .u64 0,.int .u64 0,.int .i64 0,.int .i64 0] (n*7)=(eO (List.replicate n gD)).toArray:=by
 apply Array.ext'
 apply List.ext_getElem?
 intro q
 by_cases hq:q<n*7
 ·have h1:(eO (List.replicate n gD))[q / 7*7+q % 7]? = (kA gD)[q % 7]?:=lA _ _ _ _ (by rw [List.getElem?_replicate,if_pos (by omega)]) (by omega)
  have e:q / 7*7+q % 7=q:=by omega
  rw [e] at h1
  rw [h1]
  have h2:q % 7=0∨q % 7=1∨q % 7=2∨q % 7=3∨q % 7=4∨q % 7=5∨q % 7=6:=by omega
  have h3:(madeCells #[.int .i64 0,.int .u64 0,.int .u64 0,.int .u64 0,.int .u64 0,.int .i64 0,.int .i64 0] (n*7)).toList[q]? = some ((#[.int .i64 0,.int .u64 0,.int .u64 0,.int .u64 0,.int .u64 0,.int .i64 0,.int .i64 0]:Array Value)[q % 7]!):=by
   have hs:q<(madeCells #[.int .i64 0,.int .u64 0,.int .u64 0,.int .u64 0,.int .u64 0,.int .i64 0,.int .i64 0] (n*7)).toList.length:=by rw [AQ,size_madeCells];exact hq
   rw [AO hs]
   simp [madeCells]
  rw [h3]
  rcases h2 with h | h | h | h | h | h | h<;>(rw [h];rfl)
 ·rw [List.getElem?_eq_none (by rw [AQ,size_madeCells];omega),List.getElem?_eq_none (by show (eO _).length≤q;rw [kk];simp;omega)]
def bS (w:World) (b:Nat) (vs:Array Value) (T:TypeId):Prop:=w.heap[b]? = some (.cells vs T (0,0))
section
variable {w w':World} {b c:Nat} {vs:Array Value} {T:TypeId}
theorem bS.blk (h:bS w b vs T):Blk w b vs:=⟨T,h⟩
theorem bS.keep {B:Nat} (h:bS w b vs T) (hb:Below B w w') (hB:b<B):bS w' b vs T:=(hb.block b hB).trans h
theorem bS.later (h:bS w b vs T) (hb:Below w.heap.size w w'):bS w' b vs T:=h.keep hb h.blk.lt
theorem bS.set_ (h:bS w b vs T) (i:Nat) (u:Value):bS (w.setCell ⟨b,i,none⟩ u) b (vs.setIfInBounds i u) T:=by
 unfold bS at h ⊢
 simp [World.setCell,Array.getElem?_modify,h]
theorem bS.far (h:bS w b vs T) (hne:b≠c) (i:Nat) (u:Value):bS (w.setCell ⟨c,i,none⟩ u) b vs T:=(Below.heap_setCell w ⟨c,i,none⟩ u b hne).trans h
theorem bS.drew (h:bS w b vs T):bS w.drew b vs T:=h
theorem bS.own {α:Type} {R:Reader α} {base B n:Nat} {xs:List α} {cells:List Value} (h:bS w b cells.toArray T) (hf:bu R w B xs cells) (hb:base≤b) (hn:xs.length=n) (hlen:n≤maxLen):aq R T w base B (.slice (some ⟨b,0,none⟩) n n) xs:=by
 subst hn
 refine ⟨cells,⟨hf.1,.inr ⟨b,xs.length,cells.toArray,rfl,hb,h,AG _,hlen,?_,?_⟩⟩,hf⟩
 ·simp [hf.1]
 ·simp
  exact List.take_of_length_le (by rw [hf.1];exact AG _)
end
def ListE (w w':World) (l:List Ins) (e:Ending):Prop:=(∃A c,e=.returned (.slice A l.length c)∧aq fx 266 w' w.heap.size 0 (.slice A l.length c) l)∧Below w.heap.size w w'
theorem yO (n:Nat) (hn:n≤1000000) (w:World):(Instr.makeSlice 248 (.int .i64 (n:Int)) (.int .i64 (n:Int))).run Tryz.prog w=.ok (.slice (some ⟨w.heap.size,0,none⟩) n n) (w.alloc (.cells (eO (List.replicate n gD)).toArray 266)):=by
 obtain ⟨i0,hi0,hz0,hz1,hz2⟩:=info_parts pt
 have hr:=run_make (P:=Tryz.prog) w 248 266 i0 _ Tryz.underlying248 hi0 hz0 .i64 .i64 n n (by omega) (Int.le_refl _) (by rw [hz2];omega) (by omega)
 simp only [Int.toNat_natCast] at hr
 rw [hz1] at hr
 rw [hr,←tN]
 rfl
theorem Ak {w:World} {g k:Nat} {l:List Ins} {T:TypeId} (h:bS w g (eO l).toArray T) {i:Ins} {kd a b c d x y:Int} (hi:i=⟨kd,a,b,c,d,x,y⟩) (hk:k<l.length) :
 bS (((((((w.setCell ⟨g,k*7,none⟩ (.int .i64 kd)).setCell ⟨g,k*7+1,none⟩ (.int .u64 a)).setCell ⟨g,k*7+2,none⟩ (.int .u64 b)).setCell ⟨g,k*7+3,none⟩ (.int .u64 c)).setCell ⟨g,k*7+4,none⟩ (.int .u64 d)).setCell ⟨g,k*7+5,none⟩ (.int .i64 x)).setCell ⟨g,k*7+6,none⟩ (.int .i64 y)) g (eO (l.set k i)).toArray T:=by
 have e:=vQ l k ⟨kd,a,b,c,d,x,y⟩ hk
 simp only at e
 subst hi
 have:=((((((h.set_ (k*7) (.int .i64 kd)).set_ (k*7+1) (.int .u64 a)).set_ (k*7+2) (.int .u64 b)).set_ (k*7+3) (.int .u64 c)).set_ (k*7+4) (.int .u64 d)).set_ (k*7+5) (.int .i64 x)).set_ (k*7+6) (.int .i64 y)
 simp only [List.setIfInBounds_toArray] at this
 rw [e] at this
 exact this
theorem uX {w w2:World} {B g:Nat} (h:Below B w w2) (hg:B≤g) {i0 i1 i2 i3 i4 i5 i6:Nat} (v0 v1 v2 v3 v4 v5 v6:Value) :
 Below B w (((((((w2.setCell ⟨g,i0,none⟩ v0).setCell ⟨g,i1,none⟩ v1).setCell ⟨g,i2,none⟩ v2).setCell ⟨g,i3,none⟩ v3).setCell ⟨g,i4,none⟩ v4).setCell ⟨g,i5,none⟩ v5).setCell ⟨g,i6,none⟩ v6):=
 ((((((h.setCell (p:=⟨g,i0,none⟩) hg v0).setCell (p:=⟨g,i1,none⟩) hg v1).setCell (p:=⟨g,i2,none⟩) hg v2).setCell (p:=⟨g,i3,none⟩) hg v3).setCell (p:=⟨g,i4,none⟩) hg v4).setCell (p:=⟨g,i5,none⟩) hg v5).setCell (p:=⟨g,i6,none⟩) hg v6
theorem tQ {l:List Ins} {k:Nat} {i:Ins} {by_:Int} (h:l[k]? = some i):((aL (l.take k) by_++List.replicate (l.length-k) gD).set k (hU by_ i))=aL (l.take (k+1)) by_++List.replicate (l.length-(k+1)) gD:=by
 obtain ⟨hk,e⟩:=List.getElem?_eq_some_iff.1 h
 have hl:(aL (l.take k) by_).length=k:=by rw [ah,AW];omega
 obtain ⟨m,hm⟩:∃m,l.length-k=m+1:=⟨l.length-k-1,by omega⟩
 have hm2:l.length-(k+1)=m:=by omega
 rw [hm,hm2,List.set_append_right _ _ (by omega),hl,Nat.sub_self,List.replicate_succ,List.set_cons_zero,List.take_succ_eq_append_getElem hk,e]
 simp [aL]
theorem lS {B c:Nat} {l:List Ins} {A:Option Addr} {k0:Int} {w:World} (hl:RL fx w B l A) (hB:B≤w.heap.size) (hn:l.length≤1000000) :
 Calls Tryz.prog 235 #[.slice A l.length c,.int .i64 k0] w fun e w'=>ListE w w' (aL l k0) e:=by
 have HL:=AE hl
 have HN:=AE hn
 have hmk:=fun w=>yO l.length hn w
 clear hl
 go_enter Tryz.func235,Tryz.ntmps235
 go_wp2_with fail
 generalize hW:World.alloc _ _=w1
 obtain ⟨hb,hz⟩:=al1 hW
 have bo:=AE (show bS w1 w.heap.size (eO (List.replicate l.length gD)).toArray 266 from hW▸heap_alloc_new w _)
 have HB1:=AE hb
 clear hW hz hb hmk
 go_loopw [13] (fun i wr=>∃k:Nat,k≤l.length∧i=.int .i64 k∧Hid (Below w.heap.size w wr)∧w.heap.size<wr.heap.size∧Hid (bS wr w.heap.size (eO (aL (l.take k) k0++List.replicate (l.length-k) gD)).toArray 266)) (fun i _=>l.length-(intOf i).toNat)
 case atStart=>exact ⟨0,AH _,rfl,HB1,bo.out.blk.lt,by simpa [aL] using bo⟩
 case round=>
  obtain ⟨k,hk,rfl,HBW,hsz,HI⟩:=hrel
  by_cases hlt:k<l.length
  ·have HLr:=AE (HL.out.keep HBW.out hB)
   have hBr:B≤wr.heap.size:=by omega
   obtain ⟨b_,off,rfl,hob⟩:=HLr.out.base (AI _ _) hBr (by omega)
   obtain ⟨x,vs,hx,hlen,hcell,hr⟩:=HLr.out.at_ (AI _ _) hBr hlt
   obtain rfl:vs=kA x:=hr
   have c0:wr.cell? ⟨b_,off+k*7,none⟩=some (.int .i64 x.kind):=hcell 0 _ rfl
   have c1:wr.cell? ⟨b_,off+k*7+1,none⟩=some (.int .u64 x.a):=hcell 1 _ rfl
   have c2:wr.cell? ⟨b_,off+k*7+2,none⟩=some (.int .u64 x.b):=hcell 2 _ rfl
   have c3:wr.cell? ⟨b_,off+k*7+3,none⟩=some (.int .u64 x.c):=hcell 3 _ rfl
   have c4:wr.cell? ⟨b_,off+k*7+4,none⟩=some (.int .u64 x.d):=hcell 4 _ rfl
   have c5:wr.cell? ⟨b_,off+k*7+5,none⟩=some (.int .i64 x.x):=hcell 5 _ rfl
   have c6:wr.cell? ⟨b_,off+k*7+6,none⟩=some (.int .i64 x.y):=hcell 6 _ rfl
   have HX:=AE hx
   have hG:=HI.out.blk.cell
   have fG:=HI.out.blk.free
   have hzk:(aL (l.take k) k0++List.replicate (l.length-k) gD)[k]? = some gD:=by
    have hl:(aL (l.take k) k0).length=k:=by rw [ah,AW];omega
    rw [List.getElem?_append_right (by omega),hl,Nat.sub_self,List.getElem?_replicate,if_pos (by omega)]
   have gz:∀j,j<7→wr.cell? ⟨w.heap.size,k*7+j,none⟩=(kA gD)[j]?:=fun j hj=>(hG (k*7+j)).trans ((List.getElem?_toArray).trans (lA _ k gD j hzk hj))
   have g0:wr.cell? ⟨w.heap.size,k*7,none⟩=some (.int .i64 0):=gz 0 (by omega)
   have g1:wr.cell? ⟨w.heap.size,k*7+1,none⟩=some (.int .u64 0):=gz 1 (by omega)
   have g2:wr.cell? ⟨w.heap.size,k*7+2,none⟩=some (.int .u64 0):=gz 2 (by omega)
   have g3:wr.cell? ⟨w.heap.size,k*7+3,none⟩=some (.int .u64 0):=gz 3 (by omega)
   have g4:wr.cell? ⟨w.heap.size,k*7+4,none⟩=some (.int .u64 0):=gz 4 (by omega)
   have g5:wr.cell? ⟨w.heap.size,k*7+5,none⟩=some (.int .i64 0):=gz 5 (by omega)
   have g6:wr.cell? ⟨w.heap.size,k*7+6,none⟩=some (.int .i64 0):=gz 6 (by omega)
   have HS:Hid ((aL (l.take k) k0++List.replicate (l.length-k) gD).set k (hU k0 x)=aL (l.take (k+1)) k0++List.replicate (l.length-(k+1)) gD):=AE (tQ HX.out)
   have HLN:Hid (k<(aL (l.take k) k0++List.replicate (l.length-k) gD).length):=AE (by rw [AK,ah,AW,List.length_replicate];omega)
   clear hG hzk gz
   generalize aL (l.take k) k0++List.replicate (l.length-k) gD=cur at *
   have hkind:x.kind=2∨x.kind≠2∧x.kind=3∨x.kind≠2∧x.kind≠3:=by omega
   rcases hkind with h2 | ⟨h2,h3⟩ | ⟨h2,h3⟩
   ·have HM:Hid (hU k0 x=⟨x.kind,x.a,x.b,x.c,x.d,wrap64 (x.x+k0),wrap64 (x.y+k0)⟩):=AE (by unfold hU;rw [if_pos h2])
    have hq2:(x.kind==2)=true:=by simpa using h2
    clear h2
    go_wp2_with fail
    go_roundw
    case rel=>
     have hp:=Ak HI.out HM.out HLN.out
     rw [HS.out] at hp
     exact ⟨k+1,by omega,by go_num,AE ((uX HBW.out (AG _) _ _ _ _ _ _ _).alloc (by simp only [World.size_setCell];omega) _),by simp only [World.size_setCell,World.size_alloc];omega,AE (hp.later ((AI _ _).alloc (AG _) _))⟩
    case measure=>simp [intOf];omega
   ·have HM:Hid (hU k0 x=⟨x.kind,x.a,x.b,x.c,x.d,wrap64 (x.x+k0),x.y⟩):=AE (by unfold hU;rw [if_neg h2,if_pos h3])
    have hq2:(x.kind==2)=false:=by simpa using h2
    have hq3:(x.kind==3)=true:=by simpa using h3
    clear h2 h3
    go_wp2_with fail
    go_roundw
    case rel=>
     have hp:=Ak HI.out HM.out HLN.out
     rw [HS.out] at hp
     exact ⟨k+1,by omega,by go_num,AE ((uX HBW.out (AG _) _ _ _ _ _ _ _).alloc (by simp only [World.size_setCell];omega) _),by simp only [World.size_setCell,World.size_alloc];omega,AE (hp.later ((AI _ _).alloc (AG _) _))⟩
    case measure=>simp [intOf];omega
   ·have HM:Hid (hU k0 x=x):=AE (by unfold hU;rw [if_neg h2,if_neg h3])
    have hq2:(x.kind==2)=false:=by simpa using h2
    have hq3:(x.kind==3)=false:=by simpa using h3
    clear h2 h3
    go_wp2_with fail
    go_roundw
    case rel=>
     have hp:=Ak HI.out HM.out HLN.out
     rw [HS.out] at hp
     exact ⟨k+1,by omega,by go_num,AE ((uX HBW.out (AG _) _ _ _ _ _ _ _).alloc (by simp only [World.size_setCell];omega) _),by simp only [World.size_setCell,World.size_alloc];omega,AE (hp.later ((AI _ _).alloc (AG _) _))⟩
    case measure=>simp [intOf];omega
  ·have HE:Hid (aL (l.take k) k0++List.replicate (l.length-k) gD=aL l k0):=AE (by rw [List.take_of_length_le (by omega),show l.length-k=0 by omega];simp)
   rw [HE.out] at HI
   go_wp2_with fail
   go_ret
   have ho:=HI.out.own (R:=fx) (base:=w.heap.size) (B:=0) (mY wr 0 (aL l k0)) (AG _) (ah l k0) (by unfold maxLen;omega)
   refine ⟨⟨some ⟨w.heap.size,0,none⟩,l.length,?_,?_⟩,HBW.out⟩
   ·rw [ah];rfl
   ·rw [ah];exact ho
theorem aq.form' {w:World} {base n:Nat} {v:Value} {xs:List Ins} (h:aq fx 266 w base 0 v xs) (hn:xs.length=n):∃A c,v=.slice A n c:=by
 subst hn
 exact h.form
theorem aq.rows {w:World} {base n c:Nat} {A:Option Addr} {xs:List Ins} (h:aq fx 266 w base 0 (.slice A n c) xs) (hn:xs.length≤1000000):RL fx w w.heap.size xs A:=by
 obtain ⟨A3,c3,e3,r1,r2,r3⟩:=h.reads (AH _) (by show xs.length*(8*7)≤_;omega)
 simp only [AR] at e3
 obtain ⟨rfl,_,rfl⟩:=e3
 exact r3
theorem aq.low {w:World} {base b0:Nat} {v:Value} {xs:List Ins} (h:aq fx 266 w base 0 v xs) (hb:b0≤base):aq fx 266 w b0 0 v xs:=by
 obtain ⟨cells,h,hf⟩:=h
 refine ⟨cells,⟨h.1,?_⟩,hf⟩
 rcases h.2 with h2 | ⟨g,cap,cur,hv,hg,r⟩
 ·exact .inl h2
 ·exact .inr ⟨g,cap,cur,hv,AF hb hg,r⟩
theorem aq.srcn {w:World} {base n c:Nat} {A:Option Addr} {xs:List Ins} (h:aq fx 266 w base 0 (.slice A n c) xs):fy fx w 0 A xs:=by
 obtain ⟨_,_,e⟩:=h.form
 simp only [AR] at e
 obtain ⟨rfl,rfl,rfl⟩:=e
 exact h.src
theorem gg {w W:World} {i:Ins} {base:Nat} {o:Obj} (h:w.alloc o=W) (ho:o=.cells (kA i).toArray 266) (hb:base≤w.heap.size):aq fx 266 W base 0 (.slice (some ⟨w.heap.size,0,none⟩) 1 1) [i]:=by
 subst ho
 have hB:bS W w.heap.size (kA i).toArray 266:=h▸heap_alloc_new w _
 exact hB.own (R:=fx) (xs:=[i]) (bu.one rfl) hb rfl (by unfold maxLen;omega)
theorem tp {B c1 c2:Nat} {l1 l2:List Ins} {A1 A2:Option Addr} {w:World} (h1:RL fx w B l1 A1) (h2:RL fx w B l2 A2) (hB:B≤w.heap.size) (hn1:l1.length≤100000) (hn2:l2.length≤100000) :
 Calls Tryz.prog 231 #[.slice A1 l1.length c1,.slice A2 l2.length c2] w fun e w'=>ListE w w' (io l1 l2) e:=by
 obtain ⟨i0,hi0,hz0,hz1,hz2⟩:=info_parts pt
 have H1:=AE h1
 have H2:=AE h2
 clear h1 h2
 go_enter Tryz.func231,Tryz.ntmps231
 go_wp2_with fail
 generalize hW:World.alloc _ _=w1
 obtain ⟨hb,hz⟩:=al1 hW
 have HO:=AE (gg (i:=bD 1 (l1.length+2)) hW rfl (AG _))
 have HB1:=AE hb
 clear hW hz hb
 refine (lS (B:=B) (H1.out.keep HB1.out hB) (AF hB HB1.out.size) (by omega)).mono ?_
 rintro e w2 ⟨⟨A3,c3,rfl,ho⟩,hb⟩
 rw [ah]
 have HB2:=AE (aa HB1.out hb)
 have HO2:=AE (HO.out.later hb (AH _))
 have HS2:=AE ho.src
 clear ho hb
 go_upto_region 3 with ((
  at_builtin
  refine ar (R:=fx) (e:=266) (base:=w.heap.size) (B:=0) (xs:=[bD 1 (l1.length+2)]) (ys:=aL l1 1) rfl (.tmp 12) (.tmp 14) 248 rfl (bytes:=56) Tryz.underlying248 hi0 hz0 hz1 hz2 rfl (show 0<7 by omega) cS rfl HO2.out rfl HS2.out (ah l1 1).symm (AH _) (by rw [ah];simp only [AV,List.length_nil];omega) (by omega) (HB2.out.size) ?_
  intro v w3 hown hb
  obtain ⟨A4,c4,rfl⟩:=hown.form' (show _=l1.length+1 by simp [ah])
  have HOW:=AE hown
  have HBW:=AE hb
  clear hown hb))
 have HB3:=AE (HB2.out.trans HBW.out)
 have HJ4:=AE (And.intro (HOW.out.later (au (w:=w3) (o:=.cells #[.int .i64 3,.int .u64 0,.int .u64 0,.int .u64 0,.int .u64 0,.int .i64 ((l1.length:Int)+2+l2.length),.int .i64 0] 266) rfl) (AH _)) (aq.src (xs:=[iW (l1.length+2+l2.length)]) (gg (w:=w3) (i:=iW (l1.length+2+l2.length)) (base:=w.heap.size) (o:=.cells #[.int .i64 3,.int .u64 0,.int .u64 0,.int .u64 0,.int .u64 0,.int .i64 ((l1.length:Int)+2+l2.length),.int .i64 0] 266) rfl rfl HB3.out.size)))
 clear HOW HBW
 go_upto_region 4 with ((
  at_builtin
  refine ar (R:=fx) (e:=266) (base:=w.heap.size) (B:=0) (xs:=[bD 1 (l1.length+2)]++aL l1 1) (ys:=[iW (l1.length+2+l2.length)]) rfl (.tmp 16) (.tmp 23) 248 rfl (bytes:=56) Tryz.underlying248 hi0 hz0 hz1 hz2 rfl (show 0<7 by omega) cS rfl HJ4.out.1 rfl HJ4.out.2 rfl (AH _) (by rw [AK,ah];simp only [AV,List.length_nil];omega) (by omega) ((by rw [World.size_alloc];have:=HB3.out.size;omega)) ?_
  intro v w4 hown hb
  obtain ⟨A5,c5,rfl⟩:=hown.form' (show _=l1.length+2 by simp [ah])
  have HOW:=AE hown
  have HBW:=AE hb
  clear hown hb))
 have HB4:=AE ((HB3.out.alloc HB3.out.size (.cells #[.int .i64 3,.int .u64 0,.int .u64 0,.int .u64 0,.int .u64 0,.int .i64 ((l1.length:Int)+2+l2.length),.int .i64 0] 266)).trans HBW.out)
 have HO4:=AE HOW.out
 clear HOW HBW HJ4
 go_wp2_with fail
 refine (lS (B:=B) (H2.out.keep HB4.out hB) (AF hB HB4.out.size) (by omega)).mono ?_
 rintro e w5 ⟨⟨A6,c6,rfl,ho⟩,hb⟩
 rw [ah]
 have HB5:=AE (aa HB4.out hb)
 have HO5:=AE (HO4.out.later hb (AH _))
 have HS5:=AE ho.srcn
 clear ho hb
 go_wp2_with ((
  at_builtin
  refine ar (R:=fx) (e:=266) (base:=w.heap.size) (B:=0) (xs:=[bD 1 (l1.length+2)]++aL l1 1++[iW (l1.length+2+l2.length)]) (ys:=aL l2 (l1.length+2)) rfl (.tmp 25) (.tmp 29) 248 rfl (bytes:=56) Tryz.underlying248 hi0 hz0 hz1 hz2 rfl (show 0<7 by omega) cS rfl HO5.out rfl HS5.out (ah l2 _).symm (AH _) (by simp only [AK,ah,AV,List.length_nil];omega) (by omega) (HB5.out.size) ?_
  intro v w6 hown hb
  obtain ⟨A7,c7,rfl⟩:=hown.form' (show _=(io l1 l2).length from rfl)
  have HOW:=AE hown
  have HBW:=AE hb
  clear hown hb))
 go_ret
 exact ⟨⟨A7,c7,rfl,HOW.out⟩,HB5.out.trans HBW.out⟩
def wfI (n:Nat) (i:Ins):Prop:=(i.kind=2→0≤i.x∧i.x≤n∧0≤i.y∧i.y≤n)∧(i.kind=3→0≤i.x∧i.x≤n)
def wfN (n:Nat) (l:List Ins):Prop:=∀i∈l,wfI n i
theorem wfI.mono {n m:Nat} {i:Ins} (h:wfI n i) (hn:n≤m):wfI m i:=⟨fun k=>by have:=h.1 k;omega,fun k=>by have:=h.2 k;omega⟩
theorem wfN.mono {n m:Nat} {l:List Ins} (h:wfN n l) (hn:n≤m):wfN m l:=fun i hi=>(h i hi).mono hn
theorem wfN.append {n:Nat} {a b:List Ins} (h:wfN n a) (k:wfN n b):wfN n (a++b):=fun i hi=>by
 rcases List.mem_append.1 hi with h1 | h1
 ·exact h i h1
 ·exact k i h1
theorem wfN.nil {n:Nat}:wfN n []:=fun _ h=>by cases h
theorem wfN.one {n:Nat} {i:Ins} (h:wfI n i):wfN n [i]:=fun j hj=>by
 rw [List.mem_singleton] at hj;subst hj;exact h
theorem jU {n:Int} (h0:0≤n) (h1:n≤1000000000):wrap64 n=n:=by unfold wrap64;omega
theorem wfN.moved {m n k:Nat} {l:List Ins} (h:wfN m l) (hk:m+k≤n) (hn:n≤1000000000):wfN n (aL l k):=by
 intro i hi
 obtain ⟨j,hj,rfl⟩:=List.mem_map.1 hi
 have hw:=h j hj
 unfold hU
 by_cases h2:j.kind=2
 ·have:=hw.1 h2
  rw [if_pos h2]
  refine ⟨fun _=>?_,fun h3=>?_⟩
  ·simp only
   rw [jU (by omega) (by omega),jU (by omega) (by omega)]
   omega
  ·simp only at h3;omega
 ·rw [if_neg h2]
  by_cases h3:j.kind=3
  ·have:=hw.2 h3
   rw [if_pos h3]
   refine ⟨fun h=>absurd h h2,fun _=>?_⟩
   simp only
   rw [jU (by omega) (by omega)]
   omega
  ·rw [if_neg h3]
   exact ⟨fun h=>absurd h h2,fun h=>absurd h h3⟩
theorem kW {n:Nat} {x y:Int} (h0:0≤x) (h1:x≤n) (h2:0≤y) (h3:y≤n):wfI n (bD x y):=⟨fun _=>⟨h0,h1,h2,h3⟩,fun h=>by simp [bD] at h⟩
theorem xK {n:Nat} {x:Int} (h0:0≤x) (h1:x≤n):wfI n (iW x):=⟨fun h=>by simp [iW] at h,fun _=>⟨h0,h1⟩⟩
theorem sS {n:Nat} {i:Ins} (h2:i.kind≠2) (h3:i.kind≠3):wfI n i:=⟨fun h=>absurd h h2,fun h=>absurd h h3⟩
theorem ga (i:Ins) (c:Nat):(mw i c).kind=i.kind:=by
 unfold mw Ins.put
 split
 ·rfl
 ·split
  ·rfl
  ·split<;>rfl
theorem rD (i:Ins) (f t:Nat):(el i f t).kind=i.kind:=by
 unfold el
 generalize List.range (t+1-f)=l
 induction l generalizing i with
 | nil=>rfl
 | cons a l ih=>rw [List.foldl_cons,ih,ga]
theorem im (s:ByteArray):∀n p i,(bm s n p i).1.kind=i.kind
 | 0,p,i=>rfl
 | n+1,p,i=>by
   unfold bm
   split
   ·simp only
    rw [im s n,rD]
   ·rfl
theorem lj (s:ByteArray) (p:PS):(dY s p).1.kind=1:=by
 unfold dY
 simp only
 split
 ·show (bm s _ _ ci).1.kind=1
  rw [im];rfl
 ·rw [im];rfl
theorem wf_all (s:ByteArray) (hs:s.size≤1000000):∀n,(∀p,wfN (rx s n p).1.length (rx s n p).1)∧(∀p out,wfN out.length out→out.length+2*bF s p≤4000000→wfN (jO s n p out).1.length (jO s n p out).1)∧(∀p,bF s p≠0→wfN (eT s n p).1.length (eT s n p).1)∧(∀p,bF s p≠0→wfN (fO s n p).1.length (fO s n p).1):=by
 intro n
 induction n with
 | zero=>exact ⟨fun p=>wfN.nil,fun p out h _=>h,fun p _=>wfN.nil,fun p _=>wfN.nil⟩
 | succ n ih=>
   obtain ⟨ihp,ihr,ihc,iha⟩:=ih
   refine ⟨fun p=>?_,fun p out ho hb=>?_,fun p hp=>?_,fun p hp=>?_⟩
   ·have hr:=kl s p
    unfold rx
    simp only
    obtain ⟨h1,h2⟩:=(fk s n).2.1 p []
    have h3:=ihr p [] wfN.nil (by simp;omega)
    split
    ·have h4:=ihp (jO s n p []).2.step
     have h5:=(jf s n (jO s n p []).2.step).len
     have h6:=kl s (jO s n p []).2.step
     simp only [List.length_nil] at h2
     generalize (jO s n p []).1=a at *
     generalize (rx s n (jO s n p []).2.step).1=b at *
     have e:(io a b).length=a.length+b.length+2:=by simp [io,ah];omega
     simp only [e]
     refine wfN.append (wfN.append (wfN.append (wfN.one (kW (by omega) (by omega) (by omega) (by omega))) (h3.moved (k:=1) (by omega) (by omega))) (wfN.one (xK (by omega) (by omega)))) ?_
     exact h4.moved (k:=a.length+2) (by omega) (by omega)
    ·exact h3
   ·unfold jO
    split
    ·rename_i hc
     have hne:bF s p≠0:=by
      rw [AN] at hc
      have:=hc.1
      rw [eE] at this
      simpa using this
     have h1:=(fk s n).2.2.1 p hne
     have h4:=h1.len
     refine ihr _ _ ?_ ?_
     ·rw [AK,ah]
      refine wfN.append (ho.mono (by omega)) ((ihc p hne).moved (k:=out.length) (by omega) (by omega))
     ·rw [AK,ah]
      omega
    ·exact ho
   ·unfold eT
    simp only
    have h1:=iha p hp
    have h2:=((fk s n).2.2.2 p hp).len
    have h3:=kl s p
    generalize fO s n p=r at *
    obtain ⟨a,q⟩:=r
    simp only at h1 h2 ⊢
    split
    ·have e:([bD 1 (↑a.length+2)]++aL a 1++[iW 0]).length=a.length+2:=by simp [ah]
     simp only [e]
     exact wfN.append (wfN.append (wfN.one (kW (by omega) (by omega) (by omega) (by omega))) (h1.moved (k:=1) (by omega) (by omega))) (wfN.one (xK (by omega) (by omega)))
    ·split
     ·have e:(a++[bD 0 (↑a.length+1)]).length=a.length+1:=by simp
      simp only [e]
      exact wfN.append (h1.mono (by omega)) (wfN.one (kW (by omega) (by omega) (by omega) (by omega)))
     ·split
      ·have e:([bD 1 (↑a.length+1)]++aL a 1).length=a.length+1:=by simp [ah]
       simp only [e]
       exact wfN.append (wfN.one (kW (by omega) (by omega) (by omega) (by omega))) (h1.moved (k:=1) (by omega) (by omega))
      ·exact h1
   ·unfold fO
    simp only
    have leaf:∀(i:Ins),i.kind≠2→i.kind≠3→wfN [i].length [i]:=fun i h2 h3=>wfN.one (sS h2 h3)
    split
    ·split
     ·exact wfN.nil
     ·exact ihp _
    ·split
     ·exact leaf _ (by rw [lj];decide) (by rw [lj];decide)
     ·split
      ·exact leaf _ (by decide) (by decide)
      ·split
       ·exact leaf _ (by decide) (by decide)
       ·split
        ·exact leaf _ (by decide) (by decide)
        ·split
         ·exact leaf _ (by rw [ga];decide) (by rw [ga];decide)
         ·split
          ·exact leaf _ (by decide) (by decide)
          ·exact leaf _ (by rw [ga];decide) (by rw [ga];decide)
structure Prg (l:List Ins):Prop where
 pos:0<l.length
 len:l.length≤1000
 wf:wfN (l.length-1) l
 last:∀i,i+1=l.length→(l.getD i ci).kind=6
theorem yo {s:ByteArray} (h:(ec s).2=0):Prg (ec s).1:=by
 unfold ec at h ⊢
 split
 ·rename_i hs;rw [if_pos hs] at h;simp at h
 ·rename_i hs
  rw [if_neg hs] at h
  simp only at h ⊢
  split
  ·have h1:=(wf_all s (by omega) (fB s.size)).1 ⟨0,0,0⟩
   have h2:=(jf s (fB s.size) ⟨0,0,0⟩).len
   have h3:=kl s ⟨0,0,0⟩
   generalize rx s (fB s.size) ⟨0,0,0⟩=r at *
   obtain ⟨l,q⟩:=r
   simp only at h1 h2 ⊢
   refine ⟨by simp,by simp;omega,?_,?_⟩
   ·rw [AK,List.length_singleton,Nat.add_sub_cancel]
    exact wfN.append h1 (wfN.one (sS (by decide) (by decide)))
   ·intro i hi
    rw [AK,List.length_singleton] at hi
    obtain rfl:i=l.length:=by omega
    simp [List.getD_eq_getElem?_getD,List.getElem?_append_right,qW]
  ·rename_i hc
   rw [if_neg hc] at h
   exact absurd h hc
def gf (l:List Ins) (i:Int):Ins:=l.getD i.toNat ci
def eK (x:Ins) (i:Int) (first last:Bool):List Int:=
 if x.kind=2 then [x.x,x.y] else if x.kind=3 then [x.x] else if (x.kind=4∧first=true)∨(x.kind=5∧last=true) then [i+1] else []
def lq (l:List Ins) (first last:Bool):Nat→List Int→List Bool × Bool→List Bool × Bool
 | 0,_,st=>st
 | _+1,[],st=>st
 | n+1,i::todo,st=>
   if st.1.getD i.toNat false=true then lq l first last n todo st
   else lq l first last n (eK (gf l i) i first last++todo) (st.1.set i.toNat true,st.2||decide ((gf l i).kind=6))
def Ah (on:List Bool):Nat:=on.countP (fun b=>!b)
def bQ (l:List Ins) (first last:Bool) (i:Int) (st:List Bool × Bool):List Bool × Bool:=lq l first last (3*l.length+2) [i] st
def dD (x:Ins) (c:Nat):Bool:=decide (x.kind=1)&&(bits .and .u64 (x.word (c / 64) / 2 ^ (c % 64)) 1==1)
def dO (l:List Ins) (c:Nat) (last:Bool):Nat→List Bool→List Bool × Bool→List Bool × Bool
 | _,[],st=>st
 | k,on::r,st=>dO l c last (k+1) r (if on&&dD (gf l k) c then bQ l false last (k+1) st else st)
def jb (l:List Ins):List Bool × Bool:=(List.replicate l.length false,false)
def gA (l:List Ins) (c:Nat) (last:Bool) (st:List Bool × Bool):List Bool × Bool:=dO l c last 0 st.1 (jb l)
def jE (l:List Ins) (t:ByteArray) (whole:Bool):Nat→Nat→List Bool × Bool→Bool
 | 0,_,st=>st.2
 | n+1,i,st=>
   if st.2&&!whole then true
   else
    let last:=decide (i+1=t.size)
    let st1:=gA l (ch t i) last st
    jE l t whole n (i+1) (if whole then st1 else bQ l false last 0 st1)
def fW (pat t:ByteArray) (whole:Bool):Bool × Int:=
 if 256<t.size then (false,1)
 else if (ec pat).2≠0 then (false,(ec pat).2)
 else (jE (ec pat).1 t whole t.size 0 (bQ (ec pat).1 true (decide (t.size=0)) 0 (jb (ec pat).1)),0)
theorem outs_in {l:List Ins} (h:Prg l) {i:Int} (h0:0≤i) (h1:i<l.length) (f t:Bool):∀k∈eK (gf l i) i f t,0≤k∧k<l.length:=by
 have hi:i.toNat<l.length:=by omega
 have hx:gf l i=l[i.toNat]:=by unfold gf;rw [List.getD_eq_getElem?_getD,AO hi];rfl
 have hw:=h.wf l[i.toNat] (List.getElem_mem hi)
 have hp:=h.pos
 intro k hk
 unfold eK at hk
 split at hk
 ·rename_i h2
  rw [hx] at h2 hk
  have:=hw.1 h2
  simp only [List.mem_cons,List.not_mem_nil,or_false] at hk
  omega
 ·split at hk
  ·rename_i h3
   rw [hx] at h3 hk
   have:=hw.2 h3
   simp only [List.mem_cons,List.not_mem_nil,or_false] at hk
   omega
  ·split at hk
   ·rename_i h4
    simp only [List.mem_cons,List.not_mem_nil,or_false] at hk
    by_cases he:i.toNat+1=l.length
    ·have:=h.last i.toNat he
     unfold gf at h4
     rw [this] at h4
     simp at h4
    ·omega
   ·cases hk
theorem zk {on:List Bool} {i:Nat} (h:on.getD i false=false) (hi:i<on.length):Ah (on.set i true)+1=Ah on:=by
 unfold Ah
 rw [List.getD_eq_getElem?_getD,AO hi] at h
 have h:on[i]=false:=h
 have key:∀(l:List Bool) (i:Nat) (hi:i<l.length),l[i]=false→(l.set i true).countP (fun b=>!b)+1=l.countP (fun b=>!b):=by
  intro l
  induction l with
  | nil=>intro i hi;simp at hi
  | cons a l ih=>
    intro i hi h
    cases i with
    | zero=>simp only [List.getElem_cons_zero] at h;subst h;simp
    | succ i=>
      simp only [List.getElem_cons_succ] at h
      have:=ih i (by simpa using hi) h
      simp only [List.set_cons_succ,List.countP_cons]
      omega
 exact key on i hi h
theorem offs_le (on:List Bool):Ah on≤on.length:=List.countP_le_length
theorem vC (l:List Ins) (f t:Bool) (n:Nat) (st:List Bool × Bool):lq l f t n [] st=st:=by cases n<;>rfl
theorem zq {l:List Ins} (h:Prg l) {k c:Nat} (hk:k<l.length) (ht:dD (gf l k) c=true):k+1<l.length:=by
 by_cases he:k+1=l.length
 ·have:=h.last k he
  unfold dD gf at ht
  rw [Int.toNat_natCast,this] at ht
  simp at ht
 ·omega
def sY:Reader Int where
 k:=1
 rd:=fun _ _ i vs=>vs=[.int .i64 i]
 keep:=fun _ _ h=>h
 wide:=fun _ h=>h
 len:=fun h=>by subst h;rfl
theorem ul:dL sY:=fun {w B x vs} h u hu=>by
 obtain rfl:vs=[.int .i64 x]:=h
 simp only [List.mem_cons,List.not_mem_nil,or_false] at hu
 subst hu;rfl
theorem infoInt:(Tryz.prog.info? 3).map (fun i=>(i.zero,i.size,i.bytes))=some (some (.int .i64 0),1,8):=by kernel_rfl
theorem yE:(Tryz.prog.info? 4).map (fun i=>(i.zero,i.size,i.bytes))=some (some (.bool false),1,1):=by kernel_rfl
section
variable {α:Type} {R:Reader α} {e T:TypeId} {w w':World} {base B D:Nat} {v:Value} {xs:List α} {vs:Array Value}
theorem aq.ne (h:aq R e w base B v xs) (hD:bS w D vs T) (hT:T≠e):v.ownBlock≠some D:=by
 obtain ⟨cells,h,_⟩:=h
 rcases h.2 with ⟨h1,_⟩ | ⟨g,cap,cur,hv,hg,hh,r⟩
 ·rw [h1];simp [Value.ownBlock]
 ·rw [hv]
  simp only [Value.ownBlock,ne_eq,AP]
  intro hgd
  subst hgd
  unfold bS at hD
  rw [hD] at hh
  simp only [AP,Obj.cells.injEq] at hh
  exact hT hh.2.1
theorem aq.farT (h:aq R e w base 0 v xs) (hD:bS w D vs T) (hT:T≠e) (i:Nat) (u:Value):aq R e (w.setCell ⟨D,i,none⟩ u) base 0 v xs:=by
 have hne:=h.ne hD hT
 obtain ⟨cells,h,hf⟩:=h
 refine ⟨cells,⟨h.1,?_⟩,hf.keep ((AI 0 w).setCell (p:=⟨D,i,none⟩) (AH _) u) (AG _)⟩
 rcases h.2 with h2 | ⟨g,cap,cur,hv,hg,hh,r⟩
 ·exact .inl h2
 ·refine .inr ⟨g,cap,cur,hv,hg,?_,r⟩
  rw [hv] at hne
  simp only [Value.ownBlock,ne_eq,AP] at hne
  exact (Below.heap_setCell w ⟨D,i,none⟩ u g hne).trans hh
theorem bS.grown {row:Option Nat} (h:bS w D vs T) (hg:w.grownBy w' row) (hne:row≠some D):bS w' D vs T:=by
 exact (hg.block D h.blk.lt (Ne.symm hne)).trans h
end
def oJ (D:Nat) (w w':World):Prop:=∀b vs T,T≠3→b≠D→bS w b vs T→bS w' b vs T
theorem oJ.trans {D:Nat} {a b c:World} (h:oJ D a b) (k:oJ D b c):oJ D a c:=fun x vs T h1 h2 h3=>k x vs T h1 h2 (h x vs T h1 h2 h3)
structure Stk (D base:Nat) (w:World) (A:Option Addr) (c:Nat) (xs:List Int):Prop where
 hd:bS w D #[.slice A xs.length c] 97
 own:aq sY 3 w base 0 (.slice A xs.length c) xs
theorem t_ne:(97:TypeId)≠3:=by decide
def PushE (D base:Nat) (w w':World) (xs:List Int) (e:Ending):Prop:=
 e=.returned (.tuple #[])∧Below base w w'∧oJ D w w'∧∃A c,Stk D base w' A c xs
theorem jj {w:World} {D base c:Nat} {A:Option Addr} {xs:List Int} {k:Int} (hs:Stk D base w A c xs) (hb:base≤w.heap.size) (hbD:base≤D) (hn:xs.length≤100000) :
 Calls Tryz.prog 224 #[.int .i64 k,.pointer (some ⟨D,0,none⟩)] w fun e w'=>PushE D base w w' (xs++[k]) e:=by
 obtain ⟨i0,hi0,hz0,hz1,hz2⟩:=info_parts infoInt
 have HS:=AE hs
 have k_d:=hs.hd.blk.cell
 have f_d:=hs.hd.blk.free
 have l_d:=hs.hd.blk.lt
 have hb1:=au (w:=w) (o:=.cells #[.int .i64 k] 3) rfl
 have HN:=AE (And.intro (And.intro (hs.own.later hb1 (AH _)) (hs.hd.later hb1)) (Blk.src (R:=sY) (B:=0) (x:=k) (Blk.new w #[.int .i64 k] 3) rfl))
 clear hs hb1
 go_enter Tryz.func224,Tryz.ntmps224
 go_wp2_with ((
  at_builtin
  refine wpList_plain rfl fun _ hK=>mq (R:=sY) (e:=3) (base:=base) (B:=0) (xs:=xs) (ys:=[k]) (.tmp 3) (.tmp 5) 97 rfl (bytes:=8) Tryz.underlying97 hi0 hz0 hz1 hz2 rfl (show 0<1 by omega) ul rfl HN.out.1.1 rfl HN.out.2 rfl (AH _) (by simp only [AV,List.length_nil];omega) (by omega) (by rw [World.size_alloc];omega) ?_
  intro v w2 hown hb2 hg2
  refine hK _ _ ?_
  obtain ⟨A2,c2,rfl⟩:=hown.form
  have hne:=HN.out.1.1.ne HN.out.1.2 t_ne
  have bd:=HN.out.1.2.grown hg2 hne
  have kd2:=bd.blk.cell
  have fd2:=bd.blk.free
  have HW:=AE hown
  have HB2:=AE (And.intro hb2 hg2)
  have HBD:=AE bd
  clear hown hb2 hg2 hne bd k_d f_d l_d))
 go_end0
 have e1:xs.length+1=(xs++[k]).length:=by simp
 rw [e1]
 refine ⟨rfl,?_,?_,A2,c2,HBD.out.set_ 0 _,HW.out.farT HBD.out t_ne 0 _⟩
 ·exact (((AI base w).alloc hb _).trans HB2.out.1).setCell (p:=⟨D,0,none⟩) hbD _
 ·intro b vs T hT hbd hbt
  have h1:=hbt.later (au (w:=w) (o:=.cells #[.int .i64 k] 3) rfl)
  exact (h1.grown HB2.out.2 (HN.out.1.1.ne h1 hT)).far hbd 0 _
theorem Stk.pop {D base c:Nat} {w:World} {A:Option Addr} {xs:List Int} {k:Int} (h:Stk D base w A c (xs++[k])) :
 ∃g,A=some ⟨g,0,none⟩∧g≠D∧xs.length+1≤c∧c≤maxLen∧w.cell? ⟨g,xs.length,none⟩=some (.int .i64 k)∧Stk D base (w.setCell ⟨D,0,none⟩ (.slice A xs.length c)) A c xs:=by
 have hne:=h.own.ne h.hd t_ne
 have hfar:=h.own.farT h.hd t_ne 0 (.slice A xs.length c)
 obtain ⟨cells,ho,hf⟩:=h.own
 have hl:cells.length=xs.length+1:=by have:=hf.1;simpa [sY] using this
 rcases ho.2 with ⟨h1,h2⟩ | ⟨g,cap,cur,hv,hg,hh,k1,k2,k3,k4⟩
 ·simp at h2
 ·simp only [AR] at hv
  obtain ⟨rfl,_,rfl⟩:=hv
  simp only [Value.ownBlock,ne_eq,AP] at hne
  rw [AK,List.length_singleton] at k1
  have hcell:cells[xs.length]? = some (.int .i64 k):=by
   have:=hf.2 xs.length (by simp)
   simp only [sY,Nat.mul_one,List.getElem_append_right (AG _),Nat.sub_self,List.getElem_singleton] at this
   have h3:((cells.drop xs.length).take 1)[0]? = some (.int .i64 k):=by rw [this];rfl
   rw [List.getElem?_take,if_pos (by omega),List.getElem?_drop] at h3
   simpa using h3
  refine ⟨g,rfl,hne,k1,k2,?_,?_,?_⟩
  ·rw [cell_of_row w g _ cur 3 (0,0) hh]
   rw [←k4,List.getElem?_take] at hcell
   split at hcell
   ·simpa using hcell
   ·cases hcell
  ·exact h.hd.set_ 0 _
  ·obtain ⟨cells',ho',hf'⟩:=hfar
   rcases ho'.2 with ⟨h1',h2'⟩ | ⟨g',cap',cur',hv',hg',hh',k1',k2',k3',k4'⟩
   ·simp at h2'
   ·simp only [AR,AP,Addr.mk.injEq,and_true] at hv'
    obtain ⟨rfl,_,rfl⟩:=hv'
    have hl':cells'.length=xs.length+1:=by have:=hf'.1;simpa [sY] using this
    refine ⟨cells'.take xs.length,⟨by simp [sY,hl'],.inr ⟨g,c,cur',rfl,hg',hh',by omega,k2',k3',?_⟩⟩,?_⟩
    ·have e2:(xs++[k]).length*sY.k=xs.length+1:=by simp [sY]
     rw [e2] at k4'
     rw [←k4',List.take_take]
     congr 1
     simp [sY]
    ·have:=hf'.take xs.length
     simpa [sY] using this
structure SV where
 t:Tm
 a:Option Addr
 c:Nat
def SV.cs (x:SV):List Value:=[.int .i64 x.t.kind,.int .i64 x.t.n,.string x.t.s,.slice x.a x.t.l.length x.c]
def SvR:Reader SV where
 k:=4
 rd:=fun _ _ x vs=>vs=x.cs
 keep:=fun _ _ h=>h
 wide:=fun _ h=>h
 len:=fun h=>by subst h;rfl
theorem ck:dL SvR:=fun {w B x vs} h u hu=>by
 obtain rfl:vs=x.cs:=h
 simp only [SV.cs,List.mem_cons,List.not_mem_nil,or_false] at hu
 rcases hu with rfl | rfl | rfl | rfl<;>rfl
def dt (D:Nat) (w:World) (x:SV):Prop:=RTm w w.heap.size (D+1) x.t x.cs∧∀u∈x.t.l,jv u
section
variable {D:Nat} {w w':World} {x:SV}
theorem dt.keep (h:dt D w x) (hb:Below 0 w w') (he:∀a,x.a=some a→w'.heap[a.block]? = w.heap[a.block]?):dt D w' x:=by
 obtain ⟨⟨A,c,e,h1,h2,h3,h4,h5,h6⟩,hl⟩:=h
 simp only [SV.cs,List.cons.injEq,AR,and_true,true_and] at e
 obtain ⟨rfl,rfl⟩:=e
 refine ⟨⟨x.a,x.c,rfl,h1,h2,h3,h4,h5,fun hn=>?_⟩,hl⟩
 obtain ⟨b,off,ha,hlt,hc⟩:=h6 hn
 refine ⟨b,off,ha,AJ hlt hb.size,fun i hi=>?_⟩
 obtain ⟨vs,hv,⟨y,hy,hr⟩,hcell⟩:=hc i hi
 have hm:y∈x.t.l:=List.mem_of_getElem? hy
 refine ⟨vs,hv,⟨y,hy,((wD (hl y hm) hr).below hb (AG _)).more (AH _)⟩,fun j u hj=>?_⟩
 have:=he _ ha
 have h9:=hcell j u hj
 unfold World.cell? at h9 ⊢
 simp only at this h9 ⊢
 rw [this]
 exact h9
theorem dt.later (h:dt D w x) (hb:Below w.heap.size w w'):dt D w' x:=⟨(h.1.below hb (AG _)).more hb.size,h.2⟩
theorem dt.lt (h:dt D w x) {a:Addr} (ha:x.a=some a) (hn:0<x.t.l.length):a.block<w.heap.size:=by
 obtain ⟨⟨A,c,e,h1,h2,h3,h4,h5,h6⟩,hl⟩:=h
 simp only [SV.cs,List.cons.injEq,AR,and_true,true_and] at e
 obtain ⟨rfl,rfl⟩:=e
 obtain ⟨b,off,he,hlt,_⟩:=h6 hn
 rw [ha] at he
 simp only [AP] at he
 rw [he];exact hlt
end
structure StkE (S base D:Nat) (bn bt:Value) (w:World) (xs:List SV) (next:Int) (A:Option Addr) (c:Nat):Prop where
 hd:bS w S #[bn,bt,.slice A xs.length c,.int .i64 next] 219
 own:aq SvR 29 w base 0 (.slice A xs.length c) xs
 tms:∀x∈xs,dt D w x
 sep:∀x∈xs,∀a,x.a=some a→a.block≠S∧∀b,A=some b→a.block≠b.block
 lt:∀x∈xs,∀a,x.a=some a→base≤a.block∧a.block<w.heap.size
def nB (S:Nat) (A:Option Addr) (x:SV):Prop:=∀a,x.a=some a→a.block≠S∧∀b,A=some b→a.block≠b.block
theorem Aw:(219:TypeId)≠29:=by decide
section
variable {S base D c:Nat} {bn bt:Value} {w w':World} {xs:List SV} {next:Int} {A:Option Addr}
theorem StkE.later (h:StkE S base D bn bt w xs next A c) (hb:Below w.heap.size w w'):StkE S base D bn bt w' xs next A c:=
 ⟨h.hd.later hb,h.own.later hb (AH _),fun x hx=>(h.tms x hx).later hb,h.sep,fun x hx a ha=>⟨(h.lt x hx a ha).1,AJ (h.lt x hx a ha).2 hb.size⟩⟩
theorem StkE.head (h:StkE S base D bn bt w xs next A c) (next':Int):StkE S base D bn bt (w.setCell ⟨S,3,none⟩ (.int .i64 next')) xs next' A c:=by
 refine ⟨h.hd.set_ 3 _,h.own.farT h.hd Aw 3 _,fun x hx=>(h.tms x hx).keep ((AI 0 w).setCell (p:=⟨S,3,none⟩) (AH _) _) fun a ha=>?_,h.sep,fun x hx a ha=>by rw [World.size_setCell];exact h.lt x hx a ha⟩
 exact Below.heap_setCell w ⟨S,3,none⟩ _ a.block (h.sep x hx a ha).1
end
theorem StkE.pop {S base D c:Nat} {bn bt:Value} {w:World} {xs:List SV} {x:SV} {next:Int} {A:Option Addr} (h:StkE S base D bn bt w (xs++[x]) next A c) :
 ∃g,A=some ⟨g,0,none⟩∧g≠S∧g<w.heap.size∧xs.length+1≤c∧c≤maxLen∧(∀j u,x.cs[j]? = some u→w.cell? ⟨g,xs.length*4+j,none⟩=some u) ∧
  StkE S base D bn bt (w.setCell ⟨S,2,none⟩ (.slice A xs.length c)) xs next A c∧dt D (w.setCell ⟨S,2,none⟩ (.slice A xs.length c)) x:=by
 have hne:=h.own.ne h.hd Aw
 have hfar:=h.own.farT h.hd Aw 2 (.slice A xs.length c)
 have htm:∀y∈xs++[x],dt D (w.setCell ⟨S,2,none⟩ (.slice A xs.length c)) y:=fun y hy=>(h.tms y hy).keep ((AI 0 w).setCell (p:=⟨S,2,none⟩) (AH _) _) fun a ha=>Below.heap_setCell w ⟨S,2,none⟩ _ a.block (h.sep y hy a ha).1
 obtain ⟨cells,ho,hf⟩:=h.own
 have hl:cells.length=(xs.length+1)*4:=by have:=hf.1;simpa [SvR] using this
 rcases ho.2 with ⟨h1,h2⟩ | ⟨g,cap,cur,hv,hg,hh,k1,k2,k3,k4⟩
 ·simp at h2
 ·simp only [AR] at hv
  obtain ⟨rfl,_,rfl⟩:=hv
  simp only [Value.ownBlock,ne_eq,AP] at hne
  rw [AK,List.length_singleton] at k1
  have hglt:g<w.heap.size:=by
   rcases Nat.lt_or_ge g w.heap.size with h' | h'
   ·exact h'
   ·rw [Array.getElem?_eq_none h'] at hh;cases hh
  refine ⟨g,rfl,hne,hglt,k1,k2,?_,⟨h.hd.set_ 2 _,?_,fun y hy=>htm y (List.mem_append_left _ hy),fun y hy=>h.sep y (List.mem_append_left _ hy),fun y hy a ha=>by rw [World.size_setCell];exact h.lt y (List.mem_append_left _ hy) a ha⟩,htm x (by simp)⟩
  ·intro j u hj
   have h0:=hf.2 xs.length (by simp)
   simp only [List.getElem_append_right (AG _),Nat.sub_self,List.getElem_singleton] at h0
   have h0:(cells.drop (xs.length*4)).take 4=x.cs:=h0
   rw [←h0,List.getElem?_take] at hj
   split at hj
   ·rw [List.getElem?_drop] at hj
    rw [cell_of_row w g _ cur 29 (0,0) hh]
    rw [←k4,List.getElem?_take] at hj
    split at hj
    ·simpa using hj
    ·cases hj
   ·cases hj
  ·obtain ⟨cells',ho',hf'⟩:=hfar
   rcases ho'.2 with ⟨h1',h2'⟩ | ⟨g',cap',cur',hv',hg',hh',k1',k2',k3',k4'⟩
   ·simp at h2'
   ·simp only [AR,AP,Addr.mk.injEq,and_true] at hv'
    obtain ⟨rfl,_,rfl⟩:=hv'
    have hl':cells'.length=(xs.length+1)*4:=by have:=hf'.1;simpa [SvR] using this
    refine ⟨cells'.take (xs.length*4),⟨by simp only [SvR,AW];omega,.inr ⟨g,c,cur',rfl,hg',hh',by omega,k2',k3',?_⟩⟩,?_⟩
    ·have e2:(xs++[x]).length*SvR.k=(xs.length+1)*4:=by simp [SvR]
     rw [e2] at k4'
     rw [←k4',List.take_take]
     congr 1
     simp [SvR]
    ·have:=hf'.take xs.length
     simpa [SvR] using this
theorem Exc.head {S:Nat} {w:World} (i:Nat) (v:Value):Exc S w (w.setCell ⟨S,i,none⟩ v):=(Exc.refl S w).set i v
theorem lU {S base D c:Nat} {bn bt:Value} {w:World} {xs:List SV} {x:SV} {next:Int} {A:Option Addr} (h:StkE S base D bn bt w (xs++[x]) next A c) (hn:xs.length≤100000) :
 Calls Tryz.prog 179 #[.pointer (some ⟨S,0,none⟩)] w fun e w'=>e=.returned (.agg x.cs.toArray)∧Exc S w w'∧StkE S base D bn bt w' xs next A c∧dt D w' x∧nB S A x∧∀a,x.a=some a→base≤a.block∧a.block<w.heap.size:=by
 obtain ⟨g,rfl,hgS,hglt,hc1,hc2,hcell,hpop,htm⟩:=h.pop
 have HS:=AE h
 have hSlt:=h.hd.blk.lt
 have k_s:∀o,w.cell? ⟨S,o,none⟩=(#[bn,bt,.slice (some ⟨g,0,none⟩) (xs.length+1) c,.int .i64 next]:Array Value)[o]?:=by have:=h.hd.blk.cell;rwa [AK,List.length_singleton] at this
 have f_s:=h.hd.blk.free
 have c0:w.cell? ⟨g,xs.length*4,none⟩=some (.int .i64 x.t.kind):=hcell 0 _ rfl
 have c1:w.cell? ⟨g,xs.length*4+1,none⟩=some (.int .i64 x.t.n):=hcell 1 _ rfl
 have c2:w.cell? ⟨g,xs.length*4+2,none⟩=some (.string x.t.s):=hcell 2 _ rfl
 have c3:w.cell? ⟨g,xs.length*4+3,none⟩=some (.slice x.a x.t.l.length x.c):=hcell 3 _ rfl
 unfold maxLen at hc2
 have HP:=AE (And.intro hpop htm)
 generalize xs.length=n at *
 clear hcell hpop htm h
 go_enter Tryz.func179,Tryz.ntmps179
 go_wp2_with fail
 go_region
 go_wp2_with fail
 go_region
 have hsz:(w.setCell ⟨S,2,none⟩ (.slice (some ⟨g,0,none⟩) n c)).heap.size=w.heap.size:=World.size_setCell _ _ _
 have HX:Hid (Exc S w (w.setCell ⟨S,2,none⟩ (.slice (some ⟨g,0,none⟩) n c))):=AE (Exc.head 2 _)
 clear k_s f_s c0 c1 c2 c3
 generalize w.setCell ⟨S,2,none⟩ (.slice (some ⟨g,0,none⟩) n c)=ws at *
 rw [←hsz]
 have HSZ:=AE hsz
 have HB:Hid (Below ws.heap.size ws ((ws.alloc (.cells #[.int .i64 0,.int .i64 0,.string ⟨#[]⟩,.slice none 0 0] 29)).alloc (.cells #[.int .i64 x.t.kind,.int .i64 x.t.n,.string x.t.s,.slice x.a x.t.l.length x.c] 29)).drew.drew):=AE (al2 rfl).1.drew.drew
 have b_r:Blk ((ws.alloc (.cells #[.int .i64 0,.int .i64 0,.string ⟨#[]⟩,.slice none 0 0] 29)).alloc (.cells #[.int .i64 x.t.kind,.int .i64 x.t.n,.string x.t.s,.slice x.a x.t.l.length x.c] 29)).drew.drew ws.heap.size xP:=(n21 rfl:Blk ((ws.alloc (.cells #[.int .i64 0,.int .i64 0,.string ⟨#[]⟩,.slice none 0 0] 29)).alloc (.cells #[.int .i64 x.t.kind,.int .i64 x.t.n,.string x.t.s,.slice x.a x.t.l.length x.c] 29)) _ _)
 have b_t:Blk ((ws.alloc (.cells #[.int .i64 0,.int .i64 0,.string ⟨#[]⟩,.slice none 0 0] 29)).alloc (.cells #[.int .i64 x.t.kind,.int .i64 x.t.n,.string x.t.s,.slice x.a x.t.l.length x.c] 29)).drew.drew (ws.heap.size+1) #[.int .i64 x.t.kind,.int .i64 x.t.n,.string x.t.s,.slice x.a x.t.l.length x.c]:=(n22 rfl:Blk ((ws.alloc (.cells #[.int .i64 0,.int .i64 0,.string ⟨#[]⟩,.slice none 0 0] 29)).alloc (.cells #[.int .i64 x.t.kind,.int .i64 x.t.n,.string x.t.s,.slice x.a x.t.l.length x.c] 29)) _ _)
 generalize World.drew _=w3 at *
 have HB2:=AE (And.intro b_r b_t)
 have k_r:=b_r.cell
 have f_r:=b_r.free
 have k_t:=b_t.cell
 clear hsz b_r b_t
 go_wp2_with fail
 have hb:=cC HB.out (AG _) (.int .i64 x.t.kind) (.int .i64 x.t.n) (.string x.t.s) (.slice x.a x.t.l.length x.c)
 refine bodyPost_ret (nv rfl rfl (dA HB2.out.1 (.int .i64 x.t.kind) (.int .i64 x.t.n) (.string x.t.s) (.slice x.a x.t.l.length x.c)) rfl) rfl ?_
 exact ⟨rfl,HX.out.then (by omega) hb,HP.out.1.later hb,HP.out.2.later hb,HS.out.sep x (by simp),fun a ha=>by rw [HSZ.out.symm,HSZ.out];exact HS.out.lt x (by simp) a ha⟩
end Go.Proofs.YtjpndglegpcdnaaGreat
