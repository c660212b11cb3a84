/- match.ways.enter. -/
import Derived.Test.YtjpndglegpcdnaaGreatTmAt
import Derived.Deep.LoopGhost
import Derived.Deep.Cut
set_option linter.unusedVariables false
set_option linter.unusedSimpArgs false
set_option maxRecDepth 100000
set_option maxHeartbeats 8000000
namespace Go.Proofs.YtjpndglegpcdnaaGreat
open Go.ChangeShapes Go.WideShapes Go.ChangeAt Go.RowKit
def cE (on:List Bool):Array Value:=(on.map Value.bool).toArray
theorem me (on:List Bool) (k:Nat):(cE on)[k]? = on[k]?.map Value.bool:=by simp [cE]
theorem rK (on:List Bool) (k:Nat) (b:Bool):cE (on.set k b)=(cE on).setIfInBounds k (.bool b):=by
 simp [cE,List.map_set]
structure Ways (W G:Nat) (l:List Ins) (Al:Option Addr) (cl ca:Nat) (w:World) (st:List Bool × Bool):Prop where
 wb:bN w W #[.slice Al l.length cl,.slice (some ⟨G,0,none⟩) l.length ca,.bool st.2] 254
 gb:bN w G (cE st.1) 4
 len:st.1.length=l.length
 ne:W≠G
section
variable {W G cl ca:Nat} {l:List Ins} {Al:Option Addr} {w w':World} {st:List Bool × Bool}
theorem Ways.later (h:Ways W G l Al cl ca w st) (hb:Below w.heap.size w w'):Ways W G l Al cl ca w' st:=⟨h.wb.later hb,h.gb.later hb,h.len,h.ne⟩
theorem Ways.keep {B:Nat} (h:Ways W G l Al cl ca w st) (hb:Below B w w') (hW:W<B) (hG:G<B):Ways W G l Al cl ca w' st:=⟨h.wb.keep hb hW,h.gb.keep hb hG,h.len,h.ne⟩
theorem Ways.mark (h:Ways W G l Al cl ca w st) (k:Nat):Ways W G l Al cl ca (w.setCell ⟨G,k,none⟩ (.bool true)) (st.1.set k true,st.2):=
 ⟨h.wb.far h.ne k _,by show bN _ G (cE (st.1.set k true)) _;rw [rK];exact h.gb.set_ k _,by simp [h.len],h.ne⟩
theorem Ways.end_ (h:Ways W G l Al cl ca w st):Ways W G l Al cl ca (w.setCell ⟨W,2,none⟩ (.bool true)) (st.1,true):=
 ⟨h.wb.set_ 2 _,h.gb.far (Ne.symm h.ne) 2 _,h.len,h.ne⟩
end
theorem gc.own {g h base:Nat} {a b c:World} (k:gc g h a b) (l:Below base b c) (hb:a.heap.size≤base) (hg:g<base) (hh:h<base):gc g h a c:=
 ⟨k.1.trans (l.mono (by omega)),fun i hi h1 h2=>(l.block i (by omega)).trans (k.2 i hi h1 h2)⟩
theorem gc.set1 {g h:Nat} {a b:World} (k:gc g h a b) (i:Nat) (v:Value):gc g h a (b.setCell ⟨g,i,none⟩ v):=k.trans (((Exc.refl g b).set i v).left h)
theorem gc.set2 {g h:Nat} {a b:World} (k:gc g h a b) (i:Nat) (v:Value):gc g h a (b.setCell ⟨h,i,none⟩ v):=k.trans (((Exc.refl h b).set i v).right g)
theorem Stk.keep {D base c:Nat} {w w':World} {A:Option Addr} {xs:List Int} (h:Stk D base w A c xs) (hb:Below w.heap.size w w'):Stk D base w' A c xs:=⟨h.hd.later hb,h.own.later hb (yp _)⟩
theorem Stk.far {D base c b:Nat} {w:World} {A:Option Addr} {xs:List Int} {vs:Array Value} {T:TypeId} (h:Stk D base w A c xs) (hb:bN w b vs T) (hT:T≠3) (hD:D≠b) (i:Nat) (u:Value):Stk D base (w.setCell ⟨b,i,none⟩ u) A c xs:=⟨h.hd.far hD i u,h.own.farT hb hT i u⟩
def xG (W G:Nat) (l:List Ins) (Al:Option Addr) (cl ca:Nat) (w w':World) (st:List Bool × Bool) (e:Ending):Prop:=
 e=.returned (.tuple #[])∧gc W G w w'∧Ways W G l Al cl ca w' st
theorem b_ne:(4:TypeId)≠3:=by decide
theorem w_ne:(254:TypeId)≠3:=by decide
theorem yk:(266:TypeId)≠3:=by decide
theorem tK {w:World} {W G cl ca B:Nat} {l:List Ins} {Al:Option Addr} {i0:Nat} {first last:Bool} {st:List Bool × Bool} (hw:Ways W G l Al cl ca w st) (hl:RL ff w B l Al) (hBW:B≤W) (hBG:B≤G) (hp:Prg l) (hi:i0<l.length) (hca:l.length≤ca) :
 Calls Tryz.prog 216 #[.pointer (some ⟨W,0,none⟩),.int .i64 i0,.bool first,.bool last] w fun e w'=>xG W G l Al cl ca w w' (bL l first last i0 st) e:=by
 have hWlt:=hw.wb.blk.lt
 have hGlt:=hw.gb.blk.lt
 have HW:=ym hw
 have HL:=ym hl
 have HP:=ym hp
 have hlen:=hp.len
 have hWG:=hw.ne
 have hGW:=Ne.symm hw.ne
 clear hw hl hp
 go_enter Tryz.func216,Tryz.ntmps216
 go_wp2_with fail
 generalize hA:World.alloc _ _=w1
 obtain ⟨hb,hz⟩:=al2 hA
 have HS1:Hid (Stk (w.heap.size+1) w.heap.size w1 (some ⟨w.heap.size,0,none⟩) 1 [(i0:Int)]):=ym (by
  have e1:=(al1 (W:=w.alloc (.cells #[.int .i64 (i0:Int)] 3)) rfl).2
  have h1:bN w1 w.heap.size [Value.int .i64 (i0:Int)].toArray 3:=by
   have h0:bN (w.alloc (.cells #[.int .i64 (i0:Int)] 3)) w.heap.size #[.int .i64 (i0:Int)] 3:=heap_alloc_new w _
   exact hA▸h0.later (ar rfl)
  refine ⟨?_,h1.own (R:=rA) (B:=0) (n:=1) (xs:=[(i0:Int)]) (bA.one rfl) (yo _) rfl (by unfold maxLen;omega)⟩
  have h2:=heap_alloc_new (w.alloc (.cells #[.int .i64 (i0:Int)] 3)) (.cells #[.slice (some ⟨w.heap.size,0,none⟩) 1 1] 97)
  rw [e1] at h2
  exact hA▸h2)
 have HE1:Hid (gc W G w w1):=ym (gc.of (by omega) hb)
 have HW1:=ym (HW.out.later hb)
 have hz1:w.heap.size+1<w1.heap.size:=by omega
 clear hA hz hb
 go_loopg [1] (3*l.length+2) (fun g v1 wr=>∃(todo:List Int) (s1:List Bool × Bool) (A:Option Addr) (c:Nat),Hid (Stk (w.heap.size+1) w.heap.size wr A c todo.reverse)∧Hid (kD l first last g todo s1=bL l first last i0 st)∧3*yb s1.1+todo.length≤g∧g≤4000∧Hid (∀k∈todo,0≤k∧k<l.length)∧Hid (Ways W G l Al cl ca wr s1)∧Hid (gc W G w wr)∧w.heap.size+1<wr.heap.size)
 case atStart=>
  refine ⟨[(i0:Int)],st,_,1,HS1,ym rfl,?_,by omega,ym (fun k hk=>?_),HW1,HE1,hz1⟩
  ·have:=offs_le st.1
   have:=HW.out.len
   simp only [yE,List.length_nil]
   omega
  ·rw [List.mem_singleton] at hk
   omega
 case round=>
  obtain ⟨todo,s1,A,c,HS,HE,hfuel,hg4,HK,HWr,HX,hzr⟩:=hrel
  cases todo with
  | nil=>
    have HR:Hid (bL l first last i0 st=s1):=ym (by rw [←HE.out,tL])
    have k_d:∀o,wr.cell? ⟨w.heap.size+1,o,none⟩=(#[.slice A 0 c]:Array Value)[o]?:=HS.out.hd.blk.cell
    go_wp2_with fail
    go_end0
    rw [HR.out]
    exact ⟨rfl,HX.out,HWr.out⟩
  | cons i todo=>
    obtain ⟨g,rfl⟩:∃g,gk=g+1:=⟨gk-1,by simp only [yE] at hfuel;omega⟩
    obtain ⟨hi0,hi1⟩:=HK.out i List.mem_cons_self
    obtain ⟨k,rfl⟩:∃k:Nat,i=(k:Int):=⟨i.toNat,by omega⟩
    have hk:k<l.length:=by omega
    have HKt:Hid (∀k∈todo,0≤k∧k<(l.length:Int)):=ym fun k hk=>HK.out k (List.mem_cons_of_mem _ hk)
    have HS0:Hid (Stk (w.heap.size+1) w.heap.size wr A c (todo.reverse++[(k:Int)])):=ym (by have:=HS.out;rwa [List.reverse_cons] at this)
    obtain ⟨gs,rfl,hgD,hc1,hc2,hcell,hpop⟩:=HS0.out.pop
    have hlr:todo.reverse.length=todo.length:=List.length_reverse
    have hlr2:(todo.reverse++[(k:Int)]).length=todo.length+1:=by rw [yv,hlr];rfl
    rw [hlr] at hc1 hcell hpop
    have HSP:=ym hpop
    have k_d:∀o,wr.cell? ⟨w.heap.size+1,o,none⟩=(#[.slice (some ⟨gs,0,none⟩) (todo.length+1) c]:Array Value)[o]?:=by have:=HS0.out.hd.blk.cell;rwa [hlr2] at this
    have f_d:=HS0.out.hd.blk.free
    unfold maxLen at hc2
    simp only [yE] at hfuel
    have HC2:=ym hc2
    have HGD:=ym hgD
    generalize hTL:todo.length=n at *
    have HTL:=ym hTL
    clear hpop HS HS0 hi0 hi1 hlr hlr2 hTL hgD
    go_wp2_with fail
    go_region
    have HBs:Hid (Below (w.heap.size+1) wr (wr.setCell ⟨w.heap.size+1,0,none⟩ (.slice (some ⟨gs,0,none⟩) n c)).drew):=ym ((yq (w.heap.size+1) wr).setCell (p:=⟨w.heap.size+1,0,none⟩) (yo _) _).drew
    have HS2:Hid (Stk (w.heap.size+1) w.heap.size (wr.setCell ⟨w.heap.size+1,0,none⟩ (.slice (some ⟨gs,0,none⟩) n c)).drew (some ⟨gs,0,none⟩) c todo.reverse):=ym (HSP.out.keep (yq _ _).drew)
    have HW2:=ym (HWr.out.keep HBs.out (by omega) (by omega))
    have HX2:=ym (HX.out.own HBs.out (by omega) (by omega) (by omega))
    have hz2:w.heap.size+1<(wr.setCell ⟨w.heap.size+1,0,none⟩ (.slice (some ⟨gs,0,none⟩) n c)).drew.heap.size:=yr hzr HBs.out.size
    generalize (wr.setCell ⟨w.heap.size+1,0,none⟩ (.slice (some ⟨gs,0,none⟩) n c)).drew=w2 at *
    clear HSP HBs k_d f_d hcell hc2 HWr HX
    have hks:k<s1.1.length:=by rw [HW2.out.len];exact hk
    have k_w:∀o,w2.cell? ⟨W,o,none⟩=(#[.slice Al l.length cl,.slice (some ⟨G,0,none⟩) l.length ca,.bool s1.2]:Array Value)[o]?:=HW2.out.wb.blk.cell
    have c_g:w2.cell? ⟨G,k,none⟩=some (.bool (s1.1.getD k false)):=by
     rw [HW2.out.gb.blk.cell,me,List.getD_eq_getElem?_getD,yy hks]
     rfl
    have HHks:=ym hks
    clear hks
    rcases Bool.eq_false_or_eq_true (s1.1.getD k false) with hb | hb
    ·have HE2:Hid (kD l first last g todo s1=bL l first last i0 st):=ym (by
      rw [←HE.out]
      show _=(if s1.1.getD (k:Int).toNat false=true then _ else _)
      rw [Int.toNat_natCast,hb,if_pos rfl])
     rw [hb] at c_g
     clear hb
     go_wp2_with fail
     go_roundg g
     case rel=>exact ⟨todo,s1,_,c,HS2,HE2,by rw [HTL.out];omega,by omega,HKt,HW2,HX2,hz2⟩
     case measure=>omega
    ·have HE2:Hid (kD l first last g (ez (fH l k) k first last++todo) (s1.1.set k true,s1.2||decide ((fH l k).kind=6))=bL l first last i0 st):=ym (by
      rw [←HE.out]
      show _=(if s1.1.getD (k:Int).toNat false=true then _ else _)
      rw [Int.toNat_natCast,hb,if_neg (by simp)])
     have HOF:Hid (yb (s1.1.set k true)+1=yb s1.1):=ym (xk hb HHks.out)
     have HIN:Hid (∀j∈ez (fH l k) k first last,0≤j∧j<(l.length:Int)):=ym (outs_in HP.out (by omega) (by omega) first last)
     rw [hb] at c_g
     clear hb HE
     have f_g:=HW2.out.gb.blk.free
     go_upto_region 6 with fail
     have HW3:=ym (HW2.out.mark k)
     have HS3:=ym (HS2.out.far HW2.out.gb b_ne (by omega) k (.bool true))
     have HX3:=ym (HX2.out.set2 k (.bool true))
     have hz3:w.heap.size+1<(w2.setCell ⟨G,k,none⟩ (.bool true)).heap.size:=by rw [World.size_setCell];exact hz2
     generalize w2.setCell ⟨G,k,none⟩ (.bool true)=w3 at *
     clear HW2 HS2 HX2 k_w c_g f_g
     have k_w:∀o,w3.cell? ⟨W,o,none⟩=(#[.slice Al l.length cl,.slice (some ⟨G,0,none⟩) l.length ca,.bool s1.2]:Array Value)[o]?:=HW3.out.wb.blk.cell
     have HLr:Hid (RL ff w3 B l Al):=ym (HL.out.keep HX3.out.1 (by omega))
     have hB2:B≤w3.heap.size:=by omega
     obtain ⟨b_,off,rfl,hob⟩:=HLr.out.base (yq _ _) hB2 (by omega)
     obtain ⟨x,vs,hx,hxl,hxc,hxr⟩:=HLr.out.at_ (yq _ _) hB2 hk
     obtain rfl:vs=jN x:=hxr
     have c0:w3.cell? ⟨b_,off+k*7,none⟩=some (.int .i64 x.kind):=hxc 0 _ rfl
     have c1:w3.cell? ⟨b_,off+k*7+1,none⟩=some (.int .u64 x.a):=hxc 1 _ rfl
     have c2:w3.cell? ⟨b_,off+k*7+2,none⟩=some (.int .u64 x.b):=hxc 2 _ rfl
     have c3:w3.cell? ⟨b_,off+k*7+3,none⟩=some (.int .u64 x.c):=hxc 3 _ rfl
     have c4:w3.cell? ⟨b_,off+k*7+4,none⟩=some (.int .u64 x.d):=hxc 4 _ rfl
     have c5:w3.cell? ⟨b_,off+k*7+5,none⟩=some (.int .i64 x.x):=hxc 5 _ rfl
     have c6:w3.cell? ⟨b_,off+k*7+6,none⟩=some (.int .i64 x.y):=hxc 6 _ rfl
     have hIX:fH l k=x:=by
      unfold fH
      rw [Int.toNat_natCast,List.getD_eq_getElem?_getD,hx]
      rfl
     rw [hIX] at HE2 HIN
     clear hxc hxl hx hIX
     go_upto_region 7 with fail
     generalize hA:World.alloc _ _=w4
     have hb4:=ar hA
     have BX4:=ym (show bN w4 w3.heap.size (jN x).toArray 266 from hA▸heap_alloc_new w3 _)
     have HW4:=ym (HW3.out.later hb4)
     have HS4:=ym (HS3.out.keep hb4)
     have HX4:=ym (HX3.out.then (by omega) hb4)
     have hz4:w.heap.size+1<w4.heap.size:=yr hz3 hb4.size
     have hX4:w.heap.size+1<w3.heap.size:=hz3
     clear hA hb4 HW3 HS3 HX3 k_w c0 c1 c2 c3 c4 c5 c6 HLr hB2
     generalize w3.heap.size=X at *
     have k_x:∀o,w4.cell? ⟨X,o,none⟩=(#[.int .i64 x.kind,.int .u64 x.a,.int .u64 x.b,.int .u64 x.c,.int .u64 x.d,.int .i64 x.x,.int .i64 x.y]:Array Value)[o]?:=BX4.out.blk.cell
     have hkind:x.kind=2∨x.kind≠2∧x.kind=3∨(x.kind≠2∧x.kind≠3)∧(x.kind=4∧first=true)∨(x.kind≠2∧x.kind≠3)∧(x.kind=4∧first=false)∨(x.kind≠2∧x.kind≠3)∧(x.kind=5∧last=true)∨(x.kind≠2∧x.kind≠3)∧(x.kind=5∧last=false)∨x.kind=6∨(x.kind≠2∧x.kind≠3)∧x.kind≠4∧x.kind≠5∧x.kind≠6:=by
      cases first<;>cases last<;>simp<;>omega
     rcases hkind with h2 | ⟨h2,h3⟩ | ⟨⟨h2,h3⟩,h4,rfl⟩ | ⟨⟨h2,h3⟩,h4,rfl⟩ | ⟨⟨h2,h3⟩,h5,rfl⟩ | ⟨⟨h2,h3⟩,h5,rfl⟩ | h6 | ⟨⟨h2,h3⟩,h4,h5,h6⟩
     ·have q2:(x.kind==2)=true:=by simp;omega
      have HO:Hid (ez x k first last=[x.x,x.y]):=ym (by unfold ez;rw [if_pos h2])
      have H6:=ym h2
      clear h2
      go_wp2_with fail
      refine (iF HS4.out (by omega) (by omega) (by rw [List.length_reverse,HTL.out];omega)).mono ?_
      rintro e w5 ⟨rfl,hb,hkt,A5,c5,hst⟩
      have HS5:=ym hst
      have HW5:=ym (HW4.out.keep hb (by omega) (by omega))
      have HX5:=ym (HX4.out.own hb (yo _) (by omega) (by omega))
      have hz5:w.heap.size+1<w5.heap.size:=yr hz4 hb.size
      have BX5:=ym (hkt X _ _ yk (by omega) BX4.out)
      have k_x5:∀o,w5.cell? ⟨X,o,none⟩=(#[.int .i64 x.kind,.int .u64 x.a,.int .u64 x.b,.int .u64 x.c,.int .u64 x.d,.int .i64 x.x,.int .i64 x.y]:Array Value)[o]?:=BX5.out.blk.cell
      clear hb hkt hst
      go_wp2_with fail
      refine (iF HS5.out (by omega) (by omega) (by simp only [yv,List.length_reverse,List.length_singleton,HTL.out];omega)).mono ?_
      rintro e w6 ⟨rfl,hb,hkt,A6,c6,hst⟩
      have HS6:=ym hst
      have HW6:=ym (HW5.out.keep hb (by omega) (by omega))
      have HX6:=ym (HX5.out.own hb (yo _) (by omega) (by omega))
      have hz6:w.heap.size+1<w6.heap.size:=yr hz5 hb.size
      have BX6:=ym (hkt X _ _ yk (by omega) BX5.out)
      have k_x6:∀o,w6.cell? ⟨X,o,none⟩=(#[.int .i64 x.kind,.int .u64 x.a,.int .u64 x.b,.int .u64 x.c,.int .u64 x.d,.int .i64 x.x,.int .i64 x.y]:Array Value)[o]?:=BX6.out.blk.cell
      clear hb hkt hst
      go_wp2_with fail
      have HD:Hid ((s1.2||decide (x.kind=6))=s1.2):=ym (by rw [decide_eq_false (by have:=H6.out;omega)];simp)
      rw [HO.out,HD.out] at HE2
      rw [HO.out] at HIN
      go_roundg g
      case rel=>exact ⟨x.x::x.y::todo,(s1.1.set k true,s1.2),_,_,ym (by have:=HS6.out;simpa using this),HE2,by have:=HOF.out;simp only [yE,HTL.out];omega,by omega,ym (fun j hj=>by
       rcases List.mem_append.1 (show j∈[x.x,x.y]++todo from hj) with h | h
       ·exact HIN.out j h
       ·exact HKt.out j h),HW6,HX6,hz6⟩
      case measure=>omega
     ·have q2:(x.kind==2)=false:=by simp;omega
      have q3:(x.kind==3)=true:=by simp;omega
      have HO:Hid (ez x k first last=[x.x]):=ym (by unfold ez;rw [if_neg h2,if_pos h3])
      have H6:=ym h3
      clear h2 h3
      go_wp2_with fail
      refine (iF HS4.out (by omega) (by omega) (by rw [List.length_reverse,HTL.out];omega)).mono ?_
      rintro e w5 ⟨rfl,hb,hkt,A5,c5,hst⟩
      have HS5:=ym hst
      have HW5:=ym (HW4.out.keep hb (by omega) (by omega))
      have HX5:=ym (HX4.out.own hb (yo _) (by omega) (by omega))
      have hz5:w.heap.size+1<w5.heap.size:=yr hz4 hb.size
      have BX5:=ym (hkt X _ _ yk (by omega) BX4.out)
      have k_x5:∀o,w5.cell? ⟨X,o,none⟩=(#[.int .i64 x.kind,.int .u64 x.a,.int .u64 x.b,.int .u64 x.c,.int .u64 x.d,.int .i64 x.x,.int .i64 x.y]:Array Value)[o]?:=BX5.out.blk.cell
      clear hb hkt hst
      go_wp2_with fail
      have HD:Hid ((s1.2||decide (x.kind=6))=s1.2):=ym (by rw [decide_eq_false (by have:=H6.out;omega)];simp)
      rw [HO.out,HD.out] at HE2
      rw [HO.out] at HIN
      go_roundg g
      case rel=>exact ⟨x.x::todo,(s1.1.set k true,s1.2),_,_,ym (by have:=HS5.out;simpa using this),HE2,by have:=HOF.out;simp only [yE,HTL.out];omega,by omega,ym (fun j hj=>by
       rcases List.mem_append.1 (show j∈[x.x]++todo from hj) with h | h
       ·exact HIN.out j h
       ·exact HKt.out j h),HW5,HX5,hz5⟩
      case measure=>omega
     ·have q2:(x.kind==2)=false:=by simp;omega
      have q3:(x.kind==3)=false:=by simp;omega
      have q4:(x.kind==4)=true:=by simp;omega
      have HO:Hid (ez x k true last=[(k:Int)+1]):=ym (by unfold ez;rw [if_neg h2,if_neg h3,if_pos (.inl ⟨h4,rfl⟩)])
      have H6:=ym h4
      clear h2 h3 h4
      go_wp2_with fail
      refine (iF HS4.out (by omega) (by omega) (by rw [List.length_reverse,HTL.out];omega)).mono ?_
      rintro e w5 ⟨rfl,hb,hkt,A5,c5,hst⟩
      have HS5:=ym hst
      have HW5:=ym (HW4.out.keep hb (by omega) (by omega))
      have HX5:=ym (HX4.out.own hb (yo _) (by omega) (by omega))
      have hz5:w.heap.size+1<w5.heap.size:=yr hz4 hb.size
      have BX5:=ym (hkt X _ _ yk (by omega) BX4.out)
      have k_x5:∀o,w5.cell? ⟨X,o,none⟩=(#[.int .i64 x.kind,.int .u64 x.a,.int .u64 x.b,.int .u64 x.c,.int .u64 x.d,.int .i64 x.x,.int .i64 x.y]:Array Value)[o]?:=BX5.out.blk.cell
      clear hb hkt hst
      go_wp2_with fail
      have HD:Hid ((s1.2||decide (x.kind=6))=s1.2):=ym (by rw [decide_eq_false (by have:=H6.out;omega)];simp)
      rw [HO.out,HD.out] at HE2
      rw [HO.out] at HIN
      go_roundg g
      case rel=>exact ⟨((k:Int)+1)::todo,(s1.1.set k true,s1.2),_,_,ym (by have:=HS5.out;simpa using this),HE2,by have:=HOF.out;simp only [yE,HTL.out];omega,by omega,ym (fun j hj=>by
       rcases List.mem_append.1 (show j∈[(k:Int)+1]++todo from hj) with h | h
       ·exact HIN.out j h
       ·exact HKt.out j h),HW5,HX5,hz5⟩
      case measure=>omega
     ·have q2:(x.kind==2)=false:=by simp;omega
      have q3:(x.kind==3)=false:=by simp;omega
      have q4:(x.kind==4)=true:=by simp;omega
      have q5:(x.kind==5)=false:=by simp;omega
      have q6:(x.kind==6)=false:=by simp;omega
      have HO:Hid (ez x k false last=[]):=ym (by unfold ez;rw [if_neg h2,if_neg h3,if_neg (by simp;omega)])
      have H6:=ym h4
      clear h2 h3 h4
      go_wp2_with fail
      have HD:Hid ((s1.2||decide (x.kind=6))=s1.2):=ym (by rw [decide_eq_false (by have:=H6.out;omega)];simp)
      rw [HO.out,HD.out] at HE2
      rw [HO.out] at HIN
      go_roundg g
      case rel=>exact ⟨todo,(s1.1.set k true,s1.2),_,_,HS4,HE2,by have:=HOF.out;simp only [yE,HTL.out];omega,by omega,ym (fun j hj=>by
       rcases List.mem_append.1 (show j∈[]++todo from hj) with h | h
       ·exact HIN.out j h
       ·exact HKt.out j h),HW4,HX4,hz4⟩
      case measure=>omega
     ·have q2:(x.kind==2)=false:=by simp;omega
      have q3:(x.kind==3)=false:=by simp;omega
      have q4:(x.kind==4)=false:=by simp;omega
      have q5:(x.kind==5)=true:=by simp;omega
      have HO:Hid (ez x k first true=[(k:Int)+1]):=ym (by unfold ez;rw [if_neg h2,if_neg h3,if_pos (.inr ⟨h5,rfl⟩)])
      have H6:=ym h5
      clear h2 h3 h5
      go_wp2_with fail
      refine (iF HS4.out (by omega) (by omega) (by rw [List.length_reverse,HTL.out];omega)).mono ?_
      rintro e w5 ⟨rfl,hb,hkt,A5,c5,hst⟩
      have HS5:=ym hst
      have HW5:=ym (HW4.out.keep hb (by omega) (by omega))
      have HX5:=ym (HX4.out.own hb (yo _) (by omega) (by omega))
      have hz5:w.heap.size+1<w5.heap.size:=yr hz4 hb.size
      have BX5:=ym (hkt X _ _ yk (by omega) BX4.out)
      have k_x5:∀o,w5.cell? ⟨X,o,none⟩=(#[.int .i64 x.kind,.int .u64 x.a,.int .u64 x.b,.int .u64 x.c,.int .u64 x.d,.int .i64 x.x,.int .i64 x.y]:Array Value)[o]?:=BX5.out.blk.cell
      clear hb hkt hst
      go_wp2_with fail
      have HD:Hid ((s1.2||decide (x.kind=6))=s1.2):=ym (by rw [decide_eq_false (by have:=H6.out;omega)];simp)
      rw [HO.out,HD.out] at HE2
      rw [HO.out] at HIN
      go_roundg g
      case rel=>exact ⟨((k:Int)+1)::todo,(s1.1.set k true,s1.2),_,_,ym (by have:=HS5.out;simpa using this),HE2,by have:=HOF.out;simp only [yE,HTL.out];omega,by omega,ym (fun j hj=>by
       rcases List.mem_append.1 (show j∈[(k:Int)+1]++todo from hj) with h | h
       ·exact HIN.out j h
       ·exact HKt.out j h),HW5,HX5,hz5⟩
      case measure=>omega
     ·have q2:(x.kind==2)=false:=by simp;omega
      have q3:(x.kind==3)=false:=by simp;omega
      have q4:(x.kind==4)=false:=by simp;omega
      have q5:(x.kind==5)=true:=by simp;omega
      have q6:(x.kind==6)=false:=by simp;omega
      have HO:Hid (ez x k first false=[]):=ym (by unfold ez;rw [if_neg h2,if_neg h3,if_neg (by simp;omega)])
      have H6:=ym h5
      clear h2 h3 h5
      go_wp2_with fail
      have HD:Hid ((s1.2||decide (x.kind=6))=s1.2):=ym (by rw [decide_eq_false (by have:=H6.out;omega)];simp)
      rw [HO.out,HD.out] at HE2
      rw [HO.out] at HIN
      go_roundg g
      case rel=>exact ⟨todo,(s1.1.set k true,s1.2),_,_,HS4,HE2,by have:=HOF.out;simp only [yE,HTL.out];omega,by omega,ym (fun j hj=>by
       rcases List.mem_append.1 (show j∈[]++todo from hj) with h | h
       ·exact HIN.out j h
       ·exact HKt.out j h),HW4,HX4,hz4⟩
      case measure=>omega
     ·have q2:(x.kind==2)=false:=by simp;omega
      have q3:(x.kind==3)=false:=by simp;omega
      have q4:(x.kind==4)=false:=by simp;omega
      have q5:(x.kind==5)=false:=by simp;omega
      have q6:(x.kind==6)=true:=by simp;omega
      have HO:Hid (ez x k first last=[]):=ym (by unfold ez;rw [if_neg (by omega),if_neg (by omega),if_neg (by omega)])
      have H6:=ym h6
      clear h6
      have k_w4:=HW4.out.wb.blk.cell
      have f_w4:=HW4.out.wb.blk.free
      go_wp2_with fail
      have HD:Hid ((s1.2||decide (x.kind=6))=true):=ym (by rw [decide_eq_true H6.out];simp)
      rw [HO.out,HD.out] at HE2
      go_roundg g
      case rel=>exact ⟨todo,(s1.1.set k true,true),_,_,ym (HS4.out.far HW4.out.wb w_ne (by omega) 2 _),HE2,by have:=HOF.out;simp only [HTL.out];omega,by omega,HKt,ym HW4.out.end_,ym (HX4.out.set1 2 _),by rw [World.size_setCell];exact hz4⟩
      case measure=>omega
     ·have q2:(x.kind==2)=false:=by simp;omega
      have q3:(x.kind==3)=false:=by simp;omega
      have q4:(x.kind==4)=false:=by simp;omega
      have q5:(x.kind==5)=false:=by simp;omega
      have q6:(x.kind==6)=false:=by simp;omega
      have HO:Hid (ez x k first last=[]):=ym (by unfold ez;rw [if_neg h2,if_neg h3,if_neg (by omega)])
      have H6:=ym h6
      clear h2 h3 h4 h5 h6
      go_wp2_with fail
      have HD:Hid ((s1.2||decide (x.kind=6))=s1.2):=ym (by rw [decide_eq_false (by exact H6.out)];simp)
      rw [HO.out,HD.out] at HE2
      rw [HO.out] at HIN
      go_roundg g
      case rel=>exact ⟨todo,(s1.1.set k true,s1.2),_,_,HS4,HE2,by have:=HOF.out;simp only [yE,HTL.out];omega,by omega,ym (fun j hj=>by
       rcases List.mem_append.1 (show j∈[]++todo from hj) with h | h
       ·exact HIN.out j h
       ·exact HKt.out j h),HW4,HX4,hz4⟩
      case measure=>omega
end Go.Proofs.YtjpndglegpcdnaaGreat
