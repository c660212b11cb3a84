/- match.ways.takes. -/
import Derived.Test.YtjpndglegpcdnaaGreatApp
import Derived.Deep.LoopGhost
import Derived.Deep.Cut
import Derived.Laws.MakeOwn
set_option linter.unusedVariables false
set_option linter.unusedSimpArgs false
set_option maxRecDepth 100000
set_option maxHeartbeats 8000000
namespace Go.Proofs.YtjpndglegpcdnaaGreat
open Go.ChangeShapes Go.WideShapes Go.ChangeAt Go.RowKit
def cE (on:List Bool):Array Value:=(on.map Value.bool).toArray
theorem mC (on:List Bool) (k:Nat):(cE on)[k]? = on[k]?.map Value.bool:=by simp [cE]
theorem sF (on:List Bool) (k:Nat) (b:Bool):cE (on.set k b)=(cE on).setIfInBounds k (.bool b):=by
 simp [cE,List.map_set]
structure Ways (W G:Nat) (l:List Ins) (Al:Option Addr) (cl ca:Nat) (w:World) (st:List Bool × Bool):Prop where
 wb:bS w W #[.slice Al l.length cl,.slice (some ⟨G,0,none⟩) l.length ca,.bool st.2] 254
 gb:bS w G (cE st.1) 4
 len:st.1.length=l.length
 ne:W≠G
section
variable {W G cl ca:Nat} {l:List Ins} {Al:Option Addr} {w w':World} {st:List Bool × Bool}
theorem Ways.later (h:Ways W G l Al cl ca w st) (hb:Below w.heap.size w w'):Ways W G l Al cl ca w' st:=⟨h.wb.later hb,h.gb.later hb,h.len,h.ne⟩
theorem Ways.keep {B:Nat} (h:Ways W G l Al cl ca w st) (hb:Below B w w') (hW:W<B) (hG:G<B):Ways W G l Al cl ca w' st:=⟨h.wb.keep hb hW,h.gb.keep hb hG,h.len,h.ne⟩
theorem Ways.mark (h:Ways W G l Al cl ca w st) (k:Nat):Ways W G l Al cl ca (w.setCell ⟨G,k,none⟩ (.bool true)) (st.1.set k true,st.2):=
 ⟨h.wb.far h.ne k _,by show bS _ G (cE (st.1.set k true)) _;rw [sF];exact h.gb.set_ k _,by simp [h.len],h.ne⟩
theorem Ways.end_ (h:Ways W G l Al cl ca w st):Ways W G l Al cl ca (w.setCell ⟨W,2,none⟩ (.bool true)) (st.1,true):=
 ⟨h.wb.set_ 2 _,h.gb.far (Ne.symm h.ne) 2 _,h.len,h.ne⟩
end
theorem gt.own {g h base:Nat} {a b c:World} (k:gt g h a b) (l:Below base b c) (hb:a.heap.size≤base) (hg:g<base) (hh:h<base):gt g h a c:=
 ⟨k.1.trans (l.mono (by omega)),fun i hi h1 h2=>(l.block i (by omega)).trans (k.2 i hi h1 h2)⟩
theorem gt.set1 {g h:Nat} {a b:World} (k:gt g h a b) (i:Nat) (v:Value):gt g h a (b.setCell ⟨g,i,none⟩ v):=k.trans (((Exc.refl g b).set i v).left h)
theorem gt.set2 {g h:Nat} {a b:World} (k:gt g h a b) (i:Nat) (v:Value):gt g h a (b.setCell ⟨h,i,none⟩ v):=k.trans (((Exc.refl h b).set i v).right g)
theorem Stk.keep {D base c:Nat} {w w':World} {A:Option Addr} {xs:List Int} (h:Stk D base w A c xs) (hb:Below w.heap.size w w'):Stk D base w' A c xs:=⟨h.hd.later hb,h.own.later hb (zx _)⟩
theorem Stk.far {D base c b:Nat} {w:World} {A:Option Addr} {xs:List Int} {vs:Array Value} {T:TypeId} (h:Stk D base w A c xs) (hb:bS w b vs T) (hT:T≠3) (hD:D≠b) (i:Nat) (u:Value):Stk D base (w.setCell ⟨b,i,none⟩ u) A c xs:=⟨h.hd.far hD i u,h.own.farT hb hT i u⟩
def yH (W G:Nat) (l:List Ins) (Al:Option Addr) (cl ca:Nat) (w w':World) (st:List Bool × Bool) (e:Ending):Prop:=
 e=.returned (.tuple #[])∧gt W G w w'∧Ways W G l Al cl ca w' st
theorem b_ne:(4:TypeId)≠3:=by decide
theorem w_ne:(254:TypeId)≠3:=by decide
theorem zr:(266:TypeId)≠3:=by decide
theorem uK {w:World} {W G cl ca B:Nat} {l:List Ins} {Al:Option Addr} {i0:Nat} {first last:Bool} {st:List Bool × Bool} (hw:Ways W G l Al cl ca w st) (hl:RL ft w B l Al) (hBW:B≤W) (hBG:B≤G) (hp:Prg l) (hi:i0<l.length) (hca:l.length≤ca) :
 Calls Tryz.prog 216 #[.pointer (some ⟨W,0,none⟩),.int .i64 i0,.bool first,.bool last] w fun e w'=>yH W G l Al cl ca w w' (bQ l first last i0 st) e:=by
 have hWlt:=hw.wb.blk.lt
 have hGlt:=hw.gb.blk.lt
 have HW:=zu hw
 have HL:=zu hl
 have HP:=zu hp
 have hlen:=hp.len
 have hWG:=hw.ne
 have hGW:=Ne.symm hw.ne
 clear hw hl hp
 go_enter Tryz.func216,Tryz.ntmps216
 go_wp2_with fail
 generalize hA:World.alloc _ _=w1
 obtain ⟨hb,hz⟩:=al2 hA
 have HS1:Hid (Stk (w.heap.size+1) w.heap.size w1 (some ⟨w.heap.size,0,none⟩) 1 [(i0:Int)]):=zu (by
  have e1:=(al1 (W:=w.alloc (.cells #[.int .i64 (i0:Int)] 3)) rfl).2
  have h1:bS w1 w.heap.size [Value.int .i64 (i0:Int)].toArray 3:=by
   have h0:bS (w.alloc (.cells #[.int .i64 (i0:Int)] 3)) w.heap.size #[.int .i64 (i0:Int)] 3:=heap_alloc_new w _
   exact hA▸h0.later (ar rfl)
  refine ⟨?_,h1.own (R:=su) (B:=0) (n:=1) (xs:=[(i0:Int)]) (bp.one rfl) (zw _) rfl (by unfold maxLen;omega)⟩
  have h2:=heap_alloc_new (w.alloc (.cells #[.int .i64 (i0:Int)] 3)) (.cells #[.slice (some ⟨w.heap.size,0,none⟩) 1 1] 97)
  rw [e1] at h2
  exact hA▸h2)
 have HE1:Hid (gt W G w w1):=zu (gt.of (by omega) hb)
 have HW1:=zu (HW.out.later hb)
 have hz1:w.heap.size+1<w1.heap.size:=by omega
 clear hA hz hb
 go_loopg [1] (3*l.length+2) (fun g v1 wr=>∃(todo:List Int) (s1:List Bool × Bool) (A:Option Addr) (c:Nat),Hid (Stk (w.heap.size+1) w.heap.size wr A c todo.reverse)∧Hid (kN l first last g todo s1=bQ l first last i0 st)∧3*zj s1.1+todo.length≤g∧g≤4000∧Hid (∀k∈todo,0≤k∧k<l.length)∧Hid (Ways W G l Al cl ca wr s1)∧Hid (gt W G w wr)∧w.heap.size+1<wr.heap.size)
 case atStart=>
  refine ⟨[(i0:Int)],st,_,1,HS1,zu rfl,?_,by omega,zu (fun k hk=>?_),HW1,HE1,hz1⟩
  ·have:=offs_le st.1
   have:=HW.out.len
   simp only [zJ,List.length_nil]
   omega
  ·rw [List.mem_singleton] at hk
   omega
 case round=>
  obtain ⟨todo,s1,A,c,HS,HE,hfuel,hg4,HK,HWr,HX,hzr⟩:=hrel
  cases todo with
  | nil=>
    have HR:Hid (bQ l first last i0 st=s1):=zu (by rw [←HE.out,uL])
    have k_d:∀o,wr.cell? ⟨w.heap.size+1,o,none⟩=(#[.slice A 0 c]:Array Value)[o]?:=HS.out.hd.blk.cell
    go_wp2_with fail
    go_end0
    rw [HR.out]
    exact ⟨rfl,HX.out,HWr.out⟩
  | cons i todo=>
    obtain ⟨g,rfl⟩:∃g,gk=g+1:=⟨gk-1,by simp only [zJ] at hfuel;omega⟩
    obtain ⟨hi0,hi1⟩:=HK.out i List.mem_cons_self
    obtain ⟨k,rfl⟩:∃k:Nat,i=(k:Int):=⟨i.toNat,by omega⟩
    have hk:k<l.length:=by omega
    have HKt:Hid (∀k∈todo,0≤k∧k<(l.length:Int)):=zu fun k hk=>HK.out k (List.mem_cons_of_mem _ hk)
    have HS0:Hid (Stk (w.heap.size+1) w.heap.size wr A c (todo.reverse++[(k:Int)])):=zu (by have:=HS.out;rwa [List.reverse_cons] at this)
    obtain ⟨gs,rfl,hgD,hc1,hc2,hcell,hpop⟩:=HS0.out.pop
    have hlr:todo.reverse.length=todo.length:=List.length_reverse
    have hlr2:(todo.reverse++[(k:Int)]).length=todo.length+1:=by rw [zA,hlr];rfl
    rw [hlr] at hc1 hcell hpop
    have HSP:=zu hpop
    have k_d:∀o,wr.cell? ⟨w.heap.size+1,o,none⟩=(#[.slice (some ⟨gs,0,none⟩) (todo.length+1) c]:Array Value)[o]?:=by have:=HS0.out.hd.blk.cell;rwa [hlr2] at this
    have f_d:=HS0.out.hd.blk.free
    unfold maxLen at hc2
    simp only [zJ] at hfuel
    have HC2:=zu hc2
    have HGD:=zu hgD
    generalize hTL:todo.length=n at *
    have HTL:=zu hTL
    clear hpop HS HS0 hi0 hi1 hlr hlr2 hTL hgD
    go_wp2_with fail
    go_region
    have HBs:Hid (Below (w.heap.size+1) wr (wr.setCell ⟨w.heap.size+1,0,none⟩ (.slice (some ⟨gs,0,none⟩) n c)).drew):=zu ((zy (w.heap.size+1) wr).setCell (p:=⟨w.heap.size+1,0,none⟩) (zw _) _).drew
    have HS2:Hid (Stk (w.heap.size+1) w.heap.size (wr.setCell ⟨w.heap.size+1,0,none⟩ (.slice (some ⟨gs,0,none⟩) n c)).drew (some ⟨gs,0,none⟩) c todo.reverse):=zu (HSP.out.keep (zy _ _).drew)
    have HW2:=zu (HWr.out.keep HBs.out (by omega) (by omega))
    have HX2:=zu (HX.out.own HBs.out (by omega) (by omega) (by omega))
    have hz2:w.heap.size+1<(wr.setCell ⟨w.heap.size+1,0,none⟩ (.slice (some ⟨gs,0,none⟩) n c)).drew.heap.size:=zz hzr HBs.out.size
    generalize (wr.setCell ⟨w.heap.size+1,0,none⟩ (.slice (some ⟨gs,0,none⟩) n c)).drew=w2 at *
    clear HSP HBs k_d f_d hcell hc2 HWr HX
    have hks:k<s1.1.length:=by rw [HW2.out.len];exact hk
    have k_w:∀o,w2.cell? ⟨W,o,none⟩=(#[.slice Al l.length cl,.slice (some ⟨G,0,none⟩) l.length ca,.bool s1.2]:Array Value)[o]?:=HW2.out.wb.blk.cell
    have c_g:w2.cell? ⟨G,k,none⟩=some (.bool (s1.1.getD k false)):=by
     rw [HW2.out.gb.blk.cell,mC,List.getD_eq_getElem?_getD,zD hks]
     rfl
    have HHks:=zu hks
    clear hks
    rcases Bool.eq_false_or_eq_true (s1.1.getD k false) with hb | hb
    ·have HE2:Hid (kN l first last g todo s1=bQ l first last i0 st):=zu (by
      rw [←HE.out]
      show _=(if s1.1.getD (k:Int).toNat false=true then _ else _)
      rw [Int.toNat_natCast,hb,if_pos rfl])
     rw [hb] at c_g
     clear hb
     go_wp2_with fail
     go_roundg g
     case rel=>exact ⟨todo,s1,_,c,HS2,HE2,by rw [HTL.out];omega,by omega,HKt,HW2,HX2,hz2⟩
     case measure=>omega
    ·have HE2:Hid (kN l first last g (eI (fX l k) k first last++todo) (s1.1.set k true,s1.2||decide ((fX l k).kind=6))=bQ l first last i0 st):=zu (by
      rw [←HE.out]
      show _=(if s1.1.getD (k:Int).toNat false=true then _ else _)
      rw [Int.toNat_natCast,hb,if_neg (by simp)])
     have HOF:Hid (zj (s1.1.set k true)+1=zj s1.1):=zu (yl hb HHks.out)
     have HIN:Hid (∀j∈eI (fX l k) k first last,0≤j∧j<(l.length:Int)):=zu (outs_in HP.out (by omega) (by omega) first last)
     rw [hb] at c_g
     clear hb HE
     have f_g:=HW2.out.gb.blk.free
     go_upto_region 6 with fail
     have HW3:=zu (HW2.out.mark k)
     have HS3:=zu (HS2.out.far HW2.out.gb b_ne (by omega) k (.bool true))
     have HX3:=zu (HX2.out.set2 k (.bool true))
     have hz3:w.heap.size+1<(w2.setCell ⟨G,k,none⟩ (.bool true)).heap.size:=by rw [World.size_setCell];exact hz2
     generalize w2.setCell ⟨G,k,none⟩ (.bool true)=w3 at *
     clear HW2 HS2 HX2 k_w c_g f_g
     have k_w:∀o,w3.cell? ⟨W,o,none⟩=(#[.slice Al l.length cl,.slice (some ⟨G,0,none⟩) l.length ca,.bool s1.2]:Array Value)[o]?:=HW3.out.wb.blk.cell
     have HLr:Hid (RL ft w3 B l Al):=zu (HL.out.keep HX3.out.1 (by omega))
     have hB2:B≤w3.heap.size:=by omega
     obtain ⟨b_,off,rfl,hob⟩:=HLr.out.base (zy _ _) hB2 (by omega)
     obtain ⟨x,vs,hx,hxl,hxc,hxr⟩:=HLr.out.at_ (zy _ _) hB2 hk
     obtain rfl:vs=jW x:=hxr
     have c0:w3.cell? ⟨b_,off+k*7,none⟩=some (.int .i64 x.kind):=hxc 0 _ rfl
     have c1:w3.cell? ⟨b_,off+k*7+1,none⟩=some (.int .u64 x.a):=hxc 1 _ rfl
     have c2:w3.cell? ⟨b_,off+k*7+2,none⟩=some (.int .u64 x.b):=hxc 2 _ rfl
     have c3:w3.cell? ⟨b_,off+k*7+3,none⟩=some (.int .u64 x.c):=hxc 3 _ rfl
     have c4:w3.cell? ⟨b_,off+k*7+4,none⟩=some (.int .u64 x.d):=hxc 4 _ rfl
     have c5:w3.cell? ⟨b_,off+k*7+5,none⟩=some (.int .i64 x.x):=hxc 5 _ rfl
     have c6:w3.cell? ⟨b_,off+k*7+6,none⟩=some (.int .i64 x.y):=hxc 6 _ rfl
     have hIX:fX l k=x:=by
      unfold fX
      rw [Int.toNat_natCast,List.getD_eq_getElem?_getD,hx]
      rfl
     rw [hIX] at HE2 HIN
     clear hxc hxl hx hIX
     go_upto_region 7 with fail
     generalize hA:World.alloc _ _=w4
     have hb4:=ar hA
     have BX4:=zu (show bS w4 w3.heap.size (jW x).toArray 266 from hA▸heap_alloc_new w3 _)
     have HW4:=zu (HW3.out.later hb4)
     have HS4:=zu (HS3.out.keep hb4)
     have HX4:=zu (HX3.out.then (by omega) hb4)
     have hz4:w.heap.size+1<w4.heap.size:=zz hz3 hb4.size
     have hX4:w.heap.size+1<w3.heap.size:=hz3
     clear hA hb4 HW3 HS3 HX3 k_w c0 c1 c2 c3 c4 c5 c6 HLr hB2
     generalize w3.heap.size=X at *
     have k_x:∀o,w4.cell? ⟨X,o,none⟩=(#[.int .i64 x.kind,.int .u64 x.a,.int .u64 x.b,.int .u64 x.c,.int .u64 x.d,.int .i64 x.x,.int .i64 x.y]:Array Value)[o]?:=BX4.out.blk.cell
     have hkind:x.kind=2∨x.kind≠2∧x.kind=3∨(x.kind≠2∧x.kind≠3)∧(x.kind=4∧first=true)∨(x.kind≠2∧x.kind≠3)∧(x.kind=4∧first=false)∨(x.kind≠2∧x.kind≠3)∧(x.kind=5∧last=true)∨(x.kind≠2∧x.kind≠3)∧(x.kind=5∧last=false)∨x.kind=6∨(x.kind≠2∧x.kind≠3)∧x.kind≠4∧x.kind≠5∧x.kind≠6:=by
      cases first<;>cases last<;>simp<;>omega
     rcases hkind with h2 | ⟨h2,h3⟩ | ⟨⟨h2,h3⟩,h4,rfl⟩ | ⟨⟨h2,h3⟩,h4,rfl⟩ | ⟨⟨h2,h3⟩,h5,rfl⟩ | ⟨⟨h2,h3⟩,h5,rfl⟩ | h6 | ⟨⟨h2,h3⟩,h4,h5,h6⟩
     ·have q2:(x.kind==2)=true:=by simp;omega
      have HO:Hid (eI x k first last=[x.x,x.y]):=zu (by unfold eI;rw [if_pos h2])
      have H6:=zu h2
      clear h2
      go_wp2_with fail
      refine (iS HS4.out (by omega) (by omega) (by rw [List.length_reverse,HTL.out];omega)).mono ?_
      rintro e w5 ⟨rfl,hb,hkt,A5,c5,hst⟩
      have HS5:=zu hst
      have HW5:=zu (HW4.out.keep hb (by omega) (by omega))
      have HX5:=zu (HX4.out.own hb (zw _) (by omega) (by omega))
      have hz5:w.heap.size+1<w5.heap.size:=zz hz4 hb.size
      have BX5:=zu (hkt X _ _ zr (by omega) BX4.out)
      have k_x5:∀o,w5.cell? ⟨X,o,none⟩=(#[.int .i64 x.kind,.int .u64 x.a,.int .u64 x.b,.int .u64 x.c,.int .u64 x.d,.int .i64 x.x,.int .i64 x.y]:Array Value)[o]?:=BX5.out.blk.cell
      clear hb hkt hst
      go_wp2_with fail
      refine (iS HS5.out (by omega) (by omega) (by simp only [zA,List.length_reverse,List.length_singleton,HTL.out];omega)).mono ?_
      rintro e w6 ⟨rfl,hb,hkt,A6,c6,hst⟩
      have HS6:=zu hst
      have HW6:=zu (HW5.out.keep hb (by omega) (by omega))
      have HX6:=zu (HX5.out.own hb (zw _) (by omega) (by omega))
      have hz6:w.heap.size+1<w6.heap.size:=zz hz5 hb.size
      have BX6:=zu (hkt X _ _ zr (by omega) BX5.out)
      have k_x6:∀o,w6.cell? ⟨X,o,none⟩=(#[.int .i64 x.kind,.int .u64 x.a,.int .u64 x.b,.int .u64 x.c,.int .u64 x.d,.int .i64 x.x,.int .i64 x.y]:Array Value)[o]?:=BX6.out.blk.cell
      clear hb hkt hst
      go_wp2_with fail
      have HD:Hid ((s1.2||decide (x.kind=6))=s1.2):=zu (by rw [decide_eq_false (by have:=H6.out;omega)];simp)
      rw [HO.out,HD.out] at HE2
      rw [HO.out] at HIN
      go_roundg g
      case rel=>exact ⟨x.x::x.y::todo,(s1.1.set k true,s1.2),_,_,zu (by have:=HS6.out;simpa using this),HE2,by have:=HOF.out;simp only [zJ,HTL.out];omega,by omega,zu (fun j hj=>by
       rcases List.mem_append.1 (show j∈[x.x,x.y]++todo from hj) with h | h
       ·exact HIN.out j h
       ·exact HKt.out j h),HW6,HX6,hz6⟩
      case measure=>omega
     ·have q2:(x.kind==2)=false:=by simp;omega
      have q3:(x.kind==3)=true:=by simp;omega
      have HO:Hid (eI x k first last=[x.x]):=zu (by unfold eI;rw [if_neg h2,if_pos h3])
      have H6:=zu h3
      clear h2 h3
      go_wp2_with fail
      refine (iS HS4.out (by omega) (by omega) (by rw [List.length_reverse,HTL.out];omega)).mono ?_
      rintro e w5 ⟨rfl,hb,hkt,A5,c5,hst⟩
      have HS5:=zu hst
      have HW5:=zu (HW4.out.keep hb (by omega) (by omega))
      have HX5:=zu (HX4.out.own hb (zw _) (by omega) (by omega))
      have hz5:w.heap.size+1<w5.heap.size:=zz hz4 hb.size
      have BX5:=zu (hkt X _ _ zr (by omega) BX4.out)
      have k_x5:∀o,w5.cell? ⟨X,o,none⟩=(#[.int .i64 x.kind,.int .u64 x.a,.int .u64 x.b,.int .u64 x.c,.int .u64 x.d,.int .i64 x.x,.int .i64 x.y]:Array Value)[o]?:=BX5.out.blk.cell
      clear hb hkt hst
      go_wp2_with fail
      have HD:Hid ((s1.2||decide (x.kind=6))=s1.2):=zu (by rw [decide_eq_false (by have:=H6.out;omega)];simp)
      rw [HO.out,HD.out] at HE2
      rw [HO.out] at HIN
      go_roundg g
      case rel=>exact ⟨x.x::todo,(s1.1.set k true,s1.2),_,_,zu (by have:=HS5.out;simpa using this),HE2,by have:=HOF.out;simp only [zJ,HTL.out];omega,by omega,zu (fun j hj=>by
       rcases List.mem_append.1 (show j∈[x.x]++todo from hj) with h | h
       ·exact HIN.out j h
       ·exact HKt.out j h),HW5,HX5,hz5⟩
      case measure=>omega
     ·have q2:(x.kind==2)=false:=by simp;omega
      have q3:(x.kind==3)=false:=by simp;omega
      have q4:(x.kind==4)=true:=by simp;omega
      have HO:Hid (eI x k true last=[(k:Int)+1]):=zu (by unfold eI;rw [if_neg h2,if_neg h3,if_pos (.inl ⟨h4,rfl⟩)])
      have H6:=zu h4
      clear h2 h3 h4
      go_wp2_with fail
      refine (iS HS4.out (by omega) (by omega) (by rw [List.length_reverse,HTL.out];omega)).mono ?_
      rintro e w5 ⟨rfl,hb,hkt,A5,c5,hst⟩
      have HS5:=zu hst
      have HW5:=zu (HW4.out.keep hb (by omega) (by omega))
      have HX5:=zu (HX4.out.own hb (zw _) (by omega) (by omega))
      have hz5:w.heap.size+1<w5.heap.size:=zz hz4 hb.size
      have BX5:=zu (hkt X _ _ zr (by omega) BX4.out)
      have k_x5:∀o,w5.cell? ⟨X,o,none⟩=(#[.int .i64 x.kind,.int .u64 x.a,.int .u64 x.b,.int .u64 x.c,.int .u64 x.d,.int .i64 x.x,.int .i64 x.y]:Array Value)[o]?:=BX5.out.blk.cell
      clear hb hkt hst
      go_wp2_with fail
      have HD:Hid ((s1.2||decide (x.kind=6))=s1.2):=zu (by rw [decide_eq_false (by have:=H6.out;omega)];simp)
      rw [HO.out,HD.out] at HE2
      rw [HO.out] at HIN
      go_roundg g
      case rel=>exact ⟨((k:Int)+1)::todo,(s1.1.set k true,s1.2),_,_,zu (by have:=HS5.out;simpa using this),HE2,by have:=HOF.out;simp only [zJ,HTL.out];omega,by omega,zu (fun j hj=>by
       rcases List.mem_append.1 (show j∈[(k:Int)+1]++todo from hj) with h | h
       ·exact HIN.out j h
       ·exact HKt.out j h),HW5,HX5,hz5⟩
      case measure=>omega
     ·have q2:(x.kind==2)=false:=by simp;omega
      have q3:(x.kind==3)=false:=by simp;omega
      have q4:(x.kind==4)=true:=by simp;omega
      have q5:(x.kind==5)=false:=by simp;omega
      have q6:(x.kind==6)=false:=by simp;omega
      have HO:Hid (eI x k false last=[]):=zu (by unfold eI;rw [if_neg h2,if_neg h3,if_neg (by simp;omega)])
      have H6:=zu h4
      clear h2 h3 h4
      go_wp2_with fail
      have HD:Hid ((s1.2||decide (x.kind=6))=s1.2):=zu (by rw [decide_eq_false (by have:=H6.out;omega)];simp)
      rw [HO.out,HD.out] at HE2
      rw [HO.out] at HIN
      go_roundg g
      case rel=>exact ⟨todo,(s1.1.set k true,s1.2),_,_,HS4,HE2,by have:=HOF.out;simp only [zJ,HTL.out];omega,by omega,zu (fun j hj=>by
       rcases List.mem_append.1 (show j∈[]++todo from hj) with h | h
       ·exact HIN.out j h
       ·exact HKt.out j h),HW4,HX4,hz4⟩
      case measure=>omega
     ·have q2:(x.kind==2)=false:=by simp;omega
      have q3:(x.kind==3)=false:=by simp;omega
      have q4:(x.kind==4)=false:=by simp;omega
      have q5:(x.kind==5)=true:=by simp;omega
      have HO:Hid (eI x k first true=[(k:Int)+1]):=zu (by unfold eI;rw [if_neg h2,if_neg h3,if_pos (.inr ⟨h5,rfl⟩)])
      have H6:=zu h5
      clear h2 h3 h5
      go_wp2_with fail
      refine (iS HS4.out (by omega) (by omega) (by rw [List.length_reverse,HTL.out];omega)).mono ?_
      rintro e w5 ⟨rfl,hb,hkt,A5,c5,hst⟩
      have HS5:=zu hst
      have HW5:=zu (HW4.out.keep hb (by omega) (by omega))
      have HX5:=zu (HX4.out.own hb (zw _) (by omega) (by omega))
      have hz5:w.heap.size+1<w5.heap.size:=zz hz4 hb.size
      have BX5:=zu (hkt X _ _ zr (by omega) BX4.out)
      have k_x5:∀o,w5.cell? ⟨X,o,none⟩=(#[.int .i64 x.kind,.int .u64 x.a,.int .u64 x.b,.int .u64 x.c,.int .u64 x.d,.int .i64 x.x,.int .i64 x.y]:Array Value)[o]?:=BX5.out.blk.cell
      clear hb hkt hst
      go_wp2_with fail
      have HD:Hid ((s1.2||decide (x.kind=6))=s1.2):=zu (by rw [decide_eq_false (by have:=H6.out;omega)];simp)
      rw [HO.out,HD.out] at HE2
      rw [HO.out] at HIN
      go_roundg g
      case rel=>exact ⟨((k:Int)+1)::todo,(s1.1.set k true,s1.2),_,_,zu (by have:=HS5.out;simpa using this),HE2,by have:=HOF.out;simp only [zJ,HTL.out];omega,by omega,zu (fun j hj=>by
       rcases List.mem_append.1 (show j∈[(k:Int)+1]++todo from hj) with h | h
       ·exact HIN.out j h
       ·exact HKt.out j h),HW5,HX5,hz5⟩
      case measure=>omega
     ·have q2:(x.kind==2)=false:=by simp;omega
      have q3:(x.kind==3)=false:=by simp;omega
      have q4:(x.kind==4)=false:=by simp;omega
      have q5:(x.kind==5)=true:=by simp;omega
      have q6:(x.kind==6)=false:=by simp;omega
      have HO:Hid (eI x k first false=[]):=zu (by unfold eI;rw [if_neg h2,if_neg h3,if_neg (by simp;omega)])
      have H6:=zu h5
      clear h2 h3 h5
      go_wp2_with fail
      have HD:Hid ((s1.2||decide (x.kind=6))=s1.2):=zu (by rw [decide_eq_false (by have:=H6.out;omega)];simp)
      rw [HO.out,HD.out] at HE2
      rw [HO.out] at HIN
      go_roundg g
      case rel=>exact ⟨todo,(s1.1.set k true,s1.2),_,_,HS4,HE2,by have:=HOF.out;simp only [zJ,HTL.out];omega,by omega,zu (fun j hj=>by
       rcases List.mem_append.1 (show j∈[]++todo from hj) with h | h
       ·exact HIN.out j h
       ·exact HKt.out j h),HW4,HX4,hz4⟩
      case measure=>omega
     ·have q2:(x.kind==2)=false:=by simp;omega
      have q3:(x.kind==3)=false:=by simp;omega
      have q4:(x.kind==4)=false:=by simp;omega
      have q5:(x.kind==5)=false:=by simp;omega
      have q6:(x.kind==6)=true:=by simp;omega
      have HO:Hid (eI x k first last=[]):=zu (by unfold eI;rw [if_neg (by omega),if_neg (by omega),if_neg (by omega)])
      have H6:=zu h6
      clear h6
      have k_w4:=HW4.out.wb.blk.cell
      have f_w4:=HW4.out.wb.blk.free
      go_wp2_with fail
      have HD:Hid ((s1.2||decide (x.kind=6))=true):=zu (by rw [decide_eq_true H6.out];simp)
      rw [HO.out,HD.out] at HE2
      go_roundg g
      case rel=>exact ⟨todo,(s1.1.set k true,true),_,_,zu (HS4.out.far HW4.out.wb w_ne (by omega) 2 _),HE2,by have:=HOF.out;simp only [HTL.out];omega,by omega,HKt,zu HW4.out.end_,zu (HX4.out.set1 2 _),by rw [World.size_setCell];exact hz4⟩
      case measure=>omega
     ·have q2:(x.kind==2)=false:=by simp;omega
      have q3:(x.kind==3)=false:=by simp;omega
      have q4:(x.kind==4)=false:=by simp;omega
      have q5:(x.kind==5)=false:=by simp;omega
      have q6:(x.kind==6)=false:=by simp;omega
      have HO:Hid (eI x k first last=[]):=zu (by unfold eI;rw [if_neg h2,if_neg h3,if_neg (by omega)])
      have H6:=zu h6
      clear h2 h3 h4 h5 h6
      go_wp2_with fail
      have HD:Hid ((s1.2||decide (x.kind=6))=s1.2):=zu (by rw [decide_eq_false (by exact H6.out)];simp)
      rw [HO.out,HD.out] at HE2
      rw [HO.out] at HIN
      go_roundg g
      case rel=>exact ⟨todo,(s1.1.set k true,s1.2),_,_,HS4,HE2,by have:=HOF.out;simp only [zJ,HTL.out];omega,by omega,zu (fun j hj=>by
       rcases List.mem_append.1 (show j∈[]++todo from hj) with h | h
       ·exact HIN.out j h
       ·exact HKt.out j h),HW4,HX4,hz4⟩
      case measure=>omega
theorem tc (n:Nat):madeCells #[.bool false] n=cE (List.replicate n false):=by
 apply Array.ext'
 apply List.ext_getElem?
 intro q
 simp [madeCells,cE,List.getElem?_replicate]
 split<;>simp_all [Nat.mod_one]
theorem mL (n:Nat) (hn:n≤1000000) (w:World):(Instr.makeSlice 252 (.int .i64 (n:Int)) (.int .i64 (n:Int))).run Tryz.prog w=.ok (.slice (some ⟨w.heap.size,0,none⟩) n n) (w.alloc (.cells (cE (List.replicate n false)) 4)):=by
 obtain ⟨i0,hi0,hz0,hz1,hz2⟩:=info_parts xG
 have hr:=run_make (P:=Tryz.prog) w 252 4 i0 _ Tryz.underlying252 hi0 hz0 .i64 .i64 n n (by omega) (Int.le_refl _) (by rw [hz2];omega) (by omega)
 simp only [Int.toNat_natCast] at hr
 rw [hz1,Nat.mul_one] at hr
 rw [hr,←tc]
 rfl
theorem rj {l:List Ins} {c:Nat} {last:Bool} {on:List Bool} {k:Nat} {st:List Bool × Bool} {b:Bool} (h:on[k]? = some b):dM l c last k (on.drop k) st=dM l c last (k+1) (on.drop (k+1)) (if b&&dB (fX l k) c then bQ l false last (k+1) st else st):=by
 obtain ⟨hk,e⟩:=List.getElem?_eq_some_iff.1 h
 rw [List.drop_eq_getElem_cons hk,e]
 rfl
theorem gE {w:World} {W G cl ca B:Nat} {l:List Ins} {Al:Option Addr} {i:Int} {first last:Bool} {st:List Bool × Bool} (h0:0≤i) (hi:i<l.length) (hw:Ways W G l Al cl ca w st) (hl:RL ft w B l Al) (hBW:B≤W) (hBG:B≤G) (hp:Prg l) (hca:l.length≤ca) :
 Calls Tryz.prog 216 #[.pointer (some ⟨W,0,none⟩),.int .i64 i,.bool first,.bool last] w fun e w'=>yH W G l Al cl ca w w' (bQ l first last i st) e:=by
 obtain ⟨i0,rfl⟩:=Int.eq_ofNat_of_zero_le h0
 exact uK hw hl hBW hBG hp (by omega) hca
theorem tJ {x:Ins} {c j:Nat} (hk:x.kind=1) (hj:c / 64=j):dB x c=(bits .and .u64 (x.word j / 2 ^ (c % 64)) 1==1):=by
 unfold dB
 rw [hk,hj]
 simp
def TakesE (l:List Ins) (Al:Option Addr) (cl:Nat) (w w':World) (st:List Bool × Bool) (e:Ending):Prop:=
 ∃W G ca,e=.returned (.pointer (some ⟨W,0,none⟩))∧Ways W G l Al cl ca w' st∧w.heap.size≤W∧w.heap.size≤G∧l.length≤ca∧Below w.heap.size w w'
theorem wD {w:World} {W G cl ca B:Nat} {l:List Ins} {Al:Option Addr} {c:Nat} {last:Bool} {st:List Bool × Bool} (hw:Ways W G l Al cl ca w st) (hl:RL ft w B l Al) (hBW:B≤W) (hBG:B≤G) (hp:Prg l) (hc:c<256) (hca:l.length≤ca) :
 Calls Tryz.prog 217 #[.pointer (some ⟨W,0,none⟩),.int .u8 c,.bool last] w fun e w'=>TakesE l Al cl w w' (takes l c last st) e:=by
 have hWlt:=hw.wb.blk.lt
 have hGlt:=hw.gb.blk.lt
 have HW:=zu hw
 have HL:=zu hl
 have HP:=zu hp
 have hlen:=hp.len
 have hmk:=fun w=>mL l.length (by omega) w
 have k_w:∀o,w.cell? ⟨W,o,none⟩=(#[.slice Al l.length cl,.slice (some ⟨G,0,none⟩) l.length ca,.bool st.2]:Array Value)[o]?:=hw.wb.blk.cell
 clear hw hl hp
 go_enter Tryz.func217,Tryz.ntmps217
 go_wp2_with fail
 go_region
 have HB1:Hid (Below w.heap.size w ((w.alloc (.cells (cE (List.replicate l.length false)) 4)).alloc (.cells #[.slice Al l.length cl,.slice (some ⟨w.heap.size,0,none⟩) l.length l.length,.bool false] 254)).drew):=zu (al2 rfl).1.drew
 have HN1:Hid (Ways (w.heap.size+1) w.heap.size l Al cl l.length ((w.alloc (.cells (cE (List.replicate l.length false)) 4)).alloc (.cells #[.slice Al l.length cl,.slice (some ⟨w.heap.size,0,none⟩) l.length l.length,.bool false] 254)).drew (iL l)):=zu (by
  have h0:bS (w.alloc (.cells (cE (List.replicate l.length false)) 4)) w.heap.size (cE (List.replicate l.length false)) 4:=heap_alloc_new w _
  have h1:=h0.later (ar (w:=w.alloc (.cells (cE (List.replicate l.length false)) 4)) (o:=.cells #[.slice Al l.length cl,.slice (some ⟨w.heap.size,0,none⟩) l.length l.length,.bool false] 254) rfl)
  have h2:=heap_alloc_new (w.alloc (.cells (cE (List.replicate l.length false)) 4)) (.cells #[.slice Al l.length cl,.slice (some ⟨w.heap.size,0,none⟩) l.length l.length,.bool false] 254)
  rw [World.size_alloc] at h2
  exact ⟨h2,h1,by simp [iL],by omega⟩)
 generalize World.drew _=w1 at *
 have HT1:Hid (takes l c last st=dM l c last 0 (st.1.drop 0) (iL l)):=zu rfl
 have HWO:=zu (HW.out.later HB1.out)
 clear hmk k_w
 have k_w:∀o,w1.cell? ⟨W,o,none⟩=(#[.slice Al l.length cl,.slice (some ⟨G,0,none⟩) l.length ca,.bool st.2]:Array Value)[o]?:=HWO.out.wb.blk.cell
 have hz1:w.heap.size+1<w1.heap.size:=HN1.out.wb.blk.lt
 go_wp2_with fail
 clear k_w
 go_loopw [28] (fun v wr=>∃(k:Nat) (s2:List Bool × Bool),k≤l.length∧v=.int .i64 k∧Hid (takes l c last st=dM l c last k (st.1.drop k) s2)∧Hid (Ways (w.heap.size+1) w.heap.size l Al cl l.length wr s2)∧Hid (Below w.heap.size w wr)∧w.heap.size+1<wr.heap.size) (fun v _=>l.length-(intOf v).toNat)
 case atStart=>exact ⟨0,_,zx _,rfl,HT1,HN1,HB1,hz1⟩
 case round=>
  obtain ⟨k,s2,hk,rfl,HE,HN,HB,hzr⟩:=hrel
  have HWr:=zu (HW.out.later HB.out)
  by_cases hlt:k<l.length
  ·have hks:k<st.1.length:=by rw [HW.out.len];exact hlt
   obtain ⟨b,hb⟩:∃b,st.1[k]? = some b:=⟨_,zD hks⟩
   have HE2:=zu (HE.out.trans (rj (l:=l) (c:=c) (last:=last) (st:=s2) hb))
   have k_w:∀o,wr.cell? ⟨W,o,none⟩=(#[.slice Al l.length cl,.slice (some ⟨G,0,none⟩) l.length ca,.bool st.2]:Array Value)[o]?:=HWr.out.wb.blk.cell
   have c_g:wr.cell? ⟨G,k,none⟩=some (.bool b):=by rw [HWr.out.gb.blk.cell,mC,hb];rfl
   have HLr:=zu (HL.out.keep HB.out (by omega))
   have hB2:B≤wr.heap.size:=by omega
   obtain ⟨b_,off,rfl,hob⟩:=HLr.out.base (zy _ _) hB2 (by omega)
   obtain ⟨x,vs,hx,hxl,hxc,hxr⟩:=HLr.out.at_ (zy _ _) hB2 hlt
   obtain rfl:vs=jW x:=hxr
   have c0:wr.cell? ⟨b_,off+k*7,none⟩=some (.int .i64 x.kind):=hxc 0 _ rfl
   have c1:wr.cell? ⟨b_,off+k*7+1,none⟩=some (.int .u64 x.a):=hxc 1 _ rfl
   have c2:wr.cell? ⟨b_,off+k*7+2,none⟩=some (.int .u64 x.b):=hxc 2 _ rfl
   have c3:wr.cell? ⟨b_,off+k*7+3,none⟩=some (.int .u64 x.c):=hxc 3 _ rfl
   have c4:wr.cell? ⟨b_,off+k*7+4,none⟩=some (.int .u64 x.d):=hxc 4 _ rfl
   have c5:wr.cell? ⟨b_,off+k*7+5,none⟩=some (.int .i64 x.x):=hxc 5 _ rfl
   have c6:wr.cell? ⟨b_,off+k*7+6,none⟩=some (.int .i64 x.y):=hxc 6 _ rfl
   have hIX:fX l k=x:=by
    unfold fX
    rw [Int.toNat_natCast,List.getD_eq_getElem?_getD,hx]
    rfl
   have HTI:Hid (dB x c=true→k+1<l.length):=zu (fun ht=>yr HP.out hlt (by rw [hIX];exact ht))
   rw [hIX] at HE2
   clear hxc hxl hx hIX hks hb HE
   have hn64:c / 64=0∨c / 64=1∨c / 64=2∨c / 64=3:=by omega
   have hr:(c:Int).tmod 64=((c % 64:Nat):Int):=rfl
   have hr2:((c % 64:Nat):Int)<64:=by omega
   have hr3:(0:Int)≤((c % 64:Nat):Int):=by omega
   have hq:(c:Int).tdiv 64=((c / 64:Nat):Int):=rfl
   cases b
   ·have HE3:Hid (takes l c last st=dM l c last (k+1) (st.1.drop (k+1)) s2):=zu (by rw [HE2.out];simp)
    go_wp2_with fail
    go_roundw
    case rel=>exact ⟨k+1,s2,by omega,by go_num,HE3,zu (HN.out.later (ar rfl)),zu (aa HB.out (ar rfl)),by rw [World.size_alloc];omega⟩
    case measure=>simp [intOf];omega
   ·by_cases hk1:x.kind=1
    ·have q1:(x.kind==1)=true:=by simpa using hk1
     have HTW:=fun (j:Nat) (hj:c / 64=j)=>tJ (c:=c) hk1 hj
     clear hk1
     rcases hn64 with hj | hj | hj | hj
     ·have HTW2:=zu (HTW 0 hj)
      rw [hj] at hq
      clear HTW hj
      have hword:x.word 0=x.a:=rfl
      rw [hword] at HTW2
      clear hword
      rcases Bool.eq_false_or_eq_true (bits .and .u64 (x.a / 2 ^ (c % 64)) 1==1) with hbit | hbit
      ·have HT:Hid (dB x c=true):=zu (by rw [HTW2.out,hbit])
       have HE3:Hid (takes l c last st=dM l c last (k+1) (st.1.drop (k+1)) (bQ l false last ((k:Int)+1) s2)):=zu (by rw [HE2.out,HT.out];rfl)
       have hk2:=HTI.out HT.out
       go_wp2_with fail
       generalize hA:World.alloc _ _=w4
       have hb4:=ar hA
       have HN4:=zu (HN.out.later hb4)
       have HB4:=zu (aa HB.out hb4)
       clear hA hb4
       refine (gE (B:=B) (by omega) (by omega) HN4.out (HL.out.keep HB4.out (by omega)) (by omega) (by omega) HP.out (zw _)).mono ?_
       rintro e w5 ⟨rfl,he,hn⟩
       have HN5:=zu hn
       have HB5:=zu (HB4.out.trans (he.1.mono (by omega)))
       have hz5:w.heap.size+1<w5.heap.size:=HN5.out.wb.blk.lt
       clear he hn
       go_wp2_with fail
       go_roundw
       case rel=>exact ⟨k+1,_,by omega,by go_num,HE3,HN5,HB5,hz5⟩
       case measure=>simp [intOf];omega
      ·have HT:Hid (dB x c=false):=zu (by rw [HTW2.out,hbit])
       have HE3:Hid (takes l c last st=dM l c last (k+1) (st.1.drop (k+1)) s2):=zu (by rw [HE2.out,HT.out];rfl)
       go_wp2_with fail
       go_roundw
       case rel=>exact ⟨k+1,s2,by omega,by go_num,HE3,zu (HN.out.later (ar rfl)),zu (aa HB.out (ar rfl)),by rw [World.size_alloc];omega⟩
       case measure=>simp [intOf];omega
     ·have HTW2:=zu (HTW 1 hj)
      rw [hj] at hq
      clear HTW hj
      have hword:x.word 1=x.b:=rfl
      rw [hword] at HTW2
      clear hword
      rcases Bool.eq_false_or_eq_true (bits .and .u64 (x.b / 2 ^ (c % 64)) 1==1) with hbit | hbit
      ·have HT:Hid (dB x c=true):=zu (by rw [HTW2.out,hbit])
       have HE3:Hid (takes l c last st=dM l c last (k+1) (st.1.drop (k+1)) (bQ l false last ((k:Int)+1) s2)):=zu (by rw [HE2.out,HT.out];rfl)
       have hk2:=HTI.out HT.out
       go_wp2_with fail
       generalize hA:World.alloc _ _=w4
       have hb4:=ar hA
       have HN4:=zu (HN.out.later hb4)
       have HB4:=zu (aa HB.out hb4)
       clear hA hb4
       refine (gE (B:=B) (by omega) (by omega) HN4.out (HL.out.keep HB4.out (by omega)) (by omega) (by omega) HP.out (zw _)).mono ?_
       rintro e w5 ⟨rfl,he,hn⟩
       have HN5:=zu hn
       have HB5:=zu (HB4.out.trans (he.1.mono (by omega)))
       have hz5:w.heap.size+1<w5.heap.size:=HN5.out.wb.blk.lt
       clear he hn
       go_wp2_with fail
       go_roundw
       case rel=>exact ⟨k+1,_,by omega,by go_num,HE3,HN5,HB5,hz5⟩
       case measure=>simp [intOf];omega
      ·have HT:Hid (dB x c=false):=zu (by rw [HTW2.out,hbit])
       have HE3:Hid (takes l c last st=dM l c last (k+1) (st.1.drop (k+1)) s2):=zu (by rw [HE2.out,HT.out];rfl)
       go_wp2_with fail
       go_roundw
       case rel=>exact ⟨k+1,s2,by omega,by go_num,HE3,zu (HN.out.later (ar rfl)),zu (aa HB.out (ar rfl)),by rw [World.size_alloc];omega⟩
       case measure=>simp [intOf];omega
     ·have HTW2:=zu (HTW 2 hj)
      rw [hj] at hq
      clear HTW hj
      have hword:x.word 2=x.c:=rfl
      rw [hword] at HTW2
      clear hword
      rcases Bool.eq_false_or_eq_true (bits .and .u64 (x.c / 2 ^ (c % 64)) 1==1) with hbit | hbit
      ·have HT:Hid (dB x c=true):=zu (by rw [HTW2.out,hbit])
       have HE3:Hid (takes l c last st=dM l c last (k+1) (st.1.drop (k+1)) (bQ l false last ((k:Int)+1) s2)):=zu (by rw [HE2.out,HT.out];rfl)
       have hk2:=HTI.out HT.out
       go_wp2_with fail
       generalize hA:World.alloc _ _=w4
       have hb4:=ar hA
       have HN4:=zu (HN.out.later hb4)
       have HB4:=zu (aa HB.out hb4)
       clear hA hb4
       refine (gE (B:=B) (by omega) (by omega) HN4.out (HL.out.keep HB4.out (by omega)) (by omega) (by omega) HP.out (zw _)).mono ?_
       rintro e w5 ⟨rfl,he,hn⟩
       have HN5:=zu hn
       have HB5:=zu (HB4.out.trans (he.1.mono (by omega)))
       have hz5:w.heap.size+1<w5.heap.size:=HN5.out.wb.blk.lt
       clear he hn
       go_wp2_with fail
       go_roundw
       case rel=>exact ⟨k+1,_,by omega,by go_num,HE3,HN5,HB5,hz5⟩
       case measure=>simp [intOf];omega
      ·have HT:Hid (dB x c=false):=zu (by rw [HTW2.out,hbit])
       have HE3:Hid (takes l c last st=dM l c last (k+1) (st.1.drop (k+1)) s2):=zu (by rw [HE2.out,HT.out];rfl)
       go_wp2_with fail
       go_roundw
       case rel=>exact ⟨k+1,s2,by omega,by go_num,HE3,zu (HN.out.later (ar rfl)),zu (aa HB.out (ar rfl)),by rw [World.size_alloc];omega⟩
       case measure=>simp [intOf];omega
     ·have HTW2:=zu (HTW 3 hj)
      rw [hj] at hq
      clear HTW hj
      have hword:x.word 3=x.d:=rfl
      rw [hword] at HTW2
      clear hword
      rcases Bool.eq_false_or_eq_true (bits .and .u64 (x.d / 2 ^ (c % 64)) 1==1) with hbit | hbit
      ·have HT:Hid (dB x c=true):=zu (by rw [HTW2.out,hbit])
       have HE3:Hid (takes l c last st=dM l c last (k+1) (st.1.drop (k+1)) (bQ l false last ((k:Int)+1) s2)):=zu (by rw [HE2.out,HT.out];rfl)
       have hk2:=HTI.out HT.out
       go_wp2_with fail
       generalize hA:World.alloc _ _=w4
       have hb4:=ar hA
       have HN4:=zu (HN.out.later hb4)
       have HB4:=zu (aa HB.out hb4)
       clear hA hb4
       refine (gE (B:=B) (by omega) (by omega) HN4.out (HL.out.keep HB4.out (by omega)) (by omega) (by omega) HP.out (zw _)).mono ?_
       rintro e w5 ⟨rfl,he,hn⟩
       have HN5:=zu hn
       have HB5:=zu (HB4.out.trans (he.1.mono (by omega)))
       have hz5:w.heap.size+1<w5.heap.size:=HN5.out.wb.blk.lt
       clear he hn
       go_wp2_with fail
       go_roundw
       case rel=>exact ⟨k+1,_,by omega,by go_num,HE3,HN5,HB5,hz5⟩
       case measure=>simp [intOf];omega
      ·have HT:Hid (dB x c=false):=zu (by rw [HTW2.out,hbit])
       have HE3:Hid (takes l c last st=dM l c last (k+1) (st.1.drop (k+1)) s2):=zu (by rw [HE2.out,HT.out];rfl)
       go_wp2_with fail
       go_roundw
       case rel=>exact ⟨k+1,s2,by omega,by go_num,HE3,zu (HN.out.later (ar rfl)),zu (aa HB.out (ar rfl)),by rw [World.size_alloc];omega⟩
       case measure=>simp [intOf];omega
    ·have q1:(x.kind==1)=false:=by simpa using hk1
     have HT:Hid (dB x c=false):=zu (by unfold dB;rw [decide_eq_false hk1];rfl)
     have HE3:Hid (takes l c last st=dM l c last (k+1) (st.1.drop (k+1)) s2):=zu (by rw [HE2.out,HT.out];rfl)
     clear hk1
     go_wp2_with fail
     go_roundw
     case rel=>exact ⟨k+1,s2,by omega,by go_num,HE3,zu (HN.out.later (ar rfl)),zu (aa HB.out (ar rfl)),by rw [World.size_alloc];omega⟩
     case measure=>simp [intOf];omega
  ·have HE3:Hid (takes l c last st=s2):=zu (by
    rw [HE.out,List.drop_eq_nil_iff.2 (by rw [HW.out.len];omega)]
    rfl)
   go_wp2_with fail
   go_ret
   rw [HE3.out]
   exact ⟨w.heap.size+1,w.heap.size,l.length,rfl,HN.out,by omega,zw _,zw _,HB.out⟩
end Go.Proofs.YtjpndglegpcdnaaGreat
