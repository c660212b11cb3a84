/- FixOrigins: for every input the call returns true, and each argument reads afterwards as it read before. No conditions: every input of the given row. -/
import Derived.Test.YtjpndglegpcdnaaGreatRef3
import Derived.Test.YtjpndglegpcdnaaGreatSame18
import Derived.Test.YtjpndglegpcdnaaGreatFxD
import Derived.Test.YtjpndglegpcdnaaGreatFc1
import Derived.HandedShaped
import Derived.Shelf.Vars
import Derived.ChangeMaps5
import Derived.Test.YtjpndglegpcdnaaGreatRows
import Derived.ProofKit
set_option linter.unusedVariables false
set_option linter.unusedSimpArgs false
set_option maxRecDepth 100000
set_option maxHeartbeats 8000000
namespace Go.Proofs.YtjpndglegpcdnaaGreat
open Go.ChangeShapes Go.WideShapes Go.ChangeAt Go.RowKit
theorem mod8 (x:Int):∃p:Nat,IntKind.i64.wrap ((IntKind.u64.wrap x).tmod 8)=(p:Int)∧p<8:=by
 obtain ⟨u,e,_⟩:=yA x
 simp only [Value.int.injEq,true_and] at e
 rw [e]
 refine ⟨u % 8,?_,Nat.mod_lt _ (by omega)⟩
 have h:((u:Int)).tmod 8=((u % 8:Nat):Int):=(Int.ofNat_tmod u 8).symm
 rw [h]
 have h8:=Nat.mod_lt u (show 0<8 by omega)
 rw [wrap_i64 (by omega) (by omega)]
theorem bit8 {a:Nat} (h:a<8):(2:Int) ^ a % 4294967296=cX a:=by
 have:∀a,a<8→(2:Int) ^ a % 4294967296=cX a:=by decide
 exact this a h
def rowC (A0 A1 A2 A3:Option Addr) (b0 b1 t0 t1:Int):Array Value:=#[.string pwP,.slice A0 2 2,.slice A1 1 1,.slice none 0 0,.slice none 0 0,.int .i64 b0,.int .u32 t0,.string pwP,.slice A2 2 2,.slice A3 2 2,.slice none 0 0,.slice none 0 0,.int .i64 b1,.int .u32 t1]
structure RowP (g:Nat) (A0 A1 A2 A3:Option Addr) (b0 b1 t0 t1:Int) (w:World):Prop where
 blk:Blk w g (rowC A0 A1 A2 A3 b0 b1 t0 t1)
 r1:(RuR 2).rd w g rY [.string pwP,.slice A0 2 2,.slice A1 1 1,.slice none 0 0,.slice none 0 0]
 r2:(RuR 2).rd w g rZ [.string pwP,.slice A2 2 2,.slice A3 2 2,.slice none 0 0,.slice none 0 0]
section
variable {g:Nat} {A0 A1 A2 A3:Option Addr} {b0 b1 t0 t1:Int} {w w':World}
theorem RowP.later (h:RowP g A0 A1 A2 A3 b0 b1 t0 t1 w) (hb:Below w.heap.size w w'):RowP g A0 A1 A2 A3 b0 b1 t0 t1 w':=⟨h.blk.later hb,(RuR 2).keep hb (Nat.le_of_lt h.blk.lt) h.r1,(RuR 2).keep hb (Nat.le_of_lt h.blk.lt) h.r2⟩
theorem RowP.set (h:RowP g A0 A1 A2 A3 b0 b1 t0 t1 w) {i:Nat} {u:Value} {c0 c1 s0 s1:Int} (e:(rowC A0 A1 A2 A3 b0 b1 t0 t1).setIfInBounds i u=rowC A0 A1 A2 A3 c0 c1 s0 s1):RowP g A0 A1 A2 A3 c0 c1 s0 s1 (w.setCell ⟨g,i,none⟩ u):=
 ⟨e▸h.blk.set_ i u,(RuR 2).keep ((zy g w).setCell (p:=⟨g,i,none⟩) (zw _) u) (zw _) h.r1,(RuR 2).keep ((zy g w).setCell (p:=⟨g,i,none⟩) (zw _) u) (zw _) h.r2⟩
theorem RowP.rl {q:Nat} {t:Int} (h:RowP g A0 A1 A2 A3 q q t t w) (hq:q<8) (ht:U32 t):RL (OwR 2) w w.heap.size (ogR t q) (some ⟨g,0,none⟩):=by
 have hlt:=h.blk.lt
 exact h.blk.rl2 (R:=OwR 2) (x:=⟨rY,q,t⟩) (y:=⟨rZ,q,t⟩) (us:=[_,_,_,_,_,_,_]) (vs:=[_,_,_,_,_,_,_]) rfl ⟨_,rfl,(RuR 2).wide (by omega) h.r1,by unfold I64;simp;omega,ht⟩ ⟨_,rfl,(RuR 2).wide (by omega) h.r2,by unfold I64;simp;omega,ht⟩ hlt
end
theorem nj {a:Nat} (h:a<8):U32 (cX a):=by
 have:∀a,a<8→U32 (cX a):=by unfold U32;decide
 exact this a h
theorem tk {w:World} {T:Nat} {s:ByteArray} {m n o:Int} (h:Blk w T #[.int .i64 2,.int .i64 m,.string ⟨#[]⟩,.slice none 0 0,.int .i64 2,.int .i64 n,.string ⟨#[]⟩,.slice none 0 0]) (hs:s.size≤140737488351232) (hm:I64 m) (hn:I64 n) (ho:U32 o):(ax 2).rd w w.heap.size (ogF s m n o) [.string s,.slice (some ⟨T,0,none⟩) 2 2,.int .u32 o]:=
 yU (f:=ogF s m n o) (pc hs (ln (R:=TmR 2) (c:=2) (h.rl2 (R:=TmR 2) (x:=pwN m) (y:=pwN n) (us:=[_,_,_,_]) (vs:=[_,_,_,_]) rfl (eD (by unfold I64;omega) hm (by decide)) (eD (by unfold I64;omega) hn (by decide)) h.lt) (by simp) (by simp [TmR]) (by omega))) ho
theorem nD {x y z m:Int} {w:World} (HAW:∀w1:World,Below w.heap.size w w1→Calls Tryz.prog 12 #[] w1 fun z w'=>z=.returned (.bool true)∧Below w1.heap.size w1 w') (hm:w.cell? ⟨0,0,none⟩=some (.int .i64 m)) (hp:0<w.heap.size) :
 Calls Tryz.prog 7 #[.int .i64 x,.int .i64 y,.int .i64 z] w fun z w'=>z=.returned (.bool true)∧Below w.heap.size w w':=by
 have HAWH:=zu HAW
 have HM:=zu hm
 clear HAW hm
 obtain ⟨a,ha,ha8⟩:=mod8 x
 obtain ⟨b,hb,hb8⟩:=mod8 y
 obtain ⟨q,hq,hq8⟩:=mod8 z
 go_enter Tryz.func7,Tryz.ntmps7
 go_upto_region 2 with fail
 clear ha hb hq
 have hba:=bit8 ha8
 have hbb:=bit8 hb8
 have hbq:=bit8 hq8
 go_wp2_with fail
 refine bl.mono ?_
 rintro z w1 ⟨rfl,hb_⟩
 have HBw1:=zu (hb_)
 clear hb_
 go_wp2_with fail
 refine bl.mono ?_
 rintro z w2 ⟨rfl,hb_⟩
 have HBw2:=zu (aa HBw1.out hb_)
 clear hb_
 go_wp2_with fail
 generalize hW:World.alloc _ _=w3
 obtain ⟨hb_,hz_⟩:=al1 hW
 have HTw3:=zu (n11 hW)
 have HBw3:=zu (aa HBw2.out hb_)
 clear hW hb_
 try rw [show w2.heap.size+1=w3.heap.size from hz_.symm]
 refine bi.mono ?_
 rintro z w4 ⟨rfl,hb_⟩
 have HBw4:=zu (aa HBw3.out hb_)
 have HTw4:=zu (HTw3.out.later hb_)
 clear hb_
 go_wp2_with fail
 refine bl.mono ?_
 rintro z w5 ⟨rfl,hb_⟩
 have HBw5:=zu (aa HBw4.out hb_)
 have HTw5:=zu (HTw4.out.later hb_)
 clear hb_
 go_wp2_with fail
 refine bl.mono ?_
 rintro z w6 ⟨rfl,hb_⟩
 have HBw6:=zu (aa HBw5.out hb_)
 have HTw6:=zu (HTw5.out.later hb_)
 clear hb_
 go_wp2_with fail
 generalize hW:World.alloc _ _=w7
 obtain ⟨hb_,hz_⟩:=al1 hW
 have HUw7:=zu (n11 hW)
 have HBw7:=zu (aa HBw6.out hb_)
 have HTw7:=zu (HTw6.out.later hb_)
 clear hW hb_
 try rw [show w6.heap.size+1=w7.heap.size from hz_.symm]
 refine bi.mono ?_
 rintro z w8 ⟨rfl,hb_⟩
 have HBw8:=zu (aa HBw7.out hb_)
 have HTw8:=zu (HTw7.out.later hb_)
 have HUw8:=zu (HUw7.out.later hb_)
 clear hb_
 go_wp2_with fail
 generalize hW:World.alloc _ _=w9
 obtain ⟨hb_,hz_⟩:=al1 hW
 have HGw9:=zu (n11 hW)
 have HBw9:=zu (aa HBw8.out hb_)
 have HTw9:=zu (HTw8.out.later hb_)
 have HUw9:=zu (HUw8.out.later hb_)
 clear hW hb_
 try rw [show w8.heap.size+1=w9.heap.size from hz_.symm]
 have HT_:=rV (orO (cX a) (cX b)) (cX q)
 refine (lz (o:=ogW a b q) HT_).mono ?_
 rintro z_ w10 ⟨⟨v,rfl,hv⟩,hb_⟩
 obtain ⟨g,A0,A1,A2,A3,rfl,hg,hblk,k1,k2⟩:=hv
 have HR:Hid (RowP g A0 A1 A2 A3 0 0 (ogW a b q) (ogW a b q) w10):=zu ⟨hblk,k1,k2⟩
 have HBw10:=zu (aa HBw9.out hb_)
 have hg9:w.heap.size≤g:=zv HBw9.out.size hg
 have HTw10:=zu (HTw9.out.later hb_)
 have HUw10:=zu (HUw9.out.later hb_)
 have HGw10:=zu (HGw9.out.later hb_)
 clear hb_ hblk k1 k2
 go_upto_region 5 with fail
 go_loopw [61] (fun i wr=>∃(j:Nat) (c0 c1:Int),j≤2∧i=.int .i64 j∧Hid ((0<j→c0=q)∧(1<j→c1=q))∧Hid (RowP g A0 A1 A2 A3 c0 c1 (ogW a b q) (ogW a b q) wr)∧Hid (Below g w10 wr)) (fun i _=>2-(intOf i).toNat)
 case atStart=>exact ⟨0,0,0,zx _,rfl,zu ⟨fun h=>absurd h (by omega),fun h=>absurd h (by omega)⟩,HR,zu (zy _ _)⟩
 case round=>
  obtain ⟨j,c0,c1,hj,rfl,HC,HRR,HW⟩:=hrel
  have l_g:=HRR.out.blk.lt
  have f_g:=HRR.out.blk.free
  by_cases hlt:j<2
  ·obtain rfl | rfl:j=0∨j=1:=by omega
   ·have p_g:wr.cell? ⟨g,5,none⟩=some (.int .i64 c0):=HRR.out.blk.cell 5
    have hst:=HRR.out.set (i:=5) (u:=.int .i64 q) (c0:=q) (c1:=c1) (s0:=ogW a b q) (s1:=ogW a b q) rfl
    have hbl:=HW.out.setCell (p:=⟨g,5,none⟩) (zw _) (.int .i64 q)
    go_wp2_with fail
    go_roundw
    case rel=>exact ⟨1,q,c1,by omega,rfl,zu ⟨fun _=>rfl,fun h=>absurd h (by omega)⟩,zu hst,zu hbl⟩
    case measure=>simp [intOf]
   ·have p_g:wr.cell? ⟨g,12,none⟩=some (.int .i64 c1):=HRR.out.blk.cell 12
    have hst:=HRR.out.set (i:=12) (u:=.int .i64 q) (c0:=c0) (c1:=q) (s0:=ogW a b q) (s1:=ogW a b q) rfl
    have hbl:=HW.out.setCell (p:=⟨g,12,none⟩) (zw _) (.int .i64 q)
    go_wp2_with fail
    go_roundw
    case rel=>exact ⟨2,c0,q,by omega,rfl,zu ⟨fun _=>HC.out.1 (by omega),fun _=>rfl⟩,zu hst,zu hbl⟩
    case measure=>simp [intOf]
  ·have hj2:j=2:=by omega
   subst hj2
   obtain rfl:c0=q:=HC.out.1 (by omega)
   obtain rfl:c1=q:=HC.out.2 (by omega)
   generalize wr=w11 at *
   have hg10:g<w10.heap.size:=HR.out.blk.lt
   have hlt9:w2.heap.size<g∧w6.heap.size<g∧w8.heap.size<g:=by
    have h1:=HTw9.out.lt
    have h2:=HUw9.out.lt
    have h3:=HGw9.out.lt
    omega
   have HTw11:=zu (HTw10.out.keep HW.out hlt9.1)
   have HUw11:=zu (HUw10.out.keep HW.out hlt9.2.1)
   have HGw11:=zu (HGw10.out.keep HW.out hlt9.2.2)
   have HBw11:Hid (Below w.heap.size w w11):=zu (HBw10.out.trans (HW.out.mono hg9))
   obtain ⟨e1,e2,e3,e4,e5⟩:=og_run ha8 hb8 hq8
   have HE1:=zu e1
   have HE2:=zu e2
   have HE3:=zu e3
   have HE4:=zu e4
   have HE5:=zu e5
   have HLW:∀W:World,Blk W w2.heap.size _→Blk W w6.heap.size _→Blk W w8.heap.size _→RL (ax 2) W W.heap.size (ogL a b) (some ⟨w8.heap.size,0,none⟩):=fun W h1 h2 h3=>h3.rl2 (R:=ax 2) (us:=[_,_,_]) (vs:=[_,_,_]) rfl (tk h1 (by decide) (by unfold I64;omega) (by unfold I64;omega) (nj ha8)) (tk h2 (by decide) (by unfold I64;omega) (by unfold I64;omega) (nj hb8)) h3.lt
   have HLH:=zu HLW
   clear e1 e2 e3 e4 e5 HLW l_g f_g
   go_wp2_with fail
   have hrun:=re (d:=1) (B:=w11.heap.size) (c:=2) (cr:=2) (lf:=50) (lr:=10) (rs:=ogR (ogW a b q) q) (HLH.out _ HTw11.out HUw11.out HGw11.out) (HRR.out.rl hq8 HT_) (zw _) (by simp [ogL]) (by simp [ogR]) (fun f hf=>by
    simp only [ogL,List.mem_cons,List.not_mem_nil,or_false] at hf
    rcases hf with rfl | rfl<;>simp [ogF,pwQ]) (by unfold I64;omega) (by unfold I64;omega) ((HBw11.out.cell (p:=⟨0,0,none⟩) hp).trans HM.out) (by have:=HBw11.out.size;omega)
   rw [HE1.out] at hrun
   refine hrun.mono ?_
   rintro z_ w12 ⟨⟨S,base,xs,As,cs,rfl,hst,hx,hS0,hS1⟩ | ⟨_,h⟩,hb_⟩
   rotate_left
   ·cases h
   have HST:=zu hst
   have HFAR:Hid (∀W:World,StA base 1 W S xs As cs→∀(i:Nat) (u:Value),StA base 1 (W.setCell ⟨g,i,none⟩ u) S xs As cs):=zu (fun W h i u=>by
    have h1:=h.lt
    have h2:=HRR.out.blk.lt
    exact h.agree (M:=fun k=>k=g) ((ak.refl (fun k=>k=g) W).set_ (fun _=>rfl) i u) (fun k hk _ hm=>by
     rcases hm with hm | hm
     ·omega
     ·have:=hS1 k hm;omega) (fun k hk _=>.inl (by omega)))
   have HX:=zu (Option.some.inj hx)
   have HRR12:=zu (HRR.out.later hb_)
   have HBw12:=zu (aa HBw11.out hb_)
   have HTw12:=zu (HTw11.out.later hb_)
   have HUw12:=zu (HUw11.out.later hb_)
   have HGw12:=zu (HGw11.out.later hb_)
   clear hb_ hst hx hrun
   clear HRR HC hj hlt
   go_upto_region 14 with fail
   go_loopw [93] (fun i wr=>∃(j:Nat) (t0 t1:Int),j≤2∧i=.int .i64 j∧Hid ((0<j→t0=16384)∧(1<j→t1=16384))∧Hid (RowP g A0 A1 A2 A3 q q t0 t1 wr)∧Hid (StA base 1 wr S xs As cs)∧Hid (Below g w12 wr)) (fun i _=>2-(intOf i).toNat)
   case atStart=>exact ⟨0,_,_,zx _,rfl,zu ⟨fun h=>absurd h (by omega),fun h=>absurd h (by omega)⟩,HRR12,HST,zu (zy _ _)⟩
   case round=>
    obtain ⟨j,t0,t1,hj,rfl,HC,HRR,HSTr,HW2⟩:=hrel
    have l_g:=HRR.out.blk.lt
    have f_g:=HRR.out.blk.free
    by_cases hlt:j<2
    ·obtain rfl | rfl:j=0∨j=1:=by omega
     ·have p_g:wr.cell? ⟨g,6,none⟩=some (.int .u32 t0):=HRR.out.blk.cell 6
      have hst:=HRR.out.set (i:=6) (u:=.int .u32 16384) (c0:=q) (c1:=q) (s0:=16384) (s1:=t1) rfl
      have hbl:=HW2.out.setCell (p:=⟨g,6,none⟩) (zw _) (.int .u32 16384)
      have hsa:StA base 1 (wr.setCell ⟨g,6,none⟩ (.int .u32 16384)) S xs As cs:=HFAR.out _ HSTr.out _ _
      go_wp2_with fail
      go_roundw
      case rel=>exact ⟨1,16384,t1,by omega,rfl,zu ⟨fun _=>rfl,fun h=>absurd h (by omega)⟩,zu hst,zu hsa,zu hbl⟩
      case measure=>simp [intOf]
     ·have p_g:wr.cell? ⟨g,13,none⟩=some (.int .u32 t1):=HRR.out.blk.cell 13
      have hst:=HRR.out.set (i:=13) (u:=.int .u32 16384) (c0:=q) (c1:=q) (s0:=t0) (s1:=16384) rfl
      have hbl:=HW2.out.setCell (p:=⟨g,13,none⟩) (zw _) (.int .u32 16384)
      have hsa:StA base 1 (wr.setCell ⟨g,13,none⟩ (.int .u32 16384)) S xs As cs:=HFAR.out _ HSTr.out _ _
      go_wp2_with fail
      go_roundw
      case rel=>exact ⟨2,t0,16384,by omega,rfl,zu ⟨fun _=>HC.out.1 (by omega),fun _=>rfl⟩,zu hst,zu hsa,zu hbl⟩
      case measure=>simp [intOf]
    ·have hj2:j=2:=by omega
     subst hj2
     obtain rfl:t0=16384:=HC.out.1 (by omega)
     obtain rfl:t1=16384:=HC.out.2 (by omega)
     generalize wr=w13 at *
     have HBw13:Hid (Below w.heap.size w w13):=zu (HBw12.out.trans (HW2.out.mono hg9))
     have HTw13:=zu (HTw12.out.keep HW2.out hlt9.1)
     have HUw13:=zu (HUw12.out.keep HW2.out hlt9.2.1)
     have HGw13:=zu (HGw12.out.keep HW2.out hlt9.2.2)
     clear l_g f_g
     go_wp2_with fail
     have hrun:=re (d:=1) (B:=w13.heap.size) (c:=2) (cr:=2) (lf:=50) (lr:=10) (rs:=ogR 16384 q) (HLH.out _ HTw13.out HUw13.out HGw13.out) (HRR.out.rl hq8 (by unfold U32;simp)) (zw _) (by simp [ogL]) (by simp [ogR]) (fun f hf=>by
      simp only [ogL,List.mem_cons,List.not_mem_nil,or_false] at hf
      rcases hf with rfl | rfl<;>simp [ogF,pwQ]) (by unfold I64;omega) (by unfold I64;omega) ((HBw13.out.cell (p:=⟨0,0,none⟩) hp).trans HM.out) (by have:=HBw13.out.size;omega)
     rw [HE2.out] at hrun
     refine hrun.mono ?_
     rintro z_ w14 ⟨⟨S2,base2,xs2,As2,cs2,rfl,hst,hx,_,_⟩ | ⟨_,h⟩,hb_⟩
     rotate_left
     ·cases h
     have HSBw14:=zu hst
     have HX2:=zu (Option.some.inj hx)
     have HSAw14:=zu (HSTr.out.later hb_)
     have HBw14:=zu (aa HBw13.out hb_)
     have HTw14:=zu (HTw13.out.later hb_)
     have HUw14:=zu (HUw13.out.later hb_)
     have HGw14:=zu (HGw13.out.later hb_)
     clear hb_ hst hx hrun
     have HN:Hid (xs.length≤1000∧xs2.length=2):=zu (by
      have h1:=congrArg List.length HX.out
      have h2:=congrArg List.length HX2.out
      rw [zB] at h1 h2
      simp [og2,ogL] at h1 h2
      omega)
     go_wp2_with fail
     refine bl.mono ?_
     rintro z_ w15 ⟨rfl,hb_⟩
     have HBw15:=zu (aa HBw14.out hb_)
     have HTw15:=zu (HTw14.out.later hb_)
     have HUw15:=zu (HUw14.out.later hb_)
     have HGw15:=zu (HGw14.out.later hb_)
     have HSAw15:=zu (HSAw14.out.later hb_)
     have HSBw15:=zu (HSBw14.out.later hb_)
     clear hb_
     go_wp2_with fail
     refine bl.mono ?_
     rintro z_ w16 ⟨rfl,hb_⟩
     have HBw16:=zu (aa HBw15.out hb_)
     have HTw16:=zu (HTw15.out.later hb_)
     have HUw16:=zu (HUw15.out.later hb_)
     have HGw16:=zu (HGw15.out.later hb_)
     have HSAw16:=zu (HSAw15.out.later hb_)
     have HSBw16:=zu (HSBw15.out.later hb_)
     clear hb_
     go_wp2_with fail
     generalize hW:World.alloc _ _=w17
     obtain ⟨hb_,hz_⟩:=al1 hW
     have HPw17:=zu (n11 hW)
     have HBw17:=zu (aa HBw16.out hb_)
     have HTw17:=zu (HTw16.out.later hb_)
     have HUw17:=zu (HUw16.out.later hb_)
     have HGw17:=zu (HGw16.out.later hb_)
     have HSAw17:=zu (HSAw16.out.later hb_)
     have HSBw17:=zu (HSBw16.out.later hb_)
     clear hW hb_
     try rw [show w16.heap.size+1=w17.heap.size from hz_.symm]
     refine bi.mono ?_
     rintro z_ w18 ⟨rfl,hb_⟩
     have HBw18:=zu (aa HBw17.out hb_)
     have HTw18:=zu (HTw17.out.later hb_)
     have HUw18:=zu (HUw17.out.later hb_)
     have HGw18:=zu (HGw17.out.later hb_)
     have HSAw18:=zu (HSAw17.out.later hb_)
     have HSBw18:=zu (HSBw17.out.later hb_)
     have HPw18:=zu (HPw17.out.later hb_)
     clear hb_
     go_wp2_with fail
     refine (gj (d:=1) (B:=w18.heap.size) (f:=ogF pwP 1 3 (ogW a b q)) (vf:=[_,_,_]) HSAw18.out (tk HPw18.out (by decide) (by unfold I64;omega) (by unfold I64;omega) (rV _ _)) (zw _) (by have:=HN.out;omega) (by simp [ogF,pwQ])).mono ?_
     rintro z_ w19 ⟨rfl,hb_⟩
     have HBw19:=zu (aa HBw18.out hb_)
     have HTw19:=zu (HTw18.out.later hb_)
     have HUw19:=zu (HUw18.out.later hb_)
     have HGw19:=zu (HGw18.out.later hb_)
     have HSAw19:=zu (HSAw18.out.later hb_)
     have HSBw19:=zu (HSBw18.out.later hb_)
     clear hb_
     rw [←HX.out,HE4.out]
     go_wp2_with fail
     refine bl.mono ?_
     rintro z_ w20 ⟨rfl,hb_⟩
     have HBw20:=zu (aa HBw19.out hb_)
     have HTw20:=zu (HTw19.out.later hb_)
     have HUw20:=zu (HUw19.out.later hb_)
     have HGw20:=zu (HGw19.out.later hb_)
     have HSAw20:=zu (HSAw19.out.later hb_)
     have HSBw20:=zu (HSBw19.out.later hb_)
     clear hb_
     go_wp2_with fail
     refine bl.mono ?_
     rintro z_ w21 ⟨rfl,hb_⟩
     have HBw21:=zu (aa HBw20.out hb_)
     have HTw21:=zu (HTw20.out.later hb_)
     have HUw21:=zu (HUw20.out.later hb_)
     have HGw21:=zu (HGw20.out.later hb_)
     have HSAw21:=zu (HSAw20.out.later hb_)
     have HSBw21:=zu (HSBw20.out.later hb_)
     clear hb_
     go_wp2_with fail
     generalize hW:World.alloc _ _=w22
     obtain ⟨hb_,hz_⟩:=al1 hW
     have HQw22:=zu (n11 hW)
     have HBw22:=zu (aa HBw21.out hb_)
     have HTw22:=zu (HTw21.out.later hb_)
     have HUw22:=zu (HUw21.out.later hb_)
     have HGw22:=zu (HGw21.out.later hb_)
     have HSAw22:=zu (HSAw21.out.later hb_)
     have HSBw22:=zu (HSBw21.out.later hb_)
     clear hW hb_
     try rw [show w21.heap.size+1=w22.heap.size from hz_.symm]
     refine bi.mono ?_
     rintro z_ w23 ⟨rfl,hb_⟩
     have HBw23:=zu (aa HBw22.out hb_)
     have HTw23:=zu (HTw22.out.later hb_)
     have HUw23:=zu (HUw22.out.later hb_)
     have HGw23:=zu (HGw22.out.later hb_)
     have HSAw23:=zu (HSAw22.out.later hb_)
     have HSBw23:=zu (HSBw22.out.later hb_)
     have HQw23:=zu (HQw22.out.later hb_)
     clear hb_
     go_wp2_with fail
     refine (gj (d:=1) (B:=w23.heap.size) (f:=ogF pwP 1 2 (orO (cX a) (cX q))) (vf:=[_,_,_]) HSAw23.out (tk HQw23.out (by decide) (by unfold I64;omega) (by unfold I64;omega) (rV _ _)) (zw _) (by have:=HN.out;omega) (by simp [ogF,pwQ])).mono ?_
     rintro z_ w24 ⟨rfl,hb_⟩
     have HBw24:=zu (aa HBw23.out hb_)
     have HTw24:=zu (HTw23.out.later hb_)
     have HUw24:=zu (HUw23.out.later hb_)
     have HGw24:=zu (HGw23.out.later hb_)
     have HSAw24:=zu (HSAw23.out.later hb_)
     have HSBw24:=zu (HSBw23.out.later hb_)
     clear hb_
     rw [←HX.out,HE5.out]
     go_wp2_with fail
     refine (ww HSBw24.out (by have:=HN.out;omega)).mono ?_
     rintro z_ w25 ⟨⟨ys,Ay,cy,hy,rfl,hr⟩,hb_⟩
     have hyl:ys.length=2:=by
      have h:=congrArg List.length hy
      have:=HN.out
      simp only [zB] at h
      omega
     have HRY:Hid (RL (ax 2) w25 w25.heap.size (ogL a b) Ay):=zu (HX2.out▸hy▸rl_ownF (hr.rl (by omega)))
     have HBw25:=zu (aa HBw24.out hb_)
     have HTw25:=zu (HTw24.out.later hb_)
     have HUw25:=zu (HUw24.out.later hb_)
     have HGw25:=zu (HGw24.out.later hb_)
     rw [hyl]
     clear hb_ hr hy hyl
     go_wp2_with fail
     have hcall:=pL (d:=1) (B:=w25.heap.size) (c:=2) (l:=ogL a b) (HLH.out _ HTw25.out HUw25.out HGw25.out) (zw _) (by simp [ogL])
     rw [HE3.out] at hcall
     refine hcall.mono ?_
     rintro z_ w26 ⟨⟨Az,cz,rfl,hr⟩,hb_⟩
     have HRZ:=zu hr
     have HRY26:=zu (HRY.out.near hb_)
     have HBw26:=zu (aa HBw25.out hb_)
     have HOK:Hid (∀f∈ogL a b,FcOk f):=zu (by
      have hin:∀f∈ogL a b,tX f:=fun f hf=>by
       simp only [ogL,List.mem_cons,List.not_mem_nil,or_false] at hf
       rcases hf with rfl | rfl
       ·exact qA (tk HTw25.out (s:=pwE) (by decide) (by unfold I64;omega) (by unfold I64;omega) (nj ha8))
       ·exact qA (tk HUw25.out (s:=pwE) (by decide) (by unfold I64;omega) (by unfold I64;omega) (nj hb8))
      have h:=zc hin
      rw [HE3.out] at h
      exact h)
     clear hb_ hr hcall
     go_wp2_with fail
     refine (lK (d:=1) (fs:=ogL a b) (c1:=cy) (c2:=cz) HRY26.out HRZ.out HOK.out (by simp [ogL])).mono ?_
     rintro z_ w27 ⟨rfl,hb_⟩
     have HBw27:=zu (aa HBw26.out hb_)
     clear hb_
     go_wp2_with fail
     refine (HAWH.out _ HBw27.out).mono ?_
     rintro z_ w28 ⟨rfl,hb9⟩
     go_wp2_with fail
     go_ret
     exact ⟨rfl,aa HBw27.out hb9⟩
section
variable {H:Type} {enc:TypeId × Value→H} {w:World} {base:Nat} {held:Bool}
end
section
variable {H:Type} {enc:TypeId × Value→H} {w:World} {base:Nat} {held:Bool}
end
theorem own:ownKnob Tryz.prog.godebug=none:=by kernel_rfl
theorem laidOut:laidOutB Tryz.prog=true:=by kernel_rfl
theorem ok_of {H:Type} {P:Program} {ts:List TypeId} {ds:List (DataW H)} (h:(DataW.weightsEach P ts ds).all (·≤reachBytes)=true) {j:Nat} {t:TypeId} {d:DataW H} (ht:ts[j]? = some t) (hd:ds[j]? = some d):Ok P t d:=fun n hn=>by
 have:=List.all_eq_true.1 h n (DataW.weights_mem_each ht hd n hn)
 simpa using this
theorem jk (os:Os) (started:os.Started) (H:Type) (enc:TypeId × Value→H) :
 ReturnsInHanded {} Tryz.checked os 7 .any (Rows.fixOriginsSpec.pre6 enc Tryz.prog Tryz.f7 Rows.fixOriginsRow.domain false) (Rows.fixOriginsSpec.post enc Tryz.prog Tryz.f7 false true false false):=by
 refine returnsInHanded_of_change_shaped (C:=Tryz.checked) own started (by kernel_rfl) Tryz.func7
  (ChangeSpec.witness6 (enc:=enc) (C:=Tryz.checked) false ⟨#[],#[.int .i64 0,.int .i64 0,.int .i64 0],[]⟩ 8 (by kernel_rfl) (by kernel_rfl) (by kernel_rfl) (by kernel_rfl)) ?_
 intro W base args ds gs before hval0 hW _ hsz0 hsh _
 have hsz:(DataW.weightsEach Tryz.prog (Tryz.f7.params.toList++Rows.fixOriginsSpec.plain.varTypes Tryz.prog) (ds++gs)).all (·≤reachBytes)=true:=hsz0
 clear hsz0
 have hval:∀(j:Nat) t v,Tryz.f7.params[j]? = some t→args[j]? = some v→Value.okWide Tryz.prog W .any base t v:=hval0
 have hW':=hW
 obtain ⟨p,q,hA0,hV,rfl,hfz,hnd⟩:=hW
 have hA:DataW.TrodAll enc Tryz.prog W 0 (fun _=>true) true Tryz.f7.params.toList args.toList ds p:=hA0
 rw [Tryz.params7] at hA hval hsz
 obtain ⟨v0,v1,v2,d0,d1,d2,p0,p1,p2,rfl,rfl,rfl,h0,h1,h2⟩:=trodAll_three hA
 obtain ⟨rfl,rfl⟩:=trodVars_none hV
 obtain ⟨x0,rfl,rfl,rfl,hx0⟩:=Go.ChangeShapes.open_int Tryz.underlying3 (hval 0 3 v0 rfl rfl) h0
 obtain ⟨x1,rfl,rfl,rfl,hx1⟩:=Go.ChangeShapes.open_int Tryz.underlying3 (hval 1 3 v1 rfl rfl) h1
 obtain ⟨x2,rfl,rfl,rfl,hx2⟩:=Go.ChangeShapes.open_int Tryz.underlying3 (hval 2 3 v2 rfl rfl) h2
 obtain ⟨m0,hm0⟩:=cell_of_shapedOpen_int (g:=0) (t:=3) (zero:=#[.int .i64 0]) hsh (of_decide_eq_true (by kernel_rfl)) (by kernel_rfl) rfl (by kernel_rfl) (by kernel_rfl) Tryz.underlying3
 have h00:0<W.heap.size:=block_lt_of_cell hm0
 clear hA0 hval0
 refine (nD (fun w1 hb1=>qe ((hb1.cell (p:=⟨0,0,none⟩) h00).trans hm0) (zz h00 hb1.size))  hm0 h00).mono fun e W' ⟨he,bel⟩=>?_
 subst he
 exact ⟨_,rfl,_,_,_,[],_,[],hW',trodAll_mk1 (shut_bool Tryz.underlying4 _),trodAll_mk3 (shut_int Tryz.underlying3 hx0) (shut_int Tryz.underlying3 hx1) (shut_int Tryz.underlying3 hx2),rfl,bel.frame _,fun h=>by cases h⟩
theorem jf_a:(Rows.fixOriginsRow.inPlace==Tryz.prog.inPlace 7)=true:=by kernel_rfl
theorem jf_b:(Rows.fixOriginsRow.unfollowed==Tryz.prog.unfollowed 7)=true:=by kernel_rfl
theorem jf_c:(Rows.fixOriginsRow.recurses==Tryz.prog.recurses 7)=true:=by kernel_rfl
theorem jf_d:(Rows.fixOriginsRow.named==Tryz.prog.varsNamed 7)=true:=by kernel_rfl
theorem jf_all:joinedFacts Tryz.prog 7 Tryz.f7 Rows.fixOriginsSpec Rows.fixOriginsRow=true:=by
 unfold joinedFacts
 rw [jf_a,jf_b,jf_c,jf_d]
 kernel_rfl
theorem kX:Rows.fixOriginsRow.holds Tryz.pinned (OpenSpec.ofChange Rows.fixOriginsSpec):=
 OpenClaim.holds_of_wide 7 Tryz.f7 rfl rfl rfl rfl rfl rfl rfl ⟨rfl,rfl,rfl,rfl,rfl⟩ rfl rfl rfl rfl rfl (by kernel_rfl) Tryz.func7 jf_all
  (of_decide_eq_true (by kernel_rfl)) (by unfold Func.isWrapper;first | (rw [if_pos (by decide +kernel)];kernel_rfl) | (rw [if_neg (by decide +kernel)];exact ⟨rfl,rfl⟩))
  (fun os started H enc _=>jk os started H enc)
theorem fixOrigins_holds:Rows.FixOriginsSaid:=kX
end Go.Proofs.YtjpndglegpcdnaaGreat
