/- viaticumlaw21.awake. Printed by mk_fxaw.py. -/
import Derived.Test.YtdphibjibnffeaaGreatFxAw
set_option linter.unusedVariables false
set_option linter.unusedSimpArgs false
set_option maxRecDepth 100000
set_option maxHeartbeats 8000000
namespace Go.Proofs.YtdphibjibnffeaaGreat
open Go.ChangeShapes Go.WideShapes Go.ChangeAt Go.RowKit
theorem zx {w:World} {T:Nat} {s:ByteArray} {m n:Int} (h:Blk w T #[.int .i64 2,.int .i64 m,.string ⟨#[]⟩,.slice none 0 0,.int .i64 2,.int .i64 n,.string ⟨#[]⟩,.slice none 0 0]) (hs:s.size≤140737488351232) (hm:I64 m) (hn:I64 n):(ay 2).rd w w.heap.size (pwF s m n) [.string s,.slice (some ⟨T,0,none⟩) 2 2,.int .u32 1]:=
 lit_fc (f:=pwF s m n) (rZ hs (mM (R:=TmR 2) (c:=2) (h.rl2 (R:=TmR 2) (x:=pwN m) (y:=pwN n) (us:=[_,_,_,_]) (vs:=[_,_,_,_]) rfl (fx (by unfold I64;omega) hm (by decide)) (fx (by unfold I64;omega) hn (by decide)) h.lt) (by simp) (by simp [TmR]) (by omega))) (by unfold U32;simp [pwF])
theorem pw_has1 {xs:List FV} (h:some pw2=some (xs.map FV.f)):xs.length=5∧fW (xs.map FV.f) (pwF pwP 1 3)=true:=by
 have e:=Option.some.inj h
 have h1:(xs.map FV.f).length=5:=by rw [←e];rfl
 exact ⟨by rw [←h1,List.length_map],by rw [←e];exact pw_has⟩
theorem qk {w:World} {m:Int} (hm:w.cell? ⟨0,0,none⟩=some (.int .i64 m)) (hp:0<w.heap.size):Calls Tryz.prog 39 #[] w fun z w'=>z=.returned (.bool true)∧Below w.heap.size w w':=by
 have HM:=zE hm
 clear hm
 go_enter Tryz.func39,Tryz.ntmps39
 go_wp2_with fail
 refine eO.mono ?_
 rintro z w1 ⟨rfl,hb_⟩
 have HBw1:=zE (hb_)
 clear hb_
 go_wp2_with fail
 refine eO.mono ?_
 rintro z w2 ⟨rfl,hb_⟩
 have HBw2:=zE (ab HBw1.out hb_)
 clear hb_
 go_wp2_with fail
 generalize hW:World.alloc _ _=w3
 obtain ⟨hb_,hz_⟩:=al1 hW
 have HTw3:=zE (n11 hW)
 have HBw3:=zE (ab HBw2.out hb_)
 clear hW hb_
 try rw [show w2.heap.size+1=w3.heap.size from hz_.symm]
 refine cG.mono ?_
 rintro z w4 ⟨rfl,hb_⟩
 have HBw4:=zE (ab HBw3.out hb_)
 have HTw4:=zE (HTw3.out.later hb_)
 clear hb_
 go_wp2_with fail
 refine eO.mono ?_
 rintro z w5 ⟨rfl,hb_⟩
 have HBw5:=zE (ab HBw4.out hb_)
 have HTw5:=zE (HTw4.out.later hb_)
 clear hb_
 go_wp2_with fail
 refine eO.mono ?_
 rintro z w6 ⟨rfl,hb_⟩
 have HBw6:=zE (ab HBw5.out hb_)
 have HTw6:=zE (HTw5.out.later hb_)
 clear hb_
 go_wp2_with fail
 generalize hW:World.alloc _ _=w7
 obtain ⟨hb_,hz_⟩:=al1 hW
 have HUw7:=zE (n11 hW)
 have HBw7:=zE (ab HBw6.out hb_)
 have HTw7:=zE (HTw6.out.later hb_)
 clear hW hb_
 try rw [show w6.heap.size+1=w7.heap.size from hz_.symm]
 refine cG.mono ?_
 rintro z w8 ⟨rfl,hb_⟩
 have HBw8:=zE (ab HBw7.out hb_)
 have HTw8:=zE (HTw7.out.later hb_)
 have HUw8:=zE (HUw7.out.later hb_)
 clear hb_
 go_wp2_with fail
 generalize hW:World.alloc _ _=w9
 obtain ⟨hb_,hz_⟩:=al1 hW
 have HGw9:=zE (n11 hW)
 have HBw9:=zE (ab HBw8.out hb_)
 have HTw9:=zE (HTw8.out.later hb_)
 have HUw9:=zE (HUw8.out.later hb_)
 clear hW hb_
 try rw [show w8.heap.size+1=w9.heap.size from hz_.symm]
 refine (re (o:=1) (by unfold U32;simp)).mono ?_
 rintro z w10 ⟨⟨v,rfl,hv⟩,hb_⟩
 obtain ⟨A,rfl,hr⟩:=hv.rl (by unfold U32;simp)
 have HR:=zE hr
 have HBw10:=zE (ab HBw9.out hb_)
 have HTw10:=zE (HTw9.out.later hb_)
 have HUw10:=zE (HUw9.out.later hb_)
 have HGw10:=zE (HGw9.out.later hb_)
 clear hb_ hv hr
 go_wp2_with fail
 have HL:Hid (RL (ay 2) w10 w10.heap.size pw0 (some ⟨w8.heap.size,0,none⟩)):=zE (HGw10.out.rl2 (R:=ay 2) (us:=[_,_,_]) (vs:=[_,_,_]) rfl (zx HTw10.out (by decide) (by unfold I64;omega) (by unfold I64;omega)) (zx HUw10.out (by decide) (by unfold I64;omega) (by unfold I64;omega)) HGw10.out.lt)
 have hrun:=nV (d:=1) (B:=w10.heap.size) (c:=2) (cr:=2) (lf:=10) (lr:=5) (rs:=pwO 1) HL.out HR.out (zG _) (by decide) (by decide) (fun f hf=>by
  simp only [pw0,List.mem_cons,List.not_mem_nil,or_false] at hf
  rcases hf with rfl | rfl<;>decide) (by unfold I64;omega) (by unfold I64;omega) ((HBw10.out.cell (p:=⟨0,0,none⟩) hp).trans HM.out) (by have:=HBw10.out.size;omega)
 rw [pw_fix] at hrun
 refine hrun.mono ?_
 rintro z w11 ⟨⟨S,base,xs,As,cs,rfl,hst,hx,_,_⟩ | ⟨_,h⟩,hb_⟩
 rotate_left
 ·cases h
 have HST:=zE hst
 obtain ⟨hl5,hhas⟩:=pw_has1 hx
 have HL5:=zE hl5
 have HHAS:=zE hhas
 have HBw11:=zE (ab HBw10.out hb_)
 clear hb_ hst hx hrun hl5 hhas
 go_wp2_with fail
 refine (gt HST.out).mono ?_
 rintro z w12 ⟨rfl,rfl⟩
 rw [show ((xs.length:Nat):Int)=5 by rw [HL5.out];rfl]
 go_wp2_with fail
 refine eO.mono ?_
 rintro z w13 ⟨rfl,hb_⟩
 have HBw13:=zE (ab HBw11.out hb_)
 have HSTw13:=zE (HST.out.later hb_)
 clear hb_
 go_wp2_with fail
 refine eO.mono ?_
 rintro z w14 ⟨rfl,hb_⟩
 have HBw14:=zE (ab HBw13.out hb_)
 have HSTw14:=zE (HSTw13.out.later hb_)
 clear hb_
 go_wp2_with fail
 generalize hW:World.alloc _ _=w15
 obtain ⟨hb_,hz_⟩:=al1 hW
 have HPw15:=zE (n11 hW)
 have HBw15:=zE (ab HBw14.out hb_)
 have HSTw15:=zE (HSTw14.out.later hb_)
 clear hW hb_
 try rw [show w14.heap.size+1=w15.heap.size from hz_.symm]
 refine cG.mono ?_
 rintro z w16 ⟨rfl,hb_⟩
 have HBw16:=zE (ab HBw15.out hb_)
 have HPw16:=zE (HPw15.out.later hb_)
 have HSTw16:=zE (HSTw15.out.later hb_)
 clear hb_
 go_wp2_with fail
 refine (eU (d:=1) (B:=w16.heap.size) (f:=pwF pwP 1 3) (vf:=[_,_,_]) HSTw16.out (zx HPw16.out (by decide) (by unfold I64;omega) (by unfold I64;omega)) (zG _) (by rw [HL5.out];decide) (by decide)).mono ?_
 rintro z w17 ⟨rfl,hb_⟩
 have HBw17:=zE (ab HBw16.out hb_)
 clear hb_
 rw [HHAS.out]
 go_wp2_with fail
 go_ret
 exact ⟨rfl,HBw17.out⟩
end Go.Proofs.YtdphibjibnffeaaGreat
