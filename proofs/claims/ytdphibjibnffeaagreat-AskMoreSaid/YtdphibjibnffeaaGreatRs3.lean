/- The document's store: place, MayFact, Add. Printed by mk_rs3.py. -/
import Derived.Test.YtdphibjibnffeaaGreatRs2
import Derived.Test.YtdphibjibnffeaaGreatStL0
import Derived.Test.YtdphibjibnffeaaGreatPosts
import Derived.Test.YtdphibjibnffeaaGreatStab
import Derived.Test.YtdphibjibnffeaaGreatPosts2
set_option linter.unusedVariables false
set_option linter.unusedSimpArgs false
set_option maxRecDepth 100000
set_option maxHeartbeats 8000000
namespace Go.Proofs.YtdphibjibnffeaaGreat
open Go.ChangeShapes Go.WideShapes Go.ChangeAt Go.RowKit
theorem allF_ {α:Type} {l:List α} {p:α→Bool} {k:Nat} {x:α} (h:l[k]? = some x) (hp:p x=false):l.all p=false:=by
 rw [List.all_eq_false]
 exact ⟨x,List.mem_of_getElem? h,by rw [hp];simp⟩
theorem allT_ {α:Type} {l:List α} {p:α→Bool} {k:Nat} (hk:l.length≤k) (h:∀i (hi:i<k) (hi':i<l.length),p l[i]=true):l.all p=true:=by
 rw [List.all_eq_true]
 intro x hx
 obtain ⟨i,hi,rfl⟩:=List.getElem_of_mem hx
 exact h i (by omega) hi
structure DSt (base d B:Nat) (w:World) (M:Nat) (xs:List FV) (A:Option Addr) (c:Nat):Prop where
 hd:Blk w M #[.slice A xs.length c]
 lt:M<base
 bw:base≤w.heap.size
 row:am FvR 33 w base 0 (.slice A xs.length c) xs
 ok:∀x∈xs,FcOk x.f
 deep:∀x∈xs,(ax (d+1)).rd w B x.f x.cs
 sort:eC (xs.map FV.f)
 hB:B≤M
section
variable {base d B M c:Nat} {w w':World} {xs:List FV} {A:Option Addr} {K:Nat→Prop}
theorem DSt.agree (h:DSt base d B w M xs A c) (ha:aw K w w') (hK:∀k,K k→k<w.heap.size→B≤k∧¬StM M (.slice A xs.length c) k):DSt base d B w' M xs A c:=by
 have hs:=h.hd.lt
 have hBw:B≤w.heap.size:=by have:=h.hB;omega
 have hb:Below B w w':=ha.below (fun k hk hm=>by have:=h.hB;have:=(hK k hm (by omega)).1;omega) hBw
 exact ⟨ha.blk h.hd (fun hm=>(hK M hm hs).2 (.inl rfl)),h.lt,yX h.bw ha.size,h.row.agree ha (fun k hk hm=>(hK k hm (h.row.lt k hk).2).2 (.inr hk)),h.ok,fun x hx=>(ax (d+1)).keep hb (yY _) (h.deep x hx),h.sort,h.hB⟩
theorem DSt.later (h:DSt base d B w M xs A c) (hb:Below w.heap.size w w'):DSt base d B w' M xs A c:=h.agree (K:=fun _=>False) (aw.of_below hb) (fun _ h=>h.elim)
theorem DSt.rl (h:DSt base d B w M xs A c) (hn:xs.length≤1000000):RL (ax (d+1)) w w.heap.size (xs.map FV.f) A:=by
 obtain ⟨A3,c3,e3,h1,h2,r3⟩:=h.row.reads (yZ _) (by show xs.length*(8*3)≤_;omega)
 simp only [Value.slice.injEq] at e3
 obtain ⟨rfl,_,rfl⟩:=e3
 have hBw:B≤w.heap.size:=by have:=h.hB;have:=h.hd.lt;omega
 intro h0
 rw [List.length_map] at h0
 obtain ⟨b,off,e,hb,hc⟩:=r3 h0
 refine ⟨b,off,e,hb,fun i hi=>?_⟩
 rw [List.length_map] at hi
 obtain ⟨vs,hl,⟨x,hx,hr⟩,hv⟩:=hc i hi
 obtain rfl:vs=x.cs:=hr
 exact ⟨x.cs,hl,⟨x.f,by rw [List.getElem?_map,hx];rfl,(ax (d+1)).wide hBw (h.deep x (List.mem_of_getElem? hx))⟩,hv⟩
end
theorem vo {base d B B2 M c:Nat} {xs:List FV} {A:Option Addr} {f:Fc} {vf:List Value} {w:World} (hs:DSt base d B w M xs A c) (hf:(ax (d+1)).rd w B2 f vf) (hB:B2≤w.heap.size) (hn:xs.length≤100000) :
 Calls Tryz.prog 109 #[.pointer (some ⟨M,0,none⟩),.agg vf.toArray] w fun z w'=>z=.returned (.tuple #[.int .i64 (jD (xs.map FV.f) f),.bool (sm (xs.map FV.f) f)])∧Below w.heap.size w w':=by
 have HS:=yW hs
 have HF:=yW hf
 obtain ⟨Af,cf,rfl,_⟩:=aI hf
 clear hs hf
 have HLM:Hid ((xs.map FV.f).length=xs.length):=yW (List.length_map _)
 go_enter Tryz.func109,Tryz.ntmps109
 go_upto_region 2 with fail
 generalize hW:World.alloc _ _=w1
 obtain ⟨hb1,hz⟩:=al1 hW
 have HG1:=yW (n11 hW)
 have HB1:=yW hb1
 have hsz1:=hb1.size
 clear hW hb1
 go_loopw [6] (fun i wr=>∃k:Nat,k≤xs.length∧i=.int .i64 k∧Hid (∀i,i<k→csF (xs.map FV.f) f i<0)∧Hid (Below w1.heap.size w1 wr)) (fun i _=>xs.length-(intOf i).toNat)
 case atStart=>exact ⟨0,yZ _,rfl,yW (fun i h=>absurd h (by omega)),yW (za _ _)⟩
 case round=>
  obtain ⟨k,hk,rfl,HZ,HWR⟩:=hrel
  have HBr:=yW (ab HB1.out HWR.out)
  have HSr:=yW (HS.out.later HBr.out)
  have HGr:=yW (HG1.out.later HWR.out)
  have hszr:=HWR.out.size
  have hI0:(0:Int)≤(k:Int):=Int.natCast_nonneg _
  have hnn:(xs.length:Int)≤100000:=by omega
  by_cases hlt:k<xs.length
  ·obtain ⟨g,c9,e9,h1,h2,h3,h4,h5,h6,_⟩:=HSr.out.row.sh bF (by omega)
   simp only [Value.slice.injEq,true_and] at e9
   obtain ⟨rfl,rfl⟩:=e9
   obtain ⟨x,hx⟩:∃x,x=xs[k]:=⟨_,rfl⟩
   have c0:wr.cell? ⟨g,k*3,none⟩=some (.string x.f.pr.name):=by rw [hx];exact h5 k hlt 0 _ rfl
   have c1:wr.cell? ⟨g,k*3+1,none⟩=some (.slice x.a x.f.pr.terms.length x.c):=by rw [hx];exact h5 k hlt 1 _ rfl
   have c2:wr.cell? ⟨g,k*3+2,none⟩=some (.int .u32 x.f.o):=by rw [hx];exact h5 k hlt 2 _ rfl
   have HXR:Hid ((ax (d+1)).rd wr B x.f x.cs):=yW (by rw [hx];exact HSr.out.deep _ (List.getElem_mem hlt))
   have HXO:Hid (FcOk x.f):=yW (by rw [hx];exact HSr.out.ok _ (List.getElem_mem hlt))
   have HXA:Hid (csF (xs.map FV.f) f k=aW x.f f):=yW (by rw [jx (by rw [HLM.out];exact hlt),List.getElem_map,hx])
   have HBB:Hid (B≤wr.heap.size):=yW (by have:=HSr.out.hB;have:=HSr.out.hd.lt;omega)
   have hI1:(k:Int)<(xs.length:Int):=by omega
   clear h5 h6 hx
   have HC:=yW (And.intro c0 (And.intro c1 c2))
   have HGL:=yW h1
   clear c0 c1 c2
   have HCL:Hid (∀W:World,Below wr.heap.size wr W→Calls Tryz.prog 100 #[.agg #[.string x.f.pr.name,.slice x.a x.f.pr.terms.length x.c,.int .u32 x.f.o],.agg #[.string f.pr.name,.slice Af f.pr.terms.length cf,.int .u32 f.o]] W fun z w'=>z=.returned (.int .i64 (aW x.f f))∧Below W.heap.size W w'):=yW fun W hw=>
    qq (d:=d) (B:=W.heap.size) (va:=[_,_,_]) (vb:=[_,_,_]) (by have:=HXO.out.few;omega) ((ax (d+1)).wide hw.size ((ax (d+1)).keep hw (yY _) ((ax (d+1)).wide HBB.out HXR.out))) ((ax (d+1)).wide (yX (yX hB HBr.out.size) hw.size) ((ax (d+1)).keep (ab HBr.out hw) hB HF.out)) (yY _)
   obtain ⟨n,hn_⟩:∃n,n=aW x.f f:=⟨_,rfl⟩
   have HNN:=yW hn_
   rw [←hn_] at HXA HCL
   clear hn_
   by_cases hneg:n<0
   ·go_upto_region 2 with fail
    have HWW:Hid (Below wr.heap.size wr wr):=yW (za _ _)
    have q0:=cell_regrown ((HWW.out.cell (p:=⟨g,k*3,none⟩) HGL.out).trans HC.out.1)
    have q1:=cell_regrown ((HWW.out.cell (p:=⟨g,k*3+1,none⟩) HGL.out).trans HC.out.2.1)
    have q2:=cell_regrown ((HWW.out.cell (p:=⟨g,k*3+2,none⟩) HGL.out).trans HC.out.2.2)
    have q_m:=(HSr.out.later HWW.out).hd.regrown
    have q_f:=(HGr.out.later HWW.out).regrown
    refine wp_region_quiet_below (by kernel_rfl) (by kernel_rfl) ?_
    repeat (go_big_quiet_step ((go_at_call 100;exact Calls.regrown_of (HCL.out _ (Below.trans HWW.out (Below.mono (below_regrown _ _ _) HWW.out.size))))))
    refine wpQuiet_nil ?_
    intro w3 hw_
    have hb:Below wr.heap.size wr w3:=by obtain ⟨p_,rfl⟩:=hw_;exact below_regrown _ _ _
    clear hw_
    clear q0 q1 q2 q_m q_f HWW
    have HB3:=yW (ab HWR.out hb)
    clear hb
    go_wp2_with fail
    go_roundw
    case rel=>exact ⟨k+1,by omega,by go_num,yW (fun i hi=>by
     rcases Nat.lt_or_ge i k with h | h
     ·exact HZ.out i h
     ·obtain rfl:i=k:=by omega
      rw [HXA.out];exact hneg),HB3⟩
    case measure=>simp [intOf];omega
   ·have HPK:Hid (jD (xs.map FV.f) f=k):=yW (mZ (by rw [HLM.out];exact hk) HZ.out (fun _=>by rw [HXA.out];exact hneg))
    have HHS:Hid (sm (xs.map FV.f) f=(n==0)):=yW (by
     unfold sm
     rw [HPK.out,HXA.out]
     have:decide (k<(xs.map FV.f).length)=true:=decide_eq_true (by rw [HLM.out];exact hlt)
     rw [this,Bool.true_and,Bool.beq_eq_decide_eq])
    go_upto_region 2 with fail
    have HWW:Hid (Below wr.heap.size wr wr):=yW (za _ _)
    have q0:=cell_regrown ((HWW.out.cell (p:=⟨g,k*3,none⟩) HGL.out).trans HC.out.1)
    have q1:=cell_regrown ((HWW.out.cell (p:=⟨g,k*3+1,none⟩) HGL.out).trans HC.out.2.1)
    have q2:=cell_regrown ((HWW.out.cell (p:=⟨g,k*3+2,none⟩) HGL.out).trans HC.out.2.2)
    have q_m:=(HSr.out.later HWW.out).hd.regrown
    have q_f:=(HGr.out.later HWW.out).regrown
    refine wp_region_quiet_below (by kernel_rfl) (by kernel_rfl) ?_
    repeat (go_big_quiet_step ((go_at_call 100;exact Calls.regrown_of (HCL.out _ (Below.trans HWW.out (Below.mono (below_regrown _ _ _) HWW.out.size))))))
    refine wpQuiet_nil ?_
    intro w3 hw_
    have hb:Below wr.heap.size wr w3:=by obtain ⟨p_,rfl⟩:=hw_;exact below_regrown _ _ _
    clear hw_
    clear q0 q1 q2 q_m q_f HWW
    have HB3:=yW hb
    clear hb
    go_upto_region 4 with fail
    have HWW:Hid (Below wr.heap.size wr w3):=yW (HB3.out)
    have q0:=cell_regrown ((HWW.out.cell (p:=⟨g,k*3,none⟩) HGL.out).trans HC.out.1)
    have q1:=cell_regrown ((HWW.out.cell (p:=⟨g,k*3+1,none⟩) HGL.out).trans HC.out.2.1)
    have q2:=cell_regrown ((HWW.out.cell (p:=⟨g,k*3+2,none⟩) HGL.out).trans HC.out.2.2)
    have q_m:=(HSr.out.later HWW.out).hd.regrown
    have q_f:=(HGr.out.later HWW.out).regrown
    refine wp_region_quiet_below (by kernel_rfl) (by kernel_rfl) ?_
    repeat (go_big_quiet_step ((go_at_call 100;exact Calls.regrown_of (HCL.out _ (Below.trans HWW.out (Below.mono (below_regrown _ _ _) HWW.out.size))))))
    refine wpQuiet_nil ?_
    intro w4 hw_
    have hb:Below w3.heap.size w3 w4:=by obtain ⟨p_,rfl⟩:=hw_;exact below_regrown _ _ _
    clear hw_
    clear q0 q1 q2 q_m q_f
    go_wp2_with fail
    go_ret2
    exact ⟨by rw [HPK.out,HHS.out];rfl,ab HBr.out (ab HB3.out hb)⟩
  ·have hkk:k=xs.length:=by omega
   have HPK:Hid (jD (xs.map FV.f) f=k):=yW (mZ (by rw [HLM.out];exact hk) HZ.out (fun h=>by rw [HLM.out] at h;omega))
   have HHS:Hid (sm (xs.map FV.f) f=false):=yW (by
    unfold sm
    rw [HPK.out]
    have:decide (k<(xs.map FV.f).length)=false:=decide_eq_false (by rw [HLM.out];exact hlt)
    rw [this,Bool.false_and])
   have hgd:¬((k:Int)<(xs.length:Int)):=by omega
   clear hkk
   have q_m:=HSr.out.hd.regrown
   have q_f:=HGr.out.regrown
   go_upto_region 2 with fail
   refine wp_region_quiet_below (by kernel_rfl) (by kernel_rfl) ?_
   repeat (go_big_quiet_step (fail))
   refine wpQuiet_nil ?_
   intro w3 hw_
   have hb:Below wr.heap.size wr w3:=by obtain ⟨p_,rfl⟩:=hw_;exact below_regrown _ _ _
   clear hw_
   clear q_m q_f
   have HB3:=yW hb
   clear hb
   have q_m:=(HSr.out.later HB3.out).hd.regrown
   have q_f:=(HGr.out.later HB3.out).regrown
   go_upto_region 4 with fail
   refine wp_region_quiet_below (by kernel_rfl) (by kernel_rfl) ?_
   repeat (go_big_quiet_step (fail))
   refine wpQuiet_nil ?_
   intro w4 hw_
   have hb:Below w3.heap.size w3 w4:=by obtain ⟨p_,rfl⟩:=hw_;exact below_regrown _ _ _
   clear hw_
   clear q_m q_f
   go_wp2_with fail
   go_ret2
   exact ⟨by rw [HPK.out,HHS.out];rfl,ab HBr.out (ab HB3.out hb)⟩
theorem qr {d B:Nat} {f:Fc} {vf:List Value} {w:World} (hf:(ax d).rd w B f vf) (hB:B≤w.heap.size) :
 Calls Tryz.prog 110 #[.agg vf.toArray] w fun z w'=>z=.returned (.bool (cd f))∧Below w.heap.size w w':=by
 have HF:=yW hf
 obtain ⟨A,c,rfl,hs,h1,h2,_,hl,ho⟩:=aI hf
 have HL:=yW hl
 have HO:=yW ho
 clear hl hf ho
 go_enter Tryz.func110,Tryz.ntmps110
 go_wp2_with fail
 generalize hW:World.alloc _ _=W
 obtain ⟨hb,hz⟩:=al1 hW
 have ba:=n11 hW
 have HB1:=yW hb
 have hB1:B≤W.heap.size:=by omega
 clear hW hz hb
 go_loopw [9] (fun i wr=>∃k:Nat,k≤f.pr.terms.length∧i=.int .i64 k∧Below W.heap.size W wr∧∀i (hi:i<k) (hi':i<f.pr.terms.length),af f.pr.terms[i]=true) (fun i _=>f.pr.terms.length-(intOf i).toNat)
 case atStart=>exact ⟨0,yZ _,rfl,za _ _,fun i h=>absurd h (by omega)⟩
 case round=>
  obtain ⟨k,hk,rfl,hbw,hall⟩:=hrel
  have HA:=yW hall
  clear hall
  by_cases hlt:k<f.pr.terms.length
  ·have hl:=HL.out.keep HB1.out hB
   obtain ⟨b,off,rfl,hob⟩:=hl.base hbw hB1 (by omega)
   obtain ⟨x,vs,hx,hlen,hcell,hr⟩:=hl.at_ hbw hB1 hlt
   obtain ⟨Ax,cx,rfl,_⟩:=RTm.cells hr
   have hr:RTm wr wr.heap.size d x [.int .i64 x.kind,.int .i64 x.n,.string x.s,.slice Ax x.l.length cx]:=RTm.more (yX hB1 hbw.size) hr
   have p0:wr.cell? ⟨b,off+k*4,none⟩=some (.int .i64 x.kind):=hcell 0 _ rfl
   have p1:wr.cell? ⟨b,off+k*4+1,none⟩=some (.int .i64 x.n):=hcell 1 _ rfl
   have p2:wr.cell? ⟨b,off+k*4+2,none⟩=some (.string x.s):=hcell 2 _ rfl
   have p3:wr.cell? ⟨b,off+k*4+3,none⟩=some (.slice Ax x.l.length cx):=hcell 3 _ rfl
   have HR:=yW hr
   have HX:=yW hx
   have HW:=yW hbw
   have hszr:=hbw.size
   clear hl hcell hlen hr hx hbw
   go_wp2_with fail
   generalize hW2:World.alloc _ _=w2
   obtain ⟨hb2,hz2⟩:=al1 hW2
   clear hW2 p0 p1 p2 p3
   refine (oR (d:=d) (B:=wr.heap.size) (vs:=[_,_,_,_]) (RTm.below hb2 (yY _) HR.out) (by omega)).mono ?_
   rintro e w3 ⟨rfl,hb3⟩
   have HB3:=yW (ab HW.out (ab hb2 hb3))
   clear hb2 hb3 hz2
   by_cases hm:af x=true
   ·have HM:=yW hm
    rw [hm]
    clear hm
    go_wp2_with fail
    go_roundw
    case rel=>exact ⟨k+1,by omega,by go_num,HB3.out,fun i hi hi'=>by
     rcases Nat.lt_or_ge i k with h1 | h1
     ·exact HA.out i h1 hi'
     ·obtain rfl:i=k:=by omega
      rw [(List.getElem?_eq_some_iff.1 HX.out).2];exact HM.out⟩
    case measure=>simp [intOf];omega
   ·simp only [Bool.not_eq_true] at hm
    have HALL:=yW (allF_ HX.out hm)
    rw [hm]
    clear hm
    go_wp2_with fail
    go_ret
    exact ⟨ac (by unfold cd;rw [HALL.out];simp),ab HB1.out HB3.out⟩
  ·have HALL:=yW (allT_ (show f.pr.terms.length≤k by omega) HA.out)
   have HB2:=yW (ab HB1.out hbw)
   have ca:=(ba.later hbw).cell
   have la:=(ba.later hbw).lt
   clear hbw HA
   by_cases hnm:dW (bs f.pr.name)=true
   ·by_cases hle:f.pr.terms.length≤8
    ·have hle':(f.pr.terms.length:Int)≤8:=by omega
     have HNM:=yW hnm
     have HLE:=yW hle
     clear hle
     by_cases ho0:f.o=0
     ·have hoo:(f.o !=0)=false:=by rw [ho0];rfl
      have HST:Hid (cd f=false):=yW (by unfold cd;simp [ho0])
      clear ho0
      go_wp2_with fail
      refine (ec f.pr.name _ (by unfold maxLen;omega)).mono ?_
      rintro e w3 ⟨rfl,rfl⟩
      rw [HNM.out]
      go_wp2_with fail
      go_ret
      exact ⟨ac HST.out.symm,HB2.out⟩
     ·have hoo:(f.o !=0)=true:=by simpa using ho0
      have HST:Hid (cd f=true):=yW (by unfold cd;simp [ho0,HNM.out,HLE.out,HALL.out])
      clear ho0
      go_wp2_with fail
      refine (ec f.pr.name _ (by unfold maxLen;omega)).mono ?_
      rintro e w3 ⟨rfl,rfl⟩
      rw [HNM.out]
      go_wp2_with fail
      go_ret
      exact ⟨ac HST.out.symm,HB2.out⟩
    ·have hle':¬(f.pr.terms.length:Int)≤8:=by omega
     have HNM:=yW hnm
     have HST:Hid (cd f=false):=yW (by unfold cd;simp [hle])
     clear hle
     go_wp2_with fail
     refine (ec f.pr.name _ (by unfold maxLen;omega)).mono ?_
     rintro e w3 ⟨rfl,rfl⟩
     rw [HNM.out]
     go_wp2_with fail
     go_ret
     exact ⟨ac HST.out.symm,HB2.out⟩
   ·have hnm':dW (bs f.pr.name)=false:=by simpa using hnm
    have HNM:=yW hnm'
    have HST:Hid (cd f=false):=yW (by unfold cd;simp [hnm'])
    clear hnm hnm'
    go_wp2_with fail
    refine (ec f.pr.name _ (by unfold maxLen;omega)).mono ?_
    rintro e w3 ⟨rfl,rfl⟩
    rw [HNM.out]
    go_wp2_with fail
    go_ret
    exact ⟨ac HST.out.symm,HB2.out⟩
def rB (base d B M:Nat) (w w':World) (xs:List FV) (A:Option Addr) (c:Nat) (f:Fc) (z:Ending):Prop:=
 ∃xs' A' c',z=.returned (.bool (pg (xs.map FV.f) f))∧xs'.map FV.f=pl (xs.map FV.f) f∧DSt base d B w' M xs' A' c'∧aw (fun k=>k=M) w w'∧bl w (.slice A xs.length c) (.slice A' xs'.length c')
theorem rB.no {base d B M c:Nat} {w w':World} {xs:List FV} {A:Option Addr} {f:Fc} (h:DSt base d B w M xs A c) (hb:Below w.heap.size w w') (hn:pg (xs.map FV.f) f=false):rB base d B M w w' xs A c f (.returned (.bool false)):=
 ⟨xs,A,c,by rw [hn],by unfold pl;rw [hn];rfl,h.later hb,(aw.of_below (M:=fun _=>False) hb).mono (fun _ _ h=>h.elim),.inl rfl⟩
theorem yJ (x:FV):x.cs.length=3:=rfl
theorem kK:∀{ys:List FV} {j:Nat} {u:Value},(ys.flatMap FV.cs)[j]? = some u→∃i b,∃hi:i<ys.length,b<3∧j=i*3+b∧(ys[i].cs)[b]? = some u
 | [],j,u,h=>by simp at h
 | y::ys,j,u,h=>by
   rw [List.flatMap_cons] at h
   by_cases hj:j<3
   ·rw [List.getElem?_append_left (by rw [yJ];exact hj)] at h
    exact ⟨0,j,by simp,hj,by omega,h⟩
   ·rw [List.getElem?_append_right (by rw [yJ];omega),yJ] at h
    obtain ⟨i,b,hi,hb,e,hu⟩:=kK h
    exact ⟨i+1,b,by simpa using hi,hb,by omega,hu⟩
theorem uB:∀(ys:List FV) {w:World} {B:Nat},bg FvR w B ys (ys.flatMap FV.cs)
 | [],w,B=>bg.nil
 | y::ys,w,B=>by
   have h:bg FvR w B ([y]++ys) (y.cs++ys.flatMap FV.cs):=(bg.one (R:=FvR) (x:=y) (vs:=y.cs) rfl).append (uB ys)
   exact h
theorem vI {w:World} {base n c p m:Nat} {xs:List FV} {g:Nat} (h:am FvR 33 w base 0 (.slice (some ⟨g,0,none⟩) n c) xs) (hp:p+m≤xs.length):fl FvR w 0 (some ⟨g,p*3,none⟩) ((xs.drop p).take m):=by
 rcases Nat.eq_zero_or_pos xs.length with h0 | h0
 ·have:(xs.drop p).take m=[]:=by rw [List.length_eq_zero_iff.1 h0];simp
  rw [this]
  exact ⟨[],bg.nil,fun h=>(by cases h),fun a _ j u h=>by simp at h⟩
 obtain ⟨g',c',e,_,_,_,_,hc,_⟩:=h.sh bF h0
 simp only [Value.slice.injEq,Option.some.injEq,Addr.mk.injEq,true_and,and_true] at e
 obtain ⟨rfl,_⟩:=e
 have hl:(((xs.drop p).take m)).length=m:=by rw [List.length_take,List.length_drop];omega
 refine ⟨((xs.drop p).take m).flatMap FV.cs,?_,fun h=>(by cases h),?_⟩
 ·exact uB _
 ·intro a ha j u hj
  simp only [Option.some.injEq] at ha
  subst ha
  obtain ⟨i,b,hi,hb,rfl,hu⟩:=kK hj
  have hi0:=hi
  rw [hl] at hi
  have hx:((xs.drop p).take m)[i]'hi0=xs[p+i]'(by omega):=by rw [List.getElem_take,List.getElem_drop]
  rw [hx] at hu
  have:=hc (p+i) (by omega) b u hu
  have e0:(⟨g,p*3,none⟩:Addr).add (i*3+b)=⟨g,p*3+(i*3+b),none⟩:=by unfold Addr.add;split<;>simp_all
  rw [e0]
  rw [←this]
  congr 2
  show _=(p+i)*3+b
  omega
theorem lY {w w':World} {v v':Value} {k:Nat} {cs:Array Value} {T:TypeId} (h:w.heap[k]? = some (.cells cs T (0,0))) (hn:v.ownBlock≠some k) (hg:w.grownBy w' v.ownBlock) (hf:bl w v v'):w'.heap[k]? = some (.cells cs T (0,0)):=(ft.app (ft.mk' h hn) hg hf).1
theorem vJ {α:Type} {R:Reader α} {w:World} {a:Addr} {ys:List α} (h:ys=[]):fl R w 0 (some a) ys:=by
 subst h
 exact ⟨[],bg.nil,fun h=>(by cases h),fun a _ j u h=>by simp at h⟩
def CutF (xs:List FV) (p:Nat) (A:Option Addr) (v:Value):Prop:=∃A2 c2,v=.slice A2 (xs.drop p).length c2∧(xs.drop p=[]∨∃g,A=some ⟨g,0,none⟩∧A2=some ⟨g,p*3,none⟩)
theorem wT {w:World} {base c p:Nat} {xs:List FV} {A:Option Addr} (h:am FvR 33 w base 0 (.slice A xs.length c) xs) (hp:p≤xs.length):fl FvR w 0 A (xs.take p):=by
 rcases A with _ | a
 ·obtain ⟨rfl,_⟩:=am.none_nil h
  exact fl.none (by simp)
 ·obtain ⟨g,rfl,_⟩:=am.some_row h
  have h:=vI (p:=0) (m:=p) h (by omega)
  rwa [Nat.zero_mul,List.drop_zero] at h
theorem wU {w:World} {base c p:Nat} {xs:List FV} {A A2:Option Addr} (h:am FvR 33 w base 0 (.slice A xs.length c) xs) (hp:p≤xs.length) (hc:xs.drop p=[]∨∃g,A=some ⟨g,0,none⟩∧A2=some ⟨g,p*3,none⟩):fl FvR w 0 A2 (xs.drop p):=by
 rcases hc with hc | ⟨g,rfl,rfl⟩
 ·rcases A2 with _ | a
  ·exact fl.none hc
  ·exact vJ hc
 ·have h:=vI (p:=p) (m:=xs.length-p) h (by omega)
  rwa [List.take_of_length_le (by rw [List.length_drop];omega)] at h
theorem xK {base d B M c:Nat} {xs:List FV} {A A2:Option Addr} {c2 p n2:Nat} {y:FV} {w w3 w4:World} (hs:DSt base d B w M xs A c) (hf:(ax (d+1)).rd w B y.f y.cs) (hok:FcOk y.f) (had:pg (xs.map FV.f) y.f=true) (hp:p=jD (xs.map FV.f) y.f) (hb3:Below w.heap.size w w3) (hb4:Below w3.heap.size w3 w4)
 (ho:am FvR 33 w4 w3.heap.size 0 (.slice A2 n2 c2) (cv xs p y)):rB base d B M w (w4.setCell ⟨M,0,none⟩ (.slice A2 n2 c2)) xs A c y.f (.returned (.bool true)):=by
 have hml:=hs.hd.lt
 have hl:n2=(cv xs p y).length:=by obtain ⟨A',c',e⟩:=ho.form;cases e;rfl
 subst hl
 have hB:=hs.hB
 have hs3:=hb3.size
 have hb:Below w.heap.size w w4:=ab hb3 hb4
 have hag:aw (fun k=>k=M) w (w4.setCell ⟨M,0,none⟩ (.slice A2 (cv xs p y).length c2)):=aw.set_ (M:=fun k=>k=M) ((aw.of_below (M:=fun _=>False) hb).mono (fun _ _ h=>h.elim)) (fun _=>rfl) 0 _
 have hBel:Below B w (w4.setCell ⟨M,0,none⟩ (.slice A2 (cv xs p y).length c2)):=hag.below (fun k hk hm=>by omega) (by omega)
 refine ⟨cv xs p y,A2,c2,by rw [had],?_,⟨(hs.hd.later hb).set_ 0 _,hs.lt,?_,(ho.far (by omega) (yZ _) _).lower (yX hs.bw hs3),fun x hx=>?_,fun x hx=>?_,?_,hs.hB⟩,hag,?_⟩
 ·unfold pl
  rw [if_pos had,kc FV.f,hp]
 ·have:=hs.bw;have:=hag.size;omega
 ·rcases eu.1 hx with rfl | hx
  ·exact hok
  ·exact hs.ok x hx
 ·rcases eu.1 hx with rfl | hx
  ·exact (ax (d+1)).keep hBel (yY _) hf
  ·exact (ax (d+1)).keep hBel (yY _) (hs.deep x hx)
 ·rw [kc FV.f,hp]
  exact my hs.sort (by unfold pg at had;rw [Bool.and_eq_true,Bool.not_eq_true'] at had;exact had.2)
 ·rcases hv:(Value.slice A2 (cv xs p y).length c2).ownBlock with _ | k
  ·exact absurd hv (fun e=>by
    have hne:(cv xs p y).length≠0:=by simp [cv]
    obtain ⟨g,c',e',_⟩:=ho.sh bF (by omega)
    cases e'
    simp [Value.ownBlock] at e)
  ·exact .inr ⟨k,hv,yX hs3 (ho.lt k hv).1⟩
theorem sQ {base d B M c:Nat} {xs:List FV} {A:Option Addr} {y:FV} {w:World} (hs:DSt base d B w M xs A c) (hf:(ax (d+1)).rd w B y.f y.cs) (hn:xs.length≤100000) :
 Calls Tryz.prog 52 #[.pointer (some ⟨M,0,none⟩),.agg y.cs.toArray] w fun z w'=>rB base d B M w w' xs A c y.f z:=by
 have HS:=yW hs
 have HF:=yW hf
 have hml:=hs.hd.lt
 have hBM:=hs.hB
 have HFI:Hid (y.f.pr.name.size≤140737488351232∧U32 y.f.o):=yW (by obtain ⟨_,_,_,h1,_,_,_,_,h2⟩:=aI hf;exact ⟨h1,h2⟩)
 clear hs hf
 obtain ⟨i0,hi0,hz0,hz1,hz2⟩:=info_parts gB
 show Calls Tryz.prog 52 #[_,.agg #[.string y.f.pr.name,.slice y.a y.f.pr.terms.length y.c,.int .u32 y.f.o]] w _
 go_enter Tryz.func52,Tryz.ntmps52
 go_wp2_with fail
 generalize hW:World.alloc _ _=w1
 obtain ⟨hb1,hz⟩:=al1 hW
 have HF1:=yW (n11 hW)
 have HB1:=yW hb1
 have HS1:=yW (HS.out.later hb1)
 clear hW hb1
 refine (vo (f:=y.f) (vf:=y.cs) (B2:=B) HS1.out ((ax (d+1)).keep HB1.out (by omega) HF.out) (by have:=HB1.out.size;omega) hn).mono ?_
 rintro z w2 ⟨rfl,hb⟩
 have HF2:=yW (HF1.out.later hb)
 have HB2:=yW (ab HB1.out hb)
 clear hb
 obtain ⟨p,hp⟩:∃p,p=jD (xs.map FV.f) y.f:=⟨_,rfl⟩
 obtain ⟨q,hq⟩:∃q,q=sm (xs.map FV.f) y.f:=⟨_,rfl⟩
 have hpn:p≤xs.length:=by rw [hp];have:=ll (fs:=xs.map FV.f) (f:=y.f);rwa [List.length_map] at this
 have HP:=yW hp
 have HQ:=yW hq
 rw [←hp,←hq]
 clear hp hq
 have k_f:=HF2.out.cell
 have l_f:=HF2.out.lt
 cases q
 rotate_left
 ·go_wp2_with fail
  go_ret
  exact rB.no HS.out HB2.out (by unfold pg;rw [←HQ.out];simp)
 go_wp2_with fail
 refine (qr (d:=d+1) (B:=B) (f:=y.f) (vf:=[_,_,_]) ((ax (d+1)).keep HB2.out (by omega) HF.out) (by have:=HB2.out.size;omega)).mono ?_
 rintro z w3 ⟨rfl,hb⟩
 have HF3:=yW (HF2.out.later hb)
 have HB3:=yW (ab HB2.out hb)
 have HS3:=yW (HS.out.later HB3.out)
 have hsz3:=HB3.out.size
 clear hb k_f l_f
 obtain ⟨sb,hsb⟩:∃sb,sb=cd y.f:=⟨_,rfl⟩
 have HSB:=yW hsb
 rw [←hsb]
 clear hsb
 cases sb
 ·go_wp2_with fail
  go_ret
  exact rB.no HS.out HB3.out (ga HSB.out.symm)
 have HAD:Hid (pg (xs.map FV.f) y.f=true):=yW (by unfold pg;rw [←HSB.out,←HQ.out];rfl)
 have HFO:=yW (ry HSB.out.symm HFI.out.1 HFI.out.2)
 go_upto_region 4 with fail
 have HCS:Hid ((A=none∧xs=[]∧c=0∧p=0)∨∃g,A=some ⟨g,0,none⟩∧xs.length≤c∧c≤9223372036854775807):=yW (by
  rcases A with _ | a
  ·obtain ⟨h1,h2⟩:=am.none_nil HS.out.row
   subst h1
   exact .inl ⟨rfl,rfl,h2,by simpa using hpn⟩
  ·obtain ⟨g,rfl,h3,h4⟩:=am.some_row HS.out.row
   exact .inr ⟨g,rfl,h3,h4⟩)
 have HST:Hid (StbL [fun v _=>v=.pointer (some ⟨M,0,none⟩),fun v _=>v=.pointer (some ⟨M,0,none⟩),fun v _=>v=.pointer (some ⟨M,0,none⟩),fun v _=>v=.pointer (some ⟨M,0,none⟩),fun v _=>v=.slice A xs.length c,fun v _=>v=.int .i64 (p:Int),fun v _=>v=.slice A p c,pj FvR 33 w3.heap.size 0 ([]++xs.take p),fun v _=>v=.agg #[.string y.f.pr.name,.slice y.a y.f.pr.terms.length y.c,.int .u32 y.f.o],yG w3.heap.size 1 #[.string y.f.pr.name,.slice y.a y.f.pr.terms.length y.c,.int .u32 y.f.o] 33,pj FvR 33 w3.heap.size 0 ([]++xs.take p++[y]),fun v _=>v=.pointer (some ⟨M,0,none⟩),fun v _=>v=.pointer (some ⟨M,0,none⟩),fun v _=>v=.pointer (some ⟨M,0,none⟩),fun v _=>v=.slice A xs.length c,fun v _=>v=.int .i64 (p:Int),fun v _=>CutF xs p A v,pj FvR 33 w3.heap.size 0 (([]++xs.take p)++[y]++xs.drop p),fun v _=>v=.pointer (some ⟨M,0,none⟩),fun v _=>v=.pointer (some ⟨M,0,none⟩)]):=yW ⟨Stb.val _,⟨Stb.val _,⟨Stb.val _,⟨Stb.val _,⟨Stb.val _,⟨Stb.val _,⟨Stb.val _,⟨Stb.own _ _ _ _ _,⟨Stb.val _,⟨Stb.row _ _ _ _,⟨Stb.own _ _ _ _ _,⟨Stb.val _,⟨Stb.val _,⟨Stb.val _,⟨Stb.val _,⟨Stb.val _,⟨Stb.val _,⟨Stb.own _ _ _ _ _,⟨Stb.val _,⟨Stb.val _,trivial⟩⟩⟩⟩⟩⟩⟩⟩⟩⟩⟩⟩⟩⟩⟩⟩⟩⟩⟩⟩
 have HH0:Hid (w3.heap.size≤w3.drew.heap.size):=yW (yY _)
 have HDR:Hid (Below w3.heap.size w3 w3.drew):=yW (za _ _).drew
 refine ej 20 (xI [fun v _=>v=.pointer (some ⟨M,0,none⟩),fun v _=>v=.pointer (some ⟨M,0,none⟩),fun v _=>v=.pointer (some ⟨M,0,none⟩),fun v _=>v=.pointer (some ⟨M,0,none⟩),fun v _=>v=.slice A xs.length c,fun v _=>v=.int .i64 (p:Int),fun v _=>v=.slice A p c,pj FvR 33 w3.heap.size 0 ([]++xs.take p),fun v _=>v=.agg #[.string y.f.pr.name,.slice y.a y.f.pr.terms.length y.c,.int .u32 y.f.o],yG w3.heap.size 1 #[.string y.f.pr.name,.slice y.a y.f.pr.terms.length y.c,.int .u32 y.f.o] 33,pj FvR 33 w3.heap.size 0 ([]++xs.take p++[y]),fun v _=>v=.pointer (some ⟨M,0,none⟩),fun v _=>v=.pointer (some ⟨M,0,none⟩),fun v _=>v=.pointer (some ⟨M,0,none⟩),fun v _=>v=.slice A xs.length c,fun v _=>v=.int .i64 (p:Int),fun v _=>CutF xs p A v,pj FvR 33 w3.heap.size 0 (([]++xs.take p)++[y]++xs.drop p),fun v _=>v=.pointer (some ⟨M,0,none⟩),fun v _=>v=.pointer (some ⟨M,0,none⟩)]) [7,10,17] (w3.heap.size) HH0.out (by kernel_rfl) (by kernel_rfl) (by kernel_rfl) (by kernel_rfl) (by kernel_rfl) rfl (ae (ae (ae (ae (ae (ae (ae (ae (ae (ae (ae (ae (ae (ae (ae (ae (ae (ae (ae (ae iK ?op0_) ?op1_) ?op2_) ?op3_) ?op4_) ?op5_) ?op6_) ?op7_) ?op8_) ?op9_) ?op10_) ?op11_) ?op12_) ?op13_) ?op14_) ?op15_) ?op16_) ?op17_) ?op18_) ?op19_) ?last_
 case op0_=>
  refine ⟨_,rfl,fun T w' hk hb hgr hd K hK=>?_⟩
  rw [if_pos (show Region.wanted _ _=true from rfl)]
  have h_:T.getD 0 undef=.pointer (some ⟨M,0,none⟩):=hk.2 0 (by kernel_rfl)
  rw [Array.getD_eq_getD_getElem?] at h_
  clear hk hd
  go_simp
  exact hK.out _ _ (Moved.grow (az HST.out) HH0.out hb (za _ _)) rfl
 case op1_=>
  refine ⟨_,rfl,fun T w' hk hb hgr hd K hK=>?_⟩
  rw [if_pos (show Region.wanted _ _=true from rfl)]
  have h_:T.getD 0 undef=.pointer (some ⟨M,0,none⟩):=hk.2 0 (by kernel_rfl)
  rw [Array.getD_eq_getD_getElem?] at h_
  clear hk hd
  go_simp
  exact hK.out _ _ (Moved.grow (az HST.out) HH0.out hb (za _ _)) rfl
 case op2_=>
  refine ⟨_,rfl,fun T w' hk hb hgr hd K hK=>?_⟩
  rw [if_pos (show Region.wanted _ _=true from rfl)]
  have d1:=hd 1 (of_decide_eq_true (by kernel_rfl))
  replace d1:T.getD 20 undef=.pointer (some ⟨M,0,none⟩):=d1
  rw [Array.getD_eq_getD_getElem?] at d1
  clear hk hd
  go_simp
  exact hK.out _ _ (Moved.grow (az HST.out) HH0.out hb (za _ _)) rfl
 case op3_=>
  refine ⟨_,rfl,fun T w' hk hb hgr hd K hK=>?_⟩
  rw [if_pos (show Region.wanted _ _=true from rfl)]
  have d2:=hd 2 (of_decide_eq_true (by kernel_rfl))
  replace d2:T.getD 21 undef=.pointer (some ⟨M,0,none⟩):=d2
  rw [Array.getD_eq_getD_getElem?] at d2
  clear hk hd
  go_simp
  exact hK.out _ _ (Moved.grow (az HST.out) HH0.out hb (za _ _)) rfl
 case op4_=>
  refine ⟨_,rfl,fun T w' hk hb hgr hd K hK=>?_⟩
  rw [if_pos (show Region.wanted _ _=true from rfl)]
  have d3:=hd 3 (of_decide_eq_true (by kernel_rfl))
  replace d3:T.getD 22 undef=.pointer (some ⟨M,0,none⟩):=d3
  rw [Array.getD_eq_getD_getElem?] at d3
  have k_:=(HS3.out.later (HDR.out.trans hb)).hd.cell
  have l_:=(HS3.out.later (HDR.out.trans hb)).hd.lt
  clear hk hd
  go_simp
  exact hK.out _ _ (Moved.grow (az HST.out) HH0.out hb (za _ _)) rfl
 case op5_=>
  refine ⟨_,rfl,fun T w' hk hb hgr hd K hK=>?_⟩
  rw [if_pos (show Region.wanted _ _=true from rfl)]
  have h_:T.getD 5 undef=.int .i64 (p:Int):=hk.2 5 (by kernel_rfl)
  rw [Array.getD_eq_getD_getElem?] at h_
  clear hk hd
  go_simp
  exact hK.out _ _ (Moved.grow (az HST.out) HH0.out hb (za _ _)) rfl
 case op6_=>
  refine ⟨_,rfl,fun T w' hk hb hgr hd K hK=>?_⟩
  rw [if_pos (show Region.wanted _ _=true from rfl)]
  have d4:=hd 4 (of_decide_eq_true (by kernel_rfl))
  replace d4:T.getD 23 undef=.slice A xs.length c:=d4
  rw [Array.getD_eq_getD_getElem?] at d4
  have d5:=hd 5 (of_decide_eq_true (by kernel_rfl))
  replace d5:T.getD 24 undef=.int .i64 (p:Int):=d5
  rw [Array.getD_eq_getD_getElem?] at d5
  clear hk hd
  rcases HCS.out with ⟨rfl,rfl,rfl,rfl⟩ | ⟨g,rfl,hg3,hg4⟩
  ·simp only [List.length_nil] at *
   go_simp
   exact hK.out _ _ (Moved.grow (az HST.out) HH0.out hb (za _ _)) rfl
  ·have hP0:(0:Int)≤(p:Int):=Int.natCast_nonneg _
   have hP1:(p:Int)≤(xs.length:Int):=by omega
   have hP2:(p:Int)≤(c:Int):=by omega
   go_simp
   exact hK.out _ _ (Moved.grow (az HST.out) HH0.out hb (za _ _)) rfl
 case op7_=>
  refine ⟨_,rfl,fun T w' hk hb hgr hd K hK=>?_⟩
  rw [if_pos (show Region.wanted _ _=true from rfl)]
  have d6:=hd 6 (of_decide_eq_true (by kernel_rfl))
  replace d6:T.getD 25 undef=_:=d6
  refine bO (R:=FvR) (e:=33) (.const (.slice none 0 0)) (.tmp 25) 22 rfl (bytes:=48) Tryz.underlying22 hi0 hz0 hz1 hz2 rfl (show 0<3 by omega) cO (xs:=[]) (base:=w3.heap.size) (B:=0) (v:=.slice none 0 0) (by rfl) (am.nil _ _ _ _ _) (by exact d6) (ys:=xs.take p) (wT (HS3.out.later (HDR.out.trans hb)).row hpn) (by rw [List.length_take];omega) (yZ _) (by simp<;>omega) (by omega) hb.size ?_
  intro v_1 w4 hown hb4 hg hf
  refine hK.out _ _ (Moved.keep (hb.trans hb4) rfl [0,8,9,11,12,13,14,15,16,18,19] (by kernel_rfl) ?_) ⟨yZ _,hown⟩
  intro j hj
  simp only [List.mem_cons,List.not_mem_nil,or_false] at hj
  rcases hj with rfl | rfl | rfl | rfl | rfl | rfl | rfl | rfl | rfl | rfl | rfl
  rotate_left 2
  ·exact fun ⟨b,e,h2,h3⟩=>⟨b,e,h2,lY h3 (fun h=>by cases h) hg hf⟩
  all_goals exact fun h=>h
 case op8_=>
  refine ⟨_,rfl,fun T w' hk hb hgr hd K hK=>?_⟩
  rw [if_pos (show Region.wanted _ _=true from rfl)]
  have h_:T.getD 3 undef=.pointer (some ⟨w.heap.size,0,none⟩):=hk.2 3 (by kernel_rfl)
  rw [Array.getD_eq_getD_getElem?] at h_
  have k_:=(HF3.out.later (HDR.out.trans hb)).cell
  have l_:=(HF3.out.later (HDR.out.trans hb)).lt
  clear hk hd
  go_simp
  exact hK.out _ _ (Moved.grow (az HST.out) HH0.out hb (za _ _)) rfl
 case op9_=>
  refine ⟨_,rfl,fun T w' hk hb hgr hd K hK=>?_⟩
  rw [if_pos (show Region.wanted _ _=true from rfl)]
  have d8:=hd 8 (of_decide_eq_true (by kernel_rfl))
  replace d8:T.getD 27 undef=.agg #[.string y.f.pr.name,.slice y.a y.f.pr.terms.length y.c,.int .u32 y.f.o]:=d8
  rw [Array.getD_eq_getD_getElem?] at d8
  clear hk hd
  go_simp
  generalize hW:World.alloc _ _=w4
  obtain ⟨hb4,hz4⟩:=al1 hW
  have hN4:=hW▸heap_alloc_new w' _
  clear hW
  exact hK.out _ _ (Moved.grow (az HST.out) HH0.out hb hb4) ⟨_,rfl,yX HH0.out hb.size,hN4⟩
 case op10_=>
  refine ⟨_,rfl,fun T w' hk hb hgr hd K hK=>?_⟩
  rw [if_pos (show Region.wanted _ _=true from rfl)]
  have d7:=hd 7 (of_decide_eq_true (by kernel_rfl))
  have d9:=hd 9 (of_decide_eq_true (by kernel_rfl))
  obtain ⟨b9,e9,hb9,hc9⟩:=d9
  refine bO (R:=FvR) (e:=33) (.tmp 26) (.tmp 28) 22 rfl (bytes:=48) Tryz.underlying22 hi0 hz0 hz1 hz2 rfl (show 0<3 by omega) cO (xs:=[]++xs.take p) (base:=w3.heap.size) (B:=0) (v:=T.getD 26 undef) (by rfl) d7.2 (by exact e9) (ys:=[y]) (yR hc9 (bg.one (R:=FvR) rfl)) rfl (yZ _) (by simp<;>omega) (by omega) hb.size ?_
  intro v_1 w4 hown hb4 hg hf
  refine hK.out _ _ (Moved.keep (hb.trans hb4) rfl [0,11,12,13,14,15,16,18,19] (by kernel_rfl) ?_) ⟨yZ _,hown⟩
  intro j hj
  simp only [List.mem_cons,List.not_mem_nil,or_false] at hj
  rcases hj with rfl | rfl | rfl | rfl | rfl | rfl | rfl | rfl | rfl
  all_goals exact fun h=>h
 case op11_=>
  refine ⟨_,rfl,fun T w' hk hb hgr hd K hK=>?_⟩
  rw [if_pos (show Region.wanted _ _=true from rfl)]
  have h_:T.getD 0 undef=.pointer (some ⟨M,0,none⟩):=hk.2 0 (by kernel_rfl)
  rw [Array.getD_eq_getD_getElem?] at h_
  clear hk hd
  go_simp
  exact hK.out _ _ (Moved.grow (az HST.out) HH0.out hb (za _ _)) rfl
 case op12_=>
  refine ⟨_,rfl,fun T w' hk hb hgr hd K hK=>?_⟩
  rw [if_pos (show Region.wanted _ _=true from rfl)]
  have d11:=hd 11 (of_decide_eq_true (by kernel_rfl))
  replace d11:T.getD 30 undef=.pointer (some ⟨M,0,none⟩):=d11
  rw [Array.getD_eq_getD_getElem?] at d11
  clear hk hd
  go_simp
  exact hK.out _ _ (Moved.grow (az HST.out) HH0.out hb (za _ _)) rfl
 case op13_=>
  refine ⟨_,rfl,fun T w' hk hb hgr hd K hK=>?_⟩
  rw [if_pos (show Region.wanted _ _=true from rfl)]
  have d12:=hd 12 (of_decide_eq_true (by kernel_rfl))
  replace d12:T.getD 31 undef=.pointer (some ⟨M,0,none⟩):=d12
  rw [Array.getD_eq_getD_getElem?] at d12
  clear hk hd
  go_simp
  exact hK.out _ _ (Moved.grow (az HST.out) HH0.out hb (za _ _)) rfl
 case op14_=>
  refine ⟨_,rfl,fun T w' hk hb hgr hd K hK=>?_⟩
  rw [if_pos (show Region.wanted _ _=true from rfl)]
  have d13:=hd 13 (of_decide_eq_true (by kernel_rfl))
  replace d13:T.getD 32 undef=.pointer (some ⟨M,0,none⟩):=d13
  rw [Array.getD_eq_getD_getElem?] at d13
  have k_:=(HS3.out.later (HDR.out.trans hb)).hd.cell
  have l_:=(HS3.out.later (HDR.out.trans hb)).hd.lt
  clear hk hd
  go_simp
  exact hK.out _ _ (Moved.grow (az HST.out) HH0.out hb (za _ _)) rfl
 case op15_=>
  refine ⟨_,rfl,fun T w' hk hb hgr hd K hK=>?_⟩
  rw [if_pos (show Region.wanted _ _=true from rfl)]
  have h_:T.getD 5 undef=.int .i64 (p:Int):=hk.2 5 (by kernel_rfl)
  rw [Array.getD_eq_getD_getElem?] at h_
  clear hk hd
  go_simp
  exact hK.out _ _ (Moved.grow (az HST.out) HH0.out hb (za _ _)) rfl
 case op16_=>
  refine ⟨_,rfl,fun T w' hk hb hgr hd K hK=>?_⟩
  rw [if_pos (show Region.wanted _ _=true from rfl)]
  have d14:=hd 14 (of_decide_eq_true (by kernel_rfl))
  replace d14:T.getD 33 undef=.slice A xs.length c:=d14
  rw [Array.getD_eq_getD_getElem?] at d14
  have d15:=hd 15 (of_decide_eq_true (by kernel_rfl))
  replace d15:T.getD 34 undef=.int .i64 (p:Int):=d15
  rw [Array.getD_eq_getD_getElem?] at d15
  clear hk hd
  rcases HCS.out with ⟨rfl,rfl,rfl,rfl⟩ | ⟨g,rfl,hg3,hg4⟩
  ·simp only [List.length_nil] at *
   go_simp
   exact hK.out _ _ (Moved.grow (az HST.out) HH0.out hb (za _ _)) ⟨none,0,rfl,.inl rfl⟩
  ·have hP0:(0:Int)≤(p:Int):=Int.natCast_nonneg _
   have hP1:(p:Int)≤(xs.length:Int):=by omega
   have hP2:(p:Int)≤(c:Int):=by omega
   by_cases hpc:p=c
   ·obtain rfl:p=xs.length:=by omega
    subst hpc
    go_simp
    exact hK.out _ _ (Moved.grow (az HST.out) HH0.out hb (za _ _)) ⟨some ⟨g,0,none⟩,0,by simp,.inl (by simp)⟩
   ·have hcp:¬c=p:=fun e=>hpc e.symm
    go_simp
    exact hK.out _ _ (Moved.grow (az HST.out) HH0.out hb (za _ _)) ⟨_,_,by rw [List.length_drop],.inr ⟨g,rfl,rfl⟩⟩
 case op17_=>
  refine ⟨_,rfl,fun T w' hk hb hgr hd K hK=>?_⟩
  rw [if_pos (show Region.wanted _ _=true from rfl)]
  have d10:=hd 10 (of_decide_eq_true (by kernel_rfl))
  have d16:=hd 16 (of_decide_eq_true (by kernel_rfl))
  obtain ⟨A16,c16,e16,h16⟩:=d16
  refine bO (R:=FvR) (e:=33) (.tmp 29) (.tmp 35) 22 rfl (bytes:=48) Tryz.underlying22 hi0 hz0 hz1 hz2 rfl (show 0<3 by omega) cO (xs:=([]++xs.take p)++[y]) (base:=w3.heap.size) (B:=0) (v:=T.getD 29 undef) (by rfl) d10.2 (by exact e16) (ys:=xs.drop p) (wU (HS3.out.later (HDR.out.trans hb)).row hpn h16) rfl (yZ _) (by simp<;>omega) (by omega) hb.size ?_
  intro v_1 w4 hown hb4 hg hf
  refine hK.out _ _ (Moved.keep (hb.trans hb4) rfl [0,18,19] (by kernel_rfl) ?_) ⟨yZ _,hown⟩
  intro j hj
  simp only [List.mem_cons,List.not_mem_nil,or_false] at hj
  rcases hj with rfl | rfl | rfl
  all_goals exact fun h=>h
 case op18_=>
  refine ⟨_,rfl,fun T w' hk hb hgr hd K hK=>?_⟩
  rw [if_pos (show Region.wanted _ _=true from rfl)]
  have d0:=hd 0 (of_decide_eq_true (by kernel_rfl))
  replace d0:T.getD 19 undef=.pointer (some ⟨M,0,none⟩):=d0
  rw [Array.getD_eq_getD_getElem?] at d0
  clear hk hd
  go_simp
  exact hK.out _ _ (Moved.grow (az HST.out) HH0.out hb (za _ _)) rfl
 case op19_=>
  refine ⟨_,rfl,fun T w' hk hb hgr hd K hK=>?_⟩
  rw [if_pos (show Region.wanted _ _=true from rfl)]
  have d18:=hd 18 (of_decide_eq_true (by kernel_rfl))
  replace d18:T.getD 37 undef=.pointer (some ⟨M,0,none⟩):=d18
  rw [Array.getD_eq_getD_getElem?] at d18
  clear hk hd
  go_simp
  exact hK.out _ _ (Moved.grow (az HST.out) HH0.out hb (za _ _)) rfl
 case last_=>
  refine ⟨_,rfl,fun T w' hk hb hgr hd K hK=>?_⟩
  rw [if_pos (show Region.wanted _ _=true from rfl)]
  have d17:=hd 17 (of_decide_eq_true (by kernel_rfl))
  have d19:=hd 19 (of_decide_eq_true (by kernel_rfl))
  replace d19:T.getD 38 undef=.pointer (some ⟨M,0,none⟩):=d19
  replace d17:=d17.2
  obtain ⟨A2,c2,e17⟩:=d17.form
  rw [show T.getD 36 undef=_ from e17] at d17
  replace e17:T.getD 36 undef=_:=e17
  have hb3:=HDR.out.trans hb
  have k_m:=(HS3.out.later hb3).hd.cell
  have f_m:=(HS3.out.later hb3).hd.free
  have l_m:=(HS3.out.later hb3).hd.lt
  have HO:=yW d17
  have HU:=yW hb3
  have hT:=kg hk.1
  obtain ⟨f_,hf_⟩:∃f_:Nat→Value,(fun t=>T.getD t undef)=f_:=⟨_,rfl⟩
  rw [hf_] at hT
  replace e17:f_ 36=_:=(congrFun hf_ 36).symm.trans e17
  replace d19:f_ 38=_:=(congrFun hf_ 38).symm.trans d19
  replace hT:T=#[f_ 0,f_ 1,f_ 2,f_ 3,f_ 4,f_ 5,f_ 6,f_ 7,f_ 8,f_ 9,f_ 10,f_ 11,f_ 12,f_ 13,f_ 14,f_ 15,f_ 16,f_ 17,f_ 18,f_ 19,f_ 20,f_ 21,f_ 22,f_ 23,f_ 24,f_ 25,f_ 26,f_ 27,f_ 28,f_ 29,f_ 30,f_ 31,f_ 32,f_ 33,f_ 34,f_ 35,f_ 36,f_ 37,f_ 38]:=hT
  clear hf_
  subst hT
  rw [e17,d19]
  clear hk hd d17 hb3
  go_simp
  refine hK.out _ _ ?_
  clear hK
  go_wp2_with fail
  go_ret
  exact xK HS.out HF.out HFO.out HAD.out HP.out HB3.out HU.out (by simpa [cv,Nat.min_eq_left hpn] using HO.out)
end Go.Proofs.YtdphibjibnffeaaGreat
