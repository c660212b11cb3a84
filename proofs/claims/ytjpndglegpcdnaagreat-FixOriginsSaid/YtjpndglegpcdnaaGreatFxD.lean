/- fix.Owned as data; store.Has, Len, All. -/
import Derived.Test.YtjpndglegpcdnaaGreatRef3
import Derived.Test.YtjpndglegpcdnaaGreatFc6
import Derived.Test.YtjpndglegpcdnaaGreatPosts2
import Derived.Test.YtjpndglegpcdnaaGreatApp
import Derived.Test.YtjpndglegpcdnaaGreatRule4
import Derived.Deep.Slices
import Derived.Deep.Fields
import Derived.ChangeSame
import Derived.SizedLaws
import Derived.Below
import Derived.Test.YtjpndglegpcdnaaGreatFxAwL
set_option linter.unusedVariables false
set_option linter.unusedSimpArgs false
set_option maxRecDepth 100000
set_option maxHeartbeats 8000000
namespace Go.Proofs.YtjpndglegpcdnaaGreat
open Go.ChangeShapes Go.WideShapes Go.ChangeAt Go.RowKit
theorem allF_ {α:Type} {l:List α} {p:α→Bool} {k:Nat} {x:α} (h:l[k]? = some x) (hp:p x=false):l.all p=false:=by
 rw [List.all_eq_false]
 exact ⟨x,List.mem_of_getElem? h,by rw [hp];simp⟩
theorem allT_ {α:Type} {l:List α} {p:α→Bool} {k:Nat} (hk:l.length≤k) (h:∀i (hi:i<k) (hi':i<l.length),p l[i]=true):l.all p=true:=by
 rw [List.all_eq_true]
 intro x hx
 obtain ⟨i,hi,rfl⟩:=List.getElem_of_mem hx
 exact h i (by omega) hi
structure DSt (base d B:Nat) (w:World) (M:Nat) (xs:List FV) (A:Option Addr) (c:Nat):Prop where
 hd:Blk w M #[.slice A xs.length c]
 lt:M<base
 bw:base≤w.heap.size
 row:am FvR 33 w base 0 (.slice A xs.length c) xs
 ok:∀x∈xs,FcOk x.f
 deep:∀x∈xs,(ax (d+1)).rd w B x.f x.cs
 sort:bB (xs.map FV.f)
 hB:B≤M
section
variable {base d B M c:Nat} {w w':World} {xs:List FV} {A:Option Addr} {K:Nat→Prop}
theorem DSt.agree (h:DSt base d B w M xs A c) (ha:ak K w w') (hK:∀k,K k→k<w.heap.size→B≤k∧¬StM M (.slice A xs.length c) k):DSt base d B w' M xs A c:=by
 have hs:=h.hd.lt
 have hBw:B≤w.heap.size:=by have:=h.hB;omega
 have hb:Below B w w':=ha.below (fun k hk hm=>by have:=h.hB;have:=(hK k hm (by omega)).1;omega) hBw
 exact ⟨ha.blk h.hd (fun hm=>(hK M hm hs).2 (.inl rfl)),h.lt,zv h.bw ha.size,h.row.agree ha (fun k hk hm=>(hK k hm (h.row.lt k hk).2).2 (.inr hk)),h.ok,fun x hx=>(ax (d+1)).keep hb (zw _) (h.deep x hx),h.sort,h.hB⟩
theorem DSt.later (h:DSt base d B w M xs A c) (hb:Below w.heap.size w w'):DSt base d B w' M xs A c:=h.agree (K:=fun _=>False) (ak.of_below hb) (fun _ h=>h.elim)
theorem DSt.rl (h:DSt base d B w M xs A c) (hn:xs.length≤1000000):RL (ax (d+1)) w w.heap.size (xs.map FV.f) A:=by
 obtain ⟨A3,c3,e3,h1,h2,r3⟩:=h.row.reads (zx _) (by show xs.length*(8*3)≤_;omega)
 simp only [zG] at e3
 obtain ⟨rfl,_,rfl⟩:=e3
 have hBw:B≤w.heap.size:=by have:=h.hB;have:=h.hd.lt;omega
 intro h0
 rw [zB] at h0
 obtain ⟨b,off,e,hb,hc⟩:=r3 h0
 refine ⟨b,off,e,hb,fun i hi=>?_⟩
 rw [zB] at hi
 obtain ⟨vs,hl,⟨x,hx,hr⟩,hv⟩:=hc i hi
 obtain rfl:vs=x.cs:=hr
 exact ⟨x.cs,hl,⟨x.f,by rw [List.getElem?_map,hx];rfl,(ax (d+1)).wide hBw (h.deep x (List.mem_of_getElem? hx))⟩,hv⟩
end
theorem vP {base d B B2 M c:Nat} {xs:List FV} {A:Option Addr} {f:Fc} {vf:List Value} {w:World} (hs:DSt base d B w M xs A c) (hf:(ax (d+1)).rd w B2 f vf) (hB:B2≤w.heap.size) (hn:xs.length≤100000) :
 Calls Tryz.prog 60 #[.pointer (some ⟨M,0,none⟩),.agg vf.toArray] w fun z w'=>z=.returned (.tuple #[.int .i64 (iP (xs.map FV.f) f),.bool (eK (xs.map FV.f) f)])∧Below w.heap.size w w':=by
 have HS:=zu hs
 have HF:=zu hf
 obtain ⟨Af,cf,rfl,_⟩:=aF hf
 clear hs hf
 have HLM:Hid ((xs.map FV.f).length=xs.length):=zu (zB _)
 go_enter Tryz.func60,Tryz.ntmps60
 go_upto_region 2 with fail
 generalize hW:World.alloc _ _=w1
 obtain ⟨hb1,hz⟩:=al1 hW
 have HG1:=zu (n11 hW)
 have HB1:=zu hb1
 have hsz1:=hb1.size
 clear hW hb1
 go_loopw [6] (fun i wr=>∃k:Nat,k≤xs.length∧i=.int .i64 k∧Hid (∀i,i<k→csF (xs.map FV.f) f i<0)∧Hid (Below w1.heap.size w1 wr)) (fun i _=>xs.length-(intOf i).toNat)
 case atStart=>exact ⟨0,zx _,rfl,zu (fun i h=>absurd h (by omega)),zu (zy _ _)⟩
 case round=>
  obtain ⟨k,hk,rfl,HZ,HWR⟩:=hrel
  have HBr:=zu (aa HB1.out HWR.out)
  have HSr:=zu (HS.out.later HBr.out)
  have HGr:=zu (HG1.out.later HWR.out)
  have hszr:=HWR.out.size
  have hI0:(0:Int)≤(k:Int):=Int.natCast_nonneg _
  have hnn:(xs.length:Int)≤100000:=by omega
  by_cases hlt:k<xs.length
  ·obtain ⟨g,c9,e9,h1,h2,h3,h4,h5,h6,_⟩:=HSr.out.row.sh aU (by omega)
   simp only [zG,true_and] at e9
   obtain ⟨rfl,rfl⟩:=e9
   obtain ⟨x,hx⟩:∃x,x=xs[k]:=⟨_,rfl⟩
   have c0:wr.cell? ⟨g,k*3,none⟩=some (.string x.f.pr.name):=by rw [hx];exact h5 k hlt 0 _ rfl
   have c1:wr.cell? ⟨g,k*3+1,none⟩=some (.slice x.a x.f.pr.terms.length x.c):=by rw [hx];exact h5 k hlt 1 _ rfl
   have c2:wr.cell? ⟨g,k*3+2,none⟩=some (.int .u32 x.f.o):=by rw [hx];exact h5 k hlt 2 _ rfl
   have HXR:Hid ((ax (d+1)).rd wr B x.f x.cs):=zu (by rw [hx];exact HSr.out.deep _ (List.getElem_mem hlt))
   have HXO:Hid (FcOk x.f):=zu (by rw [hx];exact HSr.out.ok _ (List.getElem_mem hlt))
   have HXA:Hid (csF (xs.map FV.f) f k=aD x.f f):=zu (by rw [iw (by rw [HLM.out];exact hlt),List.getElem_map,hx])
   have HBB:Hid (B≤wr.heap.size):=zu (by have:=HSr.out.hB;have:=HSr.out.hd.lt;omega)
   have hI1:(k:Int)<(xs.length:Int):=by omega
   clear h5 h6 hx
   have HC:=zu (And.intro c0 (And.intro c1 c2))
   have HGL:=zu h1
   clear c0 c1 c2
   have HCL:Hid (∀W:World,Below wr.heap.size wr W→Calls Tryz.prog 42 #[.agg #[.string x.f.pr.name,.slice x.a x.f.pr.terms.length x.c,.int .u32 x.f.o],.agg #[.string f.pr.name,.slice Af f.pr.terms.length cf,.int .u32 f.o]] W fun z w'=>z=.returned (.int .i64 (aD x.f f))∧Below W.heap.size W w'):=zu fun W hw=>
    lI (d:=d) (B:=W.heap.size) (va:=[_,_,_]) (vb:=[_,_,_]) (by have:=HXO.out.few;omega) ((ax (d+1)).wide hw.size ((ax (d+1)).keep hw (zw _) ((ax (d+1)).wide HBB.out HXR.out))) ((ax (d+1)).wide (zv (zv hB HBr.out.size) hw.size) ((ax (d+1)).keep (aa HBr.out hw) hB HF.out)) (zw _)
   obtain ⟨n,hn_⟩:∃n,n=aD x.f f:=⟨_,rfl⟩
   have HNN:=zu hn_
   rw [←hn_] at HXA HCL
   clear hn_
   by_cases hneg:n<0
   ·go_upto_region 2 with fail
    have HWW:Hid (Below wr.heap.size wr wr):=zu (zy _ _)
    have q0:=cell_regrown ((HWW.out.cell (p:=⟨g,k*3,none⟩) HGL.out).trans HC.out.1)
    have q1:=cell_regrown ((HWW.out.cell (p:=⟨g,k*3+1,none⟩) HGL.out).trans HC.out.2.1)
    have q2:=cell_regrown ((HWW.out.cell (p:=⟨g,k*3+2,none⟩) HGL.out).trans HC.out.2.2)
    have q_m:=(HSr.out.later HWW.out).hd.regrown
    have q_f:=(HGr.out.later HWW.out).regrown
    refine wp_region_quiet_below (by kernel_rfl) (by kernel_rfl) ?_
    repeat (go_big_quiet_step ((go_at_call 42;exact Calls.regrown_of (HCL.out _ (Below.trans HWW.out (Below.mono (below_regrown _ _ _) HWW.out.size))))))
    refine wpQuiet_nil ?_
    intro w3 hw_
    have hb:Below wr.heap.size wr w3:=by obtain ⟨p_,rfl⟩:=hw_;exact below_regrown _ _ _
    clear hw_
    clear q0 q1 q2 q_m q_f HWW
    have HB3:=zu (aa HWR.out hb)
    clear hb
    go_wp2_with fail
    go_roundw
    case rel=>exact ⟨k+1,by omega,by go_num,zu (fun i hi=>by
     rcases Nat.lt_or_ge i k with h | h
     ·exact HZ.out i h
     ·obtain rfl:i=k:=by omega
      rw [HXA.out];exact hneg),HB3⟩
    case measure=>simp [intOf];omega
   ·have HPK:Hid (iP (xs.map FV.f) f=k):=zu (nO (by rw [HLM.out];exact hk) HZ.out (fun _=>by rw [HXA.out];exact hneg))
    have HHS:Hid (eK (xs.map FV.f) f=(n==0)):=zu (by
     unfold eK
     rw [HPK.out,HXA.out]
     have:decide (k<(xs.map FV.f).length)=true:=decide_eq_true (by rw [HLM.out];exact hlt)
     rw [this,Bool.true_and,Bool.beq_eq_decide_eq])
    go_upto_region 2 with fail
    have HWW:Hid (Below wr.heap.size wr wr):=zu (zy _ _)
    have q0:=cell_regrown ((HWW.out.cell (p:=⟨g,k*3,none⟩) HGL.out).trans HC.out.1)
    have q1:=cell_regrown ((HWW.out.cell (p:=⟨g,k*3+1,none⟩) HGL.out).trans HC.out.2.1)
    have q2:=cell_regrown ((HWW.out.cell (p:=⟨g,k*3+2,none⟩) HGL.out).trans HC.out.2.2)
    have q_m:=(HSr.out.later HWW.out).hd.regrown
    have q_f:=(HGr.out.later HWW.out).regrown
    refine wp_region_quiet_below (by kernel_rfl) (by kernel_rfl) ?_
    repeat (go_big_quiet_step ((go_at_call 42;exact Calls.regrown_of (HCL.out _ (Below.trans HWW.out (Below.mono (below_regrown _ _ _) HWW.out.size))))))
    refine wpQuiet_nil ?_
    intro w3 hw_
    have hb:Below wr.heap.size wr w3:=by obtain ⟨p_,rfl⟩:=hw_;exact below_regrown _ _ _
    clear hw_
    clear q0 q1 q2 q_m q_f HWW
    have HB3:=zu hb
    clear hb
    go_upto_region 4 with fail
    have HWW:Hid (Below wr.heap.size wr w3):=zu (HB3.out)
    have q0:=cell_regrown ((HWW.out.cell (p:=⟨g,k*3,none⟩) HGL.out).trans HC.out.1)
    have q1:=cell_regrown ((HWW.out.cell (p:=⟨g,k*3+1,none⟩) HGL.out).trans HC.out.2.1)
    have q2:=cell_regrown ((HWW.out.cell (p:=⟨g,k*3+2,none⟩) HGL.out).trans HC.out.2.2)
    have q_m:=(HSr.out.later HWW.out).hd.regrown
    have q_f:=(HGr.out.later HWW.out).regrown
    refine wp_region_quiet_below (by kernel_rfl) (by kernel_rfl) ?_
    repeat (go_big_quiet_step ((go_at_call 42;exact Calls.regrown_of (HCL.out _ (Below.trans HWW.out (Below.mono (below_regrown _ _ _) HWW.out.size))))))
    refine wpQuiet_nil ?_
    intro w4 hw_
    have hb:Below w3.heap.size w3 w4:=by obtain ⟨p_,rfl⟩:=hw_;exact below_regrown _ _ _
    clear hw_
    clear q0 q1 q2 q_m q_f
    go_wp2_with fail
    go_ret2
    exact ⟨by rw [HPK.out,HHS.out];rfl,aa HBr.out (aa HB3.out hb)⟩
  ·have hkk:k=xs.length:=by omega
   have HPK:Hid (iP (xs.map FV.f) f=k):=zu (nO (by rw [HLM.out];exact hk) HZ.out (fun h=>by rw [HLM.out] at h;omega))
   have HHS:Hid (eK (xs.map FV.f) f=false):=zu (by
    unfold eK
    rw [HPK.out]
    have:decide (k<(xs.map FV.f).length)=false:=decide_eq_false (by rw [HLM.out];exact hlt)
    rw [this,Bool.false_and])
   have hgd:¬((k:Int)<(xs.length:Int)):=by omega
   clear hkk
   have q_m:=HSr.out.hd.regrown
   have q_f:=HGr.out.regrown
   go_upto_region 2 with fail
   refine wp_region_quiet_below (by kernel_rfl) (by kernel_rfl) ?_
   repeat (go_big_quiet_step (fail))
   refine wpQuiet_nil ?_
   intro w3 hw_
   have hb:Below wr.heap.size wr w3:=by obtain ⟨p_,rfl⟩:=hw_;exact below_regrown _ _ _
   clear hw_
   clear q_m q_f
   have HB3:=zu hb
   clear hb
   have q_m:=(HSr.out.later HB3.out).hd.regrown
   have q_f:=(HGr.out.later HB3.out).regrown
   go_upto_region 4 with fail
   refine wp_region_quiet_below (by kernel_rfl) (by kernel_rfl) ?_
   repeat (go_big_quiet_step (fail))
   refine wpQuiet_nil ?_
   intro w4 hw_
   have hb:Below w3.heap.size w3 w4:=by obtain ⟨p_,rfl⟩:=hw_;exact below_regrown _ _ _
   clear hw_
   clear q_m q_f
   go_wp2_with fail
   go_ret2
   exact ⟨by rw [HPK.out,HHS.out];rfl,aa HBr.out (aa HB3.out hb)⟩
theorem qZ {d B:Nat} {f:Fc} {vf:List Value} {w:World} (hf:(ax d).rd w B f vf) (hB:B≤w.heap.size) :
 Calls Tryz.prog 61 #[.agg vf.toArray] w fun z w'=>z=.returned (.bool (aC f))∧Below w.heap.size w w':=by
 have HF:=zu hf
 obtain ⟨A,c,rfl,hs,h1,h2,_,hl,ho⟩:=aF hf
 have HL:=zu hl
 have HO:=zu ho
 clear hl hf ho
 go_enter Tryz.func61,Tryz.ntmps61
 go_wp2_with fail
 generalize hW:World.alloc _ _=W
 obtain ⟨hb,hz⟩:=al1 hW
 have ba:=n11 hW
 have HB1:=zu hb
 have hB1:B≤W.heap.size:=by omega
 clear hW hz hb
 go_loopw [9] (fun i wr=>∃k:Nat,k≤f.pr.terms.length∧i=.int .i64 k∧Below W.heap.size W wr∧∀i (hi:i<k) (hi':i<f.pr.terms.length),af f.pr.terms[i]=true) (fun i _=>f.pr.terms.length-(intOf i).toNat)
 case atStart=>exact ⟨0,zx _,rfl,zy _ _,fun i h=>absurd h (by omega)⟩
 case round=>
  obtain ⟨k,hk,rfl,hbw,hall⟩:=hrel
  have HA:=zu hall
  clear hall
  by_cases hlt:k<f.pr.terms.length
  ·have hl:=HL.out.keep HB1.out hB
   obtain ⟨b,off,rfl,hob⟩:=hl.base hbw hB1 (by omega)
   obtain ⟨x,vs,hx,hlen,hcell,hr⟩:=hl.at_ hbw hB1 hlt
   obtain ⟨Ax,cx,rfl,_⟩:=RTm.cells hr
   have hr:RTm wr wr.heap.size d x [.int .i64 x.kind,.int .i64 x.n,.string x.s,.slice Ax x.l.length cx]:=RTm.more (zv hB1 hbw.size) hr
   have p0:wr.cell? ⟨b,off+k*4,none⟩=some (.int .i64 x.kind):=hcell 0 _ rfl
   have p1:wr.cell? ⟨b,off+k*4+1,none⟩=some (.int .i64 x.n):=hcell 1 _ rfl
   have p2:wr.cell? ⟨b,off+k*4+2,none⟩=some (.string x.s):=hcell 2 _ rfl
   have p3:wr.cell? ⟨b,off+k*4+3,none⟩=some (.slice Ax x.l.length cx):=hcell 3 _ rfl
   have HR:=zu hr
   have HX:=zu hx
   have HW:=zu hbw
   have hszr:=hbw.size
   clear hl hcell hlen hr hx hbw
   go_wp2_with fail
   generalize hW2:World.alloc _ _=w2
   obtain ⟨hb2,hz2⟩:=al1 hW2
   clear hW2 p0 p1 p2 p3
   refine (pE (d:=d) (B:=wr.heap.size) (vs:=[_,_,_,_]) (RTm.below hb2 (zw _) HR.out) (by omega)).mono ?_
   rintro e w3 ⟨rfl,hb3⟩
   have HB3:=zu (aa HW.out (aa hb2 hb3))
   clear hb2 hb3 hz2
   by_cases hm:af x=true
   ·have HM:=zu hm
    rw [hm]
    clear hm
    go_wp2_with fail
    go_roundw
    case rel=>exact ⟨k+1,by omega,by go_num,HB3.out,fun i hi hi'=>by
     rcases Nat.lt_or_ge i k with h1 | h1
     ·exact HA.out i h1 hi'
     ·obtain rfl:i=k:=by omega
      rw [(List.getElem?_eq_some_iff.1 HX.out).2];exact HM.out⟩
    case measure=>simp [intOf];omega
   ·simp only [Bool.not_eq_true] at hm
    have HALL:=zu (allF_ HX.out hm)
    rw [hm]
    clear hm
    go_wp2_with fail
    go_ret
    exact ⟨ac (by unfold aC;rw [HALL.out];simp),aa HB1.out HB3.out⟩
  ·have HALL:=zu (allT_ (show f.pr.terms.length≤k by omega) HA.out)
   have HB2:=zu (aa HB1.out hbw)
   have ca:=(ba.later hbw).cell
   have la:=(ba.later hbw).lt
   clear hbw HA
   by_cases hnm:dO (bs f.pr.name)=true
   ·by_cases hle:f.pr.terms.length≤8
    ·have hle':(f.pr.terms.length:Int)≤8:=by omega
     have HNM:=zu hnm
     have HLE:=zu hle
     clear hle
     by_cases ho0:f.o=0
     ·have hoo:(f.o !=0)=false:=by rw [ho0];rfl
      have HST:Hid (aC f=false):=zu (by unfold aC;simp [ho0])
      clear ho0
      go_wp2_with fail
      refine (ej f.pr.name _ (by unfold maxLen;omega)).mono ?_
      rintro e w3 ⟨rfl,rfl⟩
      rw [HNM.out]
      go_wp2_with fail
      go_ret
      exact ⟨ac HST.out.symm,HB2.out⟩
     ·have hoo:(f.o !=0)=true:=by simpa using ho0
      have HST:Hid (aC f=true):=zu (by unfold aC;simp [ho0,HNM.out,HLE.out,HALL.out])
      clear ho0
      go_wp2_with fail
      refine (ej f.pr.name _ (by unfold maxLen;omega)).mono ?_
      rintro e w3 ⟨rfl,rfl⟩
      rw [HNM.out]
      go_wp2_with fail
      go_ret
      exact ⟨ac HST.out.symm,HB2.out⟩
    ·have hle':¬(f.pr.terms.length:Int)≤8:=by omega
     have HNM:=zu hnm
     have HST:Hid (aC f=false):=zu (by unfold aC;simp [hle])
     clear hle
     go_wp2_with fail
     refine (ej f.pr.name _ (by unfold maxLen;omega)).mono ?_
     rintro e w3 ⟨rfl,rfl⟩
     rw [HNM.out]
     go_wp2_with fail
     go_ret
     exact ⟨ac HST.out.symm,HB2.out⟩
   ·have hnm':dO (bs f.pr.name)=false:=by simpa using hnm
    have HNM:=zu hnm'
    have HST:Hid (aC f=false):=zu (by unfold aC;simp [hnm'])
    clear hnm hnm'
    go_wp2_with fail
    refine (ej f.pr.name _ (by unfold maxLen;omega)).mono ?_
    rintro e w3 ⟨rfl,rfl⟩
    rw [HNM.out]
    go_wp2_with fail
    go_ret
    exact ⟨ac HST.out.symm,HB2.out⟩
def sp (base d B M:Nat) (w w':World) (xs:List FV) (A:Option Addr) (c:Nat) (f:Fc) (z:Ending):Prop:=
 ∃xs' A' c',z=.returned (.bool (mb (xs.map FV.f) f))∧xs'.map FV.f=eJ (xs.map FV.f) f∧DSt base d B w' M xs' A' c'∧ak (fun k=>k=M) w w'∧bA w (.slice A xs.length c) (.slice A' xs'.length c')
theorem sp.no {base d B M c:Nat} {w w':World} {xs:List FV} {A:Option Addr} {f:Fc} (h:DSt base d B w M xs A c) (hb:Below w.heap.size w w') (hn:mb (xs.map FV.f) f=false):sp base d B M w w' xs A c f (.returned (.bool false)):=
 ⟨xs,A,c,by rw [hn],by unfold eJ;rw [hn];rfl,h.later hb,(ak.of_below (M:=fun _=>False) hb).mono (fun _ _ h=>h.elim),.inl rfl⟩
theorem zf (x:FV):x.cs.length=3:=rfl
theorem ld:∀{ys:List FV} {j:Nat} {u:Value},(ys.flatMap FV.cs)[j]? = some u→∃i b,∃hi:i<ys.length,b<3∧j=i*3+b∧(ys[i].cs)[b]? = some u
 | [],j,u,h=>by simp at h
 | y::ys,j,u,h=>by
   rw [List.flatMap_cons] at h
   by_cases hj:j<3
   ·rw [List.getElem?_append_left (by rw [zf];exact hj)] at h
    exact ⟨0,j,by simp,hj,by omega,h⟩
   ·rw [List.getElem?_append_right (by rw [zf];omega),zf] at h
    obtain ⟨i,b,hi,hb,e,hu⟩:=ld h
    exact ⟨i+1,b,by simpa using hi,hb,by omega,hu⟩
theorem uW:∀(ys:List FV) {w:World} {B:Nat},bp FvR w B ys (ys.flatMap FV.cs)
 | [],w,B=>bp.nil
 | y::ys,w,B=>by
   have h:bp FvR w B ([y]++ys) (y.cs++ys.flatMap FV.cs):=(bp.one (R:=FvR) (x:=y) (vs:=y.cs) rfl).append (uW ys)
   exact h
theorem wl {w:World} {base n c p m:Nat} {xs:List FV} {g:Nat} (h:am FvR 33 w base 0 (.slice (some ⟨g,0,none⟩) n c) xs) (hp:p+m≤xs.length):fu FvR w 0 (some ⟨g,p*3,none⟩) ((xs.drop p).take m):=by
 rcases Nat.eq_zero_or_pos xs.length with h0 | h0
 ·have:(xs.drop p).take m=[]:=by rw [List.length_eq_zero_iff.1 h0];simp
  rw [this]
  exact ⟨[],bp.nil,fun h=>(by cases h),fun a _ j u h=>by simp at h⟩
 obtain ⟨g',c',e,_,_,_,_,hc,_⟩:=h.sh aU h0
 simp only [zG,zE,Addr.mk.injEq,true_and,and_true] at e
 obtain ⟨rfl,_⟩:=e
 have hl:(((xs.drop p).take m)).length=m:=by rw [zK,List.length_drop];omega
 refine ⟨((xs.drop p).take m).flatMap FV.cs,?_,fun h=>(by cases h),?_⟩
 ·exact uW _
 ·intro a ha j u hj
  simp only [zE] at ha
  subst ha
  obtain ⟨i,b,hi,hb,rfl,hu⟩:=ld hj
  have hi0:=hi
  rw [hl] at hi
  have hx:((xs.drop p).take m)[i]'hi0=xs[p+i]'(by omega):=by rw [List.getElem_take,List.getElem_drop]
  rw [hx] at hu
  have:=hc (p+i) (by omega) b u hu
  have e0:(⟨g,p*3,none⟩:Addr).add (i*3+b)=⟨g,p*3+(i*3+b),none⟩:=by unfold Addr.add;split<;>simp_all
  rw [e0]
  rw [←this]
  congr 2
  show _=(p+i)*3+b
  omega
theorem at_app {w w':World} {v v':Value} {k:Nat} {cs:Array Value} {T:TypeId} (h:w.heap[k]? = some (.cells cs T (0,0))) (hn:v.ownBlock≠some k) (hg:w.grownBy w' v.ownBlock) (hf:bA w v v'):w'.heap[k]? = some (.cells cs T (0,0)):=(fA.app (fA.mk' h hn) hg hf).1
theorem wm {α:Type} {R:Reader α} {w:World} {a:Addr} {ys:List α} (h:ys=[]):fu R w 0 (some a) ys:=by
 subst h
 exact ⟨[],bp.nil,fun h=>(by cases h),fun a _ j u h=>by simp at h⟩
def CutF (xs:List FV) (p:Nat) (A:Option Addr) (v:Value):Prop:=∃A2 c2,v=.slice A2 (xs.drop p).length c2∧(xs.drop p=[]∨∃g,A=some ⟨g,0,none⟩∧A2=some ⟨g,p*3,none⟩)
theorem xv {w:World} {base c p:Nat} {xs:List FV} {A:Option Addr} (h:am FvR 33 w base 0 (.slice A xs.length c) xs) (hp:p≤xs.length):fu FvR w 0 A (xs.take p):=by
 rcases A with _ | a
 ·obtain ⟨rfl,_⟩:=am.none_nil h
  exact fu.none (by simp)
 ·obtain ⟨g,rfl,_⟩:=am.some_row h
  have h:=wl (p:=0) (m:=p) h (by omega)
  rwa [Nat.zero_mul,List.drop_zero] at h
theorem xw {w:World} {base c p:Nat} {xs:List FV} {A A2:Option Addr} (h:am FvR 33 w base 0 (.slice A xs.length c) xs) (hp:p≤xs.length) (hc:xs.drop p=[]∨∃g,A=some ⟨g,0,none⟩∧A2=some ⟨g,p*3,none⟩):fu FvR w 0 A2 (xs.drop p):=by
 rcases hc with hc | ⟨g,rfl,rfl⟩
 ·rcases A2 with _ | a
  ·exact fu.none hc
  ·exact wm hc
 ·have h:=wl (p:=p) (m:=xs.length-p) h (by omega)
  rwa [List.take_of_length_le (by rw [List.length_drop];omega)] at h
theorem yf {base d B M c:Nat} {xs:List FV} {A A2:Option Addr} {c2 p n2:Nat} {y:FV} {w w3 w4:World} (hs:DSt base d B w M xs A c) (hf:(ax (d+1)).rd w B y.f y.cs) (hok:FcOk y.f) (had:mb (xs.map FV.f) y.f=true) (hp:p=iP (xs.map FV.f) y.f) (hb3:Below w.heap.size w w3) (hb4:Below w3.heap.size w3 w4)
 (ho:am FvR 33 w4 w3.heap.size 0 (.slice A2 n2 c2) (cI xs p y)):sp base d B M w (w4.setCell ⟨M,0,none⟩ (.slice A2 n2 c2)) xs A c y.f (.returned (.bool true)):=by
 have hml:=hs.hd.lt
 have hl:n2=(cI xs p y).length:=by obtain ⟨A',c',e⟩:=ho.form;cases e;rfl
 subst hl
 have hB:=hs.hB
 have hs3:=hb3.size
 have hb:Below w.heap.size w w4:=aa hb3 hb4
 have hag:ak (fun k=>k=M) w (w4.setCell ⟨M,0,none⟩ (.slice A2 (cI xs p y).length c2)):=ak.set_ (M:=fun k=>k=M) ((ak.of_below (M:=fun _=>False) hb).mono (fun _ _ h=>h.elim)) (fun _=>rfl) 0 _
 have hBel:Below B w (w4.setCell ⟨M,0,none⟩ (.slice A2 (cI xs p y).length c2)):=hag.below (fun k hk hm=>by omega) (by omega)
 refine ⟨cI xs p y,A2,c2,by rw [had],?_,⟨(hs.hd.later hb).set_ 0 _,hs.lt,?_,(ho.far (by omega) (zx _) _).lower (zv hs.bw hs3),fun x hx=>?_,fun x hx=>?_,?_,hs.hB⟩,hag,?_⟩
 ·unfold eJ
  rw [if_pos had,kn FV.f,hp]
 ·have:=hs.bw;have:=hag.size;omega
 ·rcases du.1 hx with rfl | hx
  ·exact hok
  ·exact hs.ok x hx
 ·rcases du.1 hx with rfl | hx
  ·exact (ax (d+1)).keep hBel (zw _) hf
  ·exact (ax (d+1)).keep hBel (zw _) (hs.deep x hx)
 ·rw [kn FV.f,hp]
  exact jx hs.sort (by unfold mb at had;rw [zC,Bool.not_eq_true'] at had;exact had.2)
 ·rcases hv:(Value.slice A2 (cI xs p y).length c2).ownBlock with _ | k
  ·exact absurd hv (fun e=>by
    have hne:(cI xs p y).length≠0:=by simp [cI]
    obtain ⟨g,c',e',_⟩:=ho.sh aU (by omega)
    cases e'
    simp [Value.ownBlock] at e)
  ·exact .inr ⟨k,hv,zv hs3 (ho.lt k hv).1⟩
theorem tz {base d B M c:Nat} {xs:List FV} {A:Option Addr} {y:FV} {w:World} (hs:DSt base d B w M xs A c) (hf:(ax (d+1)).rd w B y.f y.cs) (hn:xs.length≤100000) :
 Calls Tryz.prog 41 #[.pointer (some ⟨M,0,none⟩),.agg y.cs.toArray] w fun z w'=>sp base d B M w w' xs A c y.f z:=by
 have HS:=zu hs
 have HF:=zu hf
 have hml:=hs.hd.lt
 have hBM:=hs.hB
 have HFI:Hid (y.f.pr.name.size≤140737488351232∧U32 y.f.o):=zu (by obtain ⟨_,_,_,h1,_,_,_,_,h2⟩:=aF hf;exact ⟨h1,h2⟩)
 clear hs hf
 obtain ⟨i0,hi0,hz0,hz1,hz2⟩:=info_parts fd
 show Calls Tryz.prog 41 #[_,.agg #[.string y.f.pr.name,.slice y.a y.f.pr.terms.length y.c,.int .u32 y.f.o]] w _
 go_enter Tryz.func41,Tryz.ntmps41
 go_wp2_with fail
 generalize hW:World.alloc _ _=w1
 obtain ⟨hb1,hz⟩:=al1 hW
 have HF1:=zu (n11 hW)
 have HB1:=zu hb1
 have HS1:=zu (HS.out.later hb1)
 clear hW hb1
 refine (vP (f:=y.f) (vf:=y.cs) (B2:=B) HS1.out ((ax (d+1)).keep HB1.out (by omega) HF.out) (by have:=HB1.out.size;omega) hn).mono ?_
 rintro z w2 ⟨rfl,hb⟩
 have HF2:=zu (HF1.out.later hb)
 have HB2:=zu (aa HB1.out hb)
 clear hb
 obtain ⟨p,hp⟩:∃p,p=iP (xs.map FV.f) y.f:=⟨_,rfl⟩
 obtain ⟨q,hq⟩:∃q,q=eK (xs.map FV.f) y.f:=⟨_,rfl⟩
 have hpn:p≤xs.length:=by rw [hp];have:=lD (fs:=xs.map FV.f) (f:=y.f);rwa [zB] at this
 have HP:=zu hp
 have HQ:=zu hq
 rw [←hp,←hq]
 clear hp hq
 have k_f:=HF2.out.cell
 have l_f:=HF2.out.lt
 cases q
 rotate_left
 ·go_wp2_with fail
  go_ret
  exact sp.no HS.out HB2.out (by unfold mb;rw [←HQ.out];simp)
 go_wp2_with fail
 refine (qZ (d:=d+1) (B:=B) (f:=y.f) (vf:=[_,_,_]) ((ax (d+1)).keep HB2.out (by omega) HF.out) (by have:=HB2.out.size;omega)).mono ?_
 rintro z w3 ⟨rfl,hb⟩
 have HF3:=zu (HF2.out.later hb)
 have HB3:=zu (aa HB2.out hb)
 have HS3:=zu (HS.out.later HB3.out)
 have hsz3:=HB3.out.size
 clear hb k_f l_f
 obtain ⟨sb,hsb⟩:∃sb,sb=aC y.f:=⟨_,rfl⟩
 have HSB:=zu hsb
 rw [←hsb]
 clear hsb
 cases sb
 ·go_wp2_with fail
  go_ret
  exact sp.no HS.out HB3.out (gh HSB.out.symm)
 have HAD:Hid (mb (xs.map FV.f) y.f=true):=zu (by unfold mb;rw [←HSB.out,←HQ.out];rfl)
 have HFO:=zu (iX HSB.out.symm HFI.out.1 HFI.out.2)
 go_upto_region 4 with fail
 have HCS:Hid ((A=none∧xs=[]∧c=0∧p=0)∨∃g,A=some ⟨g,0,none⟩∧xs.length≤c∧c≤9223372036854775807):=zu (by
  rcases A with _ | a
  ·obtain ⟨h1,h2⟩:=am.none_nil HS.out.row
   subst h1
   exact .inl ⟨rfl,rfl,h2,by simpa using hpn⟩
  ·obtain ⟨g,rfl,h3,h4⟩:=am.some_row HS.out.row
   exact .inr ⟨g,rfl,h3,h4⟩)
 have HST:Hid (yJ [fun v _=>v=.pointer (some ⟨M,0,none⟩),fun v _=>v=.pointer (some ⟨M,0,none⟩),fun v _=>v=.pointer (some ⟨M,0,none⟩),fun v _=>v=.pointer (some ⟨M,0,none⟩),fun v _=>v=.slice A xs.length c,fun v _=>v=.int .i64 (p:Int),fun v _=>v=.slice A p c,pY FvR 33 w3.heap.size 0 ([]++xs.take p),fun v _=>v=.agg #[.string y.f.pr.name,.slice y.a y.f.pr.terms.length y.c,.int .u32 y.f.o],pZ w3.heap.size 1 #[.string y.f.pr.name,.slice y.a y.f.pr.terms.length y.c,.int .u32 y.f.o] 33,pY FvR 33 w3.heap.size 0 ([]++xs.take p++[y]),fun v _=>v=.pointer (some ⟨M,0,none⟩),fun v _=>v=.pointer (some ⟨M,0,none⟩),fun v _=>v=.pointer (some ⟨M,0,none⟩),fun v _=>v=.slice A xs.length c,fun v _=>v=.int .i64 (p:Int),fun v _=>CutF xs p A v,pY FvR 33 w3.heap.size 0 (([]++xs.take p)++[y]++xs.drop p),fun v _=>v=.pointer (some ⟨M,0,none⟩),fun v _=>v=.pointer (some ⟨M,0,none⟩)]):=zu ⟨Stb.val _,⟨Stb.val _,⟨Stb.val _,⟨Stb.val _,⟨Stb.val _,⟨Stb.val _,⟨Stb.val _,⟨Stb.own _ _ _ _ _,⟨Stb.val _,⟨Stb.row _ _ _ _,⟨Stb.own _ _ _ _ _,⟨Stb.val _,⟨Stb.val _,⟨Stb.val _,⟨Stb.val _,⟨Stb.val _,⟨Stb.val _,⟨Stb.own _ _ _ _ _,⟨Stb.val _,⟨Stb.val _,trivial⟩⟩⟩⟩⟩⟩⟩⟩⟩⟩⟩⟩⟩⟩⟩⟩⟩⟩⟩⟩
 have HH0:Hid (w3.heap.size≤w3.drew.heap.size):=zu (zw _)
 have HDR:Hid (Below w3.heap.size w3 w3.drew):=zu (zy _ _).drew
 refine cT 20 (nQ [fun v _=>v=.pointer (some ⟨M,0,none⟩),fun v _=>v=.pointer (some ⟨M,0,none⟩),fun v _=>v=.pointer (some ⟨M,0,none⟩),fun v _=>v=.pointer (some ⟨M,0,none⟩),fun v _=>v=.slice A xs.length c,fun v _=>v=.int .i64 (p:Int),fun v _=>v=.slice A p c,pY FvR 33 w3.heap.size 0 ([]++xs.take p),fun v _=>v=.agg #[.string y.f.pr.name,.slice y.a y.f.pr.terms.length y.c,.int .u32 y.f.o],pZ w3.heap.size 1 #[.string y.f.pr.name,.slice y.a y.f.pr.terms.length y.c,.int .u32 y.f.o] 33,pY FvR 33 w3.heap.size 0 ([]++xs.take p++[y]),fun v _=>v=.pointer (some ⟨M,0,none⟩),fun v _=>v=.pointer (some ⟨M,0,none⟩),fun v _=>v=.pointer (some ⟨M,0,none⟩),fun v _=>v=.slice A xs.length c,fun v _=>v=.int .i64 (p:Int),fun v _=>CutF xs p A v,pY FvR 33 w3.heap.size 0 (([]++xs.take p)++[y]++xs.drop p),fun v _=>v=.pointer (some ⟨M,0,none⟩),fun v _=>v=.pointer (some ⟨M,0,none⟩)]) [7,10,17] (w3.heap.size) HH0.out (by kernel_rfl) (by kernel_rfl) (by kernel_rfl) (by kernel_rfl) (by kernel_rfl) rfl (ae (ae (ae (ae (ae (ae (ae (ae (ae (ae (ae (ae (ae (ae (ae (ae (ae (ae (ae (ae iQ ?op0_) ?op1_) ?op2_) ?op3_) ?op4_) ?op5_) ?op6_) ?op7_) ?op8_) ?op9_) ?op10_) ?op11_) ?op12_) ?op13_) ?op14_) ?op15_) ?op16_) ?op17_) ?op18_) ?op19_) ?last_
 case op0_=>
  refine mvA fun T w' hk hb hgr hd K hK=>?_
  have h_:T[0]?.getD undef=.pointer (some ⟨M,0,none⟩):=gqd (mvK hk 0)
  clear hk hd
  go_simp
  exact hK.out _ _ (mvM HST HH0 hb) rfl
 case op1_=>
  refine mvA fun T w' hk hb hgr hd K hK=>?_
  have h_:T[0]?.getD undef=.pointer (some ⟨M,0,none⟩):=gqd (mvK hk 0)
  clear hk hd
  go_simp
  exact hK.out _ _ (mvM HST HH0 hb) rfl
 case op2_=>
  refine mvA fun T w' hk hb hgr hd K hK=>?_
  have d1:T[20]?.getD undef=.pointer (some ⟨M,0,none⟩):=gqd (mvD hd 1)
  clear hk hd
  go_simp
  exact hK.out _ _ (mvM HST HH0 hb) rfl
 case op3_=>
  refine mvA fun T w' hk hb hgr hd K hK=>?_
  have d2:T[21]?.getD undef=.pointer (some ⟨M,0,none⟩):=gqd (mvD hd 2)
  clear hk hd
  go_simp
  exact hK.out _ _ (mvM HST HH0 hb) rfl
 case op4_=>
  refine mvA fun T w' hk hb hgr hd K hK=>?_
  have d3:T[22]?.getD undef=.pointer (some ⟨M,0,none⟩):=gqd (mvD hd 3)
  have k_:=(HS3.out.later (HDR.out.trans hb)).hd.cell
  have l_:=(HS3.out.later (HDR.out.trans hb)).hd.lt
  clear hk hd
  go_simp
  exact hK.out _ _ (mvM HST HH0 hb) rfl
 case op5_=>
  refine mvA fun T w' hk hb hgr hd K hK=>?_
  have h_:T[5]?.getD undef=.int .i64 (p:Int):=gqd (mvK hk 5)
  clear hk hd
  go_simp
  exact hK.out _ _ (mvM HST HH0 hb) rfl
 case op6_=>
  refine mvA fun T w' hk hb hgr hd K hK=>?_
  have d4:T[23]?.getD undef=.slice A xs.length c:=gqd (mvD hd 4)
  have d5:T[24]?.getD undef=.int .i64 (p:Int):=gqd (mvD hd 5)
  clear hk hd
  rcases HCS.out with ⟨rfl,rfl,rfl,rfl⟩ | ⟨g,rfl,hg3,hg4⟩
  ·simp only [List.length_nil] at *
   go_simp
   exact hK.out _ _ (mvM HST HH0 hb) rfl
  ·have hP0:(0:Int)≤(p:Int):=Int.natCast_nonneg _
   have hP1:(p:Int)≤(xs.length:Int):=by omega
   have hP2:(p:Int)≤(c:Int):=by omega
   go_simp
   exact hK.out _ _ (mvM HST HH0 hb) rfl
 case op7_=>
  refine mvA fun T w' hk hb hgr hd K hK=>?_
  have d6:=mvD hd 6
  replace d6:T.getD 25 undef=_:=d6
  refine dD (R:=FvR) (e:=33) (.const (.slice none 0 0)) (.tmp 25) 23 rfl (bytes:=48) Tryz.underlying23 hi0 hz0 hz1 hz2 rfl (show 0<3 by omega) bD (xs:=[]) (base:=w3.heap.size) (B:=0) (v:=.slice none 0 0) (by rfl) (am.nil _ _ _ _ _) (by exact d6) (ys:=xs.take p) (xv (HS3.out.later (HDR.out.trans hb)).row hpn) (by rw [zK];omega) (zx _) (by simp<;>omega) (by omega) hb.size ?_
  intro v_1 w4 hown hb4 hg hf
  refine hK.out _ _ (Moved.keep (hb.trans hb4) rfl [0,8,9,11,12,13,14,15,16,18,19] (by kernel_rfl) ?_) ⟨zx _,hown⟩
  intro j hj
  simp only [List.mem_cons,List.not_mem_nil,or_false] at hj
  rcases hj with rfl | rfl | rfl | rfl | rfl | rfl | rfl | rfl | rfl | rfl | rfl
  rotate_left 2
  ·exact fun ⟨b,e,h2,h3⟩=>⟨b,e,h2,at_app h3 (fun h=>by cases h) hg hf⟩
  all_goals exact fun h=>h
 case op8_=>
  refine mvA fun T w' hk hb hgr hd K hK=>?_
  have h_:T[3]?.getD undef=.pointer (some ⟨w.heap.size,0,none⟩):=gqd (mvK hk 3)
  have k_:=(HF3.out.later (HDR.out.trans hb)).cell
  have l_:=(HF3.out.later (HDR.out.trans hb)).lt
  clear hk hd
  go_simp
  exact hK.out _ _ (mvM HST HH0 hb) rfl
 case op9_=>
  refine mvA fun T w' hk hb hgr hd K hK=>?_
  have d8:T[27]?.getD undef=.agg #[.string y.f.pr.name,.slice y.a y.f.pr.terms.length y.c,.int .u32 y.f.o]:=gqd (mvD hd 8)
  clear hk hd
  go_simp
  generalize hW:World.alloc _ _=w4
  obtain ⟨hb4,hz4⟩:=al1 hW
  have hN4:=hW▸heap_alloc_new w' _
  clear hW
  exact hK.out _ _ (mvN HST HH0 hb hb4) ⟨_,rfl,zv HH0.out hb.size,hN4⟩
 case op10_=>
  refine mvA fun T w' hk hb hgr hd K hK=>?_
  have d7:=mvD hd 7
  have d9:=mvD hd 9
  obtain ⟨b9,e9,hb9,hc9⟩:=d9
  refine dD (R:=FvR) (e:=33) (.tmp 26) (.tmp 28) 23 rfl (bytes:=48) Tryz.underlying23 hi0 hz0 hz1 hz2 rfl (show 0<3 by omega) bD (xs:=[]++xs.take p) (base:=w3.heap.size) (B:=0) (v:=T.getD 26 undef) (by rfl) d7.2 (by exact e9) (ys:=[y]) (ym hc9 (bp.one (R:=FvR) rfl)) rfl (zx _) (by simp<;>omega) (by omega) hb.size ?_
  intro v_1 w4 hown hb4 hg hf
  refine hK.out _ _ (Moved.keep (hb.trans hb4) rfl [0,11,12,13,14,15,16,18,19] (by kernel_rfl) ?_) ⟨zx _,hown⟩
  intro j hj
  simp only [List.mem_cons,List.not_mem_nil,or_false] at hj
  rcases hj with rfl | rfl | rfl | rfl | rfl | rfl | rfl | rfl | rfl
  all_goals exact fun h=>h
 case op11_=>
  refine mvA fun T w' hk hb hgr hd K hK=>?_
  have h_:T[0]?.getD undef=.pointer (some ⟨M,0,none⟩):=gqd (mvK hk 0)
  clear hk hd
  go_simp
  exact hK.out _ _ (mvM HST HH0 hb) rfl
 case op12_=>
  refine mvA fun T w' hk hb hgr hd K hK=>?_
  have d11:T[30]?.getD undef=.pointer (some ⟨M,0,none⟩):=gqd (mvD hd 11)
  clear hk hd
  go_simp
  exact hK.out _ _ (mvM HST HH0 hb) rfl
 case op13_=>
  refine mvA fun T w' hk hb hgr hd K hK=>?_
  have d12:T[31]?.getD undef=.pointer (some ⟨M,0,none⟩):=gqd (mvD hd 12)
  clear hk hd
  go_simp
  exact hK.out _ _ (mvM HST HH0 hb) rfl
 case op14_=>
  refine mvA fun T w' hk hb hgr hd K hK=>?_
  have d13:T[32]?.getD undef=.pointer (some ⟨M,0,none⟩):=gqd (mvD hd 13)
  have k_:=(HS3.out.later (HDR.out.trans hb)).hd.cell
  have l_:=(HS3.out.later (HDR.out.trans hb)).hd.lt
  clear hk hd
  go_simp
  exact hK.out _ _ (mvM HST HH0 hb) rfl
 case op15_=>
  refine mvA fun T w' hk hb hgr hd K hK=>?_
  have h_:T[5]?.getD undef=.int .i64 (p:Int):=gqd (mvK hk 5)
  clear hk hd
  go_simp
  exact hK.out _ _ (mvM HST HH0 hb) rfl
 case op16_=>
  refine mvA fun T w' hk hb hgr hd K hK=>?_
  have d14:T[33]?.getD undef=.slice A xs.length c:=gqd (mvD hd 14)
  have d15:T[34]?.getD undef=.int .i64 (p:Int):=gqd (mvD hd 15)
  clear hk hd
  rcases HCS.out with ⟨rfl,rfl,rfl,rfl⟩ | ⟨g,rfl,hg3,hg4⟩
  ·simp only [List.length_nil] at *
   go_simp
   exact hK.out _ _ (mvM HST HH0 hb) ⟨none,0,rfl,.inl rfl⟩
  ·have hP0:(0:Int)≤(p:Int):=Int.natCast_nonneg _
   have hP1:(p:Int)≤(xs.length:Int):=by omega
   have hP2:(p:Int)≤(c:Int):=by omega
   by_cases hpc:p=c
   ·obtain rfl:p=xs.length:=by omega
    subst hpc
    go_simp
    exact hK.out _ _ (mvM HST HH0 hb) ⟨some ⟨g,0,none⟩,0,by simp,.inl (by simp)⟩
   ·have hcp:¬c=p:=fun e=>hpc e.symm
    go_simp
    exact hK.out _ _ (mvM HST HH0 hb) ⟨_,_,by rw [List.length_drop],.inr ⟨g,rfl,rfl⟩⟩
 case op17_=>
  refine mvA fun T w' hk hb hgr hd K hK=>?_
  have d10:=mvD hd 10
  have d16:=mvD hd 16
  obtain ⟨A16,c16,e16,h16⟩:=d16
  refine dD (R:=FvR) (e:=33) (.tmp 29) (.tmp 35) 23 rfl (bytes:=48) Tryz.underlying23 hi0 hz0 hz1 hz2 rfl (show 0<3 by omega) bD (xs:=([]++xs.take p)++[y]) (base:=w3.heap.size) (B:=0) (v:=T.getD 29 undef) (by rfl) d10.2 (by exact e16) (ys:=xs.drop p) (xw (HS3.out.later (HDR.out.trans hb)).row hpn h16) rfl (zx _) (by simp<;>omega) (by omega) hb.size ?_
  intro v_1 w4 hown hb4 hg hf
  refine hK.out _ _ (Moved.keep (hb.trans hb4) rfl [0,18,19] (by kernel_rfl) ?_) ⟨zx _,hown⟩
  intro j hj
  simp only [List.mem_cons,List.not_mem_nil,or_false] at hj
  rcases hj with rfl | rfl | rfl
  all_goals exact fun h=>h
 case op18_=>
  refine mvA fun T w' hk hb hgr hd K hK=>?_
  have d0:T[19]?.getD undef=.pointer (some ⟨M,0,none⟩):=gqd (mvD hd 0)
  clear hk hd
  go_simp
  exact hK.out _ _ (mvM HST HH0 hb) rfl
 case op19_=>
  refine mvA fun T w' hk hb hgr hd K hK=>?_
  have d18:T[37]?.getD undef=.pointer (some ⟨M,0,none⟩):=gqd (mvD hd 18)
  clear hk hd
  go_simp
  exact hK.out _ _ (mvM HST HH0 hb) rfl
 case last_=>
  refine mvL fun T w' hk hb hgr hd K hK=>?_
  have d17:=mvD hd 17
  have d19:=mvD hd 19
  replace d19:T.getD 38 undef=.pointer (some ⟨M,0,none⟩):=d19
  replace d17:=d17.2
  obtain ⟨A2,c2,e17⟩:=d17.form
  rw [show T.getD 36 undef=_ from e17] at d17
  replace e17:T.getD 36 undef=_:=e17
  have hb3:=HDR.out.trans hb
  have k_m:=(HS3.out.later hb3).hd.cell
  have f_m:=(HS3.out.later hb3).hd.free
  have l_m:=(HS3.out.later hb3).hd.lt
  have HO:=zu d17
  have HU:=zu hb3
  have hT:=ku hk.1
  obtain ⟨f_,hf_⟩:∃f_:Nat→Value,(fun t=>T.getD t undef)=f_:=⟨_,rfl⟩
  rw [hf_] at hT
  replace e17:f_ 36=_:=(congrFun hf_ 36).symm.trans e17
  replace d19:f_ 38=_:=(congrFun hf_ 38).symm.trans d19
  replace hT:T=#[f_ 0,f_ 1,f_ 2,f_ 3,f_ 4,f_ 5,f_ 6,f_ 7,f_ 8,f_ 9,f_ 10,f_ 11,f_ 12,f_ 13,f_ 14,f_ 15,f_ 16,f_ 17,f_ 18,f_ 19,f_ 20,f_ 21,f_ 22,f_ 23,f_ 24,f_ 25,f_ 26,f_ 27,f_ 28,f_ 29,f_ 30,f_ 31,f_ 32,f_ 33,f_ 34,f_ 35,f_ 36,f_ 37,f_ 38]:=hT
  clear hf_
  subst hT
  rw [e17,d19]
  clear hk hd d17 hb3
  go_simp
  refine hK.out _ _ ?_
  clear hK
  go_wp2_with fail
  go_ret
  exact yf HS.out HF.out HFO.out HAD.out HP.out HB3.out HU.out (by simpa [cI,Nat.min_eq_left hpn] using HO.out)
theorem RTm.deep {w:World} {B:Nat}:∀{d:Nat} {t:Tm} {vs:List Value},RTm w B d t vs→RTm w B (d+1) t vs
 | 0,_,_,h=>h.elim
 | d+1,t,vs,⟨A,c,e,h1,h2,h3,h4,h5,h6⟩=>⟨A,c,e,h1,h2,h3,h4,h5,h6.mono fun i vs _ ⟨x,hx,hr⟩=>⟨x,hx,RTm.deep hr⟩⟩
def Ok {H:Type} (P:Program) (t:TypeId) (d:DataW H):Prop:=∀n∈d.weights P t,n≤reachBytes
section
variable {H:Type} {enc:TypeId × Value→H} {P:Program} {w:World} {base:Nat} {held:Bool}
theorem open_int {t:TypeId} {fuel:Nat} {cs:List Value} {x:DataW H × List MemPlace} (ht:P.underlying t=some (.int .i64)) (h:DataW.trod enc P w base (fun _=>true) held fuel t cs=some x):∃n,cs=[.int .i64 n]∧I64 n:=by
 obtain ⟨n,hcs,_,hwf⟩:=DataW.trod_int ht h
 refine ⟨n,hcs,?_⟩
 simp only [Lit.wf] at hwf
 unfold I64
 revert hwf
 have e1:IntKind.i64.signed=true:=rfl
 have e2:IntKind.i64.bits=64:=rfl
 simp [IntKind.min,IntKind.max,e1,e2]
end
structure TwoS (d B:Nat) (w:World) (S:Nat) (xs:List FV) (A:Option Addr) (c M:Nat) (ys:List FV) (A':Option Addr) (c':Nat):Prop where
 s:StA (M+1) d w S xs A c
 m:DSt (M+1) d B w M ys A' c'
 ap:∀k,(Value.slice A xs.length c).ownBlock=some k→(Value.slice A' ys.length c').ownBlock≠some k
 ne:S<M
 hB:B≤S
section
variable {d B S M c c' c2:Nat} {w w':World} {xs ys xs2 ys2:List FV} {A A' A2:Option Addr}
theorem TwoS.later (h:TwoS d B w S xs A c M ys A' c') (hb:Below w.heap.size w w'):TwoS d B w' S xs A c M ys A' c':=⟨h.s.later hb,h.m.later hb,h.ap,h.ne,h.hB⟩
end
theorem yn {l:List Fc} {k:Nat} {x:Fc} (h:l[k]? = some x):stL (l.take (k+1))=eJ (stL (l.take k)) x:=by
 rw [←sk]
 congr 1
 obtain ⟨hk,rfl⟩:=List.getElem?_eq_some_iff.1 h
 rw [List.take_succ_eq_append_getElem hk]
def OwR (d:Nat):Reader OwD where
 k:=7
 rd:=fun w B o vs=>∃v,vs=v++[.int .i64 o.block,.int .u32 o.trusted]∧(RuR d).rd w B o.rule v∧I64 o.block∧U32 o.trusted
 keep:=fun hw hB ⟨v,e,h,ho⟩=>⟨v,e,(RuR _).keep hw hB h,ho⟩
 wide:=fun hB ⟨v,e,h,ho⟩=>⟨v,e,(RuR _).wide hB h,ho⟩
 len:=fun ⟨_,e,h,_⟩=>by rw [e,zA,(RuR _).len h];rfl
theorem nM {d B:Nat} {w:World} {o:OwD} {vs:List Value} (h:(OwR d).rd w B o vs):∃A0 c0 A1 c1 A2 c2 A3 c3,
 vs=[.string o.rule.head.name,.slice A0 o.rule.head.terms.length c0,.slice A1 o.rule.body.length c1,.slice A2 o.rule.exprs.length c2,.slice A3 o.rule.scopes.length c3,.int .i64 o.block,.int .u32 o.trusted] ∧
 (RuR d).rd w B o.rule [.string o.rule.head.name,.slice A0 o.rule.head.terms.length c0,.slice A1 o.rule.body.length c1,.slice A2 o.rule.exprs.length c2,.slice A3 o.rule.scopes.length c3]∧I64 o.block∧U32 o.trusted:=by
 obtain ⟨v,rfl,hr,h1,h2⟩:=h
 have hr':=hr
 obtain ⟨_,_,_,_,rfl,_,⟨A0,c0,rfl,_⟩,⟨A1,c1,rfl,_⟩,⟨A2,c2,rfl,_⟩,⟨A3,c3,rfl,_⟩⟩:=hr
 exact ⟨A0,c0,A1,c1,A2,c2,A3,c3,rfl,hr',h1,h2⟩
theorem yK {α:Type} {l:List α} {p:α→Bool} {k:Nat} {x:α} (h:l[k]? = some x) (hp:p x=false):l.all p=false:=by
 rw [List.all_eq_false]
 exact ⟨x,List.mem_of_getElem? h,by rw [hp];simp⟩
theorem allT3_ {α:Type} {l:List α} {p:α→Bool} {k:Nat} (hk:l.length≤k) (h:∀i (hi:i<k) (hi':i<l.length),p l[i]=true):l.all p=true:=by
 rw [List.all_eq_true]
 intro x hx
 obtain ⟨i,hi,rfl⟩:=List.getElem_of_mem hx
 exact h i (by omega) hi
theorem gj {base d B S c:Nat} {xs:List FV} {A:Option Addr} {f:Fc} {vf:List Value} {w:World} (hs:StA base d w S xs A c) (hf:(ax (d+1)).rd w B f vf) (hB:B≤w.heap.size) (hn:xs.length≤100000) (hft:f.pr.terms.length*40≤140737488351232) :
 Calls Tryz.prog 16 #[.pointer (some ⟨S,0,none⟩),.agg vf.toArray] w fun z w'=>z=.returned (.bool (eK (xs.map FV.f) f))∧Below w.heap.size w w':=by
 obtain ⟨Af,cf,rfl,hsz,h1,h2,h3,hl,ho⟩:=aF hf
 have HS:=zu hs
 have HF:=zu hf
 have HL:=zu hl
 have HO:=zu ho
 clear hs hf hl ho
 go_enter Tryz.func16,Tryz.ntmps16
 have k_s:=HS.out.hd.cell
 have l_s:=HS.out.hd.lt
 go_upto_region 3 with fail
 generalize hW:World.alloc _ _=w2
 obtain ⟨hb,hz⟩:=al1 hW
 have HBA2:=zu (n11 hW)
 have HB2:=zu hb
 have hsz2:=hb.size
 clear hW hb hz k_s l_s
 have HS2:=zu (HS.out.later HB2.out)
 have HRL:=zu (HS2.out.rl (by omega))
 have HLM:Hid ((xs.map FV.f).length=xs.length):=zu (zB _)
 have HF2:=zu ((ax (d+1)).keep HB2.out hB HF.out)
 have hB2:B≤w2.heap.size:=by omega
 have HBS:Hid (∀w9,Below w2.heap.size w2 w9→Calls Tryz.prog 34 #[.slice A xs.length c,.agg #[.string f.pr.name,.slice Af f.pr.terms.length cf,.int .u32 f.o],.func (.func 35) #[] #[]] w9 fun z w'=>z=.returned (.tuple #[.int .i64 (iP (xs.map FV.f) f),.bool (eK (xs.map FV.f) f)])∧Below w9.heap.size w9 w'):=zu (fun w9 hb9=>by
  have h:=kH (d:=d) (e:=d) (B:=w2.heap.size) (c:=c) (fs:=xs.map FV.f) (t:=f) (vt:=[_,_,_]) (A:=A) (w:=w9) (HRL.out.keep hb9 (zw _)) ((ax (d+1)).keep hb9 (zw _) ((ax (d+1)).wide hB2 HF2.out)) (fun x hx=>by
   obtain ⟨y,hy,rfl⟩:=List.mem_map.1 hx
   exact HS.out.ok y hy) (by omega) (by rw [HLM.out];omega) hb9.size (csF (xs.map FV.f) f) (fun i hi=>iw hi) (fun i j hij hj h=>nv HS.out.sort hij hj h)
  rw [HLM.out] at h
  refine h.mono fun z w' ⟨h1,h2⟩=>⟨?_,h2⟩
  rw [h1]
  unfold eK iP
  rw [HLM.out,Bool.decide_and])
 have q_s:=HS2.out.hd.regrown
 have q_a:=HBA2.out.regrown
 generalize iP (xs.map FV.f) f=p at *
 generalize hq:eK (xs.map FV.f) f=q at *
 have HQ:=zu hq
 clear hq
 refine wp_region_quiet_below (by kernel_rfl) (by kernel_rfl) ?_
 repeat (go_big_quiet_step ((go_at_call 34;exact Calls.regrown_of (HBS.out _ (below_regrown _ _ _)))))
 refine wpQuiet_nil ?_
 intro w3 hw_
 have hb:Below w2.heap.size w2 w3:=by obtain ⟨p_,rfl⟩:=hw_;exact below_regrown _ _ _
 clear hw_ q_s q_a
 go_wp2_with fail
 go_ret
 exact ⟨by rw [HQ.out];rfl,aa HB2.out hb⟩
theorem lR {base d S c:Nat} {xs:List FV} {A:Option Addr} {w:World} (hs:StA base d w S xs A c) :
 Calls Tryz.prog 13 #[.pointer (some ⟨S,0,none⟩)] w fun z w'=>z=.returned (.int .i64 xs.length)∧w=w':=by
 have k_s:=hs.hd.cell
 go_enter Tryz.func13,Tryz.ntmps13
 go_wp2_with fail
 go_ret
 exact ⟨rfl,rfl⟩
theorem ww {base d S c:Nat} {xs:List FV} {A:Option Addr} {w:World} (hs:StA base d w S xs A c) (hn:xs.length≤100000) :
 Calls Tryz.prog 19 #[.pointer (some ⟨S,0,none⟩)] w fun z w'=>(∃ys A' c',ys.map FV.f=xs.map FV.f∧z=.returned (.slice A' ys.length c')∧FRow w.heap.size d w' ys A' c')∧Below w.heap.size w w':=by
 have HS:=zu hs
 have k_s:=hs.hd.cell
 clear hs
 go_enter Tryz.func19,Tryz.ntmps19
 go_wp2_with fail
 have h:=fN (d:=d) (c:=c) (HS.out.rl (by omega)) (fun f hf=>by
  obtain ⟨y,hy,rfl⟩:=List.mem_map.1 hf
  exact HS.out.ok y hy) (by rw [zB];omega) (zw _)
 rw [zB] at h
 refine h.mono ?_
 rintro z w' ⟨⟨ys,A',c',h1,rfl,h2⟩,hb⟩
 have hl:ys.length=xs.length:=by simpa using congrArg List.length h1
 have H:=zu (And.intro h1 (And.intro h2 hb))
 clear h1 h2 hb h
 go_wp2_with fail
 go_ret
 exact ⟨⟨ys,A',c',H.out.1,by rw [hl];rfl,H.out.2.1⟩,H.out.2.2⟩
end Go.Proofs.YtjpndglegpcdnaaGreat
