/- The document's store: place, MayFact, Add. Printed by mk_rs3.py. -/
import Derived.Test.YtdphibjibnffeaaGreatRs2
import Derived.Test.YtdphibjibnffeaaGreatFc6
import Derived.Test.YtdphibjibnffeaaGreatRefFix
import Derived.Test.YtdphibjibnffeaaGreatStab
set_option linter.unusedVariables false
set_option linter.unusedSimpArgs false
set_option maxRecDepth 100000
set_option maxHeartbeats 8000000
namespace Go.Proofs.YtdphibjibnffeaaGreat
open Go.ChangeShapes Go.WideShapes Go.ChangeAt Go.RowKit
theorem allF_ {α:Type} {l:List α} {p:α→Bool} {k:Nat} {x:α} (h:l[k]? = some x) (hp:p x=false):l.all p=false:=by
 rw [List.all_eq_false]
 exact ⟨x,List.mem_of_getElem? h,by rw [hp];simp⟩
theorem allT_ {α:Type} {l:List α} {p:α→Bool} {k:Nat} (hk:l.length≤k) (h:∀i (hi:i<k) (hi':i<l.length),p l[i]=true):l.all p=true:=by
 rw [List.all_eq_true]
 intro x hx
 obtain ⟨i,hi,rfl⟩:=List.getElem_of_mem hx
 exact h i (by omega) hi
structure DSt (base d B:Nat) (w:World) (M:Nat) (xs:List FV) (A:Option Addr) (c:Nat):Prop where
 hd:Blk w M #[.slice A xs.length c]
 lt:M<base
 bw:base≤w.heap.size
 row:au FvR 33 w base 0 (.slice A xs.length c) xs
 ok:∀x∈xs,FcOk x.f
 deep:∀x∈xs,(aA (d+1)).rd w B x.f x.cs
 sort:bM (xs.map FV.f)
 hB:B≤M
section
variable {base d B M c:Nat} {w w':World} {xs:List FV} {A:Option Addr} {K:Nat→Prop}
theorem DSt.agree (h:DSt base d B w M xs A c) (ha:az K w w') (hK:∀k,K k→k<w.heap.size→B≤k∧¬StM M (.slice A xs.length c) k):DSt base d B w' M xs A c:=by
 have hs:=h.hd.lt
 have hBw:B≤w.heap.size:=by have:=h.hB;omega
 have hb:Below B w w':=ha.below (fun k hk hm=>by have:=h.hB;have:=(hK k hm (by omega)).1;omega) hBw
 exact ⟨ha.blk h.hd (fun hm=>(hK M hm hs).2 (.inl rfl)),h.lt,Nat.le_trans h.bw ha.size,h.row.agree ha (fun k hk hm=>(hK k hm (h.row.lt k hk).2).2 (.inr hk)),h.ok,fun x hx=>(aA (d+1)).keep hb (Nat.le_refl _) (h.deep x hx),h.sort,h.hB⟩
theorem DSt.later (h:DSt base d B w M xs A c) (hb:Below w.heap.size w w'):DSt base d B w' M xs A c:=h.agree (K:=fun _=>False) (az.of_below hb) (fun _ h=>h.elim)
theorem DSt.rl (h:DSt base d B w M xs A c) (hn:xs.length≤1000000):RL (aA (d+1)) w w.heap.size (xs.map FV.f) A:=by
 obtain ⟨A3,c3,e3,h1,h2,r3⟩:=h.row.reads (Nat.zero_le _) (by show xs.length*(8*3)≤_;omega)
 simp only [Value.slice.injEq] at e3
 obtain ⟨rfl,_,rfl⟩:=e3
 have hBw:B≤w.heap.size:=by have:=h.hB;have:=h.hd.lt;omega
 intro h0
 rw [List.length_map] at h0
 obtain ⟨b,off,e,hb,hc⟩:=r3 h0
 refine ⟨b,off,e,hb,fun i hi=>?_⟩
 rw [List.length_map] at hi
 obtain ⟨vs,hl,⟨x,hx,hr⟩,hv⟩:=hc i hi
 obtain rfl:vs=x.cs:=hr
 exact ⟨x.cs,hl,⟨x.f,by rw [List.getElem?_map,hx];rfl,(aA (d+1)).wide hBw (h.deep x (List.mem_of_getElem? hx))⟩,hv⟩
end
theorem ub {base d B B2 M c:Nat} {xs:List FV} {A:Option Addr} {f:Fc} {vf:List Value} {w:World} (hs:DSt base d B w M xs A c) (hf:(aA (d+1)).rd w B2 f vf) (hB:B2≤w.heap.size) (hn:xs.length≤100000) :
 Calls Tryz.prog 109 #[.pointer (some ⟨M,0,none⟩),.agg vf.toArray] w fun z w'=>z=.returned (.tuple #[.int .i64 (jl (xs.map FV.f) f),.bool (pa (xs.map FV.f) f)])∧Below w.heap.size w w':=by
 have HS:=Lib.hid hs
 have HF:=Lib.hid hf
 obtain ⟨Af,cf,rfl,_⟩:=aI hf
 clear hs hf
 have HLM:Hid ((xs.map FV.f).length=xs.length):=Lib.hid (List.length_map _)
 go_enter Tryz.func109,Tryz.ntmps109
 go_upto_region 2 with fail
 generalize hW:World.alloc _ _=w1
 obtain ⟨hb1,hz⟩:=al1 hW
 have HG1:=Lib.hid (n11 hW)
 have HB1:=Lib.hid hb1
 have hsz1:=hb1.size
 clear hW hb1
 go_loopw [6] (fun i wr=>∃k:Nat,k≤xs.length∧i=.int .i64 k∧Hid (∀i,i<k→csF (xs.map FV.f) f i<0)∧Hid (Below w1.heap.size w1 wr)) (fun i _=>xs.length-(intOf i).toNat)
 case atStart=>exact ⟨0,Nat.zero_le _,rfl,Lib.hid (fun i h=>absurd h (by omega)),Lib.hid (Below.refl _ _)⟩
 case round=>
  obtain ⟨k,hk,rfl,HZ,HWR⟩:=hrel
  have HBr:=Lib.hid (ac HB1.out HWR.out)
  have HSr:=Lib.hid (HS.out.later HBr.out)
  have HGr:=Lib.hid (HG1.out.later HWR.out)
  have hszr:=HWR.out.size
  have hI0:(0:Int)≤(k:Int):=Int.natCast_nonneg _
  have hnn:(xs.length:Int)≤100000:=by omega
  by_cases hlt:k<xs.length
  ·obtain ⟨g,c9,e9,h1,h2,h3,h4,h5,h6,_⟩:=HSr.out.row.sh bI (by omega)
   simp only [Value.slice.injEq,true_and] at e9
   obtain ⟨rfl,rfl⟩:=e9
   obtain ⟨x,hx⟩:∃x,x=xs[k]:=⟨_,rfl⟩
   have c0:wr.cell? ⟨g,k*3,none⟩=some (.string x.f.pr.name):=by rw [hx];exact h5 k hlt 0 _ rfl
   have c1:wr.cell? ⟨g,k*3+1,none⟩=some (.slice x.a x.f.pr.terms.length x.c):=by rw [hx];exact h5 k hlt 1 _ rfl
   have c2:wr.cell? ⟨g,k*3+2,none⟩=some (.int .u32 x.f.o):=by rw [hx];exact h5 k hlt 2 _ rfl
   have HXR:Hid ((aA (d+1)).rd wr B x.f x.cs):=Lib.hid (by rw [hx];exact HSr.out.deep _ (List.getElem_mem hlt))
   have HXO:Hid (FcOk x.f):=Lib.hid (by rw [hx];exact HSr.out.ok _ (List.getElem_mem hlt))
   have HXA:Hid (csF (xs.map FV.f) f k=aZ x.f f):=Lib.hid (by rw [jf (by rw [HLM.out];exact hlt),List.getElem_map,hx])
   have HBB:Hid (B≤wr.heap.size):=Lib.hid (by have:=HSr.out.hB;have:=HSr.out.hd.lt;omega)
   have hI1:(k:Int)<(xs.length:Int):=by omega
   clear h5 h6 hx
   have HC:=Lib.hid (And.intro c0 (And.intro c1 c2))
   have HGL:=Lib.hid h1
   clear c0 c1 c2
   have HCL:Hid (∀W:World,Below wr.heap.size wr W→Calls Tryz.prog 100 #[.agg #[.string x.f.pr.name,.slice x.a x.f.pr.terms.length x.c,.int .u32 x.f.o],.agg #[.string f.pr.name,.slice Af f.pr.terms.length cf,.int .u32 f.o]] W fun z w'=>z=.returned (.int .i64 (aZ x.f f))∧Below W.heap.size W w'):=Lib.hid fun W hw=>
    pE (d:=d) (B:=W.heap.size) (va:=[_,_,_]) (vb:=[_,_,_]) (by have:=HXO.out.few;omega) ((aA (d+1)).wide hw.size ((aA (d+1)).keep hw (Nat.le_refl _) ((aA (d+1)).wide HBB.out HXR.out))) ((aA (d+1)).wide (Nat.le_trans (Nat.le_trans hB HBr.out.size) hw.size) ((aA (d+1)).keep (ac HBr.out hw) hB HF.out)) (Nat.le_refl _)
   obtain ⟨n,hn_⟩:∃n,n=aZ x.f f:=⟨_,rfl⟩
   have HNN:=Lib.hid hn_
   rw [←hn_] at HXA HCL
   clear hn_
   by_cases hneg:n<0
   ·go_upto_region 2 with fail
    have HWW:Hid (Below wr.heap.size wr wr):=Lib.hid (Below.refl _ _)
    have q0:=cell_regrown ((HWW.out.cell (p:=⟨g,k*3,none⟩) HGL.out).trans HC.out.1)
    have q1:=cell_regrown ((HWW.out.cell (p:=⟨g,k*3+1,none⟩) HGL.out).trans HC.out.2.1)
    have q2:=cell_regrown ((HWW.out.cell (p:=⟨g,k*3+2,none⟩) HGL.out).trans HC.out.2.2)
    have q_m:=(HSr.out.later HWW.out).hd.regrown
    have q_f:=(HGr.out.later HWW.out).regrown
    refine wp_region_quiet_below (by kernel_rfl) (by kernel_rfl) ?_
    repeat (go_big_quiet_step ((go_at_call 100;exact Calls.regrown_of (HCL.out _ (Below.trans HWW.out (Below.mono (below_regrown _ _ _) HWW.out.size))))))
    refine wpQuiet_nil ?_
    intro w3 hw_
    have hb:Below wr.heap.size wr w3:=by obtain ⟨p_,rfl⟩:=hw_;exact below_regrown _ _ _
    clear hw_
    clear q0 q1 q2 q_m q_f HWW
    have HB3:=Lib.hid (ac HWR.out hb)
    clear hb
    go_wp2_with fail
    go_roundw
    case rel=>exact ⟨k+1,by omega,by go_num,Lib.hid (fun i hi=>by
     rcases Nat.lt_or_ge i k with h | h
     ·exact HZ.out i h
     ·obtain rfl:i=k:=by omega
      rw [HXA.out];exact hneg),HB3⟩
    case measure=>simp [intOf];omega
   ·have HPK:Hid (jl (xs.map FV.f) f=k):=Lib.hid (mu (by rw [HLM.out];exact hk) HZ.out (fun _=>by rw [HXA.out];exact hneg))
    have HHS:Hid (pa (xs.map FV.f) f=(n==0)):=Lib.hid (by
     unfold pa
     rw [HPK.out,HXA.out]
     have:decide (k<(xs.map FV.f).length)=true:=decide_eq_true (by rw [HLM.out];exact hlt)
     rw [this,Bool.true_and,Bool.beq_eq_decide_eq])
    go_upto_region 2 with fail
    have HWW:Hid (Below wr.heap.size wr wr):=Lib.hid (Below.refl _ _)
    have q0:=cell_regrown ((HWW.out.cell (p:=⟨g,k*3,none⟩) HGL.out).trans HC.out.1)
    have q1:=cell_regrown ((HWW.out.cell (p:=⟨g,k*3+1,none⟩) HGL.out).trans HC.out.2.1)
    have q2:=cell_regrown ((HWW.out.cell (p:=⟨g,k*3+2,none⟩) HGL.out).trans HC.out.2.2)
    have q_m:=(HSr.out.later HWW.out).hd.regrown
    have q_f:=(HGr.out.later HWW.out).regrown
    refine wp_region_quiet_below (by kernel_rfl) (by kernel_rfl) ?_
    repeat (go_big_quiet_step ((go_at_call 100;exact Calls.regrown_of (HCL.out _ (Below.trans HWW.out (Below.mono (below_regrown _ _ _) HWW.out.size))))))
    refine wpQuiet_nil ?_
    intro w3 hw_
    have hb:Below wr.heap.size wr w3:=by obtain ⟨p_,rfl⟩:=hw_;exact below_regrown _ _ _
    clear hw_
    clear q0 q1 q2 q_m q_f HWW
    have HB3:=Lib.hid hb
    clear hb
    go_upto_region 4 with fail
    have HWW:Hid (Below wr.heap.size wr w3):=Lib.hid (HB3.out)
    have q0:=cell_regrown ((HWW.out.cell (p:=⟨g,k*3,none⟩) HGL.out).trans HC.out.1)
    have q1:=cell_regrown ((HWW.out.cell (p:=⟨g,k*3+1,none⟩) HGL.out).trans HC.out.2.1)
    have q2:=cell_regrown ((HWW.out.cell (p:=⟨g,k*3+2,none⟩) HGL.out).trans HC.out.2.2)
    have q_m:=(HSr.out.later HWW.out).hd.regrown
    have q_f:=(HGr.out.later HWW.out).regrown
    refine wp_region_quiet_below (by kernel_rfl) (by kernel_rfl) ?_
    repeat (go_big_quiet_step ((go_at_call 100;exact Calls.regrown_of (HCL.out _ (Below.trans HWW.out (Below.mono (below_regrown _ _ _) HWW.out.size))))))
    refine wpQuiet_nil ?_
    intro w4 hw_
    have hb:Below w3.heap.size w3 w4:=by obtain ⟨p_,rfl⟩:=hw_;exact below_regrown _ _ _
    clear hw_
    clear q0 q1 q2 q_m q_f
    go_wp2_with fail
    go_ret2
    exact ⟨by rw [HPK.out,HHS.out];rfl,ac HBr.out (ac HB3.out hb)⟩
  ·have hkk:k=xs.length:=by omega
   have HPK:Hid (jl (xs.map FV.f) f=k):=Lib.hid (mu (by rw [HLM.out];exact hk) HZ.out (fun h=>by rw [HLM.out] at h;omega))
   have HHS:Hid (pa (xs.map FV.f) f=false):=Lib.hid (by
    unfold pa
    rw [HPK.out]
    have:decide (k<(xs.map FV.f).length)=false:=decide_eq_false (by rw [HLM.out];exact hlt)
    rw [this,Bool.false_and])
   have hgd:¬((k:Int)<(xs.length:Int)):=by omega
   clear hkk
   have q_m:=HSr.out.hd.regrown
   have q_f:=HGr.out.regrown
   go_upto_region 2 with fail
   refine wp_region_quiet_below (by kernel_rfl) (by kernel_rfl) ?_
   repeat (go_big_quiet_step (fail))
   refine wpQuiet_nil ?_
   intro w3 hw_
   have hb:Below wr.heap.size wr w3:=by obtain ⟨p_,rfl⟩:=hw_;exact below_regrown _ _ _
   clear hw_
   clear q_m q_f
   have HB3:=Lib.hid hb
   clear hb
   have q_m:=(HSr.out.later HB3.out).hd.regrown
   have q_f:=(HGr.out.later HB3.out).regrown
   go_upto_region 4 with fail
   refine wp_region_quiet_below (by kernel_rfl) (by kernel_rfl) ?_
   repeat (go_big_quiet_step (fail))
   refine wpQuiet_nil ?_
   intro w4 hw_
   have hb:Below w3.heap.size w3 w4:=by obtain ⟨p_,rfl⟩:=hw_;exact below_regrown _ _ _
   clear hw_
   clear q_m q_f
   go_wp2_with fail
   go_ret2
   exact ⟨by rw [HPK.out,HHS.out];rfl,ac HBr.out (ac HB3.out hb)⟩
theorem pF {d B:Nat} {f:Fc} {vf:List Value} {w:World} (hf:(aA d).rd w B f vf) (hB:B≤w.heap.size) :
 Calls Tryz.prog 110 #[.agg vf.toArray] w fun z w'=>z=.returned (.bool (bH f))∧Below w.heap.size w w':=by
 have HF:=Lib.hid hf
 obtain ⟨A,c,rfl,hs,h1,h2,_,hl,ho⟩:=aI hf
 have HL:=Lib.hid hl
 have HO:=Lib.hid ho
 clear hl hf ho
 go_enter Tryz.func110,Tryz.ntmps110
 go_wp2_with fail
 generalize hW:World.alloc _ _=W
 obtain ⟨hb,hz⟩:=al1 hW
 have ba:=n11 hW
 have HB1:=Lib.hid hb
 have hB1:B≤W.heap.size:=by omega
 clear hW hz hb
 go_loopw [9] (fun i wr=>∃k:Nat,k≤f.pr.terms.length∧i=.int .i64 k∧Below W.heap.size W wr∧∀i (hi:i<k) (hi':i<f.pr.terms.length),ah f.pr.terms[i]=true) (fun i _=>f.pr.terms.length-(intOf i).toNat)
 case atStart=>exact ⟨0,Nat.zero_le _,rfl,Below.refl _ _,fun i h=>absurd h (by omega)⟩
 case round=>
  obtain ⟨k,hk,rfl,hbw,hall⟩:=hrel
  have HA:=Lib.hid hall
  clear hall
  by_cases hlt:k<f.pr.terms.length
  ·have hl:=HL.out.keep HB1.out hB
   obtain ⟨b,off,rfl,hob⟩:=hl.base hbw hB1 (by omega)
   obtain ⟨x,vs,hx,hlen,hcell,hr⟩:=hl.at_ hbw hB1 hlt
   obtain ⟨Ax,cx,rfl,_⟩:=RTm.cells hr
   have hr:RTm wr wr.heap.size d x [.int .i64 x.kind,.int .i64 x.n,.string x.s,.slice Ax x.l.length cx]:=RTm.more (Nat.le_trans hB1 hbw.size) hr
   have p0:wr.cell? ⟨b,off+k*4,none⟩=some (.int .i64 x.kind):=hcell 0 _ rfl
   have p1:wr.cell? ⟨b,off+k*4+1,none⟩=some (.int .i64 x.n):=hcell 1 _ rfl
   have p2:wr.cell? ⟨b,off+k*4+2,none⟩=some (.string x.s):=hcell 2 _ rfl
   have p3:wr.cell? ⟨b,off+k*4+3,none⟩=some (.slice Ax x.l.length cx):=hcell 3 _ rfl
   have HR:=Lib.hid hr
   have HX:=Lib.hid hx
   have HW:=Lib.hid hbw
   have hszr:=hbw.size
   clear hl hcell hlen hr hx hbw
   go_wp2_with fail
   generalize hW2:World.alloc _ _=w2
   obtain ⟨hb2,hz2⟩:=al1 hW2
   clear hW2 p0 p1 p2 p3
   refine (nY (d:=d) (B:=wr.heap.size) (vs:=[_,_,_,_]) (RTm.below hb2 (Nat.le_refl _) HR.out) (by omega)).mono ?_
   rintro e w3 ⟨rfl,hb3⟩
   have HB3:=Lib.hid (ac HW.out (ac hb2 hb3))
   clear hb2 hb3 hz2
   by_cases hm:ah x=true
   ·have HM:=Lib.hid hm
    rw [hm]
    clear hm
    go_wp2_with fail
    go_roundw
    case rel=>exact ⟨k+1,by omega,by go_num,HB3.out,fun i hi hi'=>by
     rcases Nat.lt_or_ge i k with h1 | h1
     ·exact HA.out i h1 hi'
     ·obtain rfl:i=k:=by omega
      rw [(List.getElem?_eq_some_iff.1 HX.out).2];exact HM.out⟩
    case measure=>simp [intOf];omega
   ·simp only [Bool.not_eq_true] at hm
    have HALL:=Lib.hid (allF_ HX.out hm)
    rw [hm]
    clear hm
    go_wp2_with fail
    go_ret
    exact ⟨ae (by unfold bH;rw [HALL.out];simp),ac HB1.out HB3.out⟩
  ·have HALL:=Lib.hid (allT_ (show f.pr.terms.length≤k by omega) HA.out)
   have HB2:=Lib.hid (ac HB1.out hbw)
   have ca:=(ba.later hbw).cell
   have la:=(ba.later hbw).lt
   clear hbw HA
   by_cases hnm:dN (bs f.pr.name)=true
   ·by_cases hle:f.pr.terms.length≤8
    ·have hle':(f.pr.terms.length:Int)≤8:=by omega
     have HNM:=Lib.hid hnm
     have HLE:=Lib.hid hle
     clear hle
     by_cases ho0:f.o=0
     ·have hoo:(f.o !=0)=false:=by rw [ho0];rfl
      have HST:Hid (bH f=false):=Lib.hid (by unfold bH;simp [ho0])
      clear ho0
      go_wp2_with fail
      refine (dS f.pr.name _ (by unfold maxLen;omega)).mono ?_
      rintro e w3 ⟨rfl,rfl⟩
      rw [HNM.out]
      go_wp2_with fail
      go_ret
      exact ⟨ae HST.out.symm,HB2.out⟩
     ·have hoo:(f.o !=0)=true:=by simpa using ho0
      have HST:Hid (bH f=true):=Lib.hid (by unfold bH;simp [ho0,HNM.out,HLE.out,HALL.out])
      clear ho0
      go_wp2_with fail
      refine (dS f.pr.name _ (by unfold maxLen;omega)).mono ?_
      rintro e w3 ⟨rfl,rfl⟩
      rw [HNM.out]
      go_wp2_with fail
      go_ret
      exact ⟨ae HST.out.symm,HB2.out⟩
    ·have hle':¬(f.pr.terms.length:Int)≤8:=by omega
     have HNM:=Lib.hid hnm
     have HST:Hid (bH f=false):=Lib.hid (by unfold bH;simp [hle])
     clear hle
     go_wp2_with fail
     refine (dS f.pr.name _ (by unfold maxLen;omega)).mono ?_
     rintro e w3 ⟨rfl,rfl⟩
     rw [HNM.out]
     go_wp2_with fail
     go_ret
     exact ⟨ae HST.out.symm,HB2.out⟩
   ·have hnm':dN (bs f.pr.name)=false:=by simpa using hnm
    have HNM:=Lib.hid hnm'
    have HST:Hid (bH f=false):=Lib.hid (by unfold bH;simp [hnm'])
    clear hnm hnm'
    go_wp2_with fail
    refine (dS f.pr.name _ (by unfold maxLen;omega)).mono ?_
    rintro e w3 ⟨rfl,rfl⟩
    rw [HNM.out]
    go_wp2_with fail
    go_ret
    exact ⟨ae HST.out.symm,HB2.out⟩
def qJ (base d B M:Nat) (w w':World) (xs:List FV) (A:Option Addr) (c:Nat) (f:Fc) (z:Ending):Prop:=
 ∃xs' A' c',z=.returned (.bool (lY (xs.map FV.f) f))∧xs'.map FV.f=jb (xs.map FV.f) f∧DSt base d B w' M xs' A' c'∧az (fun k=>k=M) w w'∧bA w (.slice A xs.length c) (.slice A' xs'.length c')
theorem qJ.no {base d B M c:Nat} {w w':World} {xs:List FV} {A:Option Addr} {f:Fc} (h:DSt base d B w M xs A c) (hb:Below w.heap.size w w') (hn:lY (xs.map FV.f) f=false):qJ base d B M w w' xs A c f (.returned (.bool false)):=
 ⟨xs,A,c,by rw [hn],by unfold jb;rw [hn];rfl,h.later hb,(az.of_below (M:=fun _=>False) hb).mono (fun _ _ h=>h.elim),.inl rfl⟩
theorem xh (x:FV):x.cs.length=3:=rfl
theorem kp:∀{ys:List FV} {j:Nat} {u:Value},(ys.flatMap FV.cs)[j]? = some u→∃i b,∃hi:i<ys.length,b<3∧j=i*3+b∧(ys[i].cs)[b]? = some u
 | [],j,u,h=>by simp at h
 | y::ys,j,u,h=>by
   rw [List.flatMap_cons] at h
   by_cases hj:j<3
   ·rw [List.getElem?_append_left (by rw [xh];exact hj)] at h
    exact ⟨0,j,by simp,hj,by omega,h⟩
   ·rw [List.getElem?_append_right (by rw [xh];omega),xh] at h
    obtain ⟨i,b,hi,hb,e,hu⟩:=kp h
    exact ⟨i+1,b,by simpa using hi,hb,by omega,hu⟩
theorem tt:∀(ys:List FV) {w:World} {B:Nat},be FvR w B ys (ys.flatMap FV.cs)
 | [],w,B=>be.nil
 | y::ys,w,B=>by
   have h:be FvR w B ([y]++ys) (y.cs++ys.flatMap FV.cs):=(be.one (R:=FvR) (x:=y) (vs:=y.cs) rfl).append (tt ys)
   exact h
theorem iU {w:World} {base n c p m:Nat} {xs:List FV} {g:Nat} (h:au FvR 33 w base 0 (.slice (some ⟨g,0,none⟩) n c) xs) (hp:p+m≤xs.length):eK FvR w 0 (some ⟨g,p*3,none⟩) ((xs.drop p).take m):=by
 rcases Nat.eq_zero_or_pos xs.length with h0 | h0
 ·have:(xs.drop p).take m=[]:=by rw [List.length_eq_zero_iff.1 h0];simp
  rw [this]
  exact ⟨[],be.nil,fun h=>(by cases h),fun a _ j u h=>by simp at h⟩
 obtain ⟨g',c',e,_,_,_,_,hc,_⟩:=h.sh bI h0
 simp only [Value.slice.injEq,Option.some.injEq,Addr.mk.injEq,true_and,and_true] at e
 obtain ⟨rfl,_⟩:=e
 have hl:(((xs.drop p).take m)).length=m:=by rw [List.length_take,List.length_drop];omega
 refine ⟨((xs.drop p).take m).flatMap FV.cs,?_,fun h=>(by cases h),?_⟩
 ·exact tt _
 ·intro a ha j u hj
  simp only [Option.some.injEq] at ha
  subst ha
  obtain ⟨i,b,hi,hb,rfl,hu⟩:=kp hj
  have hi0:=hi
  rw [hl] at hi
  have hx:((xs.drop p).take m)[i]'hi0=xs[p+i]'(by omega):=by rw [List.getElem_take,List.getElem_drop]
  rw [hx] at hu
  have:=hc (p+i) (by omega) b u hu
  have e0:(⟨g,p*3,none⟩:Addr).add (i*3+b)=⟨g,p*3+(i*3+b),none⟩:=by unfold Addr.add;split<;>simp_all
  rw [e0]
  rw [←this]
  congr 2
  show _=(p+i)*3+b
  omega
theorem ol {α:Type} {R:Reader α} {w:World} {a:Addr} {ys:List α} (h:ys=[]):eK R w 0 (some a) ys:=by
 subst h
 exact ⟨[],be.nil,fun h=>(by cases h),fun a _ j u h=>by simp at h⟩
theorem gd {base d B M c:Nat} {xs:List FV} {A A2:Option Addr} {c2 p n2:Nat} {y:FV} {w w3 w4:World} (hs:DSt base d B w M xs A c) (hf:(aA (d+1)).rd w B y.f y.cs) (hok:FcOk y.f) (had:lY (xs.map FV.f) y.f=true) (hp:p=jl (xs.map FV.f) y.f) (hb3:Below w.heap.size w w3) (hb4:Below w3.heap.size w3 w4)
 (ho:au FvR 33 w4 w3.heap.size 0 (.slice A2 n2 c2) (bX xs p y)):qJ base d B M w (w4.setCell ⟨M,0,none⟩ (.slice A2 n2 c2)) xs A c y.f (.returned (.bool true)):=by
 have hml:=hs.hd.lt
 have hl:n2=(bX xs p y).length:=by obtain ⟨A',c',e⟩:=ho.form;cases e;rfl
 subst hl
 have hB:=hs.hB
 have hs3:=hb3.size
 have hb:Below w.heap.size w w4:=ac hb3 hb4
 have hag:az (fun k=>k=M) w (w4.setCell ⟨M,0,none⟩ (.slice A2 (bX xs p y).length c2)):=az.set_ (M:=fun k=>k=M) ((az.of_below (M:=fun _=>False) hb).mono (fun _ _ h=>h.elim)) (fun _=>rfl) 0 _
 have hBel:Below B w (w4.setCell ⟨M,0,none⟩ (.slice A2 (bX xs p y).length c2)):=hag.below (fun k hk hm=>by omega) (by omega)
 refine ⟨bX xs p y,A2,c2,by rw [had],?_,⟨(hs.hd.later hb).set_ 0 _,hs.lt,?_,(ho.far (by omega) (Nat.zero_le _) _).lower (Nat.le_trans hs.bw hs3),fun x hx=>?_,fun x hx=>?_,?_,hs.hB⟩,hag,?_⟩
 ·unfold jb
  rw [if_pos had,jH FV.f,hp]
 ·have:=hs.bw;have:=hag.size;omega
 ·rcases dg.1 hx with rfl | hx
  ·exact hok
  ·exact hs.ok x hx
 ·rcases dg.1 hx with rfl | hx
  ·exact (aA (d+1)).keep hBel (Nat.le_refl _) hf
  ·exact (aA (d+1)).keep hBel (Nat.le_refl _) (hs.deep x hx)
 ·rw [jH FV.f,hp]
  exact iT hs.sort (by unfold lY at had;rw [Bool.and_eq_true,Bool.not_eq_true'] at had;exact had.2)
 ·rcases hv:(Value.slice A2 (bX xs p y).length c2).ownBlock with _ | k
  ·exact absurd hv (fun e=>by
    have hne:(bX xs p y).length≠0:=by simp [bX]
    obtain ⟨g,c',e',_⟩:=ho.sh bI (by omega)
    cases e'
    simp [Value.ownBlock] at e)
  ·exact .inr ⟨k,hv,Nat.le_trans hs3 (ho.lt k hv).1⟩
theorem rO {base d B M c:Nat} {xs:List FV} {A:Option Addr} {y:FV} {w:World} (hs:DSt base d B w M xs A c) (hf:(aA (d+1)).rd w B y.f y.cs) (hn:xs.length≤100000) :
 Calls Tryz.prog 52 #[.pointer (some ⟨M,0,none⟩),.agg y.cs.toArray] w fun z w'=>qJ base d B M w w' xs A c y.f z:=by
 have HS:=Lib.hid hs
 have HF:=Lib.hid hf
 have hml:=hs.hd.lt
 have hBM:=hs.hB
 have HFI:Hid (y.f.pr.name.size≤140737488351232∧U32 y.f.o):=Lib.hid (by obtain ⟨_,_,_,h1,_,_,_,_,h2⟩:=aI hf;exact ⟨h1,h2⟩)
 clear hs hf
 obtain ⟨i0,hi0,hz0,hz1,hz2⟩:=info_parts fZ
 show Calls Tryz.prog 52 #[_,.agg #[.string y.f.pr.name,.slice y.a y.f.pr.terms.length y.c,.int .u32 y.f.o]] w _
 go_enter Tryz.func52,Tryz.ntmps52
 go_wp2_with fail
 generalize hW:World.alloc _ _=w1
 obtain ⟨hb1,hz⟩:=al1 hW
 have HF1:=Lib.hid (n11 hW)
 have HB1:=Lib.hid hb1
 have HS1:=Lib.hid (HS.out.later hb1)
 clear hW hb1
 refine (ub (f:=y.f) (vf:=y.cs) (B2:=B) HS1.out ((aA (d+1)).keep HB1.out (by omega) HF.out) (by have:=HB1.out.size;omega) hn).mono ?_
 rintro z w2 ⟨rfl,hb⟩
 have HF2:=Lib.hid (HF1.out.later hb)
 have HB2:=Lib.hid (ac HB1.out hb)
 clear hb
 obtain ⟨p,hp⟩:∃p,p=jl (xs.map FV.f) y.f:=⟨_,rfl⟩
 obtain ⟨q,hq⟩:∃q,q=pa (xs.map FV.f) y.f:=⟨_,rfl⟩
 have hpn:p≤xs.length:=by rw [hp];have:=kN (fs:=xs.map FV.f) (f:=y.f);rwa [List.length_map] at this
 have HP:=Lib.hid hp
 have HQ:=Lib.hid hq
 rw [←hp,←hq]
 clear hp hq
 have k_f:=HF2.out.cell
 have l_f:=HF2.out.lt
 cases q
 rotate_left
 ·go_wp2_with fail
  go_ret
  exact qJ.no HS.out HB2.out (by unfold lY;rw [←HQ.out];simp)
 go_wp2_with fail
 refine (pF (d:=d+1) (B:=B) (f:=y.f) (vf:=[_,_,_]) ((aA (d+1)).keep HB2.out (by omega) HF.out) (by have:=HB2.out.size;omega)).mono ?_
 rintro z w3 ⟨rfl,hb⟩
 have HF3:=Lib.hid (HF2.out.later hb)
 have HB3:=Lib.hid (ac HB2.out hb)
 have HS3:=Lib.hid (HS.out.later HB3.out)
 have hsz3:=HB3.out.size
 clear hb k_f l_f
 obtain ⟨sb,hsb⟩:∃sb,sb=bH y.f:=⟨_,rfl⟩
 have HSB:=Lib.hid hsb
 rw [←hsb]
 clear hsb
 cases sb
 ·go_wp2_with fail
  go_ret
  exact qJ.no HS.out HB3.out (fI HSB.out.symm)
 have HAD:Hid (lY (xs.map FV.f) y.f=true):=Lib.hid (by unfold lY;rw [←HSB.out,←HQ.out];rfl)
 have HFO:=Lib.hid (jJ HSB.out.symm HFI.out.1 HFI.out.2)
 go_upto_region 4 with fail
 rcases A with _ | a
 ·obtain ⟨rfl,rfl⟩:=au.none_nil HS.out.row
  obtain rfl:p=0:=by simpa using hpn
  simp only [List.length_nil] at *
  have HSL:Hid (∀{w':World},Below w3.heap.size w3 w'→(w'.cell? ⟨M,0,none⟩=some (.slice none 0 0)∧w'.cell? ⟨w.heap.size,0,none⟩=some (.string y.f.pr.name)∧w'.cell? ⟨w.heap.size,1,none⟩=some (.slice y.a y.f.pr.terms.length y.c)∧w'.cell? ⟨w.heap.size,2,none⟩=some (.int .u32 y.f.o))):=Lib.hid (fun hb=>have h:=(HF3.out.later hb).cell;⟨(HS3.out.later hb).hd.cell 0,h 0,h 1,h 2⟩)
  have mixed:Tryz.prog.follows .mixedOrders=true:=by kernel_rfl
  refine aV (S:=fun w'=>w'.cell? ⟨M,0,none⟩=some (.slice none 0 0)∧w'.cell? ⟨w.heap.size,0,none⟩=some (.string y.f.pr.name)∧w'.cell? ⟨w.heap.size,1,none⟩=some (.slice y.a y.f.pr.terms.length y.c)∧w'.cell? ⟨w.heap.size,2,none⟩=some (.int .u32 y.f.o)) 20 (by kernel_rfl) (by kernel_rfl) (by kernel_rfl) (by kernel_rfl) (HSL.out (Below.refl _ _).drew) ?_
  refine ab (i:=0) (v:=?v1_) (by simp only [List.getElem?_toArray,List.getElem?_cons_succ,List.getElem?_cons_zero];rfl) (by kernel_rfl) (by kernel_rfl) (by kernel_rfl) (by kernel_rfl) ?hq1_ ?hw1_ ?hy1_ ?rest1_
  case hq1_=>exact fun _ _ _ h=>h
  case hw1_=>rfl
  case hy1_=>(intro w' hS';(try dsimp only at hS');go_simp;(try with_reducible rfl))
  (try simp only [Act.put,List.setIfInBounds_toArray,List.set_cons_zero,List.set_cons_succ])
  refine ab (i:=1) (v:=?v2_) (by simp only [List.getElem?_toArray,List.getElem?_cons_succ,List.getElem?_cons_zero];rfl) (by kernel_rfl) (by kernel_rfl) (by kernel_rfl) (by kernel_rfl) ?hq2_ ?hw2_ ?hy2_ ?rest2_
  case hq2_=>exact fun _ _ _ h=>h
  case hw2_=>rfl
  case hy2_=>(intro w' hS';(try dsimp only at hS');go_simp;(try with_reducible rfl))
  (try simp only [Act.put,List.setIfInBounds_toArray,List.set_cons_zero,List.set_cons_succ])
  refine ab (i:=2) (v:=?v3_) (by simp only [List.getElem?_toArray,List.getElem?_cons_succ,List.getElem?_cons_zero];rfl) (by kernel_rfl) (by kernel_rfl) (by kernel_rfl) (by kernel_rfl) ?hq3_ ?hw3_ ?hy3_ ?rest3_
  case hq3_=>exact fun _ _ _ h=>h
  case hw3_=>rfl
  case hy3_=>(intro w' hS';(try dsimp only at hS');go_simp;(try with_reducible rfl))
  (try simp only [Act.put,List.setIfInBounds_toArray,List.set_cons_zero,List.set_cons_succ])
  refine ab (i:=3) (v:=?v4_) (by simp only [List.getElem?_toArray,List.getElem?_cons_succ,List.getElem?_cons_zero];rfl) (by kernel_rfl) (by kernel_rfl) (by kernel_rfl) (by kernel_rfl) ?hq4_ ?hw4_ ?hy4_ ?rest4_
  case hq4_=>exact fun _ _ _ h=>h
  case hw4_=>rfl
  case hy4_=>(intro w' hS';(try dsimp only at hS');go_simp;(try with_reducible rfl))
  (try simp only [Act.put,List.setIfInBounds_toArray,List.set_cons_zero,List.set_cons_succ])
  refine ab (i:=4) (v:=?v5_) (by simp only [List.getElem?_toArray,List.getElem?_cons_succ,List.getElem?_cons_zero];rfl) (by kernel_rfl) (by kernel_rfl) (by kernel_rfl) (by kernel_rfl) ?hq5_ ?hw5_ ?hy5_ ?rest5_
  case hq5_=>exact fun _ _ _ h=>h
  case hw5_=>rfl
  case hy5_=>(intro w' hS';(try dsimp only at hS');go_simp;(try with_reducible rfl))
  (try simp only [Act.put,List.setIfInBounds_toArray,List.set_cons_zero,List.set_cons_succ])
  refine ab (i:=5) (v:=?v6_) (by simp only [List.getElem?_toArray,List.getElem?_cons_succ,List.getElem?_cons_zero];rfl) (by kernel_rfl) (by kernel_rfl) (by kernel_rfl) (by kernel_rfl) ?hq6_ ?hw6_ ?hy6_ ?rest6_
  case hq6_=>exact fun _ _ _ h=>h
  case hw6_=>rfl
  case hy6_=>(intro w' hS';(try dsimp only at hS');go_simp;(try with_reducible rfl))
  (try simp only [Act.put,List.setIfInBounds_toArray,List.set_cons_zero,List.set_cons_succ])
  refine ab (i:=6) (v:=?v7_) (by simp only [List.getElem?_toArray,List.getElem?_cons_succ,List.getElem?_cons_zero];rfl) (by kernel_rfl) (by kernel_rfl) (by kernel_rfl) (by kernel_rfl) ?hq7_ ?hw7_ ?hy7_ ?rest7_
  case hq7_=>exact fun _ _ _ h=>h
  case hw7_=>rfl
  case hy7_=>(intro w' hS';(try dsimp only at hS');go_simp;(try with_reducible rfl))
  (try simp only [Act.put,List.setIfInBounds_toArray,List.set_cons_zero,List.set_cons_succ])
  refine ab (i:=8) (v:=?v8_) (by simp only [List.getElem?_toArray,List.getElem?_cons_succ,List.getElem?_cons_zero];rfl) (by kernel_rfl) (by kernel_rfl) (by kernel_rfl) (by kernel_rfl) ?hq8_ ?hw8_ ?hy8_ ?rest8_
  case hq8_=>exact fun _ _ _ h=>h
  case hw8_=>rfl
  case hy8_=>(intro w' hS';(try dsimp only at hS');go_simp;(try with_reducible rfl))
  (try simp only [Act.put,List.setIfInBounds_toArray,List.set_cons_zero,List.set_cons_succ])
  refine ab (i:=11) (v:=?v9_) (by simp only [List.getElem?_toArray,List.getElem?_cons_succ,List.getElem?_cons_zero];rfl) (by kernel_rfl) (by kernel_rfl) (by kernel_rfl) (by kernel_rfl) ?hq9_ ?hw9_ ?hy9_ ?rest9_
  case hq9_=>exact fun _ _ _ h=>h
  case hw9_=>rfl
  case hy9_=>(intro w' hS';(try dsimp only at hS');go_simp;(try with_reducible rfl))
  (try simp only [Act.put,List.setIfInBounds_toArray,List.set_cons_zero,List.set_cons_succ])
  refine ab (i:=12) (v:=?v10_) (by simp only [List.getElem?_toArray,List.getElem?_cons_succ,List.getElem?_cons_zero];rfl) (by kernel_rfl) (by kernel_rfl) (by kernel_rfl) (by kernel_rfl) ?hq10_ ?hw10_ ?hy10_ ?rest10_
  case hq10_=>exact fun _ _ _ h=>h
  case hw10_=>rfl
  case hy10_=>(intro w' hS';(try dsimp only at hS');go_simp;(try with_reducible rfl))
  (try simp only [Act.put,List.setIfInBounds_toArray,List.set_cons_zero,List.set_cons_succ])
  refine ab (i:=13) (v:=?v11_) (by simp only [List.getElem?_toArray,List.getElem?_cons_succ,List.getElem?_cons_zero];rfl) (by kernel_rfl) (by kernel_rfl) (by kernel_rfl) (by kernel_rfl) ?hq11_ ?hw11_ ?hy11_ ?rest11_
  case hq11_=>exact fun _ _ _ h=>h
  case hw11_=>rfl
  case hy11_=>(intro w' hS';(try dsimp only at hS');go_simp;(try with_reducible rfl))
  (try simp only [Act.put,List.setIfInBounds_toArray,List.set_cons_zero,List.set_cons_succ])
  refine ab (i:=14) (v:=?v12_) (by simp only [List.getElem?_toArray,List.getElem?_cons_succ,List.getElem?_cons_zero];rfl) (by kernel_rfl) (by kernel_rfl) (by kernel_rfl) (by kernel_rfl) ?hq12_ ?hw12_ ?hy12_ ?rest12_
  case hq12_=>exact fun _ _ _ h=>h
  case hw12_=>rfl
  case hy12_=>(intro w' hS';(try dsimp only at hS');go_simp;(try with_reducible rfl))
  (try simp only [Act.put,List.setIfInBounds_toArray,List.set_cons_zero,List.set_cons_succ])
  refine ab (i:=15) (v:=?v13_) (by simp only [List.getElem?_toArray,List.getElem?_cons_succ,List.getElem?_cons_zero];rfl) (by kernel_rfl) (by kernel_rfl) (by kernel_rfl) (by kernel_rfl) ?hq13_ ?hw13_ ?hy13_ ?rest13_
  case hq13_=>exact fun _ _ _ h=>h
  case hw13_=>rfl
  case hy13_=>(intro w' hS';(try dsimp only at hS');go_simp;(try with_reducible rfl))
  (try simp only [Act.put,List.setIfInBounds_toArray,List.set_cons_zero,List.set_cons_succ])
  refine ab (i:=16) (v:=?v14_) (by simp only [List.getElem?_toArray,List.getElem?_cons_succ,List.getElem?_cons_zero];rfl) (by kernel_rfl) (by kernel_rfl) (by kernel_rfl) (by kernel_rfl) ?hq14_ ?hw14_ ?hy14_ ?rest14_
  case hq14_=>exact fun _ _ _ h=>h
  case hw14_=>rfl
  case hy14_=>(intro w' hS';(try dsimp only at hS');go_simp;(try with_reducible rfl))
  (try simp only [Act.put,List.setIfInBounds_toArray,List.set_cons_zero,List.set_cons_succ])
  generalize hD:World.drew w3=u_0
  have HU_0:Hid (Below w3.heap.size w3 u_0):=Lib.hid (hD▸(Below.refl _ _).drew)
  have hs_0:=HU_0.out.size
  clear hD
  refine av (rs:=[7,9]) (by kernel_rfl) rfl (by kernel_rfl) ?_
  refine am.cons (by simp only [List.getElem?_toArray,List.getElem?_cons_succ,List.getElem?_cons_zero];rfl) (fun K hK=>?_) (am.cons (by simp only [List.getElem?_toArray,List.getElem?_cons_succ,List.getElem?_cons_zero];rfl) (fun K hK=>?_) am.nil)
  ·
   refine aq (R:=FvR) (e:=33) rfl (.const (.slice none 0 0)) (.tmp 25) 22 rfl (bytes:=48) Tryz.underlying22 hi0 hz0 hz1 hz2 rfl (show 0<3 by omega) aC rfl (xs:=[]) (base:=w3.heap.size) (B:=0) (au.nil _ _ _ _ _) rfl (ys:=[]) (eK.none rfl) rfl (Nat.zero_le _) (by first | (simp;done) | (simp;omega)) (by omega) HU_0.out.size ?_
   intro v_1 uN_1 hown hb hg hf
   have HUN_1:Hid (Below w3.heap.size w3 uN_1):=Lib.hid (HU_0.out.trans hb)
   have HO_1:=Lib.hid hown
   clear hown hb hg hf
   refine hK.out _ _ (HSL.out HUN_1.out) ?_
   clear hK
   (try simp only [Act.put,List.setIfInBounds_toArray,List.set_cons_zero,List.set_cons_succ])
   refine av (rs:=[9]) (by kernel_rfl) rfl (by kernel_rfl) ?_
   refine am.cons (by simp only [List.getElem?_toArray,List.getElem?_cons_succ,List.getElem?_cons_zero];rfl) (fun K hK=>?_) am.nil
   ·
    go_simp
    generalize hW:World.alloc _ _=uN_2
    obtain ⟨hb,hz⟩:=al1 hW
    have HUN_2:Hid (Below w3.heap.size w3 uN_2):=Lib.hid (HUN_1.out.trans (hb.mono HUN_1.out.size))
    have HP_2:Hid (uN_2.heap[uN_1.heap.size]? = some (.cells #[.string y.f.pr.name,.slice y.a y.f.pr.terms.length y.c,.int .u32 y.f.o] 33 (0,0))):=Lib.hid (hW▸heap_alloc_new _ _)
    have HO_2:=Lib.hid (HO_1.out.later hb (Nat.zero_le _))
    have HK_2:Hid (bP uN_2 _ (uN_1.heap.size) _ _):=Lib.hid (bP.mk' HP_2.out (HO_1.out.own_lt (Nat.le_refl _)))
    clear hW hb hz
    refine hK.out _ _ (HSL.out HUN_2.out) ?_
    clear hK
    (try simp only [Act.put,List.setIfInBounds_toArray,List.set_cons_zero,List.set_cons_succ])
    refine av (rs:=[10]) (by kernel_rfl) rfl (by kernel_rfl) ?_
    refine am.cons (by simp only [List.getElem?_toArray,List.getElem?_cons_succ,List.getElem?_cons_zero];rfl) (fun K hK=>?_) am.nil
    ·
     refine aq (R:=FvR) (e:=33) rfl (.tmp 26) (.tmp 28) 22 rfl (bytes:=48) Tryz.underlying22 hi0 hz0 hz1 hz2 rfl (show 0<3 by omega) aC rfl (xs:=[]) (base:=w3.heap.size) (B:=0) HO_2.out rfl (ys:=[y]) (rW (xs:=[y]) HK_2.out.1 (be.one rfl)) rfl (Nat.zero_le _) (by first | (simp;done) | (simp;omega)) (by omega) HUN_2.out.size ?_
     intro v_3 uN_3 hown hb hg hf
     have HUN_3:Hid (Below w3.heap.size w3 uN_3):=Lib.hid (HUN_2.out.trans hb)
     have HO_3:=Lib.hid hown
     clear hown hb hg hf
     refine hK.out _ _ (HSL.out HUN_3.out) ?_
     clear hK
     (try simp only [Act.put,List.setIfInBounds_toArray,List.set_cons_zero,List.set_cons_succ])
     refine av (rs:=[17]) (by kernel_rfl) rfl (by kernel_rfl) ?_
     refine am.cons (by simp only [List.getElem?_toArray,List.getElem?_cons_succ,List.getElem?_cons_zero];rfl) (fun K hK=>?_) am.nil
     ·
      refine aq (R:=FvR) (e:=33) rfl (.tmp 29) (.tmp 35) 22 rfl (bytes:=48) Tryz.underlying22 hi0 hz0 hz1 hz2 rfl (show 0<3 by omega) aC rfl (xs:=[y]) (base:=w3.heap.size) (B:=0) HO_3.out rfl (ys:=[]) (eK.none rfl) rfl (Nat.zero_le _) (by first | (simp;done) | (simp;omega)) (by omega) HUN_3.out.size ?_
      intro v_4 uN_4 hown hb hg hf
      have HUN_4:Hid (Below w3.heap.size w3 uN_4):=Lib.hid (HUN_3.out.trans hb)
      obtain ⟨A2,c2,rfl⟩:=hown.form
      have HO_4:=Lib.hid hown
      clear hown hb hg hf
      refine hK.out _ _ (HSL.out HUN_4.out) ?_
      clear hK
      (try simp only [Act.put,List.setIfInBounds_toArray,List.set_cons_zero,List.set_cons_succ])
      refine ab (i:=18) (v:=?v15_) (by simp only [List.getElem?_toArray,List.getElem?_cons_succ,List.getElem?_cons_zero];rfl) (by kernel_rfl) (by kernel_rfl) (by kernel_rfl) (by kernel_rfl) ?hq15_ ?hw15_ ?hy15_ ?rest15_
      case hq15_=>exact fun _ _ _ h=>h
      case hw15_=>rfl
      case hy15_=>(intro w' hS';(try dsimp only at hS');go_simp;(try with_reducible rfl))
      (try simp only [Act.put,List.setIfInBounds_toArray,List.set_cons_zero,List.set_cons_succ])
      refine ab (i:=19) (v:=?v16_) (by simp only [List.getElem?_toArray,List.getElem?_cons_succ,List.getElem?_cons_zero];rfl) (by kernel_rfl) (by kernel_rfl) (by kernel_rfl) (by kernel_rfl) ?hq16_ ?hw16_ ?hy16_ ?rest16_
      case hq16_=>exact fun _ _ _ h=>h
      case hw16_=>rfl
      case hy16_=>(intro w' hS';(try dsimp only at hS');go_simp;(try with_reducible rfl))
      (try simp only [Act.put,List.setIfInBounds_toArray,List.set_cons_zero,List.set_cons_succ])
      have k_m:=(HS3.out.later HUN_4.out).hd.cell
      have f_m:=(HS3.out.later HUN_4.out).hd.free
      refine bO (by kernel_rfl) (by kernel_rfl) (by simp only [List.getElem?_toArray,List.getElem?_cons_succ,List.getElem?_cons_zero];rfl) (fun K hK=>?_)
      go_simp
      refine hK.out _ _ ?_
      (try simp only [Act.put,List.setIfInBounds_toArray,List.set_cons_zero,List.set_cons_succ])
      go_wp2_with fail
      go_ret
      exact gd HS.out HF.out HFO.out HAD.out HP.out HB3.out HUN_4.out (by simpa [bX,Nat.min_eq_left hpn] using HO_4.out)
  ·
   go_simp
   generalize hW:World.alloc _ _=uN_5
   obtain ⟨hb,hz⟩:=al1 hW
   have HUN_5:Hid (Below w3.heap.size w3 uN_5):=Lib.hid (HU_0.out.trans (hb.mono HU_0.out.size))
   have HP_5:Hid (uN_5.heap[u_0.heap.size]? = some (.cells #[.string y.f.pr.name,.slice y.a y.f.pr.terms.length y.c,.int .u32 y.f.o] 33 (0,0))):=Lib.hid (hW▸heap_alloc_new _ _)
   clear hW hb hz
   refine hK.out _ _ (HSL.out HUN_5.out) ?_
   clear hK
   (try simp only [Act.put,List.setIfInBounds_toArray,List.set_cons_zero,List.set_cons_succ])
   refine av (rs:=[7]) (by kernel_rfl) rfl (by kernel_rfl) ?_
   refine am.cons (by simp only [List.getElem?_toArray,List.getElem?_cons_succ,List.getElem?_cons_zero];rfl) (fun K hK=>?_) am.nil
   ·
    refine aq (R:=FvR) (e:=33) rfl (.const (.slice none 0 0)) (.tmp 25) 22 rfl (bytes:=48) Tryz.underlying22 hi0 hz0 hz1 hz2 rfl (show 0<3 by omega) aC rfl (xs:=[]) (base:=w3.heap.size) (B:=0) (au.nil _ _ _ _ _) rfl (ys:=[]) (eK.none rfl) rfl (Nat.zero_le _) (by first | (simp;done) | (simp;omega)) (by omega) HUN_5.out.size ?_
    intro v_6 uN_6 hown hb hg hf
    have HUN_6:Hid (Below w3.heap.size w3 uN_6):=Lib.hid (HUN_5.out.trans hb)
    have HK_6:Hid (bP uN_6 v_6 (u_0.heap.size) _ _):=Lib.hid ((bP.mk' (v:=.slice none 0 0) HP_5.out (fun e=>by cases e)).app hg hf)
    have HO_6:=Lib.hid hown
    clear hown hb hg hf
    refine hK.out _ _ (HSL.out HUN_6.out) ?_
    clear hK
    (try simp only [Act.put,List.setIfInBounds_toArray,List.set_cons_zero,List.set_cons_succ])
    refine av (rs:=[10]) (by kernel_rfl) rfl (by kernel_rfl) ?_
    refine am.cons (by simp only [List.getElem?_toArray,List.getElem?_cons_succ,List.getElem?_cons_zero];rfl) (fun K hK=>?_) am.nil
    ·
     refine aq (R:=FvR) (e:=33) rfl (.tmp 26) (.tmp 28) 22 rfl (bytes:=48) Tryz.underlying22 hi0 hz0 hz1 hz2 rfl (show 0<3 by omega) aC rfl (xs:=[]) (base:=w3.heap.size) (B:=0) HO_6.out rfl (ys:=[y]) (rW (xs:=[y]) HK_6.out.1 (be.one rfl)) rfl (Nat.zero_le _) (by first | (simp;done) | (simp;omega)) (by omega) HUN_6.out.size ?_
     intro v_7 uN_7 hown hb hg hf
     have HUN_7:Hid (Below w3.heap.size w3 uN_7):=Lib.hid (HUN_6.out.trans hb)
     have HO_7:=Lib.hid hown
     clear hown hb hg hf
     refine hK.out _ _ (HSL.out HUN_7.out) ?_
     clear hK
     (try simp only [Act.put,List.setIfInBounds_toArray,List.set_cons_zero,List.set_cons_succ])
     refine av (rs:=[17]) (by kernel_rfl) rfl (by kernel_rfl) ?_
     refine am.cons (by simp only [List.getElem?_toArray,List.getElem?_cons_succ,List.getElem?_cons_zero];rfl) (fun K hK=>?_) am.nil
     ·
      refine aq (R:=FvR) (e:=33) rfl (.tmp 29) (.tmp 35) 22 rfl (bytes:=48) Tryz.underlying22 hi0 hz0 hz1 hz2 rfl (show 0<3 by omega) aC rfl (xs:=[y]) (base:=w3.heap.size) (B:=0) HO_7.out rfl (ys:=[]) (eK.none rfl) rfl (Nat.zero_le _) (by first | (simp;done) | (simp;omega)) (by omega) HUN_7.out.size ?_
      intro v_8 uN_8 hown hb hg hf
      have HUN_8:Hid (Below w3.heap.size w3 uN_8):=Lib.hid (HUN_7.out.trans hb)
      obtain ⟨A2,c2,rfl⟩:=hown.form
      have HO_8:=Lib.hid hown
      clear hown hb hg hf
      refine hK.out _ _ (HSL.out HUN_8.out) ?_
      clear hK
      (try simp only [Act.put,List.setIfInBounds_toArray,List.set_cons_zero,List.set_cons_succ])
      refine ab (i:=18) (v:=?v17_) (by simp only [List.getElem?_toArray,List.getElem?_cons_succ,List.getElem?_cons_zero];rfl) (by kernel_rfl) (by kernel_rfl) (by kernel_rfl) (by kernel_rfl) ?hq17_ ?hw17_ ?hy17_ ?rest17_
      case hq17_=>exact fun _ _ _ h=>h
      case hw17_=>rfl
      case hy17_=>(intro w' hS';(try dsimp only at hS');go_simp;(try with_reducible rfl))
      (try simp only [Act.put,List.setIfInBounds_toArray,List.set_cons_zero,List.set_cons_succ])
      refine ab (i:=19) (v:=?v18_) (by simp only [List.getElem?_toArray,List.getElem?_cons_succ,List.getElem?_cons_zero];rfl) (by kernel_rfl) (by kernel_rfl) (by kernel_rfl) (by kernel_rfl) ?hq18_ ?hw18_ ?hy18_ ?rest18_
      case hq18_=>exact fun _ _ _ h=>h
      case hw18_=>rfl
      case hy18_=>(intro w' hS';(try dsimp only at hS');go_simp;(try with_reducible rfl))
      (try simp only [Act.put,List.setIfInBounds_toArray,List.set_cons_zero,List.set_cons_succ])
      have k_m:=(HS3.out.later HUN_8.out).hd.cell
      have f_m:=(HS3.out.later HUN_8.out).hd.free
      refine bO (by kernel_rfl) (by kernel_rfl) (by simp only [List.getElem?_toArray,List.getElem?_cons_succ,List.getElem?_cons_zero];rfl) (fun K hK=>?_)
      go_simp
      refine hK.out _ _ ?_
      (try simp only [Act.put,List.setIfInBounds_toArray,List.set_cons_zero,List.set_cons_succ])
      go_wp2_with fail
      go_ret
      exact gd HS.out HF.out HFO.out HAD.out HP.out HB3.out HUN_8.out (by simpa [bX,Nat.min_eq_left hpn] using HO_8.out)
 ·obtain ⟨g,rfl,hg3,hg4⟩:=au.some_row HS.out.row
  by_cases hpc:p=c
  ·obtain rfl:p=xs.length:=by omega
   obtain rfl:c=xs.length:=hpc.symm
   have HSL:Hid (∀{w':World},Below w3.heap.size w3 w'→(w'.cell? ⟨M,0,none⟩=some (.slice (some ⟨g,0,none⟩) xs.length xs.length)∧w'.cell? ⟨w.heap.size,0,none⟩=some (.string y.f.pr.name)∧w'.cell? ⟨w.heap.size,1,none⟩=some (.slice y.a y.f.pr.terms.length y.c)∧w'.cell? ⟨w.heap.size,2,none⟩=some (.int .u32 y.f.o))):=Lib.hid (fun hb=>have h:=(HF3.out.later hb).cell;⟨(HS3.out.later hb).hd.cell 0,h 0,h 1,h 2⟩)
   have mixed:Tryz.prog.follows .mixedOrders=true:=by kernel_rfl
   refine aV (S:=fun w'=>w'.cell? ⟨M,0,none⟩=some (.slice (some ⟨g,0,none⟩) xs.length xs.length)∧w'.cell? ⟨w.heap.size,0,none⟩=some (.string y.f.pr.name)∧w'.cell? ⟨w.heap.size,1,none⟩=some (.slice y.a y.f.pr.terms.length y.c)∧w'.cell? ⟨w.heap.size,2,none⟩=some (.int .u32 y.f.o)) 20 (by kernel_rfl) (by kernel_rfl) (by kernel_rfl) (by kernel_rfl) (HSL.out (Below.refl _ _).drew) ?_
   refine ab (i:=0) (v:=?v19_) (by simp only [List.getElem?_toArray,List.getElem?_cons_succ,List.getElem?_cons_zero];rfl) (by kernel_rfl) (by kernel_rfl) (by kernel_rfl) (by kernel_rfl) ?hq19_ ?hw19_ ?hy19_ ?rest19_
   case hq19_=>exact fun _ _ _ h=>h
   case hw19_=>rfl
   case hy19_=>(intro w' hS';(try dsimp only at hS');go_simp;(try with_reducible rfl))
   (try simp only [Act.put,List.setIfInBounds_toArray,List.set_cons_zero,List.set_cons_succ])
   refine ab (i:=1) (v:=?v20_) (by simp only [List.getElem?_toArray,List.getElem?_cons_succ,List.getElem?_cons_zero];rfl) (by kernel_rfl) (by kernel_rfl) (by kernel_rfl) (by kernel_rfl) ?hq20_ ?hw20_ ?hy20_ ?rest20_
   case hq20_=>exact fun _ _ _ h=>h
   case hw20_=>rfl
   case hy20_=>(intro w' hS';(try dsimp only at hS');go_simp;(try with_reducible rfl))
   (try simp only [Act.put,List.setIfInBounds_toArray,List.set_cons_zero,List.set_cons_succ])
   refine ab (i:=2) (v:=?v21_) (by simp only [List.getElem?_toArray,List.getElem?_cons_succ,List.getElem?_cons_zero];rfl) (by kernel_rfl) (by kernel_rfl) (by kernel_rfl) (by kernel_rfl) ?hq21_ ?hw21_ ?hy21_ ?rest21_
   case hq21_=>exact fun _ _ _ h=>h
   case hw21_=>rfl
   case hy21_=>(intro w' hS';(try dsimp only at hS');go_simp;(try with_reducible rfl))
   (try simp only [Act.put,List.setIfInBounds_toArray,List.set_cons_zero,List.set_cons_succ])
   refine ab (i:=3) (v:=?v22_) (by simp only [List.getElem?_toArray,List.getElem?_cons_succ,List.getElem?_cons_zero];rfl) (by kernel_rfl) (by kernel_rfl) (by kernel_rfl) (by kernel_rfl) ?hq22_ ?hw22_ ?hy22_ ?rest22_
   case hq22_=>exact fun _ _ _ h=>h
   case hw22_=>rfl
   case hy22_=>(intro w' hS';(try dsimp only at hS');go_simp;(try with_reducible rfl))
   (try simp only [Act.put,List.setIfInBounds_toArray,List.set_cons_zero,List.set_cons_succ])
   refine ab (i:=4) (v:=?v23_) (by simp only [List.getElem?_toArray,List.getElem?_cons_succ,List.getElem?_cons_zero];rfl) (by kernel_rfl) (by kernel_rfl) (by kernel_rfl) (by kernel_rfl) ?hq23_ ?hw23_ ?hy23_ ?rest23_
   case hq23_=>exact fun _ _ _ h=>h
   case hw23_=>rfl
   case hy23_=>(intro w' hS';(try dsimp only at hS');go_simp;(try with_reducible rfl))
   (try simp only [Act.put,List.setIfInBounds_toArray,List.set_cons_zero,List.set_cons_succ])
   refine ab (i:=5) (v:=?v24_) (by simp only [List.getElem?_toArray,List.getElem?_cons_succ,List.getElem?_cons_zero];rfl) (by kernel_rfl) (by kernel_rfl) (by kernel_rfl) (by kernel_rfl) ?hq24_ ?hw24_ ?hy24_ ?rest24_
   case hq24_=>exact fun _ _ _ h=>h
   case hw24_=>rfl
   case hy24_=>(intro w' hS';(try dsimp only at hS');go_simp;(try with_reducible rfl))
   (try simp only [Act.put,List.setIfInBounds_toArray,List.set_cons_zero,List.set_cons_succ])
   refine ab (i:=6) (v:=?v25_) (by simp only [List.getElem?_toArray,List.getElem?_cons_succ,List.getElem?_cons_zero];rfl) (by kernel_rfl) (by kernel_rfl) (by kernel_rfl) (by kernel_rfl) ?hq25_ ?hw25_ ?hy25_ ?rest25_
   case hq25_=>exact fun _ _ _ h=>h
   case hw25_=>rfl
   case hy25_=>(intro w' hS';(try dsimp only at hS');go_simp;(try with_reducible rfl))
   (try simp only [Act.put,List.setIfInBounds_toArray,List.set_cons_zero,List.set_cons_succ])
   refine ab (i:=8) (v:=?v26_) (by simp only [List.getElem?_toArray,List.getElem?_cons_succ,List.getElem?_cons_zero];rfl) (by kernel_rfl) (by kernel_rfl) (by kernel_rfl) (by kernel_rfl) ?hq26_ ?hw26_ ?hy26_ ?rest26_
   case hq26_=>exact fun _ _ _ h=>h
   case hw26_=>rfl
   case hy26_=>(intro w' hS';(try dsimp only at hS');go_simp;(try with_reducible rfl))
   (try simp only [Act.put,List.setIfInBounds_toArray,List.set_cons_zero,List.set_cons_succ])
   refine ab (i:=11) (v:=?v27_) (by simp only [List.getElem?_toArray,List.getElem?_cons_succ,List.getElem?_cons_zero];rfl) (by kernel_rfl) (by kernel_rfl) (by kernel_rfl) (by kernel_rfl) ?hq27_ ?hw27_ ?hy27_ ?rest27_
   case hq27_=>exact fun _ _ _ h=>h
   case hw27_=>rfl
   case hy27_=>(intro w' hS';(try dsimp only at hS');go_simp;(try with_reducible rfl))
   (try simp only [Act.put,List.setIfInBounds_toArray,List.set_cons_zero,List.set_cons_succ])
   refine ab (i:=12) (v:=?v28_) (by simp only [List.getElem?_toArray,List.getElem?_cons_succ,List.getElem?_cons_zero];rfl) (by kernel_rfl) (by kernel_rfl) (by kernel_rfl) (by kernel_rfl) ?hq28_ ?hw28_ ?hy28_ ?rest28_
   case hq28_=>exact fun _ _ _ h=>h
   case hw28_=>rfl
   case hy28_=>(intro w' hS';(try dsimp only at hS');go_simp;(try with_reducible rfl))
   (try simp only [Act.put,List.setIfInBounds_toArray,List.set_cons_zero,List.set_cons_succ])
   refine ab (i:=13) (v:=?v29_) (by simp only [List.getElem?_toArray,List.getElem?_cons_succ,List.getElem?_cons_zero];rfl) (by kernel_rfl) (by kernel_rfl) (by kernel_rfl) (by kernel_rfl) ?hq29_ ?hw29_ ?hy29_ ?rest29_
   case hq29_=>exact fun _ _ _ h=>h
   case hw29_=>rfl
   case hy29_=>(intro w' hS';(try dsimp only at hS');go_simp;(try with_reducible rfl))
   (try simp only [Act.put,List.setIfInBounds_toArray,List.set_cons_zero,List.set_cons_succ])
   refine ab (i:=14) (v:=?v30_) (by simp only [List.getElem?_toArray,List.getElem?_cons_succ,List.getElem?_cons_zero];rfl) (by kernel_rfl) (by kernel_rfl) (by kernel_rfl) (by kernel_rfl) ?hq30_ ?hw30_ ?hy30_ ?rest30_
   case hq30_=>exact fun _ _ _ h=>h
   case hw30_=>rfl
   case hy30_=>(intro w' hS';(try dsimp only at hS');go_simp;(try with_reducible rfl))
   (try simp only [Act.put,List.setIfInBounds_toArray,List.set_cons_zero,List.set_cons_succ])
   refine ab (i:=15) (v:=?v31_) (by simp only [List.getElem?_toArray,List.getElem?_cons_succ,List.getElem?_cons_zero];rfl) (by kernel_rfl) (by kernel_rfl) (by kernel_rfl) (by kernel_rfl) ?hq31_ ?hw31_ ?hy31_ ?rest31_
   case hq31_=>exact fun _ _ _ h=>h
   case hw31_=>rfl
   case hy31_=>(intro w' hS';(try dsimp only at hS');go_simp;(try with_reducible rfl))
   (try simp only [Act.put,List.setIfInBounds_toArray,List.set_cons_zero,List.set_cons_succ])
   refine ab (i:=16) (v:=?v32_) (by simp only [List.getElem?_toArray,List.getElem?_cons_succ,List.getElem?_cons_zero];rfl) (by kernel_rfl) (by kernel_rfl) (by kernel_rfl) (by kernel_rfl) ?hq32_ ?hw32_ ?hy32_ ?rest32_
   case hq32_=>exact fun _ _ _ h=>h
   case hw32_=>rfl
   case hy32_=>(intro w' hS';(try dsimp only at hS');go_simp;(try with_reducible rfl))
   (try simp only [Act.put,List.setIfInBounds_toArray,List.set_cons_zero,List.set_cons_succ])
   generalize hD:World.drew w3=u_0
   have HU_0:Hid (Below w3.heap.size w3 u_0):=Lib.hid (hD▸(Below.refl _ _).drew)
   have hs_0:=HU_0.out.size
   clear hD
   refine av (rs:=[7,9]) (by kernel_rfl) rfl (by kernel_rfl) ?_
   refine am.cons (by simp only [List.getElem?_toArray,List.getElem?_cons_succ,List.getElem?_cons_zero];rfl) (fun K hK=>?_) (am.cons (by simp only [List.getElem?_toArray,List.getElem?_cons_succ,List.getElem?_cons_zero];rfl) (fun K hK=>?_) am.nil)
   ·
    refine aq (R:=FvR) (e:=33) rfl (.const (.slice none 0 0)) (.tmp 25) 22 rfl (bytes:=48) Tryz.underlying22 hi0 hz0 hz1 hz2 rfl (show 0<3 by omega) aC rfl (xs:=[]) (base:=w3.heap.size) (B:=0) (au.nil _ _ _ _ _) rfl (ys:=xs) (by have h:=iU (p:=0) (m:=xs.length) (HS3.out.later HU_0.out).row (by omega);rw [Nat.zero_mul,List.drop_zero,List.take_length] at h;exact h) rfl (Nat.zero_le _) (by first | (simp;done) | (simp;omega)) (by omega) HU_0.out.size ?_
    intro v_1 uC_1 hown hb hg hf
    have HUC_1:Hid (Below w3.heap.size w3 uC_1):=Lib.hid (HU_0.out.trans hb)
    have HO_1:=Lib.hid hown
    clear hown hb hg hf
    refine hK.out _ _ (HSL.out HUC_1.out) ?_
    clear hK
    (try simp only [Act.put,List.setIfInBounds_toArray,List.set_cons_zero,List.set_cons_succ])
    refine av (rs:=[9]) (by kernel_rfl) rfl (by kernel_rfl) ?_
    refine am.cons (by simp only [List.getElem?_toArray,List.getElem?_cons_succ,List.getElem?_cons_zero];rfl) (fun K hK=>?_) am.nil
    ·
     go_simp
     generalize hW:World.alloc _ _=uC_2
     obtain ⟨hb,hz⟩:=al1 hW
     have HUC_2:Hid (Below w3.heap.size w3 uC_2):=Lib.hid (HUC_1.out.trans (hb.mono HUC_1.out.size))
     have HP_2:Hid (uC_2.heap[uC_1.heap.size]? = some (.cells #[.string y.f.pr.name,.slice y.a y.f.pr.terms.length y.c,.int .u32 y.f.o] 33 (0,0))):=Lib.hid (hW▸heap_alloc_new _ _)
     have HO_2:=Lib.hid (HO_1.out.later hb (Nat.zero_le _))
     have HK_2:Hid (bP uC_2 _ (uC_1.heap.size) _ _):=Lib.hid (bP.mk' HP_2.out (HO_1.out.own_lt (Nat.le_refl _)))
     clear hW hb hz
     refine hK.out _ _ (HSL.out HUC_2.out) ?_
     clear hK
     (try simp only [Act.put,List.setIfInBounds_toArray,List.set_cons_zero,List.set_cons_succ])
     refine av (rs:=[10]) (by kernel_rfl) rfl (by kernel_rfl) ?_
     refine am.cons (by simp only [List.getElem?_toArray,List.getElem?_cons_succ,List.getElem?_cons_zero];rfl) (fun K hK=>?_) am.nil
     ·
      refine aq (R:=FvR) (e:=33) rfl (.tmp 26) (.tmp 28) 22 rfl (bytes:=48) Tryz.underlying22 hi0 hz0 hz1 hz2 rfl (show 0<3 by omega) aC rfl (xs:=xs) (base:=w3.heap.size) (B:=0) HO_2.out rfl (ys:=[y]) (rW (xs:=[y]) HK_2.out.1 (be.one rfl)) rfl (Nat.zero_le _) (by first | (simp;done) | (simp;omega)) (by omega) HUC_2.out.size ?_
      intro v_3 uC_3 hown hb hg hf
      have HUC_3:Hid (Below w3.heap.size w3 uC_3):=Lib.hid (HUC_2.out.trans hb)
      have HO_3:=Lib.hid hown
      clear hown hb hg hf
      refine hK.out _ _ (HSL.out HUC_3.out) ?_
      clear hK
      (try simp only [Act.put,List.setIfInBounds_toArray,List.set_cons_zero,List.set_cons_succ])
      refine av (rs:=[17]) (by kernel_rfl) rfl (by kernel_rfl) ?_
      refine am.cons (by simp only [List.getElem?_toArray,List.getElem?_cons_succ,List.getElem?_cons_zero];rfl) (fun K hK=>?_) am.nil
      ·
       refine aq (R:=FvR) (e:=33) rfl (.tmp 29) (.tmp 35) 22 rfl (bytes:=48) Tryz.underlying22 hi0 hz0 hz1 hz2 rfl (show 0<3 by omega) aC rfl (xs:=xs++[y]) (base:=w3.heap.size) (B:=0) HO_3.out rfl (ys:=[]) (ol rfl) rfl (Nat.zero_le _) (by first | (simp;done) | (simp;omega)) (by omega) HUC_3.out.size ?_
       intro v_4 uC_4 hown hb hg hf
       have HUC_4:Hid (Below w3.heap.size w3 uC_4):=Lib.hid (HUC_3.out.trans hb)
       obtain ⟨A2,c2,rfl⟩:=hown.form
       have HO_4:=Lib.hid hown
       clear hown hb hg hf
       refine hK.out _ _ (HSL.out HUC_4.out) ?_
       clear hK
       (try simp only [Act.put,List.setIfInBounds_toArray,List.set_cons_zero,List.set_cons_succ])
       refine ab (i:=18) (v:=?v33_) (by simp only [List.getElem?_toArray,List.getElem?_cons_succ,List.getElem?_cons_zero];rfl) (by kernel_rfl) (by kernel_rfl) (by kernel_rfl) (by kernel_rfl) ?hq33_ ?hw33_ ?hy33_ ?rest33_
       case hq33_=>exact fun _ _ _ h=>h
       case hw33_=>rfl
       case hy33_=>(intro w' hS';(try dsimp only at hS');go_simp;(try with_reducible rfl))
       (try simp only [Act.put,List.setIfInBounds_toArray,List.set_cons_zero,List.set_cons_succ])
       refine ab (i:=19) (v:=?v34_) (by simp only [List.getElem?_toArray,List.getElem?_cons_succ,List.getElem?_cons_zero];rfl) (by kernel_rfl) (by kernel_rfl) (by kernel_rfl) (by kernel_rfl) ?hq34_ ?hw34_ ?hy34_ ?rest34_
       case hq34_=>exact fun _ _ _ h=>h
       case hw34_=>rfl
       case hy34_=>(intro w' hS';(try dsimp only at hS');go_simp;(try with_reducible rfl))
       (try simp only [Act.put,List.setIfInBounds_toArray,List.set_cons_zero,List.set_cons_succ])
       have k_m:=(HS3.out.later HUC_4.out).hd.cell
       have f_m:=(HS3.out.later HUC_4.out).hd.free
       refine bO (by kernel_rfl) (by kernel_rfl) (by simp only [List.getElem?_toArray,List.getElem?_cons_succ,List.getElem?_cons_zero];rfl) (fun K hK=>?_)
       go_simp
       refine hK.out _ _ ?_
       (try simp only [Act.put,List.setIfInBounds_toArray,List.set_cons_zero,List.set_cons_succ])
       go_wp2_with fail
       go_ret
       exact gd HS.out HF.out HFO.out HAD.out HP.out HB3.out HUC_4.out (by simpa [bX,Nat.min_eq_left hpn] using HO_4.out)
   ·
    go_simp
    generalize hW:World.alloc _ _=uC_5
    obtain ⟨hb,hz⟩:=al1 hW
    have HUC_5:Hid (Below w3.heap.size w3 uC_5):=Lib.hid (HU_0.out.trans (hb.mono HU_0.out.size))
    have HP_5:Hid (uC_5.heap[u_0.heap.size]? = some (.cells #[.string y.f.pr.name,.slice y.a y.f.pr.terms.length y.c,.int .u32 y.f.o] 33 (0,0))):=Lib.hid (hW▸heap_alloc_new _ _)
    clear hW hb hz
    refine hK.out _ _ (HSL.out HUC_5.out) ?_
    clear hK
    (try simp only [Act.put,List.setIfInBounds_toArray,List.set_cons_zero,List.set_cons_succ])
    refine av (rs:=[7]) (by kernel_rfl) rfl (by kernel_rfl) ?_
    refine am.cons (by simp only [List.getElem?_toArray,List.getElem?_cons_succ,List.getElem?_cons_zero];rfl) (fun K hK=>?_) am.nil
    ·
     refine aq (R:=FvR) (e:=33) rfl (.const (.slice none 0 0)) (.tmp 25) 22 rfl (bytes:=48) Tryz.underlying22 hi0 hz0 hz1 hz2 rfl (show 0<3 by omega) aC rfl (xs:=[]) (base:=w3.heap.size) (B:=0) (au.nil _ _ _ _ _) rfl (ys:=xs) (by have h:=iU (p:=0) (m:=xs.length) (HS3.out.later HUC_5.out).row (by omega);rw [Nat.zero_mul,List.drop_zero,List.take_length] at h;exact h) rfl (Nat.zero_le _) (by first | (simp;done) | (simp;omega)) (by omega) HUC_5.out.size ?_
     intro v_6 uC_6 hown hb hg hf
     have HUC_6:Hid (Below w3.heap.size w3 uC_6):=Lib.hid (HUC_5.out.trans hb)
     have HK_6:Hid (bP uC_6 v_6 (u_0.heap.size) _ _):=Lib.hid ((bP.mk' (v:=.slice none 0 0) HP_5.out (fun e=>by cases e)).app hg hf)
     have HO_6:=Lib.hid hown
     clear hown hb hg hf
     refine hK.out _ _ (HSL.out HUC_6.out) ?_
     clear hK
     (try simp only [Act.put,List.setIfInBounds_toArray,List.set_cons_zero,List.set_cons_succ])
     refine av (rs:=[10]) (by kernel_rfl) rfl (by kernel_rfl) ?_
     refine am.cons (by simp only [List.getElem?_toArray,List.getElem?_cons_succ,List.getElem?_cons_zero];rfl) (fun K hK=>?_) am.nil
     ·
      refine aq (R:=FvR) (e:=33) rfl (.tmp 26) (.tmp 28) 22 rfl (bytes:=48) Tryz.underlying22 hi0 hz0 hz1 hz2 rfl (show 0<3 by omega) aC rfl (xs:=xs) (base:=w3.heap.size) (B:=0) HO_6.out rfl (ys:=[y]) (rW (xs:=[y]) HK_6.out.1 (be.one rfl)) rfl (Nat.zero_le _) (by first | (simp;done) | (simp;omega)) (by omega) HUC_6.out.size ?_
      intro v_7 uC_7 hown hb hg hf
      have HUC_7:Hid (Below w3.heap.size w3 uC_7):=Lib.hid (HUC_6.out.trans hb)
      have HO_7:=Lib.hid hown
      clear hown hb hg hf
      refine hK.out _ _ (HSL.out HUC_7.out) ?_
      clear hK
      (try simp only [Act.put,List.setIfInBounds_toArray,List.set_cons_zero,List.set_cons_succ])
      refine av (rs:=[17]) (by kernel_rfl) rfl (by kernel_rfl) ?_
      refine am.cons (by simp only [List.getElem?_toArray,List.getElem?_cons_succ,List.getElem?_cons_zero];rfl) (fun K hK=>?_) am.nil
      ·
       refine aq (R:=FvR) (e:=33) rfl (.tmp 29) (.tmp 35) 22 rfl (bytes:=48) Tryz.underlying22 hi0 hz0 hz1 hz2 rfl (show 0<3 by omega) aC rfl (xs:=xs++[y]) (base:=w3.heap.size) (B:=0) HO_7.out rfl (ys:=[]) (ol rfl) rfl (Nat.zero_le _) (by first | (simp;done) | (simp;omega)) (by omega) HUC_7.out.size ?_
       intro v_8 uC_8 hown hb hg hf
       have HUC_8:Hid (Below w3.heap.size w3 uC_8):=Lib.hid (HUC_7.out.trans hb)
       obtain ⟨A2,c2,rfl⟩:=hown.form
       have HO_8:=Lib.hid hown
       clear hown hb hg hf
       refine hK.out _ _ (HSL.out HUC_8.out) ?_
       clear hK
       (try simp only [Act.put,List.setIfInBounds_toArray,List.set_cons_zero,List.set_cons_succ])
       refine ab (i:=18) (v:=?v35_) (by simp only [List.getElem?_toArray,List.getElem?_cons_succ,List.getElem?_cons_zero];rfl) (by kernel_rfl) (by kernel_rfl) (by kernel_rfl) (by kernel_rfl) ?hq35_ ?hw35_ ?hy35_ ?rest35_
       case hq35_=>exact fun _ _ _ h=>h
       case hw35_=>rfl
       case hy35_=>(intro w' hS';(try dsimp only at hS');go_simp;(try with_reducible rfl))
       (try simp only [Act.put,List.setIfInBounds_toArray,List.set_cons_zero,List.set_cons_succ])
       refine ab (i:=19) (v:=?v36_) (by simp only [List.getElem?_toArray,List.getElem?_cons_succ,List.getElem?_cons_zero];rfl) (by kernel_rfl) (by kernel_rfl) (by kernel_rfl) (by kernel_rfl) ?hq36_ ?hw36_ ?hy36_ ?rest36_
       case hq36_=>exact fun _ _ _ h=>h
       case hw36_=>rfl
       case hy36_=>(intro w' hS';(try dsimp only at hS');go_simp;(try with_reducible rfl))
       (try simp only [Act.put,List.setIfInBounds_toArray,List.set_cons_zero,List.set_cons_succ])
       have k_m:=(HS3.out.later HUC_8.out).hd.cell
       have f_m:=(HS3.out.later HUC_8.out).hd.free
       refine bO (by kernel_rfl) (by kernel_rfl) (by simp only [List.getElem?_toArray,List.getElem?_cons_succ,List.getElem?_cons_zero];rfl) (fun K hK=>?_)
       go_simp
       refine hK.out _ _ ?_
       (try simp only [Act.put,List.setIfInBounds_toArray,List.set_cons_zero,List.set_cons_succ])
       go_wp2_with fail
       go_ret
       exact gd HS.out HF.out HFO.out HAD.out HP.out HB3.out HUC_8.out (by simpa [bX,Nat.min_eq_left hpn] using HO_8.out)
  ·have hcp:¬c=p:=fun e=>hpc e.symm
   have HSL:Hid (∀{w':World},Below w3.heap.size w3 w'→(w'.cell? ⟨M,0,none⟩=some (.slice (some ⟨g,0,none⟩) xs.length c)∧w'.cell? ⟨w.heap.size,0,none⟩=some (.string y.f.pr.name)∧w'.cell? ⟨w.heap.size,1,none⟩=some (.slice y.a y.f.pr.terms.length y.c)∧w'.cell? ⟨w.heap.size,2,none⟩=some (.int .u32 y.f.o))):=Lib.hid (fun hb=>have h:=(HF3.out.later hb).cell;⟨(HS3.out.later hb).hd.cell 0,h 0,h 1,h 2⟩)
   have mixed:Tryz.prog.follows .mixedOrders=true:=by kernel_rfl
   have hP0:(0:Int)≤(p:Int):=Int.natCast_nonneg _
   have hP1:(p:Int)≤(xs.length:Int):=by omega
   have hP2:(p:Int)≤(c:Int):=by omega
   refine aV (S:=fun w'=>w'.cell? ⟨M,0,none⟩=some (.slice (some ⟨g,0,none⟩) xs.length c)∧w'.cell? ⟨w.heap.size,0,none⟩=some (.string y.f.pr.name)∧w'.cell? ⟨w.heap.size,1,none⟩=some (.slice y.a y.f.pr.terms.length y.c)∧w'.cell? ⟨w.heap.size,2,none⟩=some (.int .u32 y.f.o)) 20 (by kernel_rfl) (by kernel_rfl) (by kernel_rfl) (by kernel_rfl) (HSL.out (Below.refl _ _).drew) ?_
   refine ab (i:=0) (v:=?v37_) (by simp only [List.getElem?_toArray,List.getElem?_cons_succ,List.getElem?_cons_zero];rfl) (by kernel_rfl) (by kernel_rfl) (by kernel_rfl) (by kernel_rfl) ?hq37_ ?hw37_ ?hy37_ ?rest37_
   case hq37_=>exact fun _ _ _ h=>h
   case hw37_=>rfl
   case hy37_=>(intro w' hS';(try dsimp only at hS');go_simp;(try with_reducible rfl))
   (try simp only [Act.put,List.setIfInBounds_toArray,List.set_cons_zero,List.set_cons_succ])
   refine ab (i:=1) (v:=?v38_) (by simp only [List.getElem?_toArray,List.getElem?_cons_succ,List.getElem?_cons_zero];rfl) (by kernel_rfl) (by kernel_rfl) (by kernel_rfl) (by kernel_rfl) ?hq38_ ?hw38_ ?hy38_ ?rest38_
   case hq38_=>exact fun _ _ _ h=>h
   case hw38_=>rfl
   case hy38_=>(intro w' hS';(try dsimp only at hS');go_simp;(try with_reducible rfl))
   (try simp only [Act.put,List.setIfInBounds_toArray,List.set_cons_zero,List.set_cons_succ])
   refine ab (i:=2) (v:=?v39_) (by simp only [List.getElem?_toArray,List.getElem?_cons_succ,List.getElem?_cons_zero];rfl) (by kernel_rfl) (by kernel_rfl) (by kernel_rfl) (by kernel_rfl) ?hq39_ ?hw39_ ?hy39_ ?rest39_
   case hq39_=>exact fun _ _ _ h=>h
   case hw39_=>rfl
   case hy39_=>(intro w' hS';(try dsimp only at hS');go_simp;(try with_reducible rfl))
   (try simp only [Act.put,List.setIfInBounds_toArray,List.set_cons_zero,List.set_cons_succ])
   refine ab (i:=3) (v:=?v40_) (by simp only [List.getElem?_toArray,List.getElem?_cons_succ,List.getElem?_cons_zero];rfl) (by kernel_rfl) (by kernel_rfl) (by kernel_rfl) (by kernel_rfl) ?hq40_ ?hw40_ ?hy40_ ?rest40_
   case hq40_=>exact fun _ _ _ h=>h
   case hw40_=>rfl
   case hy40_=>(intro w' hS';(try dsimp only at hS');go_simp;(try with_reducible rfl))
   (try simp only [Act.put,List.setIfInBounds_toArray,List.set_cons_zero,List.set_cons_succ])
   refine ab (i:=4) (v:=?v41_) (by simp only [List.getElem?_toArray,List.getElem?_cons_succ,List.getElem?_cons_zero];rfl) (by kernel_rfl) (by kernel_rfl) (by kernel_rfl) (by kernel_rfl) ?hq41_ ?hw41_ ?hy41_ ?rest41_
   case hq41_=>exact fun _ _ _ h=>h
   case hw41_=>rfl
   case hy41_=>(intro w' hS';(try dsimp only at hS');go_simp;(try with_reducible rfl))
   (try simp only [Act.put,List.setIfInBounds_toArray,List.set_cons_zero,List.set_cons_succ])
   refine ab (i:=5) (v:=?v42_) (by simp only [List.getElem?_toArray,List.getElem?_cons_succ,List.getElem?_cons_zero];rfl) (by kernel_rfl) (by kernel_rfl) (by kernel_rfl) (by kernel_rfl) ?hq42_ ?hw42_ ?hy42_ ?rest42_
   case hq42_=>exact fun _ _ _ h=>h
   case hw42_=>rfl
   case hy42_=>(intro w' hS';(try dsimp only at hS');go_simp;(try with_reducible rfl))
   (try simp only [Act.put,List.setIfInBounds_toArray,List.set_cons_zero,List.set_cons_succ])
   refine ab (i:=6) (v:=?v43_) (by simp only [List.getElem?_toArray,List.getElem?_cons_succ,List.getElem?_cons_zero];rfl) (by kernel_rfl) (by kernel_rfl) (by kernel_rfl) (by kernel_rfl) ?hq43_ ?hw43_ ?hy43_ ?rest43_
   case hq43_=>exact fun _ _ _ h=>h
   case hw43_=>rfl
   case hy43_=>(intro w' hS';(try dsimp only at hS');go_simp;(try with_reducible rfl))
   (try simp only [Act.put,List.setIfInBounds_toArray,List.set_cons_zero,List.set_cons_succ])
   refine ab (i:=8) (v:=?v44_) (by simp only [List.getElem?_toArray,List.getElem?_cons_succ,List.getElem?_cons_zero];rfl) (by kernel_rfl) (by kernel_rfl) (by kernel_rfl) (by kernel_rfl) ?hq44_ ?hw44_ ?hy44_ ?rest44_
   case hq44_=>exact fun _ _ _ h=>h
   case hw44_=>rfl
   case hy44_=>(intro w' hS';(try dsimp only at hS');go_simp;(try with_reducible rfl))
   (try simp only [Act.put,List.setIfInBounds_toArray,List.set_cons_zero,List.set_cons_succ])
   refine ab (i:=11) (v:=?v45_) (by simp only [List.getElem?_toArray,List.getElem?_cons_succ,List.getElem?_cons_zero];rfl) (by kernel_rfl) (by kernel_rfl) (by kernel_rfl) (by kernel_rfl) ?hq45_ ?hw45_ ?hy45_ ?rest45_
   case hq45_=>exact fun _ _ _ h=>h
   case hw45_=>rfl
   case hy45_=>(intro w' hS';(try dsimp only at hS');go_simp;(try with_reducible rfl))
   (try simp only [Act.put,List.setIfInBounds_toArray,List.set_cons_zero,List.set_cons_succ])
   refine ab (i:=12) (v:=?v46_) (by simp only [List.getElem?_toArray,List.getElem?_cons_succ,List.getElem?_cons_zero];rfl) (by kernel_rfl) (by kernel_rfl) (by kernel_rfl) (by kernel_rfl) ?hq46_ ?hw46_ ?hy46_ ?rest46_
   case hq46_=>exact fun _ _ _ h=>h
   case hw46_=>rfl
   case hy46_=>(intro w' hS';(try dsimp only at hS');go_simp;(try with_reducible rfl))
   (try simp only [Act.put,List.setIfInBounds_toArray,List.set_cons_zero,List.set_cons_succ])
   refine ab (i:=13) (v:=?v47_) (by simp only [List.getElem?_toArray,List.getElem?_cons_succ,List.getElem?_cons_zero];rfl) (by kernel_rfl) (by kernel_rfl) (by kernel_rfl) (by kernel_rfl) ?hq47_ ?hw47_ ?hy47_ ?rest47_
   case hq47_=>exact fun _ _ _ h=>h
   case hw47_=>rfl
   case hy47_=>(intro w' hS';(try dsimp only at hS');go_simp;(try with_reducible rfl))
   (try simp only [Act.put,List.setIfInBounds_toArray,List.set_cons_zero,List.set_cons_succ])
   refine ab (i:=14) (v:=?v48_) (by simp only [List.getElem?_toArray,List.getElem?_cons_succ,List.getElem?_cons_zero];rfl) (by kernel_rfl) (by kernel_rfl) (by kernel_rfl) (by kernel_rfl) ?hq48_ ?hw48_ ?hy48_ ?rest48_
   case hq48_=>exact fun _ _ _ h=>h
   case hw48_=>rfl
   case hy48_=>(intro w' hS';(try dsimp only at hS');go_simp;(try with_reducible rfl))
   (try simp only [Act.put,List.setIfInBounds_toArray,List.set_cons_zero,List.set_cons_succ])
   refine ab (i:=15) (v:=?v49_) (by simp only [List.getElem?_toArray,List.getElem?_cons_succ,List.getElem?_cons_zero];rfl) (by kernel_rfl) (by kernel_rfl) (by kernel_rfl) (by kernel_rfl) ?hq49_ ?hw49_ ?hy49_ ?rest49_
   case hq49_=>exact fun _ _ _ h=>h
   case hw49_=>rfl
   case hy49_=>(intro w' hS';(try dsimp only at hS');go_simp;(try with_reducible rfl))
   (try simp only [Act.put,List.setIfInBounds_toArray,List.set_cons_zero,List.set_cons_succ])
   refine ab (i:=16) (v:=?v50_) (by simp only [List.getElem?_toArray,List.getElem?_cons_succ,List.getElem?_cons_zero];rfl) (by kernel_rfl) (by kernel_rfl) (by kernel_rfl) (by kernel_rfl) ?hq50_ ?hw50_ ?hy50_ ?rest50_
   case hq50_=>exact fun _ _ _ h=>h
   case hw50_=>rfl
   case hy50_=>(intro w' hS';(try dsimp only at hS');go_simp;(try with_reducible rfl))
   (try simp only [Act.put,List.setIfInBounds_toArray,List.set_cons_zero,List.set_cons_succ])
   generalize hD:World.drew w3=u_0
   have HU_0:Hid (Below w3.heap.size w3 u_0):=Lib.hid (hD▸(Below.refl _ _).drew)
   have hs_0:=HU_0.out.size
   clear hD
   refine av (rs:=[7,9]) (by kernel_rfl) rfl (by kernel_rfl) ?_
   refine am.cons (by simp only [List.getElem?_toArray,List.getElem?_cons_succ,List.getElem?_cons_zero];rfl) (fun K hK=>?_) (am.cons (by simp only [List.getElem?_toArray,List.getElem?_cons_succ,List.getElem?_cons_zero];rfl) (fun K hK=>?_) am.nil)
   ·
    refine aq (R:=FvR) (e:=33) rfl (.const (.slice none 0 0)) (.tmp 25) 22 rfl (bytes:=48) Tryz.underlying22 hi0 hz0 hz1 hz2 rfl (show 0<3 by omega) aC rfl (xs:=[]) (base:=w3.heap.size) (B:=0) (au.nil _ _ _ _ _) rfl (ys:=xs.take p) (by have h:=iU (p:=0) (m:=p) (HS3.out.later HU_0.out).row (by omega);rw [Nat.zero_mul,List.drop_zero] at h;exact h) (by rw [List.length_take];omega) (Nat.zero_le _) (by first | (simp;done) | (simp;omega)) (by omega) HU_0.out.size ?_
    intro v_1 uG_1 hown hb hg hf
    have HUG_1:Hid (Below w3.heap.size w3 uG_1):=Lib.hid (HU_0.out.trans hb)
    have HO_1:=Lib.hid hown
    clear hown hb hg hf
    refine hK.out _ _ (HSL.out HUG_1.out) ?_
    clear hK
    (try simp only [Act.put,List.setIfInBounds_toArray,List.set_cons_zero,List.set_cons_succ])
    refine av (rs:=[9]) (by kernel_rfl) rfl (by kernel_rfl) ?_
    refine am.cons (by simp only [List.getElem?_toArray,List.getElem?_cons_succ,List.getElem?_cons_zero];rfl) (fun K hK=>?_) am.nil
    ·
     go_simp
     generalize hW:World.alloc _ _=uG_2
     obtain ⟨hb,hz⟩:=al1 hW
     have HUG_2:Hid (Below w3.heap.size w3 uG_2):=Lib.hid (HUG_1.out.trans (hb.mono HUG_1.out.size))
     have HP_2:Hid (uG_2.heap[uG_1.heap.size]? = some (.cells #[.string y.f.pr.name,.slice y.a y.f.pr.terms.length y.c,.int .u32 y.f.o] 33 (0,0))):=Lib.hid (hW▸heap_alloc_new _ _)
     have HO_2:=Lib.hid (HO_1.out.later hb (Nat.zero_le _))
     have HK_2:Hid (bP uG_2 _ (uG_1.heap.size) _ _):=Lib.hid (bP.mk' HP_2.out (HO_1.out.own_lt (Nat.le_refl _)))
     clear hW hb hz
     refine hK.out _ _ (HSL.out HUG_2.out) ?_
     clear hK
     (try simp only [Act.put,List.setIfInBounds_toArray,List.set_cons_zero,List.set_cons_succ])
     refine av (rs:=[10]) (by kernel_rfl) rfl (by kernel_rfl) ?_
     refine am.cons (by simp only [List.getElem?_toArray,List.getElem?_cons_succ,List.getElem?_cons_zero];rfl) (fun K hK=>?_) am.nil
     ·
      refine aq (R:=FvR) (e:=33) rfl (.tmp 26) (.tmp 28) 22 rfl (bytes:=48) Tryz.underlying22 hi0 hz0 hz1 hz2 rfl (show 0<3 by omega) aC rfl (xs:=xs.take p) (base:=w3.heap.size) (B:=0) HO_2.out rfl (ys:=[y]) (rW (xs:=[y]) HK_2.out.1 (be.one rfl)) rfl (Nat.zero_le _) (by first | (simp;done) | (simp;omega)) (by omega) HUG_2.out.size ?_
      intro v_3 uG_3 hown hb hg hf
      have HUG_3:Hid (Below w3.heap.size w3 uG_3):=Lib.hid (HUG_2.out.trans hb)
      have HO_3:=Lib.hid hown
      clear hown hb hg hf
      refine hK.out _ _ (HSL.out HUG_3.out) ?_
      clear hK
      (try simp only [Act.put,List.setIfInBounds_toArray,List.set_cons_zero,List.set_cons_succ])
      refine av (rs:=[17]) (by kernel_rfl) rfl (by kernel_rfl) ?_
      refine am.cons (by simp only [List.getElem?_toArray,List.getElem?_cons_succ,List.getElem?_cons_zero];rfl) (fun K hK=>?_) am.nil
      ·
       refine aq (R:=FvR) (e:=33) rfl (.tmp 29) (.tmp 35) 22 rfl (bytes:=48) Tryz.underlying22 hi0 hz0 hz1 hz2 rfl (show 0<3 by omega) aC rfl (xs:=xs.take p++[y]) (base:=w3.heap.size) (B:=0) HO_3.out rfl (ys:=xs.drop p) (by have h:=iU (p:=p) (m:=xs.length-p) (HS3.out.later HUG_3.out).row (by omega);rw [List.take_of_length_le (by rw [List.length_drop];omega)] at h;exact h) (by rw [List.length_drop]) (Nat.zero_le _) (by first | (simp;done) | (simp;omega)) (by omega) HUG_3.out.size ?_
       intro v_4 uG_4 hown hb hg hf
       have HUG_4:Hid (Below w3.heap.size w3 uG_4):=Lib.hid (HUG_3.out.trans hb)
       obtain ⟨A2,c2,rfl⟩:=hown.form
       have HO_4:=Lib.hid hown
       clear hown hb hg hf
       refine hK.out _ _ (HSL.out HUG_4.out) ?_
       clear hK
       (try simp only [Act.put,List.setIfInBounds_toArray,List.set_cons_zero,List.set_cons_succ])
       refine ab (i:=18) (v:=?v51_) (by simp only [List.getElem?_toArray,List.getElem?_cons_succ,List.getElem?_cons_zero];rfl) (by kernel_rfl) (by kernel_rfl) (by kernel_rfl) (by kernel_rfl) ?hq51_ ?hw51_ ?hy51_ ?rest51_
       case hq51_=>exact fun _ _ _ h=>h
       case hw51_=>rfl
       case hy51_=>(intro w' hS';(try dsimp only at hS');go_simp;(try with_reducible rfl))
       (try simp only [Act.put,List.setIfInBounds_toArray,List.set_cons_zero,List.set_cons_succ])
       refine ab (i:=19) (v:=?v52_) (by simp only [List.getElem?_toArray,List.getElem?_cons_succ,List.getElem?_cons_zero];rfl) (by kernel_rfl) (by kernel_rfl) (by kernel_rfl) (by kernel_rfl) ?hq52_ ?hw52_ ?hy52_ ?rest52_
       case hq52_=>exact fun _ _ _ h=>h
       case hw52_=>rfl
       case hy52_=>(intro w' hS';(try dsimp only at hS');go_simp;(try with_reducible rfl))
       (try simp only [Act.put,List.setIfInBounds_toArray,List.set_cons_zero,List.set_cons_succ])
       have k_m:=(HS3.out.later HUG_4.out).hd.cell
       have f_m:=(HS3.out.later HUG_4.out).hd.free
       refine bO (by kernel_rfl) (by kernel_rfl) (by simp only [List.getElem?_toArray,List.getElem?_cons_succ,List.getElem?_cons_zero];rfl) (fun K hK=>?_)
       go_simp
       refine hK.out _ _ ?_
       (try simp only [Act.put,List.setIfInBounds_toArray,List.set_cons_zero,List.set_cons_succ])
       go_wp2_with fail
       go_ret
       exact gd HS.out HF.out HFO.out HAD.out HP.out HB3.out HUG_4.out (by simpa [bX,Nat.min_eq_left hpn] using HO_4.out)
   ·
    go_simp
    generalize hW:World.alloc _ _=uG_5
    obtain ⟨hb,hz⟩:=al1 hW
    have HUG_5:Hid (Below w3.heap.size w3 uG_5):=Lib.hid (HU_0.out.trans (hb.mono HU_0.out.size))
    have HP_5:Hid (uG_5.heap[u_0.heap.size]? = some (.cells #[.string y.f.pr.name,.slice y.a y.f.pr.terms.length y.c,.int .u32 y.f.o] 33 (0,0))):=Lib.hid (hW▸heap_alloc_new _ _)
    clear hW hb hz
    refine hK.out _ _ (HSL.out HUG_5.out) ?_
    clear hK
    (try simp only [Act.put,List.setIfInBounds_toArray,List.set_cons_zero,List.set_cons_succ])
    refine av (rs:=[7]) (by kernel_rfl) rfl (by kernel_rfl) ?_
    refine am.cons (by simp only [List.getElem?_toArray,List.getElem?_cons_succ,List.getElem?_cons_zero];rfl) (fun K hK=>?_) am.nil
    ·
     refine aq (R:=FvR) (e:=33) rfl (.const (.slice none 0 0)) (.tmp 25) 22 rfl (bytes:=48) Tryz.underlying22 hi0 hz0 hz1 hz2 rfl (show 0<3 by omega) aC rfl (xs:=[]) (base:=w3.heap.size) (B:=0) (au.nil _ _ _ _ _) rfl (ys:=xs.take p) (by have h:=iU (p:=0) (m:=p) (HS3.out.later HUG_5.out).row (by omega);rw [Nat.zero_mul,List.drop_zero] at h;exact h) (by rw [List.length_take];omega) (Nat.zero_le _) (by first | (simp;done) | (simp;omega)) (by omega) HUG_5.out.size ?_
     intro v_6 uG_6 hown hb hg hf
     have HUG_6:Hid (Below w3.heap.size w3 uG_6):=Lib.hid (HUG_5.out.trans hb)
     have HK_6:Hid (bP uG_6 v_6 (u_0.heap.size) _ _):=Lib.hid ((bP.mk' (v:=.slice none 0 0) HP_5.out (fun e=>by cases e)).app hg hf)
     have HO_6:=Lib.hid hown
     clear hown hb hg hf
     refine hK.out _ _ (HSL.out HUG_6.out) ?_
     clear hK
     (try simp only [Act.put,List.setIfInBounds_toArray,List.set_cons_zero,List.set_cons_succ])
     refine av (rs:=[10]) (by kernel_rfl) rfl (by kernel_rfl) ?_
     refine am.cons (by simp only [List.getElem?_toArray,List.getElem?_cons_succ,List.getElem?_cons_zero];rfl) (fun K hK=>?_) am.nil
     ·
      refine aq (R:=FvR) (e:=33) rfl (.tmp 26) (.tmp 28) 22 rfl (bytes:=48) Tryz.underlying22 hi0 hz0 hz1 hz2 rfl (show 0<3 by omega) aC rfl (xs:=xs.take p) (base:=w3.heap.size) (B:=0) HO_6.out rfl (ys:=[y]) (rW (xs:=[y]) HK_6.out.1 (be.one rfl)) rfl (Nat.zero_le _) (by first | (simp;done) | (simp;omega)) (by omega) HUG_6.out.size ?_
      intro v_7 uG_7 hown hb hg hf
      have HUG_7:Hid (Below w3.heap.size w3 uG_7):=Lib.hid (HUG_6.out.trans hb)
      have HO_7:=Lib.hid hown
      clear hown hb hg hf
      refine hK.out _ _ (HSL.out HUG_7.out) ?_
      clear hK
      (try simp only [Act.put,List.setIfInBounds_toArray,List.set_cons_zero,List.set_cons_succ])
      refine av (rs:=[17]) (by kernel_rfl) rfl (by kernel_rfl) ?_
      refine am.cons (by simp only [List.getElem?_toArray,List.getElem?_cons_succ,List.getElem?_cons_zero];rfl) (fun K hK=>?_) am.nil
      ·
       refine aq (R:=FvR) (e:=33) rfl (.tmp 29) (.tmp 35) 22 rfl (bytes:=48) Tryz.underlying22 hi0 hz0 hz1 hz2 rfl (show 0<3 by omega) aC rfl (xs:=xs.take p++[y]) (base:=w3.heap.size) (B:=0) HO_7.out rfl (ys:=xs.drop p) (by have h:=iU (p:=p) (m:=xs.length-p) (HS3.out.later HUG_7.out).row (by omega);rw [List.take_of_length_le (by rw [List.length_drop];omega)] at h;exact h) (by rw [List.length_drop]) (Nat.zero_le _) (by first | (simp;done) | (simp;omega)) (by omega) HUG_7.out.size ?_
       intro v_8 uG_8 hown hb hg hf
       have HUG_8:Hid (Below w3.heap.size w3 uG_8):=Lib.hid (HUG_7.out.trans hb)
       obtain ⟨A2,c2,rfl⟩:=hown.form
       have HO_8:=Lib.hid hown
       clear hown hb hg hf
       refine hK.out _ _ (HSL.out HUG_8.out) ?_
       clear hK
       (try simp only [Act.put,List.setIfInBounds_toArray,List.set_cons_zero,List.set_cons_succ])
       refine ab (i:=18) (v:=?v53_) (by simp only [List.getElem?_toArray,List.getElem?_cons_succ,List.getElem?_cons_zero];rfl) (by kernel_rfl) (by kernel_rfl) (by kernel_rfl) (by kernel_rfl) ?hq53_ ?hw53_ ?hy53_ ?rest53_
       case hq53_=>exact fun _ _ _ h=>h
       case hw53_=>rfl
       case hy53_=>(intro w' hS';(try dsimp only at hS');go_simp;(try with_reducible rfl))
       (try simp only [Act.put,List.setIfInBounds_toArray,List.set_cons_zero,List.set_cons_succ])
       refine ab (i:=19) (v:=?v54_) (by simp only [List.getElem?_toArray,List.getElem?_cons_succ,List.getElem?_cons_zero];rfl) (by kernel_rfl) (by kernel_rfl) (by kernel_rfl) (by kernel_rfl) ?hq54_ ?hw54_ ?hy54_ ?rest54_
       case hq54_=>exact fun _ _ _ h=>h
       case hw54_=>rfl
       case hy54_=>(intro w' hS';(try dsimp only at hS');go_simp;(try with_reducible rfl))
       (try simp only [Act.put,List.setIfInBounds_toArray,List.set_cons_zero,List.set_cons_succ])
       have k_m:=(HS3.out.later HUG_8.out).hd.cell
       have f_m:=(HS3.out.later HUG_8.out).hd.free
       refine bO (by kernel_rfl) (by kernel_rfl) (by simp only [List.getElem?_toArray,List.getElem?_cons_succ,List.getElem?_cons_zero];rfl) (fun K hK=>?_)
       go_simp
       refine hK.out _ _ ?_
       (try simp only [Act.put,List.setIfInBounds_toArray,List.set_cons_zero,List.set_cons_succ])
       go_wp2_with fail
       go_ret
       exact gd HS.out HF.out HFO.out HAD.out HP.out HB3.out HUG_8.out (by simpa [bX,Nat.min_eq_left hpn] using HO_8.out)
end Go.Proofs.YtdphibjibnffeaaGreat
