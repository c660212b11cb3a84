/- viaticumlaw19.JoinTurned. Printed by mk_ljoturned.py. -/
import Derived.Test.YtdphibjibnffeaaGreatLJoTrusts
import Derived.Test.YtdphibjibnffeaaGreatHeldA
set_option linter.unusedVariables false
set_option linter.unusedSimpArgs false
set_option maxRecDepth 100000
set_option maxHeartbeats 8000000
namespace Go.Proofs.YtdphibjibnffeaaGreat
open Go.ChangeShapes Go.WideShapes Go.ChangeAt Go.RowKit
theorem cr (d:Nat):cP (aA d):=fun h u hu=>by
 obtain ⟨A,c,rfl,_⟩:=aI h
 simp only [List.mem_cons,List.not_mem_nil,or_false] at hu
 rcases hu with rfl | rfl | rfl<;>rfl
theorem Blk_at {w w':World} {b:Nat} {o:Obj} (h:w.heap[b]? = some o) (hb:Below w.heap.size w w'):w'.heap[b]? = some o:=by
 have hlt:b<w.heap.size:=by
  rcases Nat.lt_or_ge b w.heap.size with h' | h'
  ·exact h'
  ·rw [Array.getElem?_eq_none h'] at h;cases h
 exact (hb.block b hlt).trans h
theorem iv {d:Nat} {w:World} {B n c:Nat} {xs ys:List Fc} {A:Option Addr} (h:RSl (aA d) w B xs (.slice A n c)) (e:xs=ys:=by simp):RL (aA d) w B ys A:=by
 obtain ⟨A',c',e',_,_,hr⟩:=h
 cases e'
 exact e▸hr
theorem au.lit {α:Type} {R:Reader α} {e:TypeId} {w:World} {base B b:Nat} {x:α} {vs:Array Value} (h:w.heap[b]? = some (.cells vs e (0,0))) (hr:R.rd w B x vs.toList) (hb:base≤b):au R e w base B (.slice (some ⟨b,0,none⟩) 1 1) [x]:=by
 have hl:vs.size=R.k:=by rw [←R.len hr,Array.length_toList]
 exact ⟨vs.toList,⟨by simp [hl],.inr ⟨b,1,vs,rfl,hb,h,Nat.le_refl _,by simp [maxLen],by simp [hl],by show List.take (1*R.k) vs.toList=_;rw [Nat.one_mul,←hl,←Array.length_toList,List.take_length]⟩⟩,be.one hr⟩
structure Goes (a b:List Ans):Prop where
 ra:qM a
 rb:qM b
 sub:∀x∈a,∃y∈b,aH y x=0
theorem Goes.at_ {a b:List Ans} (h:Goes a b) {i k:Nat} (hi:i<a.length) (hk:k≤b.length) (hlt:∀j (hj:j<b.length),j<k→aH b[j] a[i]<0) (hn:∀hk:k<b.length,¬aH b[k] a[i]<0):∃hk:k<b.length,aH b[k] a[i]=0:=by
 obtain ⟨y,hy,h0⟩:=h.sub a[i] (List.getElem_mem hi)
 obtain ⟨j,hj,rfl⟩:=List.getElem_of_mem hy
 have hjk:k≤j:=by
  rcases Nat.lt_or_ge j k with h1 | h1
  ·have:=hlt j hj h1;omega
  ·exact h1
 have hk':k<b.length:=by omega
 refine ⟨hk',?_⟩
 have h1:=hn hk'
 rcases Nat.lt_or_eq_of_le hjk with h2 | rfl
 ·have h3:=List.pairwise_iff_getElem.1 h.rb k j hk' hj h2
  have h4:=bm.lt_le h3 (Int.le_of_eq h0)
  omega
 ·exact h0
theorem Goes.next {a b:List Ans} (h:Goes a b) {i k:Nat} (hi:i+1<a.length) (hlt:∀j (hj:j<b.length),j<k→aH b[j] (a[i]'(by omega))<0):∀j (hj:j<b.length),j<k→aH b[j] a[i+1]<0:=fun j hj hjk=>
 bm.lt_le (hlt j hj hjk) (Int.le_of_lt (List.pairwise_iff_getElem.1 h.ra i (i+1) (by omega) hi (by omega)))
theorem sg {l:List Fc} {f:Fc} {r:Ru} (hl:∀g∈f::l,wH g) (he:(aE (stL (f::l)) 4294967295 r).2=0):(aE (stL l) 4294967295 r).2=0∧Goes (aE (stL l) 4294967295 r).1 (aE (stL (f::l)) 4294967295 r).1:=by
 rw [wj hl] at he ⊢
 obtain ⟨h1,h2,h3,h4⟩:=mN (uQ _ f) he
 exact ⟨h1,h2,h3,h4⟩
theorem mp {d B c:Nat} {l:List Fc} {A:Option Addr} {r:Ru} {vr:List Value} {f:Fc} {vf:List Value} {m:Int} {w:World} (HAW:∀w1:World,Below w.heap.size w w1→Calls Tryz.prog 16 #[] w1 fun z w'=>z=.returned (.bool true)∧Below w1.heap.size w1 w')
 (hl:RL (aA (d+1)) w B l A) (hn48:l.length*48≤140737488351232) (hr:(RuR (d+1)).rd w B r vr) (hf:(aA (d+1)).rd w B f vf) (hB:B≤w.heap.size) (hm:w.cell? ⟨0,0,none⟩=some (.int .i64 m)) (hp:0<w.heap.size) :
 Calls Tryz.prog 3 #[.slice A l.length c,.agg vr.toArray,.agg vf.toArray] w fun z w'=>z=.returned (.bool true)∧Below w.heap.size w w':=by
 have hn:l.length≤140737488351232:=by omega
 have HAWH:=Lib.hid HAW
 have HL:=Lib.hid hl
 have HR:=Lib.hid hr
 have HF:=Lib.hid hf
 have HM:=Lib.hid hm
 clear HAW hl hm
 obtain ⟨i0,hi0,hz0,hz1,hz2⟩:=info_parts fZ
 obtain ⟨_,_,_,_,rfl,_,⟨A0,c0,rfl,_⟩,⟨A1,c1,rfl,_⟩,⟨A2_,c2_,rfl,_⟩,⟨A3,c3,rfl,_⟩⟩:=hr
 obtain ⟨Af,cf,rfl,_⟩:=aI hf
 clear hf
 go_enter Tryz.func3,Tryz.ntmps3
 go_upto_region 1 with fail
 generalize hW:World.alloc _ _=w1
 obtain ⟨hb1,hz⟩:=al2 hW
 have HK1:=Lib.hid (n21 hW)
 have HG1:=Lib.hid (n22 hW)
 have HB1:=Lib.hid hb1
 have hsz1:=hb1.size
 clear hW hb1 hz
 have HBW:Hid (B≤w1.heap.size):=Lib.hid (Nat.le_trans hB hsz1)
 have HLW:=Lib.hid (HL.out.keep HB1.out hB)
 have HFW_:=Lib.hid ((aA (d+1)).keep HB1.out hB HF.out)
 have HRW:=Lib.hid ((RuR (d+1)).keep HB1.out hB HR.out)
 go_cut [26] (fun v wx=>∃q:Bool,v=.bool (!q)∧Hid (q=true→l.length+1≤600)∧Hid (Below w1.heap.size w1 wx))
 case first=>
  have HSL:Hid (∀{w':World},Below w1.heap.size w1 w'→(w'.cell? ⟨w.heap.size,0,none⟩=some (.string r.head.name)∧w'.cell? ⟨w.heap.size,1,none⟩=some (.slice A0 r.head.terms.length c0)∧w'.cell? ⟨w.heap.size,2,none⟩=some (.slice A1 r.body.length c1)∧w'.cell? ⟨w.heap.size,3,none⟩=some (.slice A2_ r.exprs.length c2_)∧w'.cell? ⟨w.heap.size,4,none⟩=some (.slice A3 r.scopes.length c3)∧w'.cell? ⟨w.heap.size+1,0,none⟩=some (.string f.pr.name)∧w'.cell? ⟨w.heap.size+1,1,none⟩=some (.slice Af f.pr.terms.length cf)∧w'.cell? ⟨w.heap.size+1,2,none⟩=some (.int .u32 f.o))):=Lib.hid (fun hb=>have h:=(HK1.out.later hb).cell;have g:=(HG1.out.later hb).cell;⟨h 0,h 1,h 2,h 3,h 4,g 0,g 1,g 2⟩)
  refine aD (fun w'=>w'.cell? ⟨w.heap.size,0,none⟩=some (.string r.head.name)∧w'.cell? ⟨w.heap.size,1,none⟩=some (.slice A0 r.head.terms.length c0)∧w'.cell? ⟨w.heap.size,2,none⟩=some (.slice A1 r.body.length c1)∧w'.cell? ⟨w.heap.size,3,none⟩=some (.slice A2_ r.exprs.length c2_)∧w'.cell? ⟨w.heap.size,4,none⟩=some (.slice A3 r.scopes.length c3)∧w'.cell? ⟨w.heap.size+1,0,none⟩=some (.string f.pr.name)∧w'.cell? ⟨w.heap.size+1,1,none⟩=some (.slice Af f.pr.terms.length cf)∧w'.cell? ⟨w.heap.size+1,2,none⟩=some (.int .u32 f.o)) (by kernel_rfl) (HSL.out (Below.refl _ _).drew) ?_
  refine aa (i:=1) (v:=?v1_) (by simp only [List.getElem?_toArray,List.getElem?_cons_succ,List.getElem?_cons_zero];rfl) (by kernel_rfl) (by kernel_rfl) (by kernel_rfl) ?hq1_ ?hw1_ ?hy1_ ?rest1_
  case hq1_=>exact fun _ _ _ h=>h
  case hw1_=>rfl
  case hy1_=>(intro w' hS';(try dsimp only at hS');go_simp;(try with_reducible rfl))
  (try simp only [Act.put,List.setIfInBounds_toArray,List.set_cons_zero,List.set_cons_succ])
  refine aa (i:=3) (v:=?v2_) (by simp only [List.getElem?_toArray,List.getElem?_cons_succ,List.getElem?_cons_zero];rfl) (by kernel_rfl) (by kernel_rfl) (by kernel_rfl) ?hq2_ ?hw2_ ?hy2_ ?rest2_
  case hq2_=>exact fun _ _ _ h=>h
  case hw2_=>rfl
  case hy2_=>(intro w' hS';(try dsimp only at hS');go_simp;(try with_reducible rfl))
  (try simp only [Act.put,List.setIfInBounds_toArray,List.set_cons_zero,List.set_cons_succ])
  refine aa (i:=6) (v:=?v3_) (by simp only [List.getElem?_toArray,List.getElem?_cons_succ,List.getElem?_cons_zero];rfl) (by kernel_rfl) (by kernel_rfl) (by kernel_rfl) ?hq3_ ?hw3_ ?hy3_ ?rest3_
  case hq3_=>exact fun _ _ _ h=>h
  case hw3_=>rfl
  case hy3_=>(intro w' hS';(try dsimp only at hS');go_simp;(try with_reducible rfl))
  (try simp only [Act.put,List.setIfInBounds_toArray,List.set_cons_zero,List.set_cons_succ])
  generalize hD:World.drew w1=u_0
  have Hu_0:Hid (Below w1.heap.size w1 u_0):=Lib.hid (hD▸(Below.refl _ _).drew)
  clear hD
  refine al (rs:=[0,4]) (by kernel_rfl) rfl ?_
  refine af.cons (by simp only [List.getElem?_toArray,List.getElem?_cons_succ,List.getElem?_cons_zero];rfl) (fun K hK=>?_) (af.cons (by simp only [List.getElem?_toArray,List.getElem?_cons_succ,List.getElem?_cons_zero];rfl) (fun K hK=>?_) af.nil)
  ·
   go_simp
   generalize hW:World.alloc _ _=u_1
   obtain ⟨hb,hz⟩:=al1 hW
   have Hu_1:Hid (Below w1.heap.size w1 u_1):=Lib.hid (Hu_0.out.trans (hb.mono Hu_0.out.size))
   have HP_1:Hid (u_1.heap[u_0.heap.size]? = some (.cells #[] 33 (0,0))):=Lib.hid (hW▸heap_alloc_new _ _)
   have HO_1:=Lib.hid (au.empty (aA (d+1)) 33 HP_1.out Hu_0.out.size B)
   clear hW hb hz
   refine hK.out _ _ (HSL.out Hu_1.out) ?_
   clear hK
   (try simp only [Act.put,List.setIfInBounds_toArray,List.set_cons_zero,List.set_cons_succ])
   refine al (rs:=[2,4]) (by kernel_rfl) rfl ?_
   refine af.cons (by simp only [List.getElem?_toArray,List.getElem?_cons_succ,List.getElem?_cons_zero];rfl) (fun K hK=>?_) (af.cons (by simp only [List.getElem?_toArray,List.getElem?_cons_succ,List.getElem?_cons_zero];rfl) (fun K hK=>?_) af.nil)
   ·
    refine aq (R:=aA (d+1)) (e:=33) rfl (.tmp 18) (.tmp 19) 22 rfl (bytes:=48) Tryz.underlying22 hi0 hz0 hz1 hz2 rfl (show 0<3 by omega) (cr _) rfl (xs:=[]) (base:=w1.heap.size) (B:=B) HO_1.out rfl (ys:=l) (HLW.out.keep Hu_1.out HBW.out).src rfl HBW.out (by simp<;>omega) (by omega) Hu_1.out.size ?_
    intro v_2 u_2 hown hb hg hf
    have Hu_2:Hid (Below w1.heap.size w1 u_2):=Lib.hid (Hu_1.out.trans hb)
    have HO_2:=Lib.hid hown
    clear hown hb hg hf
    refine hK.out _ _ (HSL.out Hu_2.out) ?_
    clear hK
    (try simp only [Act.put,List.setIfInBounds_toArray,List.set_cons_zero,List.set_cons_succ])
    refine al (rs:=[4]) (by kernel_rfl) rfl ?_
    refine af.cons (by simp only [List.getElem?_toArray,List.getElem?_cons_succ,List.getElem?_cons_zero];rfl) (fun K hK=>?_) af.nil
    ·
     go_simp
     generalize hW:World.alloc _ _=u_3
     obtain ⟨hb,hz⟩:=al1 hW
     have Hu_3:Hid (Below w1.heap.size w1 u_3):=Lib.hid (Hu_2.out.trans (hb.mono Hu_2.out.size))
     have HP_3:Hid (u_3.heap[u_2.heap.size]? = some (.cells #[.string f.pr.name,.slice Af f.pr.terms.length cf,.int .u32 f.o] 33 (0,0))):=Lib.hid (hW▸heap_alloc_new _ _)
     have HO_3:=Lib.hid (HO_2.out.later hb (Nat.le_trans HBW.out Hu_2.out.size))
     have HK_3:Hid (bP u_3 _ (u_2.heap.size) _ _):=Lib.hid (bP.mk' HP_3.out (HO_2.out.own_lt (Nat.le_refl _)))
     clear hW hb hz
     refine hK.out _ _ (HSL.out Hu_3.out) ?_
     clear hK
     (try simp only [Act.put,List.setIfInBounds_toArray,List.set_cons_zero,List.set_cons_succ])
     refine al (rs:=[5]) (by kernel_rfl) rfl ?_
     refine af.cons (by simp only [List.getElem?_toArray,List.getElem?_cons_succ,List.getElem?_cons_zero];rfl) (fun K hK=>?_) af.nil
     ·
      refine aq (R:=aA (d+1)) (e:=33) rfl (.tmp 20) (.tmp 22) 22 rfl (bytes:=48) Tryz.underlying22 hi0 hz0 hz1 hz2 rfl (show 0<3 by omega) (cr _) rfl (xs:=([]++l)) (base:=w1.heap.size) (B:=B) HO_3.out rfl (ys:=[f]) (rW HK_3.out.1 (be.one (R:=aA (d+1)) ((aA (d+1)).keep Hu_3.out HBW.out HFW_.out))) rfl HBW.out (by simp<;>omega) (by omega) Hu_3.out.size ?_
      intro v_4 u_4 hown hb hg hf
      have Hu_4:Hid (Below w1.heap.size w1 u_4):=Lib.hid (Hu_3.out.trans hb)
      obtain ⟨A2,c2,rfl⟩:=hown.form
      have HO_4:=Lib.hid hown
      clear hown hb hg hf
      refine hK.out _ _ (HSL.out Hu_4.out) ?_
      clear hK
      (try simp only [Act.put,List.setIfInBounds_toArray,List.set_cons_zero,List.set_cons_succ])
      refine al (rs:=[7]) (by kernel_rfl) rfl ?_
      refine af.cons (by simp only [List.getElem?_toArray,List.getElem?_cons_succ,List.getElem?_cons_zero];rfl) (fun K hK=>?_) af.nil
      ·
       go_simp
       have hrd:RL (aA (d+1)) u_4 u_4.heap.size (l++[f]) A2:=by
        have h:=HO_4.out.reads (Nat.le_trans HBW.out Hu_4.out.size) (by show (([]++l)++[f]).length*(8*3)≤_;simp;omega)
        exact iv h
       have hcall:=kg (c:=c2) (vr:=[_,_,_,_,_]) hrd ((RuR (d+1)).wide (Nat.le_trans HBW.out Hu_4.out.size) ((RuR (d+1)).keep Hu_4.out HBW.out HRW.out)) (Nat.le_refl _) (by simp;omega)
       rw [show (l++[f]).length=l.length+1 by simp] at hcall
       refine hcall.mono ?_
       rintro z u_5 ⟨⟨q,rfl,hq⟩,hb⟩
       have Hu_5:Hid (Below w1.heap.size w1 u_5):=Lib.hid (Hu_4.out.trans (hb.mono Hu_4.out.size))
       have HQ:=Lib.hid hq
       clear hb hq hcall hrd
       refine hK.out _ _ (HSL.out Hu_5.out) ?_
       clear hK
       (try simp only [Act.put,List.setIfInBounds_toArray,List.set_cons_zero,List.set_cons_succ])
       refine aa (i:=8) (v:=?v4_) (by simp only [List.getElem?_toArray,List.getElem?_cons_succ,List.getElem?_cons_zero];rfl) (by kernel_rfl) (by kernel_rfl) (by kernel_rfl) ?hq4_ ?hw4_ ?hy4_ ?rest4_
       case hq4_=>exact fun _ _ _ h=>h
       case hw4_=>rfl
       case hy4_=>(intro w' hS';(try dsimp only at hS');go_simp;(try with_reducible rfl))
       (try simp only [Act.put,List.setIfInBounds_toArray,List.set_cons_zero,List.set_cons_succ])
       refine aX (by kernel_rfl) ?_
       go_wp2_with fail
       go_meet
       exact ⟨q,rfl,Lib.hid (fun h=>by have:=HQ.out h;simpa using this),Hu_5⟩
   ·
    go_simp
    generalize hW:World.alloc _ _=u_6
    obtain ⟨hb,hz⟩:=al1 hW
    have Hu_6:Hid (Below w1.heap.size w1 u_6):=Lib.hid (Hu_1.out.trans (hb.mono Hu_1.out.size))
    have HP_6:Hid (u_6.heap[u_1.heap.size]? = some (.cells #[.string f.pr.name,.slice Af f.pr.terms.length cf,.int .u32 f.o] 33 (0,0))):=Lib.hid (hW▸heap_alloc_new _ _)
    have HO_6:=Lib.hid (HO_1.out.later hb (Nat.le_trans HBW.out Hu_1.out.size))
    have HK_6:Hid (bP u_6 _ (u_1.heap.size) _ _):=Lib.hid (bP.mk' HP_6.out (HO_1.out.own_lt (Nat.le_refl _)))
    clear hW hb hz
    refine hK.out _ _ (HSL.out Hu_6.out) ?_
    clear hK
    (try simp only [Act.put,List.setIfInBounds_toArray,List.set_cons_zero,List.set_cons_succ])
    refine al (rs:=[2]) (by kernel_rfl) rfl ?_
    refine af.cons (by simp only [List.getElem?_toArray,List.getElem?_cons_succ,List.getElem?_cons_zero];rfl) (fun K hK=>?_) af.nil
    ·
     refine aq (R:=aA (d+1)) (e:=33) rfl (.tmp 18) (.tmp 19) 22 rfl (bytes:=48) Tryz.underlying22 hi0 hz0 hz1 hz2 rfl (show 0<3 by omega) (cr _) rfl (xs:=[]) (base:=w1.heap.size) (B:=B) HO_6.out rfl (ys:=l) (HLW.out.keep Hu_6.out HBW.out).src rfl HBW.out (by simp<;>omega) (by omega) Hu_6.out.size ?_
     intro v_7 u_7 hown hb hg hf
     have Hu_7:Hid (Below w1.heap.size w1 u_7):=Lib.hid (Hu_6.out.trans hb)
     have HK_7:Hid (bP u_7 v_7 (u_1.heap.size) _ _):=Lib.hid (HK_6.out.app hg hf)
     have HO_7:=Lib.hid hown
     clear hown hb hg hf
     refine hK.out _ _ (HSL.out Hu_7.out) ?_
     clear hK
     (try simp only [Act.put,List.setIfInBounds_toArray,List.set_cons_zero,List.set_cons_succ])
     refine al (rs:=[5]) (by kernel_rfl) rfl ?_
     refine af.cons (by simp only [List.getElem?_toArray,List.getElem?_cons_succ,List.getElem?_cons_zero];rfl) (fun K hK=>?_) af.nil
     ·
      refine aq (R:=aA (d+1)) (e:=33) rfl (.tmp 20) (.tmp 22) 22 rfl (bytes:=48) Tryz.underlying22 hi0 hz0 hz1 hz2 rfl (show 0<3 by omega) (cr _) rfl (xs:=([]++l)) (base:=w1.heap.size) (B:=B) HO_7.out rfl (ys:=[f]) (rW HK_7.out.1 (be.one (R:=aA (d+1)) ((aA (d+1)).keep Hu_7.out HBW.out HFW_.out))) rfl HBW.out (by simp<;>omega) (by omega) Hu_7.out.size ?_
      intro v_8 u_8 hown hb hg hf
      have Hu_8:Hid (Below w1.heap.size w1 u_8):=Lib.hid (Hu_7.out.trans hb)
      obtain ⟨A2,c2,rfl⟩:=hown.form
      have HO_8:=Lib.hid hown
      clear hown hb hg hf
      refine hK.out _ _ (HSL.out Hu_8.out) ?_
      clear hK
      (try simp only [Act.put,List.setIfInBounds_toArray,List.set_cons_zero,List.set_cons_succ])
      refine al (rs:=[7]) (by kernel_rfl) rfl ?_
      refine af.cons (by simp only [List.getElem?_toArray,List.getElem?_cons_succ,List.getElem?_cons_zero];rfl) (fun K hK=>?_) af.nil
      ·
       go_simp
       have hrd:RL (aA (d+1)) u_8 u_8.heap.size (l++[f]) A2:=by
        have h:=HO_8.out.reads (Nat.le_trans HBW.out Hu_8.out.size) (by show (([]++l)++[f]).length*(8*3)≤_;simp;omega)
        exact iv h
       have hcall:=kg (c:=c2) (vr:=[_,_,_,_,_]) hrd ((RuR (d+1)).wide (Nat.le_trans HBW.out Hu_8.out.size) ((RuR (d+1)).keep Hu_8.out HBW.out HRW.out)) (Nat.le_refl _) (by simp;omega)
       rw [show (l++[f]).length=l.length+1 by simp] at hcall
       refine hcall.mono ?_
       rintro z u_9 ⟨⟨q,rfl,hq⟩,hb⟩
       have Hu_9:Hid (Below w1.heap.size w1 u_9):=Lib.hid (Hu_8.out.trans (hb.mono Hu_8.out.size))
       have HQ:=Lib.hid hq
       clear hb hq hcall hrd
       refine hK.out _ _ (HSL.out Hu_9.out) ?_
       clear hK
       (try simp only [Act.put,List.setIfInBounds_toArray,List.set_cons_zero,List.set_cons_succ])
       refine aa (i:=8) (v:=?v5_) (by simp only [List.getElem?_toArray,List.getElem?_cons_succ,List.getElem?_cons_zero];rfl) (by kernel_rfl) (by kernel_rfl) (by kernel_rfl) ?hq5_ ?hw5_ ?hy5_ ?rest5_
       case hq5_=>exact fun _ _ _ h=>h
       case hw5_=>rfl
       case hy5_=>(intro w' hS';(try dsimp only at hS');go_simp;(try with_reducible rfl))
       (try simp only [Act.put,List.setIfInBounds_toArray,List.set_cons_zero,List.set_cons_succ])
       refine aX (by kernel_rfl) ?_
       go_wp2_with fail
       go_meet
       exact ⟨q,rfl,Lib.hid (fun h=>by have:=HQ.out h;simpa using this),Hu_9⟩
  ·
   go_simp
   generalize hW:World.alloc _ _=u_10
   obtain ⟨hb,hz⟩:=al1 hW
   have Hu_10:Hid (Below w1.heap.size w1 u_10):=Lib.hid (Hu_0.out.trans (hb.mono Hu_0.out.size))
   have HP_10:Hid (u_10.heap[u_0.heap.size]? = some (.cells #[.string f.pr.name,.slice Af f.pr.terms.length cf,.int .u32 f.o] 33 (0,0))):=Lib.hid (hW▸heap_alloc_new _ _)
   have hlt_10:u_0.heap.size<u_10.heap.size:=by omega
   clear hW hb hz
   refine hK.out _ _ (HSL.out Hu_10.out) ?_
   clear hK
   (try simp only [Act.put,List.setIfInBounds_toArray,List.set_cons_zero,List.set_cons_succ])
   refine al (rs:=[0]) (by kernel_rfl) rfl ?_
   refine af.cons (by simp only [List.getElem?_toArray,List.getElem?_cons_succ,List.getElem?_cons_zero];rfl) (fun K hK=>?_) af.nil
   ·
    go_simp
    generalize hW:World.alloc _ _=u_11
    obtain ⟨hb,hz⟩:=al1 hW
    have Hu_11:Hid (Below w1.heap.size w1 u_11):=Lib.hid (Hu_10.out.trans (hb.mono Hu_10.out.size))
    have HP_11:Hid (u_11.heap[u_10.heap.size]? = some (.cells #[] 33 (0,0))):=Lib.hid (hW▸heap_alloc_new _ _)
    have HO_11:=Lib.hid (au.empty (aA (d+1)) 33 HP_11.out Hu_10.out.size B)
    have HK_11:Hid (bP u_11 (.slice (some ⟨u_10.heap.size,0,none⟩) 0 0) (u_0.heap.size) _ _):=Lib.hid (bP.mk' (Blk_at HP_10.out hb) (ne_own (Nat.ne_of_lt hlt_10)).symm)
    clear hW hb hz
    refine hK.out _ _ (HSL.out Hu_11.out) ?_
    clear hK
    (try simp only [Act.put,List.setIfInBounds_toArray,List.set_cons_zero,List.set_cons_succ])
    refine al (rs:=[2]) (by kernel_rfl) rfl ?_
    refine af.cons (by simp only [List.getElem?_toArray,List.getElem?_cons_succ,List.getElem?_cons_zero];rfl) (fun K hK=>?_) af.nil
    ·
     refine aq (R:=aA (d+1)) (e:=33) rfl (.tmp 18) (.tmp 19) 22 rfl (bytes:=48) Tryz.underlying22 hi0 hz0 hz1 hz2 rfl (show 0<3 by omega) (cr _) rfl (xs:=[]) (base:=w1.heap.size) (B:=B) HO_11.out rfl (ys:=l) (HLW.out.keep Hu_11.out HBW.out).src rfl HBW.out (by simp<;>omega) (by omega) Hu_11.out.size ?_
     intro v_12 u_12 hown hb hg hf
     have Hu_12:Hid (Below w1.heap.size w1 u_12):=Lib.hid (Hu_11.out.trans hb)
     have HK_12:Hid (bP u_12 v_12 (u_0.heap.size) _ _):=Lib.hid (HK_11.out.app hg hf)
     have HO_12:=Lib.hid hown
     clear hown hb hg hf
     refine hK.out _ _ (HSL.out Hu_12.out) ?_
     clear hK
     (try simp only [Act.put,List.setIfInBounds_toArray,List.set_cons_zero,List.set_cons_succ])
     refine al (rs:=[5]) (by kernel_rfl) rfl ?_
     refine af.cons (by simp only [List.getElem?_toArray,List.getElem?_cons_succ,List.getElem?_cons_zero];rfl) (fun K hK=>?_) af.nil
     ·
      refine aq (R:=aA (d+1)) (e:=33) rfl (.tmp 20) (.tmp 22) 22 rfl (bytes:=48) Tryz.underlying22 hi0 hz0 hz1 hz2 rfl (show 0<3 by omega) (cr _) rfl (xs:=([]++l)) (base:=w1.heap.size) (B:=B) HO_12.out rfl (ys:=[f]) (rW HK_12.out.1 (be.one (R:=aA (d+1)) ((aA (d+1)).keep Hu_12.out HBW.out HFW_.out))) rfl HBW.out (by simp<;>omega) (by omega) Hu_12.out.size ?_
      intro v_13 u_13 hown hb hg hf
      have Hu_13:Hid (Below w1.heap.size w1 u_13):=Lib.hid (Hu_12.out.trans hb)
      obtain ⟨A2,c2,rfl⟩:=hown.form
      have HO_13:=Lib.hid hown
      clear hown hb hg hf
      refine hK.out _ _ (HSL.out Hu_13.out) ?_
      clear hK
      (try simp only [Act.put,List.setIfInBounds_toArray,List.set_cons_zero,List.set_cons_succ])
      refine al (rs:=[7]) (by kernel_rfl) rfl ?_
      refine af.cons (by simp only [List.getElem?_toArray,List.getElem?_cons_succ,List.getElem?_cons_zero];rfl) (fun K hK=>?_) af.nil
      ·
       go_simp
       have hrd:RL (aA (d+1)) u_13 u_13.heap.size (l++[f]) A2:=by
        have h:=HO_13.out.reads (Nat.le_trans HBW.out Hu_13.out.size) (by show (([]++l)++[f]).length*(8*3)≤_;simp;omega)
        exact iv h
       have hcall:=kg (c:=c2) (vr:=[_,_,_,_,_]) hrd ((RuR (d+1)).wide (Nat.le_trans HBW.out Hu_13.out.size) ((RuR (d+1)).keep Hu_13.out HBW.out HRW.out)) (Nat.le_refl _) (by simp;omega)
       rw [show (l++[f]).length=l.length+1 by simp] at hcall
       refine hcall.mono ?_
       rintro z u_14 ⟨⟨q,rfl,hq⟩,hb⟩
       have Hu_14:Hid (Below w1.heap.size w1 u_14):=Lib.hid (Hu_13.out.trans (hb.mono Hu_13.out.size))
       have HQ:=Lib.hid hq
       clear hb hq hcall hrd
       refine hK.out _ _ (HSL.out Hu_14.out) ?_
       clear hK
       (try simp only [Act.put,List.setIfInBounds_toArray,List.set_cons_zero,List.set_cons_succ])
       refine aa (i:=8) (v:=?v6_) (by simp only [List.getElem?_toArray,List.getElem?_cons_succ,List.getElem?_cons_zero];rfl) (by kernel_rfl) (by kernel_rfl) (by kernel_rfl) ?hq6_ ?hw6_ ?hy6_ ?rest6_
       case hq6_=>exact fun _ _ _ h=>h
       case hw6_=>rfl
       case hy6_=>(intro w' hS';(try dsimp only at hS');go_simp;(try with_reducible rfl))
       (try simp only [Act.put,List.setIfInBounds_toArray,List.set_cons_zero,List.set_cons_succ])
       refine aX (by kernel_rfl) ?_
       go_wp2_with fail
       go_meet
       exact ⟨q,rfl,Lib.hid (fun h=>by have:=HQ.out h;simpa using this),Hu_14⟩
 case rest=>
  obtain ⟨q,rfl,HQ,HB12⟩:=hcut
  generalize wc=w2 at *
  have HK2:=Lib.hid (HK1.out.later HB12.out)
  have HG2:=Lib.hid (HG1.out.later HB12.out)
  have HB2:=Lib.hid (ac HB1.out HB12.out)
  have hsz2:=HB2.out.size
  cases q
  ·clear HQ
   go_wp2_with fail
   refine (HAWH.out _ HB2.out).mono ?_
   rintro z w3 ⟨rfl,hb3⟩
   go_wp2_with fail
   go_ret
   exact ⟨rfl,ac HB2.out hb3⟩
  have hl6:l.length+1≤600:=HQ.out rfl
  clear HQ
  go_wp2_with fail
  refine (pn (d:=d) (B:=B) (l:=l) (A:=A) (c:=c) (HL.out.keep HB2.out hB) (by omega) (by omega)).mono ?_
  rintro z w3 ⟨S,M,xs,As,cs,ys,Am,cm,rfl,hT,hx,hy,hb3⟩
  have HT3:=Lib.hid hT
  have HX3:=Lib.hid hx
  have HK3:=Lib.hid (HK2.out.later hb3)
  have HG3:=Lib.hid (HG2.out.later hb3)
  have HB3:=Lib.hid (ac HB2.out hb3)
  have hsz3:=HB3.out.size
  clear hT hx hy hb3
  have k_g:=HG3.out.cell
  have l_g:=HG3.out.lt
  have HA3:Hid (Below w3.heap.size w3 (w3.alloc (.cells #[.string f.pr.name,.slice Af f.pr.terms.length cf,.int .u32 f.o] 33))):=Lib.hid ((Below.refl _ _).alloc (Nat.le_refl _) _)
  have HOW:=Lib.hid (And.intro (au.lit (R:=aA (d+1)) (base:=w3.heap.size) (B:=B) (x:=f) (hp11 (w:=w3) (o1:=.cells #[.string f.pr.name,.slice Af f.pr.terms.length cf,.int .u32 f.o] 33)) ((aA (d+1)).keep (ac HB3.out HA3.out) hB HF.out) (Nat.le_refl _)) (HL.out.keep (ac HB3.out HA3.out) hB).src)
  go_wp2_with ((
   at_builtin
   refine aw (R:=aA (d+1)) (e:=33) (base:=w3.heap.size) (B:=B) (xs:=[f]) (ys:=l) rfl (.tmp 35) (.tmp 36) 22 rfl (bytes:=48) Tryz.underlying22 hi0 hz0 hz1 hz2 rfl (show 0<3 by omega) (cr _) rfl HOW.out.1 rfl HOW.out.2 rfl (by omega) (by simp only [List.length_cons,List.length_nil];omega) (by omega) (by rw [World.size_alloc];omega) ?_
   intro v4 w4 hown4 hb4
   obtain ⟨A4,c4,hv4⟩:=hown4.form
   subst hv4
   have H4:=Lib.hid (And.intro hown4 (HA3.out.trans hb4))
   clear hown4 hb4 k_g l_g))
  have hsz4:=H4.out.2.size
  have HK4:=Lib.hid (HK3.out.later H4.out.2)
  have HT4:=Lib.hid (HT3.out.later H4.out.2)
  have HB4:=Lib.hid (ac HB3.out H4.out.2)
  have HRL4:Hid (RL (aA (d+1)) w4 w4.heap.size (f::l) A4):=Lib.hid (by
   have h:=H4.out.1.reads (by omega) (by show ([f]++l).length*(8*3)≤_;simp;omega)
   exact iv h)
  have hcall:=pn (c:=c4) HRL4.out (Nat.le_refl _) (by simp;omega)
  rw [List.length_cons] at hcall
  refine hcall.mono ?_
  rintro z w5 ⟨S2,M2,xs2,As2,cs2,ys2,Am2,cm2,rfl,hT,hx,hy,hb5⟩
  have HT5:=Lib.hid (HT4.out.later hb5)
  have HU5:=Lib.hid hT
  have HX5:=Lib.hid hx
  have HK5:=Lib.hid (HK4.out.later hb5)
  have HB5:=Lib.hid (ac HB4.out hb5)
  have HFW:Hid (xs.length≤100000∧xs2.length≤100000):=Lib.hid (by
   have h1:=mC l []
   have h2:=mC (f::l) []
   have h3:=congrArg List.length HX3.out
   have h4:=congrArg List.length hx
   rw [List.length_map] at h3 h4
   unfold stL at h3 h4
   simp only [List.length_nil,List.length_cons] at h1 h2
   omega)
  have HLAW:Hid ((aE (xs2.map FV.f) 4294967295 r).2=0→(aE (xs.map FV.f) 4294967295 r).2=0∧Goes (aE (xs.map FV.f) 4294967295 r).1 (aE (xs2.map FV.f) 4294967295 r).1):=Lib.hid (fun he=>by
   rw [HX5.out] at he ⊢
   rw [HX3.out]
   exact sg (fun g hg=>by
    rcases List.mem_cons.1 hg with rfl | hg
    ·exact tg HF.out
    ·obtain ⟨i,hi,rfl⟩:=List.getElem_of_mem hg
     obtain ⟨b,off,_,_,hc⟩:=HL.out (by omega)
     obtain ⟨vs,_,⟨x,hx,hr⟩,_⟩:=hc i hi
     obtain ⟨_,rfl⟩:=List.getElem?_eq_some_iff.1 hx
     exact tg hr) he)
  clear hT hx hy hb5 hcall
  have k_r:=HK5.out.cell
  have l_r:=HK5.out.lt
  go_wp2_with fail
  refine (el (d:=d) (B:=B) (r:=r) (vr:=[_,_,_,_,_]) (tr:=4294967295) ((RuR (d+1)).keep HB5.out hB HR.out) (Nat.le_trans hB HB5.out.size) HT5.out.s HFW.out.1 ((HB5.out.cell (p:=⟨0,0,none⟩) hp).trans HM.out) (Nat.lt_of_lt_of_le hp HB5.out.size)).mono ?_
  rintro z w6 ⟨L,AL,cL,rfl,hLx,hLo,hLk,hLd,hb6⟩
  have HK6:=Lib.hid (HK5.out.later hb6)
  have HU6:=Lib.hid (HU5.out.later hb6)
  have HB6:=Lib.hid (ac HB5.out hb6)
  have HLX:=Lib.hid hLx
  have HLO:=Lib.hid hLo
  have HLK:=Lib.hid hLk
  have HLD:=Lib.hid hLd
  clear hLx hLo hLk hLd hb6 k_r l_r
  have k_r:=HK6.out.cell
  have l_r:=HK6.out.lt
  go_wp2_with fail
  refine (el (d:=d) (B:=B) (r:=r) (vr:=[_,_,_,_,_]) (tr:=4294967295) ((RuR (d+1)).keep HB6.out hB HR.out) (Nat.le_trans hB HB6.out.size) HU6.out.s HFW.out.2 ((HB6.out.cell (p:=⟨0,0,none⟩) hp).trans HM.out) (Nat.lt_of_lt_of_le hp HB6.out.size)).mono ?_
  rintro z w7 ⟨L2,AL2,cL2,rfl,hLx,hLo,hLk,hLd,hb7⟩
  generalize aE (xs.map FV.f) 4294967295 r=R at *
  generalize aE (xs2.map FV.f) 4294967295 r=R' at *
  have HB67:=Lib.hid hb7
  have HB7:=Lib.hid (ac HB6.out hb7)
  have HLX2:=Lib.hid hLx
  have HLO2:=Lib.hid hLo
  have HLK2:=Lib.hid hLk
  have HLD2:=Lib.hid hLd
  have hLn:=tZ HLO.out
  have hLn2:=tZ HLO2.out
  clear hLx hLo hLk hLd hb7 k_r l_r
  by_cases he2:R'.2=0
  rotate_left
  ·have hq2:(R'.2 !=0)=true:=by simpa using he2
   by_cases he1:R.2=0
   ·have hq1:(R.2 !=0)=false:=by simpa using he1
    have hq3:(R.2==0)=true:=by simpa using he1
    clear he1 he2
    go_wp2_with fail
    refine (HAWH.out _ HB7.out).mono ?_
    rintro z w8 ⟨rfl,hb8⟩
    go_wp2_with fail
    go_ret
    exact ⟨rfl,ac HB7.out hb8⟩
   ·have hq1:(R.2 !=0)=true:=by simpa using he1
    have hq3:(R.2==0)=false:=by simpa using he1
    clear he1 he2
    go_wp2_with fail
    refine (HAWH.out _ HB7.out).mono ?_
    rintro z w8 ⟨rfl,hb8⟩
    go_wp2_with fail
    go_ret
    exact ⟨rfl,ac HB7.out hb8⟩
  have HG:=HLAW.out he2
  have hq2:(R'.2 !=0)=false:=by simpa using he2
  have hq1:(R.2 !=0)=false:=by simpa using HG.1
  have HGS:=Lib.hid HG.2
  clear HG he2
  have HA6:=Lib.hid (fun (w':World) (hb:Below w6.heap.size w6 w') (i:Nat) (hi:i<L.length)=>wJ HLD.out hb hi)
  have HA7:=Lib.hid (fun (w':World) (hb:Below w7.heap.size w7 w') (i:Nat) (hi:i<L2.length)=>wJ HLD2.out hb hi)
  have HO7:=Lib.hid (HLO.out.later HB67.out (Nat.zero_le _))
  have HLR:Hid (L.length=R.1.length∧L2.length=R'.1.length):=Lib.hid ⟨by rw [←HLX.out,List.length_map],by rw [←HLX2.out,List.length_map]⟩
  have HAT:Hid (∀i (hi:i<L.length) (hi':i<R.1.length),L[i].x=R.1[i]):=Lib.hid (fun i hi hi'=>by
   have h1:(L.map AnV.x)[i]? = R.1[i]?:=by rw [HLX.out]
   rw [List.getElem?_map,List.getElem?_eq_getElem hi,List.getElem?_eq_getElem hi'] at h1
   simpa using h1)
  have HAT2:Hid (∀i (hi:i<L2.length) (hi':i<R'.1.length),L2[i].x=R'.1[i]):=Lib.hid (fun i hi hi'=>by
   have h1:(L2.map AnV.x)[i]? = R'.1[i]?:=by rw [HLX2.out]
   rw [List.getElem?_map,List.getElem?_eq_getElem hi,List.getElem?_eq_getElem hi'] at h1
   simpa using h1)
  go_upto_region 11 with fail
  go_loopw [15,70] (fun kk i wr=>∃(j k:Nat),j≤L.length∧k≤L2.length∧i=.int .i64 j∧kk=.int .i64 k∧Hid (∀(hj:j<R.1.length),∀q (hq:q<R'.1.length),q<k→aH R'.1[q] R.1[j]<0)∧Hid (Below w7.heap.size w7 wr)) (fun _ i _=>L.length-(intOf i).toNat)
  case atStart=>exact ⟨0,0,Nat.zero_le _,Nat.zero_le _,rfl,rfl,Lib.hid (fun _ q _ h=>absurd h (by omega)),Lib.hid (Below.refl _ _)⟩
  case round=>
   obtain ⟨j,k,hj,hk,rfl,rfl,HZ,HWJ⟩:=hrel
   have hszj:=HWJ.out.size
   by_cases hjl:j<L.length
   ·have hjr:j<R.1.length:=by have:=HLR.out.1;omega
    obtain ⟨g,cg,eg,hg1,hg2,_⟩:=HO7.out.sh aP (by omega)
    simp only [Value.slice.injEq,true_and] at eg
    obtain ⟨rfl,rfl⟩:=eg
    obtain ⟨a0,a1,a2⟩:=ef (HO7.out.later HWJ.out (Nat.zero_le _)) hjl
    have HRA:=Lib.hid (HA6.out wr (HB67.out.trans (HWJ.out.mono HB67.out.size)) j hjl)
    have HKA:=Lib.hid (qO (HLK.out _ (List.getElem_mem hjl)).1)
    have HUX:=Lib.hid (HAT.out j hjl hjr)
    have HZ':Hid (∀q (hq:q<R'.1.length),q<k→aH R'.1[q] R.1[j]<0):=Lib.hid (HZ.out hjr)
    have hI0:(0:Int)≤(j:Int):=Int.natCast_nonneg _
    have hI1:(j:Int)<(L.length:Int):=by omega
    generalize L[j]=u at *
    go_upto_region 13 with fail
    generalize hW:World.alloc _ _=w8
    obtain ⟨hb8,hz8⟩:=al1 hW
    have HU8:=Lib.hid (n11 hW)
    have HB8:=Lib.hid (ac HWJ.out hb8)
    have HRA8:=Lib.hid ((jt (d+1)).keep hb8 (Nat.le_refl _) HRA.out)
    have hsz8:=hb8.size
    clear hW hb8 hz8 a0 a1 a2
    generalize wr=wo at *
    go_loopw [15] (fun kk wr=>∃k2:Nat,k2≤L2.length∧kk=.int .i64 k2∧Hid (∀q (hq:q<R'.1.length),q<k2→aH R'.1[q] R.1[j]<0)∧Hid (Below w8.heap.size w8 wr)) (fun kk _=>L2.length-(intOf kk).toNat)
    case atStart=>exact ⟨k,hk,rfl,HZ',Lib.hid (Below.refl _ _)⟩
    case round=>
     obtain ⟨k2,hk2,rfl,HZ2,HWK⟩:=hrel
     have hszk:=HWK.out.size
     have HUk:=Lib.hid (HU8.out.later HWK.out)
     have HRAk:=Lib.hid ((jt (d+1)).keep HWK.out hsz8 HRA8.out)
     have hI2:(0:Int)≤(k2:Int):=Int.natCast_nonneg _
     by_cases hkl:k2<L2.length
     ·have hkr:k2<R'.1.length:=by have:=HLR.out.2;omega
      obtain ⟨g2,cg2,eg,hh1,hh2,_⟩:=HLO2.out.sh aP (by omega)
      simp only [Value.slice.injEq,true_and] at eg
      obtain ⟨rfl,rfl⟩:=eg
      have HB7k:=Lib.hid (ac HB8.out HWK.out)
      obtain ⟨b0,b1,b2⟩:=ef (HLO2.out.later HB7k.out (Nat.zero_le _)) hkl
      have HRB:=Lib.hid (HA7.out wr HB7k.out k2 hkl)
      have HKB:=Lib.hid (qO (HLK2.out _ (List.getElem_mem hkl)).1)
      have HVX:=Lib.hid (HAT2.out k2 hkl hkr)
      have hI3:(k2:Int)<(L2.length:Int):=by omega
      obtain ⟨n,hn_⟩:∃n,n=aH R'.1[k2] R.1[j]:=⟨_,rfl⟩
      have HN:=Lib.hid hn_
      generalize L2[k2]=v at *
      have HCL:Hid (∀W:World,Below wr.heap.size wr W→Calls Tryz.prog 19 #[.agg v.cs.toArray,.agg u.cs.toArray] W fun z w'=>z=.returned (.int .i64 n)∧Below W.heap.size W w'):=Lib.hid (fun W hW=>by
       have h:=gr (d:=d+1) (e:=d+1) (B:=wr.heap.size) (w:=W) ((jt (d+1)).keep hW (Nat.le_refl _) HRB.out) ((jt (d+1)).keep hW (Nat.le_refl _) ((jt (d+1)).wide (Nat.le_trans hsz8 hszk) HRAk.out)) HKB.out HKA.out hW.size
       rwa [HVX.out,HUX.out,←HN.out] at h)
      have HC:=Lib.hid (And.intro b0 (And.intro b1 b2))
      have HGL:=Lib.hid (show g2<wr.heap.size by have:=HB7k.out.size;omega)
      clear b0 b1 b2 hn_
      by_cases hneg:n<0
      ·go_upto_region 13 with fail
       have HWW:Hid (Below wr.heap.size wr wr):=Lib.hid (Below.refl _ _)
       have q0:=cell_regrown ((HWW.out.cell (p:=⟨g2,k2*3,none⟩) HGL.out).trans HC.out.1)
       have q1:=cell_regrown ((HWW.out.cell (p:=⟨g2,k2*3+1,none⟩) HGL.out).trans HC.out.2.1)
       have q2:=cell_regrown ((HWW.out.cell (p:=⟨g2,k2*3+2,none⟩) HGL.out).trans HC.out.2.2)
       have q_u:=(HUk.out.later HWW.out).regrown
       refine wp_region_quiet_below (by kernel_rfl) (by kernel_rfl) ?_
       repeat (go_big_quiet_step ((go_at_call 19;exact Calls.regrown_of (HCL.out _ (Below.trans HWW.out (Below.mono (below_regrown _ _ _) HWW.out.size))))))
       refine wpQuiet_nil ?_
       intro w9 hw_
       have hb:Below wr.heap.size wr w9:=by obtain ⟨p_,rfl⟩:=hw_;exact below_regrown _ _ _
       clear hw_ q0 q1 q2 q_u HWW
       have HB3:=Lib.hid (ac HWK.out hb)
       clear hb
       go_wp2_with fail
       go_roundw
       case rel=>exact ⟨k2+1,by omega,by go_num,Lib.hid (fun q hq hqk=>by
        rcases Nat.lt_or_ge q k2 with h | h
        ·exact HZ2.out q hq h
        ·obtain rfl:q=k2:=by omega
         rw [←HN.out];exact hneg),HB3⟩
       case measure=>simp [intOf];omega
      ·have HN0:Hid (n=0):=Lib.hid (by
        obtain ⟨_,h⟩:=HGS.out.at_ hjr (by omega) HZ2.out (fun _=>by rw [←HN.out];exact hneg)
        rw [HN.out];exact h)
       go_upto_region 13 with fail
       have HWW:Hid (Below wr.heap.size wr wr):=Lib.hid (Below.refl _ _)
       have q0:=cell_regrown ((HWW.out.cell (p:=⟨g2,k2*3,none⟩) HGL.out).trans HC.out.1)
       have q1:=cell_regrown ((HWW.out.cell (p:=⟨g2,k2*3+1,none⟩) HGL.out).trans HC.out.2.1)
       have q2:=cell_regrown ((HWW.out.cell (p:=⟨g2,k2*3+2,none⟩) HGL.out).trans HC.out.2.2)
       have q_u:=(HUk.out.later HWW.out).regrown
       refine wp_region_quiet_below (by kernel_rfl) (by kernel_rfl) ?_
       repeat (go_big_quiet_step ((go_at_call 19;exact Calls.regrown_of (HCL.out _ (Below.trans HWW.out (Below.mono (below_regrown _ _ _) HWW.out.size))))))
       refine wpQuiet_nil ?_
       intro w9 hw_
       have hb:Below wr.heap.size wr w9:=by obtain ⟨p_,rfl⟩:=hw_;exact below_regrown _ _ _
       clear hw_ q0 q1 q2 q_u HWW
       have HB3:=Lib.hid hb
       clear hb
       have hgd:¬((L2.length:Int)≤(k2:Int)):=by omega
       have hnn:(n !=0)=false:=by rw [HN0.out];rfl
       go_upto_region 15 with fail
       have HWW:Hid (Below wr.heap.size wr w9):=Lib.hid (HB3.out)
       have q0:=cell_regrown ((HWW.out.cell (p:=⟨g2,k2*3,none⟩) HGL.out).trans HC.out.1)
       have q1:=cell_regrown ((HWW.out.cell (p:=⟨g2,k2*3+1,none⟩) HGL.out).trans HC.out.2.1)
       have q2:=cell_regrown ((HWW.out.cell (p:=⟨g2,k2*3+2,none⟩) HGL.out).trans HC.out.2.2)
       have q_u:=(HUk.out.later HWW.out).regrown
       refine wp_region_quiet_below (by kernel_rfl) (by kernel_rfl) ?_
       repeat (go_big_quiet_step ((go_at_call 19;exact Calls.regrown_of (HCL.out _ (Below.trans HWW.out (Below.mono (below_regrown _ _ _) HWW.out.size))))))
       refine wpQuiet_nil ?_
       intro w10 hw_
       have hb:Below w9.heap.size w9 w10:=by obtain ⟨p_,rfl⟩:=hw_;exact below_regrown _ _ _
       clear hw_ q0 q1 q2 q_u HWW
       go_wp2_with fail
       go_roundw
       case rel=>exact ⟨j+1,k2,by omega,by omega,by go_num,rfl,Lib.hid (fun hj1=>HGS.out.next hj1 HZ2.out),Lib.hid (ac (ac HB8.out HWK.out) (ac HB3.out hb))⟩
       case measure=>simp [intOf];omega
     ·exfalso
      obtain ⟨hkk,_⟩:=HGS.out.at_ (k:=k2) hjr (by have:=HLR.out.2;omega) HZ2.out (fun h=>by have:=HLR.out.2;omega)
      have:=HLR.out.2
      omega
   ·go_wp2_with fail
    refine (HAWH.out _ (ac HB7.out HWJ.out)).mono ?_
    rintro z w8 ⟨rfl,hb8⟩
    go_wp2_with fail
    go_ret
    exact ⟨rfl,ac (ac HB7.out HWJ.out) hb8⟩
end Go.Proofs.YtdphibjibnffeaaGreat
