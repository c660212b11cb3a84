/- op.Binary's arms of sets. -/
import Derived.Test.YtjpndglegpcdnaaGreatHasSet
import Derived.Test.YtjpndglegpcdnaaGreatOp3
import Derived.Test.YtjpndglegpcdnaaGreatSingle
set_option linter.unusedVariables false
set_option linter.unusedSimpArgs false
set_option maxRecDepth 100000
set_option maxHeartbeats 8000000
namespace Go.Proofs.YtjpndglegpcdnaaGreat
open Go.ChangeShapes Go.WideShapes Go.ChangeAt Go.RowKit
def fC (a b:Tm) (k:Nat):List Tm:=a.l++(b.l.take k).filter fun t=>!jV a t
theorem vk {a b:Tm} {k:Nat} (ha:a.l.length≤16) (hb:b.l.length≤16):(fC a b k).length≤32:=by
 unfold fC
 rw [zA]
 have:=zv (List.length_filter_le (fun t=>!jV a t) (b.l.take k)) (by rw [zK];exact Nat.min_le_right _ _)
 omega
theorem rL {a b:Tm} {k:Nat} {x:Tm} (h:b.l[k]? = some x) (hm:jV a x=true):fC a b (k+1)=fC a b k:=by
 unfold fC;rw [fc h,hm];simp
theorem oV {a b:Tm} {k:Nat} {x:Tm} (h:b.l[k]? = some x) (hm:jV a x=false):fC a b (k+1)=fC a b k++[x]:=by
 unfold fC;rw [fc h,hm];simp
theorem vj {a b:Tm} {k:Nat} (h:b.l.length≤k):fC a b k=fZ a b:=by
 unfold fC fZ;rw [List.take_of_length_le h]
theorem badJ_y {a b x:Tm} {ky:Int} (h:(x.kind !=ky)=true) (hk:dH b.l=ky):od a b x=true:=by
 subst hk;unfold od;simp only [bne_iff_ne,ne_eq] at h;simp [h]
theorem badJ_z {a b x:Tm} {kz:Int} (h:(x.kind !=kz)=true) (h0:0<a.l.length) (hk:dH a.l=kz):od a b x=true:=by
 subst hk;unfold od;simp only [bne_iff_ne,ne_eq] at h;have h1:decide (0<a.l.length)=true:=decide_eq_true h0;rw [h1];simp [h]
theorem badJ_n {a b x:Tm} {ky:Int} (h:(x.kind !=ky)=false) (hk:dH b.l=ky) (h0:¬0<a.l.length):od a b x=false:=by
 subst hk;unfold od;simp only [bne_eq_false_iff_eq] at h;have h1:decide (0<a.l.length)=false:=decide_eq_false h0;rw [h1,h];simp
theorem badJ_nz {a b x:Tm} {ky kz:Int} (h:(x.kind !=ky)=false) (hk:dH b.l=ky) (h':(x.kind !=kz)=false) (hk':dH a.l=kz):od a b x=false:=by
 subst hk hk';unfold od;simp only [bne_eq_false_iff_eq] at h h';simp [←h,←h']
theorem vl {a b:Tm} {k:Nat} {x:Tm} (h:b.l[k]? = some x) (hb:od a b x=true):jr a b=(noT,7):=by
 unfold jr;rw [if_pos (xe (p:=od a b) h hb)]
theorem xJ {a b:Tm} {k:Nat} (hk:b.l.length≤k) (h:∀j (hj:j<k) (hj':j<b.l.length),od a b b.l[j]=false):jr a b=if 16<(fZ a b).length then (noT,4) else rh (fZ a b):=by
 unfold jr;rw [if_neg (by rw [ud (p:=od a b) hk h];simp)]
theorem xK {d d' B:Nat} {a b:Tm} {vs ws:List Value} {w:World} (ha:RTm w B (d+1) a vs) (hb:RTm w B (d+1) b ws) (hB:B≤w.heap.size) (hn:a.l.length≤16) (hn':b.l.length≤16) :
 Calls Tryz.prog 202 #[.agg vs.toArray,.agg ws.toArray] w fun e w'=>jf d w w' (jr a b) e:=by
 obtain ⟨i0,hi0,hz0,hz1,hz2⟩:=info_parts gS
 have HS:=zu ha
 obtain ⟨A,c,rfl,_,_,_,_,_,hl⟩:=ha
 obtain ⟨A',c',rfl,_,_,_,_,_,hl'⟩:=hb
 have HLa:Hid (RL (TmR d) w B a.l A):=zu hl
 have HLb:Hid (RL (TmR d) w B b.l A'):=zu hl'
 have HN:=zu hn
 have HN':=zu hn'
 clear hl hl' hn hn'
 go_enter Tryz.func202,Tryz.ntmps202
 have HSRC:=zu (HLa.out.keep (al3 (w:=w) (o1:=.cells #[.int .i64 a.kind,.int .i64 a.n,.string a.s,.slice A a.l.length c] 29) (o2:=.cells #[.int .i64 b.kind,.int .i64 b.n,.string b.s,.slice A' b.l.length c'] 29) (o3:=.cells wR 29) rfl).1 hB).src
 go_wp2_with ((
  at_builtin
  refine aq (R:=TmR d) (e:=29) (base:=w.heap.size+3) (B:=B) (xs:=[]) (ys:=a.l) rfl (.const (.slice none 0 0)) (.tmp 10) 24 rfl (bytes:=56) Tryz.underlying24 hi0 hz0 hz1 hz2 rfl (show 0<4 by omega) (ek d) rfl (am.nil _ _ _ _ _) rfl HSRC.out rfl (by omega) (by have:=HN.out;simp only [List.length_nil];omega) (by omega) (by simp only [World.size_alloc];omega) ?_
  intro v1 w1 hown1 hb1
  obtain ⟨A1,c1,rfl⟩:=hown1.form
  have b_a:=Blk.keep (n31 rfl) hb1 (show w.heap.size<w.heap.size+3 by omega)
  have b_b:=Blk.keep (n32 rfl) hb1 (show w.heap.size+1<w.heap.size+3 by omega)
  have b_r:=Blk.keep (n33 rfl) hb1 (show w.heap.size+1+1<w.heap.size+3 by omega)
  have HB1:Hid (Below w.heap.size w w1):=zu ((al3 rfl).1.trans (hb1.mono (by omega)))
  have HO1:=zu hown1
  have hsz1:w.heap.size+3≤w1.heap.size:=by have:=hb1.size;simp only [World.size_alloc] at this;omega
  have k_b:=b_b.cell
  clear hown1 hb1))
 simp only [List.nil_append] at HO1 ⊢
 have hB1:=zv hB HB1.out.size
 clear k_b HSRC
 go_loopw [6,15] (fun v i wr=>∃(k:Nat) (A2:Option Addr) (c2:Nat),k≤b.l.length∧v=.slice A2 (fC a b k).length c2∧i=.int .i64 k∧Hid (Below (w.heap.size+3) w1 wr)∧Hid (am (TmR d) 29 wr (w.heap.size+3) B (.slice A2 (fC a b k).length c2) (fC a b k))∧Hid (∀j (hj:j<k) (hj':j<b.l.length),od a b b.l[j]=false)) (fun _ i _=>b.l.length-(intOf i).toNat)
 case atStart=>
  have e:fC a b 0=a.l:=by simp [fC]
  exact ⟨0,A1,c1,zx _,by rw [e],rfl,zu (zy _ _),zu (by rw [e];exact HO1.out),zu (fun j hj=>absurd hj (by omega))⟩
 case round=>
  obtain ⟨k,A2,c2,hk,rfl,rfl,HBW,HOW,HALL⟩:=hrel
  have b_a2:=b_a.keep HBW.out (by omega)
  have b_b2:=b_b.keep HBW.out (by omega)
  have b_r2:=b_r.keep HBW.out (by omega)
  have hszr:w1.heap.size≤wr.heap.size:=HBW.out.size
  have hBr:=zv hB1 hszr
  have HBr:=zu (HB1.out.trans (HBW.out.mono (show w.heap.size≤w.heap.size+3 by omega)))
  have HJL:=zu (vk (k:=k) HN.out HN'.out)
  clear b_a b_b b_r
  by_cases hlt:k<b.l.length
  ·obtain ⟨bb,off,rfl,hob⟩:=HLb.out.base HBr.out hB (by omega)
   obtain ⟨x,vs,hx,hlen,hcell,hr⟩:=HLb.out.at_ HBr.out hB hlt
   obtain ⟨Ax,cx,rfl,_⟩:=RTm.cells (show RTm wr B d x vs from hr)
   have c0:wr.cell? ⟨bb,off+k*4,none⟩=some (.int .i64 x.kind):=hcell 0 _ rfl
   have c1:wr.cell? ⟨bb,off+k*4+1,none⟩=some (.int .i64 x.n):=hcell 1 _ rfl
   have c2:wr.cell? ⟨bb,off+k*4+2,none⟩=some (.string x.s):=hcell 2 _ rfl
   have c3:wr.cell? ⟨bb,off+k*4+3,none⟩=some (.slice Ax x.l.length cx):=hcell 3 _ rfl
   have HX:=zu hx
   have HR:Hid (RTm wr B d x _):=zu hr
   obtain ⟨y,ys,hy,_,hycell,hry⟩:=HLb.out.at_ (k:=0) HBr.out hB (by omega)
   obtain ⟨Ay,cy,rfl,_⟩:=RTm.cells (show RTm wr B d y ys from hry)
   have HKY:Hid (dH b.l=y.kind):=zu (by unfold dH;rw [List.head?_eq_getElem?,hy];rfl)
   have f0:wr.cell? ⟨bb,off,none⟩=some (.int .i64 y.kind):=by simpa using hycell 0 _ rfl
   clear hcell hlen hx hr hycell hry hy
   go_wp2_with fail
   generalize hW:World.alloc _ _=W
   obtain ⟨hb1,hz⟩:=al1 hW
   have b_x:=n11 hW
   have g0:=cell_regrown ((hb1.cell (p:=⟨bb,off,none⟩) (zz hob (by omega))).trans f0)
   have b_a3:=b_a2.later hb1
   have b_b3:=b_b2.later hb1
   have b_r3:=b_r2.later hb1
   have HBa:=zu (HBW.out.trans (hb1.mono (by omega)))
   have HBA:=zu (aa HBr.out hb1)
   have HOa:=zu (HOW.out.later hb1 hBr)
   have HRa:=zu (HR.out.below hb1 hBr)
   have hsza:=zv hszr hb1.size
   have hBa:=zv hBr hb1.size
   clear hW hb1 hz c0 c1 c2 c3 b_a2 b_b2 b_r2 HBW HBr HOW HR f0
   have q_x:=b_x.regrown
   have q_a:=b_a3.regrown
   have q_b:=b_b3.regrown
   have hfork:(((x.kind !=y.kind)=true∨((x.kind !=y.kind)=false∧∃z:Tm,∃q:Nat × Nat,(x.kind !=z.kind)=true∧0<a.l.length∧dH a.l=z.kind∧A=some ⟨q.1,q.2,none⟩∧q.1<W.heap.size∧W.cell? ⟨q.1,q.2,none⟩=some (.int .i64 z.kind)))∧od a b x=true) ∨
    (((x.kind !=y.kind)=false∧(¬0<a.l.length∨∃z:Tm,∃q:Nat × Nat,(x.kind !=z.kind)=false∧0<a.l.length∧dH a.l=z.kind∧A=some ⟨q.1,q.2,none⟩∧q.1<W.heap.size∧W.cell? ⟨q.1,q.2,none⟩=some (.int .i64 z.kind)))∧od a b x=false):=by
    rcases Bool.eq_false_or_eq_true (x.kind !=y.kind) with h1 | h1
    ·exact .inl ⟨.inl h1,badJ_y h1 HKY.out⟩
    ·by_cases h0:0<a.l.length
     ·obtain ⟨ba,offa,rfl,hoa⟩:=HLa.out.base HBA.out hB h0
      obtain ⟨z,zs,hz',_,hzcell,hrz⟩:=HLa.out.at_ (k:=0) HBA.out hB h0
      obtain ⟨Az,cz,rfl,_⟩:=RTm.cells (show RTm W B d z zs from hrz)
      have hkz:dH a.l=z.kind:=by unfold dH;rw [List.head?_eq_getElem?,hz'];rfl
      have e0:W.cell? ⟨ba,offa,none⟩=some (.int .i64 z.kind):=by simpa using hzcell 0 _ rfl
      rcases Bool.eq_false_or_eq_true (x.kind !=z.kind) with h2 | h2
      ·exact .inl ⟨.inr ⟨h1,z,(ba,offa),h2,h0,hkz,rfl,hoa,e0⟩,badJ_z h2 h0 hkz⟩
      ·exact .inr ⟨⟨h1,.inr ⟨z,(ba,offa),h2,h0,hkz,rfl,hoa,e0⟩⟩,badJ_nz h1 HKY.out h2 hkz⟩
     ·exact .inr ⟨⟨h1,.inl h0⟩,badJ_n h1 HKY.out h0⟩
   rcases hfork with ⟨h,hbad⟩ | ⟨⟨h1,h⟩,hbad⟩
   ·have HBAD:=zu (vl HX.out hbad)
    clear hbad
    rcases h with h1 | ⟨h1,z,⟨ba,offa⟩,h2,h0,hkz,rfl,hoa,e0⟩
    ·refine wp_region_quiet_below (by kernel_rfl) (by kernel_rfl) ?_
     repeat (go_big_quiet_step (fail))
     refine wpQuiet_nil ?_
     intro wc hw3
     have hb1:Below W.heap.size W wc:=by obtain ⟨p,rfl⟩:=hw3;exact below_regrown _ _ _
     clear hw3 q_x q_a q_b g0
     have b_r4:=b_r3.later hb1
     have HBB:=zu (aa HBA.out hb1)
     have kR:=b_r4.cell
     have fR:=b_r4.free
     clear hb1
     go_wp2_with fail
     have hbr:=dy b_r4 (.int .i64 0) (.int .i64 0) (.string ⟨#[]⟩) (.slice none 0 0)
     refine bodyPost_ret (al rfl rfl hbr rfl) rfl ?_
     rw [HBAD.out]
     exact ⟨⟨_,_,rfl,TmOwn.no⟩,cB HBB.out (by omega) _ _ _ _⟩
    ·have r0:=cell_regrown e0
     refine wp_region_quiet_below (by kernel_rfl) (by kernel_rfl) ?_
     repeat (go_big_quiet_step (fail))
     refine wpQuiet_nil ?_
     intro wc hw3
     have hb1:Below W.heap.size W wc:=by obtain ⟨p,rfl⟩:=hw3;exact below_regrown _ _ _
     clear hw3 q_x q_a q_b g0
     have b_r4:=b_r3.later hb1
     have HBB:=zu (aa HBA.out hb1)
     have kR:=b_r4.cell
     have fR:=b_r4.free
     clear hb1
     go_wp2_with fail
     have hbr:=dy b_r4 (.int .i64 0) (.int .i64 0) (.string ⟨#[]⟩) (.slice none 0 0)
     refine bodyPost_ret (al rfl rfl hbr rfl) rfl ?_
     rw [HBAD.out]
     exact ⟨⟨_,_,rfl,TmOwn.no⟩,cB HBB.out (by omega) _ _ _ _⟩
   ·have HNB:=zu hbad
    clear hbad
    rcases h with h0 | ⟨z,⟨ba,offa⟩,h2,h0,hkz,rfl,hoa,e0⟩
    ·refine wp_region_quiet_below (by kernel_rfl) (by kernel_rfl) ?_
     repeat (go_big_quiet_step (fail))
     refine wpQuiet_nil ?_
     intro wc hw3
     have hb1:Below W.heap.size W wc:=by obtain ⟨p,rfl⟩:=hw3;exact below_regrown _ _ _
     clear hw3 q_x q_a q_b g0
     have b_a4:=b_a3.later hb1
     have b_b4:=b_b3.later hb1
     have b_r4:=b_r3.later hb1
     have b_x4:=b_x.later hb1
     have HBb:=zu (HBa.out.trans (hb1.mono (by omega)))
     have HBB:=zu (aa HBA.out hb1)
     have HOb:=zu (HOa.out.later hb1 hBa)
     have HRb:=zu (HRa.out.below hb1 hBa)
     have hszb:=zv hsza hb1.size
     have hBb:=zv hBa hb1.size
     clear hb1 b_a3 b_b3 b_r3 b_x HBa HOa HRa HBA hsza hBa
     have k_a:=b_a4.cell
     have l_a:=b_a4.lt
     have k_x:=b_x4.cell
     have l_x:=b_x4.lt
     go_wp2_with fail
     clear k_a l_a k_x l_x
     refine (lg (d:=d) (d':=d) (s:=a) (t:=x) (B:=B) (vs:=[_,_,_,_]) (ws:=[_,_,_,_]) (HS.out.below HBB.out hB) HRb.out hBb).mono ?_
     rintro e wd ⟨rfl,hb3⟩
     have b_x5:=b_x4.later hb3
     have HBd:=zu (HBb.out.trans (hb3.mono (by omega)))
     have HOd:=zu (HOb.out.later hb3 hBb)
     have HRd:=zu (HRb.out.below hb3 hBb)
     have hszd:=zv hszb hb3.size
     have hBd:=zv hBb hb3.size
     clear hb3 b_a4 b_b4 b_r4 b_x4 HBb HOb HRb HBB hszb hBb
     have HALL2:Hid (∀j (hj:j<k+1) (hj':j<b.l.length),od a b b.l[j]=false):=zu fun j hj hj'=>by
      rcases Nat.lt_or_ge j k with h3 | h3
      ·exact HALL.out j h3 hj'
      ·obtain rfl:j=k:=by omega
       rw [(List.getElem?_eq_some_iff.1 HX.out).2];exact HNB.out
     by_cases hm:jV a x=true
     ·have HE:=zu (rL HX.out hm)
      rw [hm]
      clear hm
      go_wp2_with fail
      go_roundw
      case rel=>exact ⟨k+1,A2,_,by omega,by rw [HE.out],by go_num,HBd,zu (by rw [HE.out];exact HOd.out),HALL2⟩
      case measure=>simp [intOf];omega
     ·simp only [Bool.not_eq_true] at hm
      have HE:=zu (oV HX.out hm)
      rw [hm]
      clear hm
      generalize hout:fC a b k=out at *
      clear hout
      have k_x:=b_x5.cell
      have l_x:=b_x5.lt
      have HOW:=zu (And.intro (HOd.out.later ((zy _ wd).alloc (zw _) (.cells #[.int .i64 x.kind,.int .i64 x.n,.string x.s,.slice Ax x.l.length cx] 29)) hBd) (Blk.src (R:=TmR d) (B:=B) (x:=x) (Blk.new wd #[.int .i64 x.kind,.int .i64 x.n,.string x.s,.slice Ax x.l.length cx] 29) ((HRd.out.below ((zy _ wd).alloc (zw _) (.cells #[.int .i64 x.kind,.int .i64 x.n,.string x.s,.slice Ax x.l.length cx] 29)) hBd))))
      go_wp2_with ((
       at_builtin
       refine aq (R:=TmR d) (e:=29) (base:=w.heap.size+3) (B:=B) (xs:=out) (ys:=[x]) rfl (.tmp 50) (.tmp 52) 24 rfl (bytes:=56) Tryz.underlying24 hi0 hz0 hz1 hz2 rfl (show 0<4 by omega) (ek d) rfl HOW.out.1 rfl HOW.out.2 rfl (by omega) (by have:=HJL.out;simp only [zJ,List.length_nil];omega) (by omega) (by rw [World.size_alloc];omega) ?_
       intro v2 w7 hown2 hb2
       obtain ⟨A3,c3,rfl⟩:=hown2.form
       have H7:=zu (And.intro hown2 (HBd.out.trans (((zy (w.heap.size+3) wd).alloc (by omega) (.cells #[.int .i64 x.kind,.int .i64 x.n,.string x.s,.slice Ax x.l.length cx] 29)).trans hb2)))
       clear hown2 hb2 k_x l_x b_x5))
      go_roundw
      case rel=>exact ⟨k+1,A3,c3,by omega,by rw [HE.out,zA];rfl,by go_num,zu H7.out.2,zu (by rw [HE.out];exact H7.out.1),HALL2⟩
      case measure=>simp [intOf];omega
    ·have r0:=cell_regrown e0
     refine wp_region_quiet_below (by kernel_rfl) (by kernel_rfl) ?_
     repeat (go_big_quiet_step (fail))
     refine wpQuiet_nil ?_
     intro wc hw3
     have hb1:Below W.heap.size W wc:=by obtain ⟨p,rfl⟩:=hw3;exact below_regrown _ _ _
     clear hw3 q_x q_a q_b g0
     have b_a4:=b_a3.later hb1
     have b_b4:=b_b3.later hb1
     have b_r4:=b_r3.later hb1
     have b_x4:=b_x.later hb1
     have HBb:=zu (HBa.out.trans (hb1.mono (by omega)))
     have HBB:=zu (aa HBA.out hb1)
     have HOb:=zu (HOa.out.later hb1 hBa)
     have HRb:=zu (HRa.out.below hb1 hBa)
     have hszb:=zv hsza hb1.size
     have hBb:=zv hBa hb1.size
     clear hb1 b_a3 b_b3 b_r3 b_x HBa HOa HRa HBA hsza hBa
     have k_a:=b_a4.cell
     have l_a:=b_a4.lt
     have k_x:=b_x4.cell
     have l_x:=b_x4.lt
     go_wp2_with fail
     clear k_a l_a k_x l_x
     refine (lg (d:=d) (d':=d) (s:=a) (t:=x) (B:=B) (vs:=[_,_,_,_]) (ws:=[_,_,_,_]) (HS.out.below HBB.out hB) HRb.out hBb).mono ?_
     rintro e wd ⟨rfl,hb3⟩
     have b_x5:=b_x4.later hb3
     have HBd:=zu (HBb.out.trans (hb3.mono (by omega)))
     have HOd:=zu (HOb.out.later hb3 hBb)
     have HRd:=zu (HRb.out.below hb3 hBb)
     have hszd:=zv hszb hb3.size
     have hBd:=zv hBb hb3.size
     clear hb3 b_a4 b_b4 b_r4 b_x4 HBb HOb HRb HBB hszb hBb
     have HALL2:Hid (∀j (hj:j<k+1) (hj':j<b.l.length),od a b b.l[j]=false):=zu fun j hj hj'=>by
      rcases Nat.lt_or_ge j k with h3 | h3
      ·exact HALL.out j h3 hj'
      ·obtain rfl:j=k:=by omega
       rw [(List.getElem?_eq_some_iff.1 HX.out).2];exact HNB.out
     by_cases hm:jV a x=true
     ·have HE:=zu (rL HX.out hm)
      rw [hm]
      clear hm
      go_wp2_with fail
      go_roundw
      case rel=>exact ⟨k+1,A2,_,by omega,by rw [HE.out],by go_num,HBd,zu (by rw [HE.out];exact HOd.out),HALL2⟩
      case measure=>simp [intOf];omega
     ·simp only [Bool.not_eq_true] at hm
      have HE:=zu (oV HX.out hm)
      rw [hm]
      clear hm
      generalize hout:fC a b k=out at *
      clear hout
      have k_x:=b_x5.cell
      have l_x:=b_x5.lt
      have HOW:=zu (And.intro (HOd.out.later ((zy _ wd).alloc (zw _) (.cells #[.int .i64 x.kind,.int .i64 x.n,.string x.s,.slice Ax x.l.length cx] 29)) hBd) (Blk.src (R:=TmR d) (B:=B) (x:=x) (Blk.new wd #[.int .i64 x.kind,.int .i64 x.n,.string x.s,.slice Ax x.l.length cx] 29) ((HRd.out.below ((zy _ wd).alloc (zw _) (.cells #[.int .i64 x.kind,.int .i64 x.n,.string x.s,.slice Ax x.l.length cx] 29)) hBd))))
      go_wp2_with ((
       at_builtin
       refine aq (R:=TmR d) (e:=29) (base:=w.heap.size+3) (B:=B) (xs:=out) (ys:=[x]) rfl (.tmp 50) (.tmp 52) 24 rfl (bytes:=56) Tryz.underlying24 hi0 hz0 hz1 hz2 rfl (show 0<4 by omega) (ek d) rfl HOW.out.1 rfl HOW.out.2 rfl (by omega) (by have:=HJL.out;simp only [zJ,List.length_nil];omega) (by omega) (by rw [World.size_alloc];omega) ?_
       intro v2 w7 hown2 hb2
       obtain ⟨A3,c3,rfl⟩:=hown2.form
       have H7:=zu (And.intro hown2 (HBd.out.trans (((zy (w.heap.size+3) wd).alloc (by omega) (.cells #[.int .i64 x.kind,.int .i64 x.n,.string x.s,.slice Ax x.l.length cx] 29)).trans hb2)))
       clear hown2 hb2 k_x l_x b_x5))
      go_roundw
      case rel=>exact ⟨k+1,A3,c3,by omega,by rw [HE.out,zA];rfl,by go_num,zu H7.out.2,zu (by rw [HE.out];exact H7.out.1),HALL2⟩
      case measure=>simp [intOf];omega
  ·have HE:=zu (show fC a b k=fZ a b from vj (by omega))
   have HOK:=zu (xJ (show b.l.length≤k by omega) HALL.out)
   rw [HE.out] at HOW HJL ⊢
   generalize hout:fZ a b=all at *
   have kR:=b_r2.cell
   have fR:=b_r2.free
   clear hout
   by_cases h16:16<all.length
   ·have hg:(16:Int)<(all.length:Int):=by omega
    have HR16:=zu (show jr a b=(noT,4) by rw [HOK.out,if_pos h16])
    go_wp2_with fail
    have hbr:=dy b_r2 (.int .i64 0) (.int .i64 0) (.string ⟨#[]⟩) (.slice none 0 0)
    refine bodyPost_ret (al rfl rfl hbr rfl) rfl ?_
    rw [HR16.out]
    exact ⟨⟨_,_,rfl,TmOwn.no⟩,cB HBr.out (by omega) _ _ _ _⟩
   ·have hg:¬(16:Int)<(all.length:Int):=by omega
    have HR16:=zu (show jr a b=rh all by rw [HOK.out,if_neg h16])
    obtain ⟨A3,c3,e3,r1,r2,r3⟩:=HOW.out.reads hBr (by have:=HJL.out;show all.length*(8*4)≤_;omega)
    simp only [zG] at e3
    obtain ⟨rfl,_,rfl⟩:=e3
    have HRL:=zu r3
    clear r1 r2 r3 kR fR
    go_wp2_with fail
    refine (set_any (d:=d) (B:=wr.heap.size) (l:=all) (A:=A2) (c:=c2) HRL.out (zw _) (by have:=HJL.out;omega)).mono ?_
    rintro e w9 ⟨⟨A4,c4,rfl,hrd⟩,hb9⟩
    have b_r9:=b_r2.later hb9
    have HB9:=zu (aa HBr.out hb9)
    have HRD:=zu hrd
    have kR:=b_r9.cell
    have fR:=b_r9.free
    clear hrd hb9
    go_wp2_with fail
    have hbr:=dy b_r9 (.int .i64 (rh all).1.kind) (.int .i64 (rh all).1.n) (.string (rh all).1.s) (.slice A4 (rh all).1.l.length c4)
    refine bodyPost_ret (al rfl rfl hbr rfl) rfl ?_
    rw [HR16.out]
    exact ⟨⟨A4,c4,rfl,(HRD.out.put4 (by omega) _ _ _ _).lower (by omega)⟩,cB HB9.out (by omega) _ _ _ _⟩
theorem fQ {x:Int} {s:ByteArray} {l:List Tm} (h:af ⟨7,x,s,l⟩=true):l.length≤16∧∀x∈l,jc x:=dA (by
 have:=kY h
 rw [if_pos rfl] at this
 exact this.2.2)
theorem xl {x y:Int} {d B:Nat} {s s':ByteArray} {l l':List Tm} {vs ws:List Value} {w:World} (ha:RTm w B (d+1) ⟨7,x,s,l⟩ vs) (hb:RTm w B (d+1) ⟨7,y,s',l'⟩ ws) (hB:B≤w.heap.size) (fa:af ⟨7,x,s,l⟩=true) (fb:af ⟨7,y,s',l'⟩=true)  :
 Calls Tryz.prog 189 #[.int .i64 15,.agg vs.toArray,.agg ws.toArray] w fun z w'=>jf d w w' (ls ⟨7,x,s,l⟩ ⟨7,y,s',l'⟩,0) z:=by
 obtain ⟨A,c,rfl,q1,q2,q3,q4,q5,_⟩:=ha.cells
 obtain ⟨A',c',rfl,r1,r2,r3,r4,r5,_⟩:=hb.cells
 have HA:=zu ha
 have HB_:=zu hb
 have FA:=zu fa
 have FB:=zu fb
 simp only at q2 q3 q4 q5 r2 r3 r4 r5
 clear ha hb fa fb
 have HK:Hid (aJ 15 7 7=true):=zu (by decide)
 go_enter Tryz.func189,Tryz.ntmps189
 go_wp2_with fail
 generalize hW:World.alloc _ _=w1
 obtain ⟨hb,hz⟩:=al3 hW
 have b_a_1:=n31 hW
 have b_b_1:=n32 hW
 have b_r_1:=n33 hW
 have HB1:=zu hb
 clear hW hz hb
 refine (ai (t:=⟨7,x,s,l⟩) (vs:=[_,_,_,_]) (HA.out.below HB1.out hB) (zv hB HB1.out.size)).mono ?_
 rintro x w2 ⟨rfl,hb⟩
 have b_a_2:=b_a_1.later hb
 have b_b_2:=b_b_1.later hb
 have b_r_2:=b_r_1.later hb
 have HB2:=zu (aa HB1.out hb)
 clear b_a_1 b_b_1 b_r_1
 clear hb
 rw [FA.out]
 have k_a:=b_a_2.cell
 have k_b:=b_b_2.cell
 have k_r:=b_r_2.cell
 go_wp2_with fail
 clear k_a k_b k_r
 refine (ai (t:=⟨7,y,s',l'⟩) (vs:=[_,_,_,_]) (HB_.out.below HB2.out hB) (zv hB HB2.out.size)).mono ?_
 rintro x w3 ⟨rfl,hb⟩
 have b_a_3:=b_a_2.later hb
 have b_b_3:=b_b_2.later hb
 have b_r_3:=b_r_2.later hb
 have HB3:=zu (aa HB2.out hb)
 clear b_a_2 b_b_2 b_r_2
 clear hb
 rw [FB.out]
 have k_a:=b_a_3.cell
 have k_b:=b_b_3.cell
 have k_r:=b_r_3.cell
 go_wp2_with fail
 clear k_a k_b k_r
 refine (aW 15 7 7 _).mono ?_
 rintro x w4 ⟨rfl,hb⟩
 have b_a_4:=b_a_3.later hb
 have b_b_4:=b_b_3.later hb
 have b_r_4:=b_r_3.later hb
 have HB4:=zu (aa HB3.out hb)
 clear b_a_3 b_b_3 b_r_3
 clear hb
 rw [HK.out]
 have k_a:=b_a_4.cell
 have k_b:=b_b_4.cell
 have k_r:=b_r_4.cell
 go_wp2_with fail
 clear k_a k_b k_r
 have hlr:=b_r_4.lt
 have hwl:=HB4.out.size
 refine (xS (d:=d) (d':=d) (a:=⟨7,x,s,l⟩) (b:=⟨7,y,s',l'⟩) (vs:=[_,_,_,_]) (ws:=[_,_,_,_]) (HA.out.below HB4.out hB) (HB_.out.below HB4.out hB) (zv hB HB4.out.size) (fQ FA.out).1 (fQ FA.out).2).mono ?_
 rintro x w5 ⟨⟨A4,c4,rfl,hrd⟩,hb⟩
 have b_a_5:=b_a_4.later hb
 have b_b_5:=b_b_4.later hb
 have b_r_5:=b_r_4.later hb
 have HB5:=zu (aa HB4.out hb)
 clear b_a_4 b_b_4 b_r_4
 clear hb
 have HRD:=zu hrd
 clear hrd
 have k_a:=b_a_5.cell
 have k_b:=b_b_5.cell
 have k_r:=b_r_5.cell
 have f_r:=b_r_5.free
 go_wp2_with fail
 have hbr:=dy b_r_5 (.int .i64 7) (.int .i64 0) (.string kM) (.slice A4 (ls ⟨7,x,s,l⟩ ⟨7,y,s',l'⟩).l.length c4)
 refine bodyPost_ret (al rfl rfl hbr rfl) rfl ?_
 exact ⟨⟨A4,c4,rfl,(HRD.out.put4 (by omega) _ _ _ _).lower (by omega)⟩,cB HB5.out (by omega) _ _ _ _⟩
theorem xj {x y:Int} {d B:Nat} {s s':ByteArray} {l l':List Tm} {vs ws:List Value} {w:World} (ha:RTm w B (d+1) ⟨7,x,s,l⟩ vs) (hb:RTm w B (d+1) ⟨7,y,s',l'⟩ ws) (hB:B≤w.heap.size) (fa:af ⟨7,x,s,l⟩=true) (fb:af ⟨7,y,s',l'⟩=true)  :
 Calls Tryz.prog 189 #[.int .i64 16,.agg vs.toArray,.agg ws.toArray] w fun z w'=>jf d w w' (jr ⟨7,x,s,l⟩ ⟨7,y,s',l'⟩) z:=by
 obtain ⟨A,c,rfl,q1,q2,q3,q4,q5,_⟩:=ha.cells
 obtain ⟨A',c',rfl,r1,r2,r3,r4,r5,_⟩:=hb.cells
 have HA:=zu ha
 have HB_:=zu hb
 have FA:=zu fa
 have FB:=zu fb
 simp only at q2 q3 q4 q5 r2 r3 r4 r5
 clear ha hb fa fb
 have HK:Hid (aJ 16 7 7=true):=zu (by decide)
 go_enter Tryz.func189,Tryz.ntmps189
 go_wp2_with fail
 generalize hW:World.alloc _ _=w1
 obtain ⟨hb,hz⟩:=al3 hW
 have b_a_1:=n31 hW
 have b_b_1:=n32 hW
 have b_r_1:=n33 hW
 have HB1:=zu hb
 clear hW hz hb
 refine (ai (t:=⟨7,x,s,l⟩) (vs:=[_,_,_,_]) (HA.out.below HB1.out hB) (zv hB HB1.out.size)).mono ?_
 rintro x w2 ⟨rfl,hb⟩
 have b_a_2:=b_a_1.later hb
 have b_b_2:=b_b_1.later hb
 have b_r_2:=b_r_1.later hb
 have HB2:=zu (aa HB1.out hb)
 clear b_a_1 b_b_1 b_r_1
 clear hb
 rw [FA.out]
 have k_a:=b_a_2.cell
 have k_b:=b_b_2.cell
 have k_r:=b_r_2.cell
 go_wp2_with fail
 clear k_a k_b k_r
 refine (ai (t:=⟨7,y,s',l'⟩) (vs:=[_,_,_,_]) (HB_.out.below HB2.out hB) (zv hB HB2.out.size)).mono ?_
 rintro x w3 ⟨rfl,hb⟩
 have b_a_3:=b_a_2.later hb
 have b_b_3:=b_b_2.later hb
 have b_r_3:=b_r_2.later hb
 have HB3:=zu (aa HB2.out hb)
 clear b_a_2 b_b_2 b_r_2
 clear hb
 rw [FB.out]
 have k_a:=b_a_3.cell
 have k_b:=b_b_3.cell
 have k_r:=b_r_3.cell
 go_wp2_with fail
 clear k_a k_b k_r
 refine (aW 16 7 7 _).mono ?_
 rintro x w4 ⟨rfl,hb⟩
 have b_a_4:=b_a_3.later hb
 have b_b_4:=b_b_3.later hb
 have b_r_4:=b_r_3.later hb
 have HB4:=zu (aa HB3.out hb)
 clear b_a_3 b_b_3 b_r_3
 clear hb
 rw [HK.out]
 have k_a:=b_a_4.cell
 have k_b:=b_b_4.cell
 have k_r:=b_r_4.cell
 go_wp2_with fail
 clear k_a k_b k_r
 have hlr:=b_r_4.lt
 have hwl:=HB4.out.size
 refine (xK (d:=d) (d':=d) (a:=⟨7,x,s,l⟩) (b:=⟨7,y,s',l'⟩) (vs:=[_,_,_,_]) (ws:=[_,_,_,_]) (HA.out.below HB4.out hB) (HB_.out.below HB4.out hB) (zv hB HB4.out.size) (fQ FA.out).1 (fQ FB.out).1).mono ?_
 rintro x w5 ⟨⟨A4,c4,rfl,hrd⟩,hb⟩
 have b_a_5:=b_a_4.later hb
 have b_b_5:=b_b_4.later hb
 have b_r_5:=b_r_4.later hb
 have HB5:=zu (aa HB4.out hb)
 clear b_a_4 b_b_4 b_r_4
 clear hb
 have HRD:=zu hrd
 clear hrd
 have k_a:=b_a_5.cell
 have k_b:=b_b_5.cell
 have k_r:=b_r_5.cell
 have f_r:=b_r_5.free
 go_wp2_with fail
 have hbr:=dy b_r_5 (.int .i64 (jr ⟨7,x,s,l⟩ ⟨7,y,s',l'⟩).1.kind) (.int .i64 (jr ⟨7,x,s,l⟩ ⟨7,y,s',l'⟩).1.n) (.string (jr ⟨7,x,s,l⟩ ⟨7,y,s',l'⟩).1.s) (.slice A4 (jr ⟨7,x,s,l⟩ ⟨7,y,s',l'⟩).1.l.length c4)
 refine bodyPost_ret (al rfl rfl hbr rfl) rfl ?_
 exact ⟨⟨A4,c4,rfl,(HRD.out.put4 (by omega) _ _ _ _).lower (by omega)⟩,cB HB5.out (by omega) _ _ _ _⟩
theorem qi {x y kb:Int} {d B:Nat} {s s':ByteArray} {l l':List Tm} {vs ws:List Value} {w:World} (ha:RTm w B (d+1) ⟨7,x,s,l⟩ vs) (hb:RTm w B (d+1) ⟨kb,y,s',l'⟩ ws) (hB:B≤w.heap.size) (fa:af ⟨7,x,s,l⟩=true) (fb:af ⟨kb,y,s',l'⟩=true) (hk:aJ 11 7 kb=true) :
 Calls Tryz.prog 189 #[.int .i64 11,.agg vs.toArray,.agg ws.toArray] w fun z w'=>z=bR 6 (bit (eL ⟨7,x,s,l⟩ ⟨kb,y,s',l'⟩)) emp 0∧Below w.heap.size w w':=by
 obtain ⟨A,c,rfl,q1,q2,q3,q4,q5,_⟩:=ha.cells
 obtain ⟨A',c',rfl,r1,r2,r3,r4,r5,_⟩:=hb.cells
 have HA:=zu ha
 have HB_:=zu hb
 have FA:=zu fa
 have FB:=zu fb
 simp only at q2 q3 q4 q5 r2 r3 r4 r5
 clear ha hb fa fb
 have HK:=zu hk
 clear hk
 go_enter Tryz.func189,Tryz.ntmps189
 go_wp2_with fail
 generalize hW:World.alloc _ _=w1
 obtain ⟨hb,hz⟩:=al3 hW
 have b_a_1:=n31 hW
 have b_b_1:=n32 hW
 have b_r_1:=n33 hW
 have HB1:=zu hb
 clear hW hz hb
 refine (ai (t:=⟨7,x,s,l⟩) (vs:=[_,_,_,_]) (HA.out.below HB1.out hB) (zv hB HB1.out.size)).mono ?_
 rintro x w2 ⟨rfl,hb⟩
 have b_a_2:=b_a_1.later hb
 have b_b_2:=b_b_1.later hb
 have b_r_2:=b_r_1.later hb
 have HB2:=zu (aa HB1.out hb)
 clear b_a_1 b_b_1 b_r_1
 clear hb
 rw [FA.out]
 have k_a:=b_a_2.cell
 have k_b:=b_b_2.cell
 have k_r:=b_r_2.cell
 go_wp2_with fail
 clear k_a k_b k_r
 refine (ai (t:=⟨kb,y,s',l'⟩) (vs:=[_,_,_,_]) (HB_.out.below HB2.out hB) (zv hB HB2.out.size)).mono ?_
 rintro x w3 ⟨rfl,hb⟩
 have b_a_3:=b_a_2.later hb
 have b_b_3:=b_b_2.later hb
 have b_r_3:=b_r_2.later hb
 have HB3:=zu (aa HB2.out hb)
 clear b_a_2 b_b_2 b_r_2
 clear hb
 rw [FB.out]
 have k_a:=b_a_3.cell
 have k_b:=b_b_3.cell
 have k_r:=b_r_3.cell
 go_wp2_with fail
 clear k_a k_b k_r
 refine (aW 11 7 kb _).mono ?_
 rintro x w4 ⟨rfl,hb⟩
 have b_a_4:=b_a_3.later hb
 have b_b_4:=b_b_3.later hb
 have b_r_4:=b_r_3.later hb
 have HB4:=zu (aa HB3.out hb)
 clear b_a_3 b_b_3 b_r_3
 clear hb
 rw [HK.out]
 have k_a:=b_a_4.cell
 have k_b:=b_b_4.cell
 have k_r:=b_r_4.cell
 go_wp2_with fail
 clear k_a k_b k_r
 refine (kK (d:=d) (d':=d) (s:=⟨7,x,s,l⟩) (t:=⟨kb,y,s',l'⟩) (vs:=[_,_,_,_]) (ws:=[_,_,_,_]) (HA.out.below HB4.out hB) (HB_.out.below HB4.out hB) (zv hB HB4.out.size) (by simp)).mono ?_
 rintro x w5 ⟨rfl,hb⟩
 have b_a_5:=b_a_4.later hb
 have b_b_5:=b_b_4.later hb
 have b_r_5:=b_r_4.later hb
 have HB5:=zu (aa HB4.out hb)
 clear b_a_4 b_b_4 b_r_4
 clear hb
 have k_a:=b_a_5.cell
 have k_b:=b_b_5.cell
 have k_r:=b_r_5.cell
 go_wp2_with fail
 clear k_a k_b k_r
 refine (eo _ _).mono ?_
 rintro x w6 ⟨rfl,hb⟩
 have b_a_6:=b_a_5.later hb
 have b_b_6:=b_b_5.later hb
 have b_r_6:=b_r_5.later hb
 have HB6:=zu (aa HB5.out hb)
 clear b_a_5 b_b_5 b_r_5
 clear hb
 have k_a:=b_a_6.cell
 have k_b:=b_b_6.cell
 have k_r:=b_r_6.cell
 have f_r:=b_r_6.free
 go_wp2_with fail
 refine bodyPost_ret (al rfl rfl (put4 b_r_6 HB6.out (by omega)).1 rfl) rfl ?_
 exact ⟨rfl,(put4 b_r_6 HB6.out (by omega)).2⟩
end Go.Proofs.YtjpndglegpcdnaaGreat
