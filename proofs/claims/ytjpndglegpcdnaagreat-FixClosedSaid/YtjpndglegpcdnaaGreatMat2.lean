/- match.ways.enter. -/
import Derived.Test.YtjpndglegpcdnaaGreatHasSet
import Derived.Test.YtjpndglegpcdnaaGreatHeapLaw
import Derived.Test.YtjpndglegpcdnaaGreatStk
import Derived.Deep.LoopGhost
import Derived.Deep.Cut
set_option linter.unusedVariables false
set_option linter.unusedSimpArgs false
set_option maxRecDepth 100000
set_option maxHeartbeats 8000000
namespace Go.Proofs.YtjpndglegpcdnaaGreat
open Go.ChangeShapes Go.WideShapes Go.ChangeAt Go.RowKit
def fI (a b:Tm) (k:Nat):List Tm:=a.l++(b.l.take k).filter fun t=>!kx a t
theorem wi {a b:Tm} {k:Nat} (ha:a.l.length≤16) (hb:b.l.length≤16):(fI a b k).length≤32:=by
 unfold fI
 rw [AK]
 have:=AF (List.length_filter_le (fun t=>!kx a t) (b.l.take k)) (by rw [AW];exact Nat.min_le_right _ _)
 omega
theorem su {a b:Tm} {k:Nat} {x:Tm} (h:b.l[k]? = some x) (hm:kx a x=true):fI a b (k+1)=fI a b k:=by
 unfold fI;rw [fg h,hm];simp
theorem pv {a b:Tm} {k:Nat} {x:Tm} (h:b.l[k]? = some x) (hm:kx a x=false):fI a b (k+1)=fI a b k++[x]:=by
 unfold fI;rw [fg h,hm];simp
theorem wh {a b:Tm} {k:Nat} (h:b.l.length≤k):fI a b k=gh a b:=by
 unfold fI gh;rw [List.take_of_length_le h]
theorem badJ_y {a b x:Tm} {ky:Int} (h:(x.kind !=ky)=true) (hk:dJ b.l=ky):oE a b x=true:=by
 subst hk;unfold oE;simp only [bne_iff_ne,ne_eq] at h;simp [h]
theorem badJ_z {a b x:Tm} {kz:Int} (h:(x.kind !=kz)=true) (h0:0<a.l.length) (hk:dJ a.l=kz):oE a b x=true:=by
 subst hk;unfold oE;simp only [bne_iff_ne,ne_eq] at h;have h1:decide (0<a.l.length)=true:=decide_eq_true h0;rw [h1];simp [h]
theorem badJ_n {a b x:Tm} {ky:Int} (h:(x.kind !=ky)=false) (hk:dJ b.l=ky) (h0:¬0<a.l.length):oE a b x=false:=by
 subst hk;unfold oE;simp only [bne_eq_false_iff_eq] at h;have h1:decide (0<a.l.length)=false:=decide_eq_false h0;rw [h1,h];simp
theorem badJ_nz {a b x:Tm} {ky kz:Int} (h:(x.kind !=ky)=false) (hk:dJ b.l=ky) (h':(x.kind !=kz)=false) (hk':dJ a.l=kz):oE a b x=false:=by
 subst hk hk';unfold oE;simp only [bne_eq_false_iff_eq] at h h';simp [←h,←h']
theorem wj {a b:Tm} {k:Nat} {x:Tm} (h:b.l[k]? = some x) (hb:oE a b x=true):jK a b=(noT,7):=by
 unfold jK;rw [if_pos (xZ (p:=oE a b) h hb)]
theorem yH {a b:Tm} {k:Nat} (hk:b.l.length≤k) (h:∀j (hj:j<k) (hj':j<b.l.length),oE a b b.l[j]=false):jK a b=if 16<(gh a b).length then (noT,4) else rM (gh a b):=by
 unfold jK;rw [if_neg (by rw [uM (p:=oE a b) hk h];simp)]
theorem yI {d d' B:Nat} {a b:Tm} {vs ws:List Value} {w:World} (ha:RTm w B (d+1) a vs) (hb:RTm w B (d+1) b ws) (hB:B≤w.heap.size) (hn:a.l.length≤16) (hn':b.l.length≤16) :
 Calls Tryz.prog 202 #[.agg vs.toArray,.agg ws.toArray] w fun e w'=>jx d w w' (jK a b) e:=by
 obtain ⟨i0,hi0,hz0,hz1,hz2⟩:=info_parts hJ
 have HS:=AE ha
 obtain ⟨A,c,rfl,_,_,_,_,_,hl⟩:=ha
 obtain ⟨A',c',rfl,_,_,_,_,_,hl'⟩:=hb
 have HLa:Hid (RL (TmR d) w B a.l A):=AE hl
 have HLb:Hid (RL (TmR d) w B b.l A'):=AE hl'
 have HN:=AE hn
 have HN':=AE hn'
 clear hl hl' hn hn'
 go_enter Tryz.func202,Tryz.ntmps202
 have HSRC:=AE (HLa.out.keep (al3 (w:=w) (o1:=.cells #[.int .i64 a.kind,.int .i64 a.n,.string a.s,.slice A a.l.length c] 29) (o2:=.cells #[.int .i64 b.kind,.int .i64 b.n,.string b.s,.slice A' b.l.length c'] 29) (o3:=.cells xP 29) rfl).1 hB).src
 go_wp2_with ((
  at_builtin
  refine ar (R:=TmR d) (e:=29) (base:=w.heap.size+3) (B:=B) (xs:=[]) (ys:=a.l) rfl (.const (.slice none 0 0)) (.tmp 10) 24 rfl (bytes:=56) Tryz.underlying24 hi0 hz0 hz1 hz2 rfl (show 0<4 by omega) (ep d) rfl (aq.nil _ _ _ _ _) rfl HSRC.out rfl (by omega) (by have:=HN.out;simp only [List.length_nil];omega) (by omega) (by simp only [World.size_alloc];omega) ?_
  intro v1 w1 hown1 hb1
  obtain ⟨A1,c1,rfl⟩:=hown1.form
  have b_a:=Blk.keep (n31 rfl) hb1 (show w.heap.size<w.heap.size+3 by omega)
  have b_b:=Blk.keep (n32 rfl) hb1 (show w.heap.size+1<w.heap.size+3 by omega)
  have b_r:=Blk.keep (n33 rfl) hb1 (show w.heap.size+1+1<w.heap.size+3 by omega)
  have HB1:Hid (Below w.heap.size w w1):=AE ((al3 rfl).1.trans (hb1.mono (by omega)))
  have HO1:=AE hown1
  have hsz1:w.heap.size+3≤w1.heap.size:=by have:=hb1.size;simp only [World.size_alloc] at this;omega
  have k_b:=b_b.cell
  clear hown1 hb1))
 simp only [List.nil_append] at HO1 ⊢
 have hB1:=AF hB HB1.out.size
 clear k_b HSRC
 go_loopw [6,15] (fun v i wr=>∃(k:Nat) (A2:Option Addr) (c2:Nat),k≤b.l.length∧v=.slice A2 (fI a b k).length c2∧i=.int .i64 k∧Hid (Below (w.heap.size+3) w1 wr)∧Hid (aq (TmR d) 29 wr (w.heap.size+3) B (.slice A2 (fI a b k).length c2) (fI a b k))∧Hid (∀j (hj:j<k) (hj':j<b.l.length),oE a b b.l[j]=false)) (fun _ i _=>b.l.length-(intOf i).toNat)
 case atStart=>
  have e:fI a b 0=a.l:=by simp [fI]
  exact ⟨0,A1,c1,AH _,by rw [e],rfl,AE (AI _ _),AE (by rw [e];exact HO1.out),AE (fun j hj=>absurd hj (by omega))⟩
 case round=>
  obtain ⟨k,A2,c2,hk,rfl,rfl,HBW,HOW,HALL⟩:=hrel
  have b_a2:=b_a.keep HBW.out (by omega)
  have b_b2:=b_b.keep HBW.out (by omega)
  have b_r2:=b_r.keep HBW.out (by omega)
  have hszr:w1.heap.size≤wr.heap.size:=HBW.out.size
  have hBr:=AF hB1 hszr
  have HBr:=AE (HB1.out.trans (HBW.out.mono (show w.heap.size≤w.heap.size+3 by omega)))
  have HJL:=AE (wi (k:=k) HN.out HN'.out)
  clear b_a b_b b_r
  by_cases hlt:k<b.l.length
  ·obtain ⟨bb,off,rfl,hob⟩:=HLb.out.base HBr.out hB (by omega)
   obtain ⟨x,vs,hx,hlen,hcell,hr⟩:=HLb.out.at_ HBr.out hB hlt
   obtain ⟨Ax,cx,rfl,_⟩:=RTm.cells (show RTm wr B d x vs from hr)
   have c0:wr.cell? ⟨bb,off+k*4,none⟩=some (.int .i64 x.kind):=hcell 0 _ rfl
   have c1:wr.cell? ⟨bb,off+k*4+1,none⟩=some (.int .i64 x.n):=hcell 1 _ rfl
   have c2:wr.cell? ⟨bb,off+k*4+2,none⟩=some (.string x.s):=hcell 2 _ rfl
   have c3:wr.cell? ⟨bb,off+k*4+3,none⟩=some (.slice Ax x.l.length cx):=hcell 3 _ rfl
   have HX:=AE hx
   have HR:Hid (RTm wr B d x _):=AE hr
   obtain ⟨y,ys,hy,_,hycell,hry⟩:=HLb.out.at_ (k:=0) HBr.out hB (by omega)
   obtain ⟨Ay,cy,rfl,_⟩:=RTm.cells (show RTm wr B d y ys from hry)
   have HKY:Hid (dJ b.l=y.kind):=AE (by unfold dJ;rw [List.head?_eq_getElem?,hy];rfl)
   have f0:wr.cell? ⟨bb,off,none⟩=some (.int .i64 y.kind):=by simpa using hycell 0 _ rfl
   clear hcell hlen hx hr hycell hry hy
   go_wp2_with fail
   generalize hW:World.alloc _ _=W
   obtain ⟨hb1,hz⟩:=al1 hW
   have b_x:=n11 hW
   have g0:=cell_regrown ((hb1.cell (p:=⟨bb,off,none⟩) (AJ hob (by omega))).trans f0)
   have b_a3:=b_a2.later hb1
   have b_b3:=b_b2.later hb1
   have b_r3:=b_r2.later hb1
   have HBa:=AE (HBW.out.trans (hb1.mono (by omega)))
   have HBA:=AE (aa HBr.out hb1)
   have HOa:=AE (HOW.out.later hb1 hBr)
   have HRa:=AE (HR.out.below hb1 hBr)
   have hsza:=AF hszr hb1.size
   have hBa:=AF hBr hb1.size
   clear hW hb1 hz c0 c1 c2 c3 b_a2 b_b2 b_r2 HBW HBr HOW HR f0
   have q_x:=b_x.regrown
   have q_a:=b_a3.regrown
   have q_b:=b_b3.regrown
   have hfork:(((x.kind !=y.kind)=true∨((x.kind !=y.kind)=false∧∃z:Tm,∃q:Nat × Nat,(x.kind !=z.kind)=true∧0<a.l.length∧dJ a.l=z.kind∧A=some ⟨q.1,q.2,none⟩∧q.1<W.heap.size∧W.cell? ⟨q.1,q.2,none⟩=some (.int .i64 z.kind)))∧oE a b x=true) ∨
    (((x.kind !=y.kind)=false∧(¬0<a.l.length∨∃z:Tm,∃q:Nat × Nat,(x.kind !=z.kind)=false∧0<a.l.length∧dJ a.l=z.kind∧A=some ⟨q.1,q.2,none⟩∧q.1<W.heap.size∧W.cell? ⟨q.1,q.2,none⟩=some (.int .i64 z.kind)))∧oE a b x=false):=by
    rcases Bool.eq_false_or_eq_true (x.kind !=y.kind) with h1 | h1
    ·exact .inl ⟨.inl h1,badJ_y h1 HKY.out⟩
    ·by_cases h0:0<a.l.length
     ·obtain ⟨ba,offa,rfl,hoa⟩:=HLa.out.base HBA.out hB h0
      obtain ⟨z,zs,hz',_,hzcell,hrz⟩:=HLa.out.at_ (k:=0) HBA.out hB h0
      obtain ⟨Az,cz,rfl,_⟩:=RTm.cells (show RTm W B d z zs from hrz)
      have hkz:dJ a.l=z.kind:=by unfold dJ;rw [List.head?_eq_getElem?,hz'];rfl
      have e0:W.cell? ⟨ba,offa,none⟩=some (.int .i64 z.kind):=by simpa using hzcell 0 _ rfl
      rcases Bool.eq_false_or_eq_true (x.kind !=z.kind) with h2 | h2
      ·exact .inl ⟨.inr ⟨h1,z,(ba,offa),h2,h0,hkz,rfl,hoa,e0⟩,badJ_z h2 h0 hkz⟩
      ·exact .inr ⟨⟨h1,.inr ⟨z,(ba,offa),h2,h0,hkz,rfl,hoa,e0⟩⟩,badJ_nz h1 HKY.out h2 hkz⟩
     ·exact .inr ⟨⟨h1,.inl h0⟩,badJ_n h1 HKY.out h0⟩
   rcases hfork with ⟨h,hbad⟩ | ⟨⟨h1,h⟩,hbad⟩
   ·have HBAD:=AE (wj HX.out hbad)
    clear hbad
    rcases h with h1 | ⟨h1,z,⟨ba,offa⟩,h2,h0,hkz,rfl,hoa,e0⟩
    ·refine wp_region_quiet_below (by kernel_rfl) (by kernel_rfl) ?_
     repeat (go_big_quiet_step (fail))
     refine wpQuiet_nil ?_
     intro wc hw3
     have hb1:Below W.heap.size W wc:=by obtain ⟨p,rfl⟩:=hw3;exact below_regrown _ _ _
     clear hw3 q_x q_a q_b g0
     have b_r4:=b_r3.later hb1
     have HBB:=AE (aa HBA.out hb1)
     have kR:=b_r4.cell
     have fR:=b_r4.free
     clear hb1
     go_wp2_with fail
     have hbr:=dA b_r4 (.int .i64 0) (.int .i64 0) (.string ⟨#[]⟩) (.slice none 0 0)
     refine bodyPost_ret (am rfl rfl hbr rfl) rfl ?_
     rw [HBAD.out]
     exact ⟨⟨_,_,rfl,TmOwn.no⟩,cC HBB.out (by omega) _ _ _ _⟩
    ·have r0:=cell_regrown e0
     refine wp_region_quiet_below (by kernel_rfl) (by kernel_rfl) ?_
     repeat (go_big_quiet_step (fail))
     refine wpQuiet_nil ?_
     intro wc hw3
     have hb1:Below W.heap.size W wc:=by obtain ⟨p,rfl⟩:=hw3;exact below_regrown _ _ _
     clear hw3 q_x q_a q_b g0
     have b_r4:=b_r3.later hb1
     have HBB:=AE (aa HBA.out hb1)
     have kR:=b_r4.cell
     have fR:=b_r4.free
     clear hb1
     go_wp2_with fail
     have hbr:=dA b_r4 (.int .i64 0) (.int .i64 0) (.string ⟨#[]⟩) (.slice none 0 0)
     refine bodyPost_ret (am rfl rfl hbr rfl) rfl ?_
     rw [HBAD.out]
     exact ⟨⟨_,_,rfl,TmOwn.no⟩,cC HBB.out (by omega) _ _ _ _⟩
   ·have HNB:=AE hbad
    clear hbad
    rcases h with h0 | ⟨z,⟨ba,offa⟩,h2,h0,hkz,rfl,hoa,e0⟩
    ·refine wp_region_quiet_below (by kernel_rfl) (by kernel_rfl) ?_
     repeat (go_big_quiet_step (fail))
     refine wpQuiet_nil ?_
     intro wc hw3
     have hb1:Below W.heap.size W wc:=by obtain ⟨p,rfl⟩:=hw3;exact below_regrown _ _ _
     clear hw3 q_x q_a q_b g0
     have b_a4:=b_a3.later hb1
     have b_b4:=b_b3.later hb1
     have b_r4:=b_r3.later hb1
     have b_x4:=b_x.later hb1
     have HBb:=AE (HBa.out.trans (hb1.mono (by omega)))
     have HBB:=AE (aa HBA.out hb1)
     have HOb:=AE (HOa.out.later hb1 hBa)
     have HRb:=AE (HRa.out.below hb1 hBa)
     have hszb:=AF hsza hb1.size
     have hBb:=AF hBa hb1.size
     clear hb1 b_a3 b_b3 b_r3 b_x HBa HOa HRa HBA hsza hBa
     have k_a:=b_a4.cell
     have l_a:=b_a4.lt
     have k_x:=b_x4.cell
     have l_x:=b_x4.lt
     go_wp2_with fail
     clear k_a l_a k_x l_x
     refine (lD (d:=d) (d':=d) (s:=a) (t:=x) (B:=B) (vs:=[_,_,_,_]) (ws:=[_,_,_,_]) (HS.out.below HBB.out hB) HRb.out hBb).mono ?_
     rintro e wd ⟨rfl,hb3⟩
     have b_x5:=b_x4.later hb3
     have HBd:=AE (HBb.out.trans (hb3.mono (by omega)))
     have HOd:=AE (HOb.out.later hb3 hBb)
     have HRd:=AE (HRb.out.below hb3 hBb)
     have hszd:=AF hszb hb3.size
     have hBd:=AF hBb hb3.size
     clear hb3 b_a4 b_b4 b_r4 b_x4 HBb HOb HRb HBB hszb hBb
     have HALL2:Hid (∀j (hj:j<k+1) (hj':j<b.l.length),oE a b b.l[j]=false):=AE fun j hj hj'=>by
      rcases Nat.lt_or_ge j k with h3 | h3
      ·exact HALL.out j h3 hj'
      ·obtain rfl:j=k:=by omega
       rw [(List.getElem?_eq_some_iff.1 HX.out).2];exact HNB.out
     by_cases hm:kx a x=true
     ·have HE:=AE (su HX.out hm)
      rw [hm]
      clear hm
      go_wp2_with fail
      go_roundw
      case rel=>exact ⟨k+1,A2,_,by omega,by rw [HE.out],by go_num,HBd,AE (by rw [HE.out];exact HOd.out),HALL2⟩
      case measure=>simp [intOf];omega
     ·simp only [Bool.not_eq_true] at hm
      have HE:=AE (pv HX.out hm)
      rw [hm]
      clear hm
      generalize hout:fI a b k=out at *
      clear hout
      have k_x:=b_x5.cell
      have l_x:=b_x5.lt
      have HOW:=AE (And.intro (HOd.out.later ((AI _ wd).alloc (AG _) (.cells #[.int .i64 x.kind,.int .i64 x.n,.string x.s,.slice Ax x.l.length cx] 29)) hBd) (Blk.src (R:=TmR d) (B:=B) (x:=x) (Blk.new wd #[.int .i64 x.kind,.int .i64 x.n,.string x.s,.slice Ax x.l.length cx] 29) ((HRd.out.below ((AI _ wd).alloc (AG _) (.cells #[.int .i64 x.kind,.int .i64 x.n,.string x.s,.slice Ax x.l.length cx] 29)) hBd))))
      go_wp2_with ((
       at_builtin
       refine ar (R:=TmR d) (e:=29) (base:=w.heap.size+3) (B:=B) (xs:=out) (ys:=[x]) rfl (.tmp 50) (.tmp 52) 24 rfl (bytes:=56) Tryz.underlying24 hi0 hz0 hz1 hz2 rfl (show 0<4 by omega) (ep d) rfl HOW.out.1 rfl HOW.out.2 rfl (by omega) (by have:=HJL.out;simp only [AV,List.length_nil];omega) (by omega) (by rw [World.size_alloc];omega) ?_
       intro v2 w7 hown2 hb2
       obtain ⟨A3,c3,rfl⟩:=hown2.form
       have H7:=AE (And.intro hown2 (HBd.out.trans (((AI (w.heap.size+3) wd).alloc (by omega) (.cells #[.int .i64 x.kind,.int .i64 x.n,.string x.s,.slice Ax x.l.length cx] 29)).trans hb2)))
       clear hown2 hb2 k_x l_x b_x5))
      go_roundw
      case rel=>exact ⟨k+1,A3,c3,by omega,by rw [HE.out,AK];rfl,by go_num,AE H7.out.2,AE (by rw [HE.out];exact H7.out.1),HALL2⟩
      case measure=>simp [intOf];omega
    ·have r0:=cell_regrown e0
     refine wp_region_quiet_below (by kernel_rfl) (by kernel_rfl) ?_
     repeat (go_big_quiet_step (fail))
     refine wpQuiet_nil ?_
     intro wc hw3
     have hb1:Below W.heap.size W wc:=by obtain ⟨p,rfl⟩:=hw3;exact below_regrown _ _ _
     clear hw3 q_x q_a q_b g0
     have b_a4:=b_a3.later hb1
     have b_b4:=b_b3.later hb1
     have b_r4:=b_r3.later hb1
     have b_x4:=b_x.later hb1
     have HBb:=AE (HBa.out.trans (hb1.mono (by omega)))
     have HBB:=AE (aa HBA.out hb1)
     have HOb:=AE (HOa.out.later hb1 hBa)
     have HRb:=AE (HRa.out.below hb1 hBa)
     have hszb:=AF hsza hb1.size
     have hBb:=AF hBa hb1.size
     clear hb1 b_a3 b_b3 b_r3 b_x HBa HOa HRa HBA hsza hBa
     have k_a:=b_a4.cell
     have l_a:=b_a4.lt
     have k_x:=b_x4.cell
     have l_x:=b_x4.lt
     go_wp2_with fail
     clear k_a l_a k_x l_x
     refine (lD (d:=d) (d':=d) (s:=a) (t:=x) (B:=B) (vs:=[_,_,_,_]) (ws:=[_,_,_,_]) (HS.out.below HBB.out hB) HRb.out hBb).mono ?_
     rintro e wd ⟨rfl,hb3⟩
     have b_x5:=b_x4.later hb3
     have HBd:=AE (HBb.out.trans (hb3.mono (by omega)))
     have HOd:=AE (HOb.out.later hb3 hBb)
     have HRd:=AE (HRb.out.below hb3 hBb)
     have hszd:=AF hszb hb3.size
     have hBd:=AF hBb hb3.size
     clear hb3 b_a4 b_b4 b_r4 b_x4 HBb HOb HRb HBB hszb hBb
     have HALL2:Hid (∀j (hj:j<k+1) (hj':j<b.l.length),oE a b b.l[j]=false):=AE fun j hj hj'=>by
      rcases Nat.lt_or_ge j k with h3 | h3
      ·exact HALL.out j h3 hj'
      ·obtain rfl:j=k:=by omega
       rw [(List.getElem?_eq_some_iff.1 HX.out).2];exact HNB.out
     by_cases hm:kx a x=true
     ·have HE:=AE (su HX.out hm)
      rw [hm]
      clear hm
      go_wp2_with fail
      go_roundw
      case rel=>exact ⟨k+1,A2,_,by omega,by rw [HE.out],by go_num,HBd,AE (by rw [HE.out];exact HOd.out),HALL2⟩
      case measure=>simp [intOf];omega
     ·simp only [Bool.not_eq_true] at hm
      have HE:=AE (pv HX.out hm)
      rw [hm]
      clear hm
      generalize hout:fI a b k=out at *
      clear hout
      have k_x:=b_x5.cell
      have l_x:=b_x5.lt
      have HOW:=AE (And.intro (HOd.out.later ((AI _ wd).alloc (AG _) (.cells #[.int .i64 x.kind,.int .i64 x.n,.string x.s,.slice Ax x.l.length cx] 29)) hBd) (Blk.src (R:=TmR d) (B:=B) (x:=x) (Blk.new wd #[.int .i64 x.kind,.int .i64 x.n,.string x.s,.slice Ax x.l.length cx] 29) ((HRd.out.below ((AI _ wd).alloc (AG _) (.cells #[.int .i64 x.kind,.int .i64 x.n,.string x.s,.slice Ax x.l.length cx] 29)) hBd))))
      go_wp2_with ((
       at_builtin
       refine ar (R:=TmR d) (e:=29) (base:=w.heap.size+3) (B:=B) (xs:=out) (ys:=[x]) rfl (.tmp 50) (.tmp 52) 24 rfl (bytes:=56) Tryz.underlying24 hi0 hz0 hz1 hz2 rfl (show 0<4 by omega) (ep d) rfl HOW.out.1 rfl HOW.out.2 rfl (by omega) (by have:=HJL.out;simp only [AV,List.length_nil];omega) (by omega) (by rw [World.size_alloc];omega) ?_
       intro v2 w7 hown2 hb2
       obtain ⟨A3,c3,rfl⟩:=hown2.form
       have H7:=AE (And.intro hown2 (HBd.out.trans (((AI (w.heap.size+3) wd).alloc (by omega) (.cells #[.int .i64 x.kind,.int .i64 x.n,.string x.s,.slice Ax x.l.length cx] 29)).trans hb2)))
       clear hown2 hb2 k_x l_x b_x5))
      go_roundw
      case rel=>exact ⟨k+1,A3,c3,by omega,by rw [HE.out,AK];rfl,by go_num,AE H7.out.2,AE (by rw [HE.out];exact H7.out.1),HALL2⟩
      case measure=>simp [intOf];omega
  ·have HE:=AE (show fI a b k=gh a b from wh (by omega))
   have HOK:=AE (yH (show b.l.length≤k by omega) HALL.out)
   rw [HE.out] at HOW HJL ⊢
   generalize hout:gh a b=all at *
   have kR:=b_r2.cell
   have fR:=b_r2.free
   clear hout
   by_cases h16:16<all.length
   ·have hg:(16:Int)<(all.length:Int):=by omega
    have HR16:=AE (show jK a b=(noT,4) by rw [HOK.out,if_pos h16])
    go_wp2_with fail
    have hbr:=dA b_r2 (.int .i64 0) (.int .i64 0) (.string ⟨#[]⟩) (.slice none 0 0)
    refine bodyPost_ret (am rfl rfl hbr rfl) rfl ?_
    rw [HR16.out]
    exact ⟨⟨_,_,rfl,TmOwn.no⟩,cC HBr.out (by omega) _ _ _ _⟩
   ·have hg:¬(16:Int)<(all.length:Int):=by omega
    have HR16:=AE (show jK a b=rM all by rw [HOK.out,if_neg h16])
    obtain ⟨A3,c3,e3,r1,r2,r3⟩:=HOW.out.reads hBr (by have:=HJL.out;show all.length*(8*4)≤_;omega)
    simp only [AR] at e3
    obtain ⟨rfl,_,rfl⟩:=e3
    have HRL:=AE r3
    clear r1 r2 r3 kR fR
    go_wp2_with fail
    refine (set_any (d:=d) (B:=wr.heap.size) (l:=all) (A:=A2) (c:=c2) HRL.out (AG _) (by have:=HJL.out;omega)).mono ?_
    rintro e w9 ⟨⟨A4,c4,rfl,hrd⟩,hb9⟩
    have b_r9:=b_r2.later hb9
    have HB9:=AE (aa HBr.out hb9)
    have HRD:=AE hrd
    have kR:=b_r9.cell
    have fR:=b_r9.free
    clear hrd hb9
    go_wp2_with fail
    have hbr:=dA b_r9 (.int .i64 (rM all).1.kind) (.int .i64 (rM all).1.n) (.string (rM all).1.s) (.slice A4 (rM all).1.l.length c4)
    refine bodyPost_ret (am rfl rfl hbr rfl) rfl ?_
    rw [HR16.out]
    exact ⟨⟨A4,c4,rfl,(HRD.out.put4 (by omega) _ _ _ _).lower (by omega)⟩,cC HB9.out (by omega) _ _ _ _⟩
theorem fX {x:Int} {s:ByteArray} {l:List Tm} (h:af ⟨7,x,s,l⟩=true):l.length≤16∧∀x∈l,jv x:=dC (by
 have:=lz h
 rw [if_pos rfl] at this
 exact this.2.2)
theorem yh {x y:Int} {d B:Nat} {s s':ByteArray} {l l':List Tm} {vs ws:List Value} {w:World} (ha:RTm w B (d+1) ⟨7,x,s,l⟩ vs) (hb:RTm w B (d+1) ⟨7,y,s',l'⟩ ws) (hB:B≤w.heap.size) (fa:af ⟨7,x,s,l⟩=true) (fb:af ⟨7,y,s',l'⟩=true)  :
 Calls Tryz.prog 189 #[.int .i64 15,.agg vs.toArray,.agg ws.toArray] w fun z w'=>jx d w w' (lM ⟨7,x,s,l⟩ ⟨7,y,s',l'⟩,0) z:=by
 obtain ⟨A,c,rfl,q1,q2,q3,q4,q5,_⟩:=ha.cells
 obtain ⟨A',c',rfl,r1,r2,r3,r4,r5,_⟩:=hb.cells
 have HA:=AE ha
 have HB_:=AE hb
 have FA:=AE fa
 have FB:=AE fb
 simp only at q2 q3 q4 q5 r2 r3 r4 r5
 clear ha hb fa fb
 have HK:Hid (aK 15 7 7=true):=AE (by decide)
 go_enter Tryz.func189,Tryz.ntmps189
 go_wp2_with fail
 generalize hW:World.alloc _ _=w1
 obtain ⟨hb,hz⟩:=al3 hW
 have b_a_1:=n31 hW
 have b_b_1:=n32 hW
 have b_r_1:=n33 hW
 have HB1:=AE hb
 clear hW hz hb
 refine (aj (t:=⟨7,x,s,l⟩) (vs:=[_,_,_,_]) (HA.out.below HB1.out hB) (AF hB HB1.out.size)).mono ?_
 rintro x w2 ⟨rfl,hb⟩
 have b_a_2:=b_a_1.later hb
 have b_b_2:=b_b_1.later hb
 have b_r_2:=b_r_1.later hb
 have HB2:=AE (aa HB1.out hb)
 clear b_a_1 b_b_1 b_r_1
 clear hb
 rw [FA.out]
 have k_a:=b_a_2.cell
 have k_b:=b_b_2.cell
 have k_r:=b_r_2.cell
 go_wp2_with fail
 clear k_a k_b k_r
 refine (aj (t:=⟨7,y,s',l'⟩) (vs:=[_,_,_,_]) (HB_.out.below HB2.out hB) (AF hB HB2.out.size)).mono ?_
 rintro x w3 ⟨rfl,hb⟩
 have b_a_3:=b_a_2.later hb
 have b_b_3:=b_b_2.later hb
 have b_r_3:=b_r_2.later hb
 have HB3:=AE (aa HB2.out hb)
 clear b_a_2 b_b_2 b_r_2
 clear hb
 rw [FB.out]
 have k_a:=b_a_3.cell
 have k_b:=b_b_3.cell
 have k_r:=b_r_3.cell
 go_wp2_with fail
 clear k_a k_b k_r
 refine (aX 15 7 7 _).mono ?_
 rintro x w4 ⟨rfl,hb⟩
 have b_a_4:=b_a_3.later hb
 have b_b_4:=b_b_3.later hb
 have b_r_4:=b_r_3.later hb
 have HB4:=AE (aa HB3.out hb)
 clear b_a_3 b_b_3 b_r_3
 clear hb
 rw [HK.out]
 have k_a:=b_a_4.cell
 have k_b:=b_b_4.cell
 have k_r:=b_r_4.cell
 go_wp2_with fail
 clear k_a k_b k_r
 have hlr:=b_r_4.lt
 have hwl:=HB4.out.size
 refine (yQ (d:=d) (d':=d) (a:=⟨7,x,s,l⟩) (b:=⟨7,y,s',l'⟩) (vs:=[_,_,_,_]) (ws:=[_,_,_,_]) (HA.out.below HB4.out hB) (HB_.out.below HB4.out hB) (AF hB HB4.out.size) (fX FA.out).1 (fX FA.out).2).mono ?_
 rintro x w5 ⟨⟨A4,c4,rfl,hrd⟩,hb⟩
 have b_a_5:=b_a_4.later hb
 have b_b_5:=b_b_4.later hb
 have b_r_5:=b_r_4.later hb
 have HB5:=AE (aa HB4.out hb)
 clear b_a_4 b_b_4 b_r_4
 clear hb
 have HRD:=AE hrd
 clear hrd
 have k_a:=b_a_5.cell
 have k_b:=b_b_5.cell
 have k_r:=b_r_5.cell
 have f_r:=b_r_5.free
 go_wp2_with fail
 have hbr:=dA b_r_5 (.int .i64 7) (.int .i64 0) (.string lp) (.slice A4 (lM ⟨7,x,s,l⟩ ⟨7,y,s',l'⟩).l.length c4)
 refine bodyPost_ret (am rfl rfl hbr rfl) rfl ?_
 exact ⟨⟨A4,c4,rfl,(HRD.out.put4 (by omega) _ _ _ _).lower (by omega)⟩,cC HB5.out (by omega) _ _ _ _⟩
theorem yf {x y:Int} {d B:Nat} {s s':ByteArray} {l l':List Tm} {vs ws:List Value} {w:World} (ha:RTm w B (d+1) ⟨7,x,s,l⟩ vs) (hb:RTm w B (d+1) ⟨7,y,s',l'⟩ ws) (hB:B≤w.heap.size) (fa:af ⟨7,x,s,l⟩=true) (fb:af ⟨7,y,s',l'⟩=true)  :
 Calls Tryz.prog 189 #[.int .i64 16,.agg vs.toArray,.agg ws.toArray] w fun z w'=>jx d w w' (jK ⟨7,x,s,l⟩ ⟨7,y,s',l'⟩) z:=by
 obtain ⟨A,c,rfl,q1,q2,q3,q4,q5,_⟩:=ha.cells
 obtain ⟨A',c',rfl,r1,r2,r3,r4,r5,_⟩:=hb.cells
 have HA:=AE ha
 have HB_:=AE hb
 have FA:=AE fa
 have FB:=AE fb
 simp only at q2 q3 q4 q5 r2 r3 r4 r5
 clear ha hb fa fb
 have HK:Hid (aK 16 7 7=true):=AE (by decide)
 go_enter Tryz.func189,Tryz.ntmps189
 go_wp2_with fail
 generalize hW:World.alloc _ _=w1
 obtain ⟨hb,hz⟩:=al3 hW
 have b_a_1:=n31 hW
 have b_b_1:=n32 hW
 have b_r_1:=n33 hW
 have HB1:=AE hb
 clear hW hz hb
 refine (aj (t:=⟨7,x,s,l⟩) (vs:=[_,_,_,_]) (HA.out.below HB1.out hB) (AF hB HB1.out.size)).mono ?_
 rintro x w2 ⟨rfl,hb⟩
 have b_a_2:=b_a_1.later hb
 have b_b_2:=b_b_1.later hb
 have b_r_2:=b_r_1.later hb
 have HB2:=AE (aa HB1.out hb)
 clear b_a_1 b_b_1 b_r_1
 clear hb
 rw [FA.out]
 have k_a:=b_a_2.cell
 have k_b:=b_b_2.cell
 have k_r:=b_r_2.cell
 go_wp2_with fail
 clear k_a k_b k_r
 refine (aj (t:=⟨7,y,s',l'⟩) (vs:=[_,_,_,_]) (HB_.out.below HB2.out hB) (AF hB HB2.out.size)).mono ?_
 rintro x w3 ⟨rfl,hb⟩
 have b_a_3:=b_a_2.later hb
 have b_b_3:=b_b_2.later hb
 have b_r_3:=b_r_2.later hb
 have HB3:=AE (aa HB2.out hb)
 clear b_a_2 b_b_2 b_r_2
 clear hb
 rw [FB.out]
 have k_a:=b_a_3.cell
 have k_b:=b_b_3.cell
 have k_r:=b_r_3.cell
 go_wp2_with fail
 clear k_a k_b k_r
 refine (aX 16 7 7 _).mono ?_
 rintro x w4 ⟨rfl,hb⟩
 have b_a_4:=b_a_3.later hb
 have b_b_4:=b_b_3.later hb
 have b_r_4:=b_r_3.later hb
 have HB4:=AE (aa HB3.out hb)
 clear b_a_3 b_b_3 b_r_3
 clear hb
 rw [HK.out]
 have k_a:=b_a_4.cell
 have k_b:=b_b_4.cell
 have k_r:=b_r_4.cell
 go_wp2_with fail
 clear k_a k_b k_r
 have hlr:=b_r_4.lt
 have hwl:=HB4.out.size
 refine (yI (d:=d) (d':=d) (a:=⟨7,x,s,l⟩) (b:=⟨7,y,s',l'⟩) (vs:=[_,_,_,_]) (ws:=[_,_,_,_]) (HA.out.below HB4.out hB) (HB_.out.below HB4.out hB) (AF hB HB4.out.size) (fX FA.out).1 (fX FB.out).1).mono ?_
 rintro x w5 ⟨⟨A4,c4,rfl,hrd⟩,hb⟩
 have b_a_5:=b_a_4.later hb
 have b_b_5:=b_b_4.later hb
 have b_r_5:=b_r_4.later hb
 have HB5:=AE (aa HB4.out hb)
 clear b_a_4 b_b_4 b_r_4
 clear hb
 have HRD:=AE hrd
 clear hrd
 have k_a:=b_a_5.cell
 have k_b:=b_b_5.cell
 have k_r:=b_r_5.cell
 have f_r:=b_r_5.free
 go_wp2_with fail
 have hbr:=dA b_r_5 (.int .i64 (jK ⟨7,x,s,l⟩ ⟨7,y,s',l'⟩).1.kind) (.int .i64 (jK ⟨7,x,s,l⟩ ⟨7,y,s',l'⟩).1.n) (.string (jK ⟨7,x,s,l⟩ ⟨7,y,s',l'⟩).1.s) (.slice A4 (jK ⟨7,x,s,l⟩ ⟨7,y,s',l'⟩).1.l.length c4)
 refine bodyPost_ret (am rfl rfl hbr rfl) rfl ?_
 exact ⟨⟨A4,c4,rfl,(HRD.out.put4 (by omega) _ _ _ _).lower (by omega)⟩,cC HB5.out (by omega) _ _ _ _⟩
theorem qI {x y kb:Int} {d B:Nat} {s s':ByteArray} {l l':List Tm} {vs ws:List Value} {w:World} (ha:RTm w B (d+1) ⟨7,x,s,l⟩ vs) (hb:RTm w B (d+1) ⟨kb,y,s',l'⟩ ws) (hB:B≤w.heap.size) (fa:af ⟨7,x,s,l⟩=true) (fb:af ⟨kb,y,s',l'⟩=true) (hk:aK 11 7 kb=true) :
 Calls Tryz.prog 189 #[.int .i64 11,.agg vs.toArray,.agg ws.toArray] w fun z w'=>z=bR 6 (bit (eN ⟨7,x,s,l⟩ ⟨kb,y,s',l'⟩)) emp 0∧Below w.heap.size w w':=by
 obtain ⟨A,c,rfl,q1,q2,q3,q4,q5,_⟩:=ha.cells
 obtain ⟨A',c',rfl,r1,r2,r3,r4,r5,_⟩:=hb.cells
 have HA:=AE ha
 have HB_:=AE hb
 have FA:=AE fa
 have FB:=AE fb
 simp only at q2 q3 q4 q5 r2 r3 r4 r5
 clear ha hb fa fb
 have HK:=AE hk
 clear hk
 go_enter Tryz.func189,Tryz.ntmps189
 go_wp2_with fail
 generalize hW:World.alloc _ _=w1
 obtain ⟨hb,hz⟩:=al3 hW
 have b_a_1:=n31 hW
 have b_b_1:=n32 hW
 have b_r_1:=n33 hW
 have HB1:=AE hb
 clear hW hz hb
 refine (aj (t:=⟨7,x,s,l⟩) (vs:=[_,_,_,_]) (HA.out.below HB1.out hB) (AF hB HB1.out.size)).mono ?_
 rintro x w2 ⟨rfl,hb⟩
 have b_a_2:=b_a_1.later hb
 have b_b_2:=b_b_1.later hb
 have b_r_2:=b_r_1.later hb
 have HB2:=AE (aa HB1.out hb)
 clear b_a_1 b_b_1 b_r_1
 clear hb
 rw [FA.out]
 have k_a:=b_a_2.cell
 have k_b:=b_b_2.cell
 have k_r:=b_r_2.cell
 go_wp2_with fail
 clear k_a k_b k_r
 refine (aj (t:=⟨kb,y,s',l'⟩) (vs:=[_,_,_,_]) (HB_.out.below HB2.out hB) (AF hB HB2.out.size)).mono ?_
 rintro x w3 ⟨rfl,hb⟩
 have b_a_3:=b_a_2.later hb
 have b_b_3:=b_b_2.later hb
 have b_r_3:=b_r_2.later hb
 have HB3:=AE (aa HB2.out hb)
 clear b_a_2 b_b_2 b_r_2
 clear hb
 rw [FB.out]
 have k_a:=b_a_3.cell
 have k_b:=b_b_3.cell
 have k_r:=b_r_3.cell
 go_wp2_with fail
 clear k_a k_b k_r
 refine (aX 11 7 kb _).mono ?_
 rintro x w4 ⟨rfl,hb⟩
 have b_a_4:=b_a_3.later hb
 have b_b_4:=b_b_3.later hb
 have b_r_4:=b_r_3.later hb
 have HB4:=AE (aa HB3.out hb)
 clear b_a_3 b_b_3 b_r_3
 clear hb
 rw [HK.out]
 have k_a:=b_a_4.cell
 have k_b:=b_b_4.cell
 have k_r:=b_r_4.cell
 go_wp2_with fail
 clear k_a k_b k_r
 refine (lm (d:=d) (d':=d) (s:=⟨7,x,s,l⟩) (t:=⟨kb,y,s',l'⟩) (vs:=[_,_,_,_]) (ws:=[_,_,_,_]) (HA.out.below HB4.out hB) (HB_.out.below HB4.out hB) (AF hB HB4.out.size) (by simp)).mono ?_
 rintro x w5 ⟨rfl,hb⟩
 have b_a_5:=b_a_4.later hb
 have b_b_5:=b_b_4.later hb
 have b_r_5:=b_r_4.later hb
 have HB5:=AE (aa HB4.out hb)
 clear b_a_4 b_b_4 b_r_4
 clear hb
 have k_a:=b_a_5.cell
 have k_b:=b_b_5.cell
 have k_r:=b_r_5.cell
 go_wp2_with fail
 clear k_a k_b k_r
 refine (er _ _).mono ?_
 rintro x w6 ⟨rfl,hb⟩
 have b_a_6:=b_a_5.later hb
 have b_b_6:=b_b_5.later hb
 have b_r_6:=b_r_5.later hb
 have HB6:=AE (aa HB5.out hb)
 clear b_a_5 b_b_5 b_r_5
 clear hb
 have k_a:=b_a_6.cell
 have k_b:=b_b_6.cell
 have k_r:=b_r_6.cell
 have f_r:=b_r_6.free
 go_wp2_with fail
 refine bodyPost_ret (am rfl rfl (put4 b_r_6 HB6.out (by omega)).1 rfl) rfl ?_
 exact ⟨rfl,(put4 b_r_6 HB6.out (by omega)).2⟩
def cF (on:List Bool):Array Value:=(on.map Value.bool).toArray
theorem mS (on:List Bool) (k:Nat):(cF on)[k]? = on[k]?.map Value.bool:=by simp [cF]
theorem ti (on:List Bool) (k:Nat) (b:Bool):cF (on.set k b)=(cF on).setIfInBounds k (.bool b):=by
 simp [cF,List.map_set]
structure Ways (W G:Nat) (l:List Ins) (Al:Option Addr) (cl ca:Nat) (w:World) (st:List Bool × Bool):Prop where
 wb:bS w W #[.slice Al l.length cl,.slice (some ⟨G,0,none⟩) l.length ca,.bool st.2] 254
 gb:bS w G (cF st.1) 4
 len:st.1.length=l.length
 ne:W≠G
section
variable {W G cl ca:Nat} {l:List Ins} {Al:Option Addr} {w w':World} {st:List Bool × Bool}
theorem Ways.later (h:Ways W G l Al cl ca w st) (hb:Below w.heap.size w w'):Ways W G l Al cl ca w' st:=⟨h.wb.later hb,h.gb.later hb,h.len,h.ne⟩
theorem Ways.keep {B:Nat} (h:Ways W G l Al cl ca w st) (hb:Below B w w') (hW:W<B) (hG:G<B):Ways W G l Al cl ca w' st:=⟨h.wb.keep hb hW,h.gb.keep hb hG,h.len,h.ne⟩
theorem Ways.mark (h:Ways W G l Al cl ca w st) (k:Nat):Ways W G l Al cl ca (w.setCell ⟨G,k,none⟩ (.bool true)) (st.1.set k true,st.2):=
 ⟨h.wb.far h.ne k _,by show bS _ G (cF (st.1.set k true)) _;rw [ti];exact h.gb.set_ k _,by simp [h.len],h.ne⟩
theorem Ways.end_ (h:Ways W G l Al cl ca w st):Ways W G l Al cl ca (w.setCell ⟨W,2,none⟩ (.bool true)) (st.1,true):=
 ⟨h.wb.set_ 2 _,h.gb.far (Ne.symm h.ne) 2 _,h.len,h.ne⟩
end
theorem gE.own {g h base:Nat} {a b c:World} (k:gE g h a b) (l:Below base b c) (hb:a.heap.size≤base) (hg:g<base) (hh:h<base):gE g h a c:=
 ⟨k.1.trans (l.mono (by omega)),fun i hi h1 h2=>(l.block i (by omega)).trans (k.2 i hi h1 h2)⟩
theorem gE.set1 {g h:Nat} {a b:World} (k:gE g h a b) (i:Nat) (v:Value):gE g h a (b.setCell ⟨g,i,none⟩ v):=k.trans (((Exc.refl g b).set i v).left h)
theorem gE.set2 {g h:Nat} {a b:World} (k:gE g h a b) (i:Nat) (v:Value):gE g h a (b.setCell ⟨h,i,none⟩ v):=k.trans (((Exc.refl h b).set i v).right g)
theorem Stk.keep {D base c:Nat} {w w':World} {A:Option Addr} {xs:List Int} (h:Stk D base w A c xs) (hb:Below w.heap.size w w'):Stk D base w' A c xs:=⟨h.hd.later hb,h.own.later hb (AH _)⟩
theorem Stk.far {D base c b:Nat} {w:World} {A:Option Addr} {xs:List Int} {vs:Array Value} {T:TypeId} (h:Stk D base w A c xs) (hb:bS w b vs T) (hT:T≠3) (hD:D≠b) (i:Nat) (u:Value):Stk D base (w.setCell ⟨b,i,none⟩ u) A c xs:=⟨h.hd.far hD i u,h.own.farT hb hT i u⟩
def zE (W G:Nat) (l:List Ins) (Al:Option Addr) (cl ca:Nat) (w w':World) (st:List Bool × Bool) (e:Ending):Prop:=
 e=.returned (.tuple #[])∧gE W G w w'∧Ways W G l Al cl ca w' st
theorem b_ne:(4:TypeId)≠3:=by decide
theorem w_ne:(254:TypeId)≠3:=by decide
theorem AC:(266:TypeId)≠3:=by decide
theorem vB {w:World} {W G cl ca B:Nat} {l:List Ins} {Al:Option Addr} {i0:Nat} {first last:Bool} {st:List Bool × Bool} (hw:Ways W G l Al cl ca w st) (hl:RL fx w B l Al) (hBW:B≤W) (hBG:B≤G) (hp:Prg l) (hi:i0<l.length) (hca:l.length≤ca) :
 Calls Tryz.prog 216 #[.pointer (some ⟨W,0,none⟩),.int .i64 i0,.bool first,.bool last] w fun e w'=>zE W G l Al cl ca w w' (bQ l first last i0 st) e:=by
 have hWlt:=hw.wb.blk.lt
 have hGlt:=hw.gb.blk.lt
 have HW:=AE hw
 have HL:=AE hl
 have HP:=AE hp
 have hlen:=hp.len
 have hWG:=hw.ne
 have hGW:=Ne.symm hw.ne
 clear hw hl hp
 go_enter Tryz.func216,Tryz.ntmps216
 go_wp2_with fail
 generalize hA:World.alloc _ _=w1
 obtain ⟨hb,hz⟩:=al2 hA
 have HS1:Hid (Stk (w.heap.size+1) w.heap.size w1 (some ⟨w.heap.size,0,none⟩) 1 [(i0:Int)]):=AE (by
  have e1:=(al1 (W:=w.alloc (.cells #[.int .i64 (i0:Int)] 3)) rfl).2
  have h1:bS w1 w.heap.size [Value.int .i64 (i0:Int)].toArray 3:=by
   have h0:bS (w.alloc (.cells #[.int .i64 (i0:Int)] 3)) w.heap.size #[.int .i64 (i0:Int)] 3:=heap_alloc_new w _
   exact hA▸h0.later (au rfl)
  refine ⟨?_,h1.own (R:=sY) (B:=0) (n:=1) (xs:=[(i0:Int)]) (bu.one rfl) (AG _) rfl (by unfold maxLen;omega)⟩
  have h2:=heap_alloc_new (w.alloc (.cells #[.int .i64 (i0:Int)] 3)) (.cells #[.slice (some ⟨w.heap.size,0,none⟩) 1 1] 97)
  rw [e1] at h2
  exact hA▸h2)
 have HE1:Hid (gE W G w w1):=AE (gE.of (by omega) hb)
 have HW1:=AE (HW.out.later hb)
 have hz1:w.heap.size+1<w1.heap.size:=by omega
 clear hA hz hb
 go_loopg [1] (3*l.length+2) (fun g v1 wr=>∃(todo:List Int) (s1:List Bool × Bool) (A:Option Addr) (c:Nat),Hid (Stk (w.heap.size+1) w.heap.size wr A c todo.reverse)∧Hid (lq l first last g todo s1=bQ l first last i0 st)∧3*Ah s1.1+todo.length≤g∧g≤4000∧Hid (∀k∈todo,0≤k∧k<l.length)∧Hid (Ways W G l Al cl ca wr s1)∧Hid (gE W G w wr)∧w.heap.size+1<wr.heap.size)
 case atStart=>
  refine ⟨[(i0:Int)],st,_,1,HS1,AE rfl,?_,by omega,AE (fun k hk=>?_),HW1,HE1,hz1⟩
  ·have:=offs_le st.1
   have:=HW.out.len
   simp only [AV,List.length_nil]
   omega
  ·rw [List.mem_singleton] at hk
   omega
 case round=>
  obtain ⟨todo,s1,A,c,HS,HE,hfuel,hg4,HK,HWr,HX,hzr⟩:=hrel
  cases todo with
  | nil=>
    have HR:Hid (bQ l first last i0 st=s1):=AE (by rw [←HE.out,vC])
    have k_d:∀o,wr.cell? ⟨w.heap.size+1,o,none⟩=(#[.slice A 0 c]:Array Value)[o]?:=HS.out.hd.blk.cell
    go_wp2_with fail
    go_end0
    rw [HR.out]
    exact ⟨rfl,HX.out,HWr.out⟩
  | cons i todo=>
    obtain ⟨g,rfl⟩:∃g,gk=g+1:=⟨gk-1,by simp only [AV] at hfuel;omega⟩
    obtain ⟨hi0,hi1⟩:=HK.out i List.mem_cons_self
    obtain ⟨k,rfl⟩:∃k:Nat,i=(k:Int):=⟨i.toNat,by omega⟩
    have hk:k<l.length:=by omega
    have HKt:Hid (∀k∈todo,0≤k∧k<(l.length:Int)):=AE fun k hk=>HK.out k (List.mem_cons_of_mem _ hk)
    have HS0:Hid (Stk (w.heap.size+1) w.heap.size wr A c (todo.reverse++[(k:Int)])):=AE (by have:=HS.out;rwa [List.reverse_cons] at this)
    obtain ⟨gs,rfl,hgD,hc1,hc2,hcell,hpop⟩:=HS0.out.pop
    have hlr:todo.reverse.length=todo.length:=List.length_reverse
    have hlr2:(todo.reverse++[(k:Int)]).length=todo.length+1:=by rw [AK,hlr];rfl
    rw [hlr] at hc1 hcell hpop
    have HSP:=AE hpop
    have k_d:∀o,wr.cell? ⟨w.heap.size+1,o,none⟩=(#[.slice (some ⟨gs,0,none⟩) (todo.length+1) c]:Array Value)[o]?:=by have:=HS0.out.hd.blk.cell;rwa [hlr2] at this
    have f_d:=HS0.out.hd.blk.free
    unfold maxLen at hc2
    simp only [AV] at hfuel
    have HC2:=AE hc2
    have HGD:=AE hgD
    generalize hTL:todo.length=n at *
    have HTL:=AE hTL
    clear hpop HS HS0 hi0 hi1 hlr hlr2 hTL hgD
    go_wp2_with fail
    go_region
    have HBs:Hid (Below (w.heap.size+1) wr (wr.setCell ⟨w.heap.size+1,0,none⟩ (.slice (some ⟨gs,0,none⟩) n c)).drew):=AE ((AI (w.heap.size+1) wr).setCell (p:=⟨w.heap.size+1,0,none⟩) (AG _) _).drew
    have HS2:Hid (Stk (w.heap.size+1) w.heap.size (wr.setCell ⟨w.heap.size+1,0,none⟩ (.slice (some ⟨gs,0,none⟩) n c)).drew (some ⟨gs,0,none⟩) c todo.reverse):=AE (HSP.out.keep (AI _ _).drew)
    have HW2:=AE (HWr.out.keep HBs.out (by omega) (by omega))
    have HX2:=AE (HX.out.own HBs.out (by omega) (by omega) (by omega))
    have hz2:w.heap.size+1<(wr.setCell ⟨w.heap.size+1,0,none⟩ (.slice (some ⟨gs,0,none⟩) n c)).drew.heap.size:=AJ hzr HBs.out.size
    generalize (wr.setCell ⟨w.heap.size+1,0,none⟩ (.slice (some ⟨gs,0,none⟩) n c)).drew=w2 at *
    clear HSP HBs k_d f_d hcell hc2 HWr HX
    have hks:k<s1.1.length:=by rw [HW2.out.len];exact hk
    have k_w:∀o,w2.cell? ⟨W,o,none⟩=(#[.slice Al l.length cl,.slice (some ⟨G,0,none⟩) l.length ca,.bool s1.2]:Array Value)[o]?:=HW2.out.wb.blk.cell
    have c_g:w2.cell? ⟨G,k,none⟩=some (.bool (s1.1.getD k false)):=by
     rw [HW2.out.gb.blk.cell,mS,List.getD_eq_getElem?_getD,AO hks]
     rfl
    have HHks:=AE hks
    clear hks
    rcases Bool.eq_false_or_eq_true (s1.1.getD k false) with hb | hb
    ·have HE2:Hid (lq l first last g todo s1=bQ l first last i0 st):=AE (by
      rw [←HE.out]
      show _=(if s1.1.getD (k:Int).toNat false=true then _ else _)
      rw [Int.toNat_natCast,hb,if_pos rfl])
     rw [hb] at c_g
     clear hb
     go_wp2_with fail
     go_roundg g
     case rel=>exact ⟨todo,s1,_,c,HS2,HE2,by rw [HTL.out];omega,by omega,HKt,HW2,HX2,hz2⟩
     case measure=>omega
    ·have HE2:Hid (lq l first last g (eK (gf l k) k first last++todo) (s1.1.set k true,s1.2||decide ((gf l k).kind=6))=bQ l first last i0 st):=AE (by
      rw [←HE.out]
      show _=(if s1.1.getD (k:Int).toNat false=true then _ else _)
      rw [Int.toNat_natCast,hb,if_neg (by simp)])
     have HOF:Hid (Ah (s1.1.set k true)+1=Ah s1.1):=AE (zk hb HHks.out)
     have HIN:Hid (∀j∈eK (gf l k) k first last,0≤j∧j<(l.length:Int)):=AE (outs_in HP.out (by omega) (by omega) first last)
     rw [hb] at c_g
     clear hb HE
     have f_g:=HW2.out.gb.blk.free
     go_upto_region 6 with fail
     have HW3:=AE (HW2.out.mark k)
     have HS3:=AE (HS2.out.far HW2.out.gb b_ne (by omega) k (.bool true))
     have HX3:=AE (HX2.out.set2 k (.bool true))
     have hz3:w.heap.size+1<(w2.setCell ⟨G,k,none⟩ (.bool true)).heap.size:=by rw [World.size_setCell];exact hz2
     generalize w2.setCell ⟨G,k,none⟩ (.bool true)=w3 at *
     clear HW2 HS2 HX2 k_w c_g f_g
     have k_w:∀o,w3.cell? ⟨W,o,none⟩=(#[.slice Al l.length cl,.slice (some ⟨G,0,none⟩) l.length ca,.bool s1.2]:Array Value)[o]?:=HW3.out.wb.blk.cell
     have HLr:Hid (RL fx w3 B l Al):=AE (HL.out.keep HX3.out.1 (by omega))
     have hB2:B≤w3.heap.size:=by omega
     obtain ⟨b_,off,rfl,hob⟩:=HLr.out.base (AI _ _) hB2 (by omega)
     obtain ⟨x,vs,hx,hxl,hxc,hxr⟩:=HLr.out.at_ (AI _ _) hB2 hk
     obtain rfl:vs=kA x:=hxr
     have c0:w3.cell? ⟨b_,off+k*7,none⟩=some (.int .i64 x.kind):=hxc 0 _ rfl
     have c1:w3.cell? ⟨b_,off+k*7+1,none⟩=some (.int .u64 x.a):=hxc 1 _ rfl
     have c2:w3.cell? ⟨b_,off+k*7+2,none⟩=some (.int .u64 x.b):=hxc 2 _ rfl
     have c3:w3.cell? ⟨b_,off+k*7+3,none⟩=some (.int .u64 x.c):=hxc 3 _ rfl
     have c4:w3.cell? ⟨b_,off+k*7+4,none⟩=some (.int .u64 x.d):=hxc 4 _ rfl
     have c5:w3.cell? ⟨b_,off+k*7+5,none⟩=some (.int .i64 x.x):=hxc 5 _ rfl
     have c6:w3.cell? ⟨b_,off+k*7+6,none⟩=some (.int .i64 x.y):=hxc 6 _ rfl
     have hIX:gf l k=x:=by
      unfold gf
      rw [Int.toNat_natCast,List.getD_eq_getElem?_getD,hx]
      rfl
     rw [hIX] at HE2 HIN
     clear hxc hxl hx hIX
     go_upto_region 7 with fail
     generalize hA:World.alloc _ _=w4
     have hb4:=au hA
     have BX4:=AE (show bS w4 w3.heap.size (kA x).toArray 266 from hA▸heap_alloc_new w3 _)
     have HW4:=AE (HW3.out.later hb4)
     have HS4:=AE (HS3.out.keep hb4)
     have HX4:=AE (HX3.out.then (by omega) hb4)
     have hz4:w.heap.size+1<w4.heap.size:=AJ hz3 hb4.size
     have hX4:w.heap.size+1<w3.heap.size:=hz3
     clear hA hb4 HW3 HS3 HX3 k_w c0 c1 c2 c3 c4 c5 c6 HLr hB2
     generalize w3.heap.size=X at *
     have k_x:∀o,w4.cell? ⟨X,o,none⟩=(#[.int .i64 x.kind,.int .u64 x.a,.int .u64 x.b,.int .u64 x.c,.int .u64 x.d,.int .i64 x.x,.int .i64 x.y]:Array Value)[o]?:=BX4.out.blk.cell
     have hkind:x.kind=2∨x.kind≠2∧x.kind=3∨(x.kind≠2∧x.kind≠3)∧(x.kind=4∧first=true)∨(x.kind≠2∧x.kind≠3)∧(x.kind=4∧first=false)∨(x.kind≠2∧x.kind≠3)∧(x.kind=5∧last=true)∨(x.kind≠2∧x.kind≠3)∧(x.kind=5∧last=false)∨x.kind=6∨(x.kind≠2∧x.kind≠3)∧x.kind≠4∧x.kind≠5∧x.kind≠6:=by
      cases first<;>cases last<;>simp<;>omega
     rcases hkind with h2 | ⟨h2,h3⟩ | ⟨⟨h2,h3⟩,h4,rfl⟩ | ⟨⟨h2,h3⟩,h4,rfl⟩ | ⟨⟨h2,h3⟩,h5,rfl⟩ | ⟨⟨h2,h3⟩,h5,rfl⟩ | h6 | ⟨⟨h2,h3⟩,h4,h5,h6⟩
     ·have q2:(x.kind==2)=true:=by simp;omega
      have HO:Hid (eK x k first last=[x.x,x.y]):=AE (by unfold eK;rw [if_pos h2])
      have H6:=AE h2
      clear h2
      go_wp2_with fail
      refine (jj HS4.out (by omega) (by omega) (by rw [List.length_reverse,HTL.out];omega)).mono ?_
      rintro e w5 ⟨rfl,hb,hkt,A5,c5,hst⟩
      have HS5:=AE hst
      have HW5:=AE (HW4.out.keep hb (by omega) (by omega))
      have HX5:=AE (HX4.out.own hb (AG _) (by omega) (by omega))
      have hz5:w.heap.size+1<w5.heap.size:=AJ hz4 hb.size
      have BX5:=AE (hkt X _ _ AC (by omega) BX4.out)
      have k_x5:∀o,w5.cell? ⟨X,o,none⟩=(#[.int .i64 x.kind,.int .u64 x.a,.int .u64 x.b,.int .u64 x.c,.int .u64 x.d,.int .i64 x.x,.int .i64 x.y]:Array Value)[o]?:=BX5.out.blk.cell
      clear hb hkt hst
      go_wp2_with fail
      refine (jj HS5.out (by omega) (by omega) (by simp only [AK,List.length_reverse,List.length_singleton,HTL.out];omega)).mono ?_
      rintro e w6 ⟨rfl,hb,hkt,A6,c6,hst⟩
      have HS6:=AE hst
      have HW6:=AE (HW5.out.keep hb (by omega) (by omega))
      have HX6:=AE (HX5.out.own hb (AG _) (by omega) (by omega))
      have hz6:w.heap.size+1<w6.heap.size:=AJ hz5 hb.size
      have BX6:=AE (hkt X _ _ AC (by omega) BX5.out)
      have k_x6:∀o,w6.cell? ⟨X,o,none⟩=(#[.int .i64 x.kind,.int .u64 x.a,.int .u64 x.b,.int .u64 x.c,.int .u64 x.d,.int .i64 x.x,.int .i64 x.y]:Array Value)[o]?:=BX6.out.blk.cell
      clear hb hkt hst
      go_wp2_with fail
      have HD:Hid ((s1.2||decide (x.kind=6))=s1.2):=AE (by rw [decide_eq_false (by have:=H6.out;omega)];simp)
      rw [HO.out,HD.out] at HE2
      rw [HO.out] at HIN
      go_roundg g
      case rel=>exact ⟨x.x::x.y::todo,(s1.1.set k true,s1.2),_,_,AE (by have:=HS6.out;simpa using this),HE2,by have:=HOF.out;simp only [AV,HTL.out];omega,by omega,AE (fun j hj=>by
       rcases List.mem_append.1 (show j∈[x.x,x.y]++todo from hj) with h | h
       ·exact HIN.out j h
       ·exact HKt.out j h),HW6,HX6,hz6⟩
      case measure=>omega
     ·have q2:(x.kind==2)=false:=by simp;omega
      have q3:(x.kind==3)=true:=by simp;omega
      have HO:Hid (eK x k first last=[x.x]):=AE (by unfold eK;rw [if_neg h2,if_pos h3])
      have H6:=AE h3
      clear h2 h3
      go_wp2_with fail
      refine (jj HS4.out (by omega) (by omega) (by rw [List.length_reverse,HTL.out];omega)).mono ?_
      rintro e w5 ⟨rfl,hb,hkt,A5,c5,hst⟩
      have HS5:=AE hst
      have HW5:=AE (HW4.out.keep hb (by omega) (by omega))
      have HX5:=AE (HX4.out.own hb (AG _) (by omega) (by omega))
      have hz5:w.heap.size+1<w5.heap.size:=AJ hz4 hb.size
      have BX5:=AE (hkt X _ _ AC (by omega) BX4.out)
      have k_x5:∀o,w5.cell? ⟨X,o,none⟩=(#[.int .i64 x.kind,.int .u64 x.a,.int .u64 x.b,.int .u64 x.c,.int .u64 x.d,.int .i64 x.x,.int .i64 x.y]:Array Value)[o]?:=BX5.out.blk.cell
      clear hb hkt hst
      go_wp2_with fail
      have HD:Hid ((s1.2||decide (x.kind=6))=s1.2):=AE (by rw [decide_eq_false (by have:=H6.out;omega)];simp)
      rw [HO.out,HD.out] at HE2
      rw [HO.out] at HIN
      go_roundg g
      case rel=>exact ⟨x.x::todo,(s1.1.set k true,s1.2),_,_,AE (by have:=HS5.out;simpa using this),HE2,by have:=HOF.out;simp only [AV,HTL.out];omega,by omega,AE (fun j hj=>by
       rcases List.mem_append.1 (show j∈[x.x]++todo from hj) with h | h
       ·exact HIN.out j h
       ·exact HKt.out j h),HW5,HX5,hz5⟩
      case measure=>omega
     ·have q2:(x.kind==2)=false:=by simp;omega
      have q3:(x.kind==3)=false:=by simp;omega
      have q4:(x.kind==4)=true:=by simp;omega
      have HO:Hid (eK x k true last=[(k:Int)+1]):=AE (by unfold eK;rw [if_neg h2,if_neg h3,if_pos (.inl ⟨h4,rfl⟩)])
      have H6:=AE h4
      clear h2 h3 h4
      go_wp2_with fail
      refine (jj HS4.out (by omega) (by omega) (by rw [List.length_reverse,HTL.out];omega)).mono ?_
      rintro e w5 ⟨rfl,hb,hkt,A5,c5,hst⟩
      have HS5:=AE hst
      have HW5:=AE (HW4.out.keep hb (by omega) (by omega))
      have HX5:=AE (HX4.out.own hb (AG _) (by omega) (by omega))
      have hz5:w.heap.size+1<w5.heap.size:=AJ hz4 hb.size
      have BX5:=AE (hkt X _ _ AC (by omega) BX4.out)
      have k_x5:∀o,w5.cell? ⟨X,o,none⟩=(#[.int .i64 x.kind,.int .u64 x.a,.int .u64 x.b,.int .u64 x.c,.int .u64 x.d,.int .i64 x.x,.int .i64 x.y]:Array Value)[o]?:=BX5.out.blk.cell
      clear hb hkt hst
      go_wp2_with fail
      have HD:Hid ((s1.2||decide (x.kind=6))=s1.2):=AE (by rw [decide_eq_false (by have:=H6.out;omega)];simp)
      rw [HO.out,HD.out] at HE2
      rw [HO.out] at HIN
      go_roundg g
      case rel=>exact ⟨((k:Int)+1)::todo,(s1.1.set k true,s1.2),_,_,AE (by have:=HS5.out;simpa using this),HE2,by have:=HOF.out;simp only [AV,HTL.out];omega,by omega,AE (fun j hj=>by
       rcases List.mem_append.1 (show j∈[(k:Int)+1]++todo from hj) with h | h
       ·exact HIN.out j h
       ·exact HKt.out j h),HW5,HX5,hz5⟩
      case measure=>omega
     ·have q2:(x.kind==2)=false:=by simp;omega
      have q3:(x.kind==3)=false:=by simp;omega
      have q4:(x.kind==4)=true:=by simp;omega
      have q5:(x.kind==5)=false:=by simp;omega
      have q6:(x.kind==6)=false:=by simp;omega
      have HO:Hid (eK x k false last=[]):=AE (by unfold eK;rw [if_neg h2,if_neg h3,if_neg (by simp;omega)])
      have H6:=AE h4
      clear h2 h3 h4
      go_wp2_with fail
      have HD:Hid ((s1.2||decide (x.kind=6))=s1.2):=AE (by rw [decide_eq_false (by have:=H6.out;omega)];simp)
      rw [HO.out,HD.out] at HE2
      rw [HO.out] at HIN
      go_roundg g
      case rel=>exact ⟨todo,(s1.1.set k true,s1.2),_,_,HS4,HE2,by have:=HOF.out;simp only [AV,HTL.out];omega,by omega,AE (fun j hj=>by
       rcases List.mem_append.1 (show j∈[]++todo from hj) with h | h
       ·exact HIN.out j h
       ·exact HKt.out j h),HW4,HX4,hz4⟩
      case measure=>omega
     ·have q2:(x.kind==2)=false:=by simp;omega
      have q3:(x.kind==3)=false:=by simp;omega
      have q4:(x.kind==4)=false:=by simp;omega
      have q5:(x.kind==5)=true:=by simp;omega
      have HO:Hid (eK x k first true=[(k:Int)+1]):=AE (by unfold eK;rw [if_neg h2,if_neg h3,if_pos (.inr ⟨h5,rfl⟩)])
      have H6:=AE h5
      clear h2 h3 h5
      go_wp2_with fail
      refine (jj HS4.out (by omega) (by omega) (by rw [List.length_reverse,HTL.out];omega)).mono ?_
      rintro e w5 ⟨rfl,hb,hkt,A5,c5,hst⟩
      have HS5:=AE hst
      have HW5:=AE (HW4.out.keep hb (by omega) (by omega))
      have HX5:=AE (HX4.out.own hb (AG _) (by omega) (by omega))
      have hz5:w.heap.size+1<w5.heap.size:=AJ hz4 hb.size
      have BX5:=AE (hkt X _ _ AC (by omega) BX4.out)
      have k_x5:∀o,w5.cell? ⟨X,o,none⟩=(#[.int .i64 x.kind,.int .u64 x.a,.int .u64 x.b,.int .u64 x.c,.int .u64 x.d,.int .i64 x.x,.int .i64 x.y]:Array Value)[o]?:=BX5.out.blk.cell
      clear hb hkt hst
      go_wp2_with fail
      have HD:Hid ((s1.2||decide (x.kind=6))=s1.2):=AE (by rw [decide_eq_false (by have:=H6.out;omega)];simp)
      rw [HO.out,HD.out] at HE2
      rw [HO.out] at HIN
      go_roundg g
      case rel=>exact ⟨((k:Int)+1)::todo,(s1.1.set k true,s1.2),_,_,AE (by have:=HS5.out;simpa using this),HE2,by have:=HOF.out;simp only [AV,HTL.out];omega,by omega,AE (fun j hj=>by
       rcases List.mem_append.1 (show j∈[(k:Int)+1]++todo from hj) with h | h
       ·exact HIN.out j h
       ·exact HKt.out j h),HW5,HX5,hz5⟩
      case measure=>omega
     ·have q2:(x.kind==2)=false:=by simp;omega
      have q3:(x.kind==3)=false:=by simp;omega
      have q4:(x.kind==4)=false:=by simp;omega
      have q5:(x.kind==5)=true:=by simp;omega
      have q6:(x.kind==6)=false:=by simp;omega
      have HO:Hid (eK x k first false=[]):=AE (by unfold eK;rw [if_neg h2,if_neg h3,if_neg (by simp;omega)])
      have H6:=AE h5
      clear h2 h3 h5
      go_wp2_with fail
      have HD:Hid ((s1.2||decide (x.kind=6))=s1.2):=AE (by rw [decide_eq_false (by have:=H6.out;omega)];simp)
      rw [HO.out,HD.out] at HE2
      rw [HO.out] at HIN
      go_roundg g
      case rel=>exact ⟨todo,(s1.1.set k true,s1.2),_,_,HS4,HE2,by have:=HOF.out;simp only [AV,HTL.out];omega,by omega,AE (fun j hj=>by
       rcases List.mem_append.1 (show j∈[]++todo from hj) with h | h
       ·exact HIN.out j h
       ·exact HKt.out j h),HW4,HX4,hz4⟩
      case measure=>omega
     ·have q2:(x.kind==2)=false:=by simp;omega
      have q3:(x.kind==3)=false:=by simp;omega
      have q4:(x.kind==4)=false:=by simp;omega
      have q5:(x.kind==5)=false:=by simp;omega
      have q6:(x.kind==6)=true:=by simp;omega
      have HO:Hid (eK x k first last=[]):=AE (by unfold eK;rw [if_neg (by omega),if_neg (by omega),if_neg (by omega)])
      have H6:=AE h6
      clear h6
      have k_w4:=HW4.out.wb.blk.cell
      have f_w4:=HW4.out.wb.blk.free
      go_wp2_with fail
      have HD:Hid ((s1.2||decide (x.kind=6))=true):=AE (by rw [decide_eq_true H6.out];simp)
      rw [HO.out,HD.out] at HE2
      go_roundg g
      case rel=>exact ⟨todo,(s1.1.set k true,true),_,_,AE (HS4.out.far HW4.out.wb w_ne (by omega) 2 _),HE2,by have:=HOF.out;simp only [HTL.out];omega,by omega,HKt,AE HW4.out.end_,AE (HX4.out.set1 2 _),by rw [World.size_setCell];exact hz4⟩
      case measure=>omega
     ·have q2:(x.kind==2)=false:=by simp;omega
      have q3:(x.kind==3)=false:=by simp;omega
      have q4:(x.kind==4)=false:=by simp;omega
      have q5:(x.kind==5)=false:=by simp;omega
      have q6:(x.kind==6)=false:=by simp;omega
      have HO:Hid (eK x k first last=[]):=AE (by unfold eK;rw [if_neg h2,if_neg h3,if_neg (by omega)])
      have H6:=AE h6
      clear h2 h3 h4 h5 h6
      go_wp2_with fail
      have HD:Hid ((s1.2||decide (x.kind=6))=s1.2):=AE (by rw [decide_eq_false (by exact H6.out)];simp)
      rw [HO.out,HD.out] at HE2
      rw [HO.out] at HIN
      go_roundg g
      case rel=>exact ⟨todo,(s1.1.set k true,s1.2),_,_,HS4,HE2,by have:=HOF.out;simp only [AV,HTL.out];omega,by omega,AE (fun j hj=>by
       rcases List.mem_append.1 (show j∈[]++todo from hj) with h | h
       ·exact HIN.out j h
       ·exact HKt.out j h),HW4,HX4,hz4⟩
      case measure=>omega
end Go.Proofs.YtjpndglegpcdnaaGreat
