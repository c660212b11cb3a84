/- op.Binary's arms of sets. -/
import Derived.Test.YtjpndglegpcdnaaGreatMeet
import Derived.Test.YtjpndglegpcdnaaGreatOp3
import Derived.Test.YtjpndglegpcdnaaGreatHeapLaw
set_option linter.unusedVariables false
set_option linter.unusedSimpArgs false
set_option maxRecDepth 100000
set_option maxHeartbeats 8000000
namespace Go.Proofs.YtjpndglegpcdnaaGreat
open Go.ChangeShapes Go.WideShapes Go.ChangeAt Go.RowKit
theorem tf {α:Type} {l:List α} {p:α→Bool} {k:Nat} (hk:l.length≤k) (h:∀i (hi:i<k) (hi':i<l.length),p l[i]=false):l.any p=false:=by
 rw [List.any_eq_false]
 intro x hx
 obtain ⟨i,hi,rfl⟩:=List.getElem_of_mem hx
 rw [h i (by omega) hi];simp
theorem vO {α:Type} {l:List α} {p:α→Bool} {k:Nat} {x:α} (h:l[k]? = some x) (hp:p x=true):l.any p=true:=List.any_eq_true.2 ⟨x,List.mem_of_getElem? h,hp⟩
theorem all_no {α:Type} {l:List α} {p:α→Bool} {k:Nat} {x:α} (h:l[k]? = some x) (hp:p x=false):l.all p=false:=by
 rw [Bool.eq_false_iff]
 intro h2
 rw [List.all_eq_true] at h2
 have:=h2 x (List.mem_of_getElem? h)
 rw [hp] at this;simp at this
theorem all_yes {α:Type} {l:List α} {p:α→Bool} {k:Nat} (hk:l.length≤k) (h:∀i (hi:i<k) (hi':i<l.length),p l[i]=true):l.all p=true:=by
 rw [List.all_eq_true]
 intro x hx
 obtain ⟨i,hi,rfl⟩:=List.getElem_of_mem hx
 exact h i (by omega) hi
theorem kA {d d' B:Nat} {s t:Tm} {vs ws:List Value} {w:World} (hs:RTm w B (d+1) s vs) (ht:RTm w B (d'+1) t ws) (hB:B≤w.heap.size) (h3:s.kind≠3) :
 Calls Tryz.prog 198 #[.agg vs.toArray,.agg ws.toArray] w fun e w'=>e=.returned (.bool (eB s t))∧Below w.heap.size w w':=by
 have HS:=ym hs
 have HT:=ym ht
 obtain ⟨As,cs,rfl,_⟩:=hs.cells
 obtain ⟨A,c,rfl,q1,q2,q3,q4,q5,hl⟩:=ht
 have HL:Hid (RL (TmR d') w B t.l A):=ym hl
 have hg3:(s.kind==3)=false:=by simp [h3]
 clear hl hs
 by_cases h7:t.kind=7
 ·have H7:=ym h7
  have hg:(t.kind !=7)=false:=by simp [h7]
  clear h7 h3
  go_enter Tryz.func198,Tryz.ntmps198
  go_wp2_with fail
  generalize hW:World.alloc _ _=w1
  obtain ⟨hb,hz⟩:=al2 hW
  have bs_:=n21 hW
  have bt:=n22 hW
  have HB1:=ym hb
  clear hW hz hb
  have HL1:=ym (HL.out.keep HB1.out hB)
  have hB1:=yn hB HB1.out.size
  go_loopw [26] (fun i wr=>∃k:Nat,k≤t.l.length∧i=.int .i64 k∧Below w1.heap.size w1 wr∧∀j (hj:j<k) (hj':j<t.l.length),jM s t.l[j]=true) (fun i _=>t.l.length-(intOf i).toNat)
  case atStart=>exact ⟨0,yp _,rfl,yq _ _,fun j hj=>absurd hj (by omega)⟩
  case round=>
   obtain ⟨k,hk,rfl,hbw,hall⟩:=hrel
   have HALL:=ym hall
   clear hall
   by_cases hlt:k<t.l.length
   ·obtain ⟨b,off,rfl,hob⟩:=HL1.out.base hbw hB1 (by omega)
    obtain ⟨x,vs,hx,hlen,hcell,hr⟩:=HL1.out.at_ hbw hB1 hlt
    obtain ⟨Ax,cx,rfl,g1,g2,g3,g4,g5,_⟩:=RTm.cells (show RTm wr B d' x vs from hr)
    have c0:wr.cell? ⟨b,off+k*4,none⟩=some (.int .i64 x.kind):=hcell 0 _ rfl
    have c1:wr.cell? ⟨b,off+k*4+1,none⟩=some (.int .i64 x.n):=hcell 1 _ rfl
    have c2:wr.cell? ⟨b,off+k*4+2,none⟩=some (.string x.s):=hcell 2 _ rfl
    have c3:wr.cell? ⟨b,off+k*4+3,none⟩=some (.slice Ax x.l.length cx):=hcell 3 _ rfl
    have HX:=ym hx
    have HR:Hid (RTm wr B d' x _):=ym hr
    have HBW:=ym hbw
    have bt2:=bs_.later hbw
    have hBr:B≤wr.heap.size:=yn hB1 hbw.size
    have kt:=bt2.cell
    have lt:=bt2.lt
    clear hcell hlen hx hr hbw
    go_wp2_with fail
    generalize hW:World.alloc _ _=W
    obtain ⟨hb1,hz⟩:=al1 hW
    have HBa:=ym hb1
    have bt3:=bt2.later hb1
    have kt3:=bt3.cell
    clear hW hb1 hz c0 c1 c2 c3 kt lt
    go_wp2_with fail
    refine (kQ (d:=d) (d':=d') (s:=s) (t:=x) (B:=B) (vs:=[_,_,_,_]) (ws:=[_,_,_,_]) (HS.out.below (ac HB1.out (ac HBW.out HBa.out)) hB) (HR.out.below HBa.out hBr) (yn hBr HBa.out.size)).mono ?_
    rintro e w3 ⟨rfl,hb3⟩
    have HB3:=ym (ac HBW.out (ac HBa.out hb3))
    clear hb3 kt3
    by_cases hm:jM s x=true
    ·have HM:=ym hm
     rw [hm]
     clear hm
     go_wp2_with fail
     go_roundw
     case rel=>exact ⟨k+1,by omega,by go_num,HB3.out,fun j hj hj'=>by
      rcases Nat.lt_or_ge j k with h1 | h1
      ·exact HALL.out j h1 hj'
      ·obtain rfl:j=k:=by omega
       rw [(List.getElem?_eq_some_iff.1 HX.out).2];exact HM.out⟩
     case measure=>simp [intOf];omega
    ·simp only [Bool.not_eq_true] at hm
     have HM:=ym hm
     rw [hm]
     clear hm
     go_wp2_with fail
     go_ret
     refine ⟨ae ?_,ac HB1.out HB3.out⟩
     unfold eB
     rw [if_pos H7.out,all_no (p:=jM s) HX.out HM.out]
   ·go_wp2_with fail
    go_ret
    refine ⟨ae ?_,ac HB1.out hbw⟩
    unfold eB
    rw [if_pos H7.out,all_yes (p:=jM s) (show t.l.length≤k by omega) HALL.out]
 ·have hg:(t.kind !=7)=true:=by simp [h7]
  have H7:=ym h7
  clear h7 h3
  go_enter Tryz.func198,Tryz.ntmps198
  go_wp2_with fail
  generalize hW:World.alloc _ _=w1
  obtain ⟨hb,hz⟩:=al2 hW
  have HB1:=ym hb
  clear hW hz hb
  refine (kQ (d:=d) (d':=d'+1) (s:=s) (t:=t) (B:=B) (vs:=[_,_,_,_]) (ws:=[_,_,_,_]) (HS.out.below HB1.out hB) (HT.out.below HB1.out hB) (yn hB HB1.out.size)).mono ?_
  rintro e w3 ⟨rfl,hb3⟩
  have HB3:=ym (ac HB1.out hb3)
  clear hb3
  go_wp2_with fail
  go_ret
  exact ⟨ae (by unfold eB;rw [if_neg H7.out]),HB3.out⟩
def fo (a b:Tm) (k:Nat):List Tm:=a.l++(b.l.take k).filter fun t=>!jM a t
theorem uf {a b:Tm} {k:Nat} (ha:a.l.length≤16) (hb:b.l.length≤16):(fo a b k).length≤32:=by
 unfold fo
 rw [yv]
 have:=yn (List.length_filter_le (fun t=>!jM a t) (b.l.take k)) (by rw [yF];exact Nat.min_le_right _ _)
 omega
theorem qW {a b:Tm} {k:Nat} {x:Tm} (h:b.l[k]? = some x) (hm:jM a x=true):fo a b (k+1)=fo a b k:=by
 unfold fo;rw [eQ h,hm];simp
theorem oy {a b:Tm} {k:Nat} {x:Tm} (h:b.l[k]? = some x) (hm:jM a x=false):fo a b (k+1)=fo a b k++[x]:=by
 unfold fo;rw [eQ h,hm];simp
theorem ue {a b:Tm} {k:Nat} (h:b.l.length≤k):fo a b k=fJ a b:=by
 unfold fo fJ;rw [List.take_of_length_le h]
theorem badJ_y {a b x:Tm} {ky:Int} (h:(x.kind !=ky)=true) (hk:dx b.l=ky):nF a b x=true:=by
 subst hk;unfold nF;simp only [bne_iff_ne,ne_eq] at h;simp [h]
theorem badJ_z {a b x:Tm} {kz:Int} (h:(x.kind !=kz)=true) (h0:0<a.l.length) (hk:dx a.l=kz):nF a b x=true:=by
 subst hk;unfold nF;simp only [bne_iff_ne,ne_eq] at h;have h1:decide (0<a.l.length)=true:=decide_eq_true h0;rw [h1];simp [h]
theorem badJ_n {a b x:Tm} {ky:Int} (h:(x.kind !=ky)=false) (hk:dx b.l=ky) (h0:¬0<a.l.length):nF a b x=false:=by
 subst hk;unfold nF;simp only [bne_eq_false_iff_eq] at h;have h1:decide (0<a.l.length)=false:=decide_eq_false h0;rw [h1,h];simp
theorem badJ_nz {a b x:Tm} {ky kz:Int} (h:(x.kind !=ky)=false) (hk:dx b.l=ky) (h':(x.kind !=kz)=false) (hk':dx a.l=kz):nF a b x=false:=by
 subst hk hk';unfold nF;simp only [bne_eq_false_iff_eq] at h h';simp [←h,←h']
theorem ug {a b:Tm} {k:Nat} {x:Tm} (h:b.l[k]? = some x) (hb:nF a b x=true):jc a b=(noT,7):=by
 unfold jc;rw [if_pos (vO (p:=nF a b) h hb)]
theorem wF {a b:Tm} {k:Nat} (hk:b.l.length≤k) (h:∀j (hj:j<k) (hj':j<b.l.length),nF a b b.l[j]=false):jc a b=if 16<(fJ a b).length then (noT,4) else qu (fJ a b):=by
 unfold jc;rw [if_neg (by rw [tf (p:=nF a b) hk h];simp)]
theorem wG {d d' B:Nat} {a b:Tm} {vs ws:List Value} {w:World} (ha:RTm w B (d+1) a vs) (hb:RTm w B (d+1) b ws) (hB:B≤w.heap.size) (hn:a.l.length≤16) (hn':b.l.length≤16) :
 Calls Tryz.prog 202 #[.agg vs.toArray,.agg ws.toArray] w fun e w'=>iR d w w' (jc a b) e:=by
 obtain ⟨i0,hi0,hz0,hz1,hz2⟩:=info_parts gJ
 have HS:=ym ha
 obtain ⟨A,c,rfl,_,_,_,_,_,hl⟩:=ha
 obtain ⟨A',c',rfl,_,_,_,_,_,hl'⟩:=hb
 have HLa:Hid (RL (TmR d) w B a.l A):=ym hl
 have HLb:Hid (RL (TmR d) w B b.l A'):=ym hl'
 have HN:=ym hn
 have HN':=ym hn'
 clear hl hl' hn hn'
 go_enter Tryz.func202,Tryz.ntmps202
 have HSRC:=ym (HLa.out.keep (al3 (w:=w) (o1:=.cells #[.int .i64 a.kind,.int .i64 a.n,.string a.s,.slice A a.l.length c] 29) (o2:=.cells #[.int .i64 b.kind,.int .i64 b.n,.string b.s,.slice A' b.l.length c'] 29) (o3:=.cells vC 29) rfl).1 hB).src
 go_wp2_with ((
  at_builtin
  refine aq (R:=TmR d) (e:=29) (base:=w.heap.size+3) (B:=B) (xs:=[]) (ys:=a.l) rfl (.const (.slice none 0 0)) (.tmp 10) 24 rfl (bytes:=56) Tryz.underlying24 hi0 hz0 hz1 hz2 rfl (show 0<4 by omega) (dV d) rfl (am.nil _ _ _ _ _) rfl HSRC.out rfl (by omega) (by have:=HN.out;simp only [List.length_nil];omega) (by omega) (by simp only [World.size_alloc];omega) ?_
  intro v1 w1 hown1 hb1
  obtain ⟨A1,c1,rfl⟩:=hown1.form
  have b_a:=Blk.keep (n31 rfl) hb1 (show w.heap.size<w.heap.size+3 by omega)
  have b_b:=Blk.keep (n32 rfl) hb1 (show w.heap.size+1<w.heap.size+3 by omega)
  have b_r:=Blk.keep (n33 rfl) hb1 (show w.heap.size+1+1<w.heap.size+3 by omega)
  have HB1:Hid (Below w.heap.size w w1):=ym ((al3 rfl).1.trans (hb1.mono (by omega)))
  have HO1:=ym hown1
  have hsz1:w.heap.size+3≤w1.heap.size:=by have:=hb1.size;simp only [World.size_alloc] at this;omega
  have k_b:=b_b.cell
  clear hown1 hb1))
 simp only [List.nil_append] at HO1 ⊢
 have hB1:=yn hB HB1.out.size
 clear k_b HSRC
 go_loopw [6,15] (fun v i wr=>∃(k:Nat) (A2:Option Addr) (c2:Nat),k≤b.l.length∧v=.slice A2 (fo a b k).length c2∧i=.int .i64 k∧Hid (Below (w.heap.size+3) w1 wr)∧Hid (am (TmR d) 29 wr (w.heap.size+3) B (.slice A2 (fo a b k).length c2) (fo a b k))∧Hid (∀j (hj:j<k) (hj':j<b.l.length),nF a b b.l[j]=false)) (fun _ i _=>b.l.length-(intOf i).toNat)
 case atStart=>
  have e:fo a b 0=a.l:=by simp [fo]
  exact ⟨0,A1,c1,yp _,by rw [e],rfl,ym (yq _ _),ym (by rw [e];exact HO1.out),ym (fun j hj=>absurd hj (by omega))⟩
 case round=>
  obtain ⟨k,A2,c2,hk,rfl,rfl,HBW,HOW,HALL⟩:=hrel
  have b_a2:=b_a.keep HBW.out (by omega)
  have b_b2:=b_b.keep HBW.out (by omega)
  have b_r2:=b_r.keep HBW.out (by omega)
  have hszr:w1.heap.size≤wr.heap.size:=HBW.out.size
  have hBr:=yn hB1 hszr
  have HBr:=ym (HB1.out.trans (HBW.out.mono (show w.heap.size≤w.heap.size+3 by omega)))
  have HJL:=ym (uf (k:=k) HN.out HN'.out)
  clear b_a b_b b_r
  by_cases hlt:k<b.l.length
  ·obtain ⟨bb,off,rfl,hob⟩:=HLb.out.base HBr.out hB (by omega)
   obtain ⟨x,vs,hx,hlen,hcell,hr⟩:=HLb.out.at_ HBr.out hB hlt
   obtain ⟨Ax,cx,rfl,_⟩:=RTm.cells (show RTm wr B d x vs from hr)
   have c0:wr.cell? ⟨bb,off+k*4,none⟩=some (.int .i64 x.kind):=hcell 0 _ rfl
   have c1:wr.cell? ⟨bb,off+k*4+1,none⟩=some (.int .i64 x.n):=hcell 1 _ rfl
   have c2:wr.cell? ⟨bb,off+k*4+2,none⟩=some (.string x.s):=hcell 2 _ rfl
   have c3:wr.cell? ⟨bb,off+k*4+3,none⟩=some (.slice Ax x.l.length cx):=hcell 3 _ rfl
   have HX:=ym hx
   have HR:Hid (RTm wr B d x _):=ym hr
   obtain ⟨y,ys,hy,_,hycell,hry⟩:=HLb.out.at_ (k:=0) HBr.out hB (by omega)
   obtain ⟨Ay,cy,rfl,_⟩:=RTm.cells (show RTm wr B d y ys from hry)
   have HKY:Hid (dx b.l=y.kind):=ym (by unfold dx;rw [List.head?_eq_getElem?,hy];rfl)
   have f0:wr.cell? ⟨bb,off,none⟩=some (.int .i64 y.kind):=by simpa using hycell 0 _ rfl
   clear hcell hlen hx hr hycell hry hy
   go_wp2_with fail
   generalize hW:World.alloc _ _=W
   obtain ⟨hb1,hz⟩:=al1 hW
   have b_x:=n11 hW
   have g0:=cell_regrown ((hb1.cell (p:=⟨bb,off,none⟩) (yr hob (by omega))).trans f0)
   have b_a3:=b_a2.later hb1
   have b_b3:=b_b2.later hb1
   have b_r3:=b_r2.later hb1
   have HBa:=ym (HBW.out.trans (hb1.mono (by omega)))
   have HBA:=ym (ac HBr.out hb1)
   have HOa:=ym (HOW.out.later hb1 hBr)
   have HRa:=ym (HR.out.below hb1 hBr)
   have hsza:=yn hszr hb1.size
   have hBa:=yn hBr hb1.size
   clear hW hb1 hz c0 c1 c2 c3 b_a2 b_b2 b_r2 HBW HBr HOW HR f0
   have q_x:=b_x.regrown
   have q_a:=b_a3.regrown
   have q_b:=b_b3.regrown
   have hfork:(((x.kind !=y.kind)=true∨((x.kind !=y.kind)=false∧∃z:Tm,∃q:Nat × Nat,(x.kind !=z.kind)=true∧0<a.l.length∧dx a.l=z.kind∧A=some ⟨q.1,q.2,none⟩∧q.1<W.heap.size∧W.cell? ⟨q.1,q.2,none⟩=some (.int .i64 z.kind)))∧nF a b x=true) ∨
    (((x.kind !=y.kind)=false∧(¬0<a.l.length∨∃z:Tm,∃q:Nat × Nat,(x.kind !=z.kind)=false∧0<a.l.length∧dx a.l=z.kind∧A=some ⟨q.1,q.2,none⟩∧q.1<W.heap.size∧W.cell? ⟨q.1,q.2,none⟩=some (.int .i64 z.kind)))∧nF a b x=false):=by
    rcases Bool.eq_false_or_eq_true (x.kind !=y.kind) with h1 | h1
    ·exact .inl ⟨.inl h1,badJ_y h1 HKY.out⟩
    ·by_cases h0:0<a.l.length
     ·obtain ⟨ba,offa,rfl,hoa⟩:=HLa.out.base HBA.out hB h0
      obtain ⟨z,zs,hz',_,hzcell,hrz⟩:=HLa.out.at_ (k:=0) HBA.out hB h0
      obtain ⟨Az,cz,rfl,_⟩:=RTm.cells (show RTm W B d z zs from hrz)
      have hkz:dx a.l=z.kind:=by unfold dx;rw [List.head?_eq_getElem?,hz'];rfl
      have e0:W.cell? ⟨ba,offa,none⟩=some (.int .i64 z.kind):=by simpa using hzcell 0 _ rfl
      rcases Bool.eq_false_or_eq_true (x.kind !=z.kind) with h2 | h2
      ·exact .inl ⟨.inr ⟨h1,z,(ba,offa),h2,h0,hkz,rfl,hoa,e0⟩,badJ_z h2 h0 hkz⟩
      ·exact .inr ⟨⟨h1,.inr ⟨z,(ba,offa),h2,h0,hkz,rfl,hoa,e0⟩⟩,badJ_nz h1 HKY.out h2 hkz⟩
     ·exact .inr ⟨⟨h1,.inl h0⟩,badJ_n h1 HKY.out h0⟩
   rcases hfork with ⟨h,hbad⟩ | ⟨⟨h1,h⟩,hbad⟩
   ·have HBAD:=ym (ug HX.out hbad)
    clear hbad
    rcases h with h1 | ⟨h1,z,⟨ba,offa⟩,h2,h0,hkz,rfl,hoa,e0⟩
    ·refine wp_region_quiet_below (by kernel_rfl) (by kernel_rfl) ?_
     repeat (go_big_quiet_step (fail))
     refine wpQuiet_nil ?_
     intro wc hw3
     have hb1:Below W.heap.size W wc:=by obtain ⟨p,rfl⟩:=hw3;exact below_regrown _ _ _
     clear hw3 q_x q_a q_b g0
     have b_r4:=b_r3.later hb1
     have HBB:=ym (ac HBA.out hb1)
     have kR:=b_r4.cell
     have fR:=b_r4.free
     clear hb1
     go_wp2_with fail
     have hbr:=dq b_r4 (.int .i64 0) (.int .i64 0) (.string ⟨#[]⟩) (.slice none 0 0)
     refine bodyPost_ret (al rfl rfl hbr rfl) rfl ?_
     rw [HBAD.out]
     exact ⟨⟨_,_,rfl,TmOwn.no⟩,cB HBB.out (by omega) _ _ _ _⟩
    ·have r0:=cell_regrown e0
     refine wp_region_quiet_below (by kernel_rfl) (by kernel_rfl) ?_
     repeat (go_big_quiet_step (fail))
     refine wpQuiet_nil ?_
     intro wc hw3
     have hb1:Below W.heap.size W wc:=by obtain ⟨p,rfl⟩:=hw3;exact below_regrown _ _ _
     clear hw3 q_x q_a q_b g0
     have b_r4:=b_r3.later hb1
     have HBB:=ym (ac HBA.out hb1)
     have kR:=b_r4.cell
     have fR:=b_r4.free
     clear hb1
     go_wp2_with fail
     have hbr:=dq b_r4 (.int .i64 0) (.int .i64 0) (.string ⟨#[]⟩) (.slice none 0 0)
     refine bodyPost_ret (al rfl rfl hbr rfl) rfl ?_
     rw [HBAD.out]
     exact ⟨⟨_,_,rfl,TmOwn.no⟩,cB HBB.out (by omega) _ _ _ _⟩
   ·have HNB:=ym hbad
    clear hbad
    rcases h with h0 | ⟨z,⟨ba,offa⟩,h2,h0,hkz,rfl,hoa,e0⟩
    ·refine wp_region_quiet_below (by kernel_rfl) (by kernel_rfl) ?_
     repeat (go_big_quiet_step (fail))
     refine wpQuiet_nil ?_
     intro wc hw3
     have hb1:Below W.heap.size W wc:=by obtain ⟨p,rfl⟩:=hw3;exact below_regrown _ _ _
     clear hw3 q_x q_a q_b g0
     have b_a4:=b_a3.later hb1
     have b_b4:=b_b3.later hb1
     have b_r4:=b_r3.later hb1
     have b_x4:=b_x.later hb1
     have HBb:=ym (HBa.out.trans (hb1.mono (by omega)))
     have HBB:=ym (ac HBA.out hb1)
     have HOb:=ym (HOa.out.later hb1 hBa)
     have HRb:=ym (HRa.out.below hb1 hBa)
     have hszb:=yn hsza hb1.size
     have hBb:=yn hBa hb1.size
     clear hb1 b_a3 b_b3 b_r3 b_x HBa HOa HRa HBA hsza hBa
     have k_a:=b_a4.cell
     have l_a:=b_a4.lt
     have k_x:=b_x4.cell
     have l_x:=b_x4.lt
     go_wp2_with fail
     clear k_a l_a k_x l_x
     refine (kQ (d:=d) (d':=d) (s:=a) (t:=x) (B:=B) (vs:=[_,_,_,_]) (ws:=[_,_,_,_]) (HS.out.below HBB.out hB) HRb.out hBb).mono ?_
     rintro e wd ⟨rfl,hb3⟩
     have b_x5:=b_x4.later hb3
     have HBd:=ym (HBb.out.trans (hb3.mono (by omega)))
     have HOd:=ym (HOb.out.later hb3 hBb)
     have HRd:=ym (HRb.out.below hb3 hBb)
     have hszd:=yn hszb hb3.size
     have hBd:=yn hBb hb3.size
     clear hb3 b_a4 b_b4 b_r4 b_x4 HBb HOb HRb HBB hszb hBb
     have HALL2:Hid (∀j (hj:j<k+1) (hj':j<b.l.length),nF a b b.l[j]=false):=ym fun j hj hj'=>by
      rcases Nat.lt_or_ge j k with h3 | h3
      ·exact HALL.out j h3 hj'
      ·obtain rfl:j=k:=by omega
       rw [(List.getElem?_eq_some_iff.1 HX.out).2];exact HNB.out
     by_cases hm:jM a x=true
     ·have HE:=ym (qW HX.out hm)
      rw [hm]
      clear hm
      go_wp2_with fail
      go_roundw
      case rel=>exact ⟨k+1,A2,_,by omega,by rw [HE.out],by go_num,HBd,ym (by rw [HE.out];exact HOd.out),HALL2⟩
      case measure=>simp [intOf];omega
     ·simp only [Bool.not_eq_true] at hm
      have HE:=ym (oy HX.out hm)
      rw [hm]
      clear hm
      generalize hout:fo a b k=out at *
      clear hout
      have k_x:=b_x5.cell
      have l_x:=b_x5.lt
      have HOW:=ym (And.intro (HOd.out.later ((yq _ wd).alloc (yo _) (.cells #[.int .i64 x.kind,.int .i64 x.n,.string x.s,.slice Ax x.l.length cx] 29)) hBd) (Blk.src (R:=TmR d) (B:=B) (x:=x) (Blk.new wd #[.int .i64 x.kind,.int .i64 x.n,.string x.s,.slice Ax x.l.length cx] 29) ((HRd.out.below ((yq _ wd).alloc (yo _) (.cells #[.int .i64 x.kind,.int .i64 x.n,.string x.s,.slice Ax x.l.length cx] 29)) hBd))))
      go_wp2_with ((
       at_builtin
       refine aq (R:=TmR d) (e:=29) (base:=w.heap.size+3) (B:=B) (xs:=out) (ys:=[x]) rfl (.tmp 50) (.tmp 52) 24 rfl (bytes:=56) Tryz.underlying24 hi0 hz0 hz1 hz2 rfl (show 0<4 by omega) (dV d) rfl HOW.out.1 rfl HOW.out.2 rfl (by omega) (by have:=HJL.out;simp only [yE,List.length_nil];omega) (by omega) (by rw [World.size_alloc];omega) ?_
       intro v2 w7 hown2 hb2
       obtain ⟨A3,c3,rfl⟩:=hown2.form
       have H7:=ym (And.intro hown2 (HBd.out.trans (((yq (w.heap.size+3) wd).alloc (by omega) (.cells #[.int .i64 x.kind,.int .i64 x.n,.string x.s,.slice Ax x.l.length cx] 29)).trans hb2)))
       clear hown2 hb2 k_x l_x b_x5))
      go_roundw
      case rel=>exact ⟨k+1,A3,c3,by omega,by rw [HE.out,yv];rfl,by go_num,ym H7.out.2,ym (by rw [HE.out];exact H7.out.1),HALL2⟩
      case measure=>simp [intOf];omega
    ·have r0:=cell_regrown e0
     refine wp_region_quiet_below (by kernel_rfl) (by kernel_rfl) ?_
     repeat (go_big_quiet_step (fail))
     refine wpQuiet_nil ?_
     intro wc hw3
     have hb1:Below W.heap.size W wc:=by obtain ⟨p,rfl⟩:=hw3;exact below_regrown _ _ _
     clear hw3 q_x q_a q_b g0
     have b_a4:=b_a3.later hb1
     have b_b4:=b_b3.later hb1
     have b_r4:=b_r3.later hb1
     have b_x4:=b_x.later hb1
     have HBb:=ym (HBa.out.trans (hb1.mono (by omega)))
     have HBB:=ym (ac HBA.out hb1)
     have HOb:=ym (HOa.out.later hb1 hBa)
     have HRb:=ym (HRa.out.below hb1 hBa)
     have hszb:=yn hsza hb1.size
     have hBb:=yn hBa hb1.size
     clear hb1 b_a3 b_b3 b_r3 b_x HBa HOa HRa HBA hsza hBa
     have k_a:=b_a4.cell
     have l_a:=b_a4.lt
     have k_x:=b_x4.cell
     have l_x:=b_x4.lt
     go_wp2_with fail
     clear k_a l_a k_x l_x
     refine (kQ (d:=d) (d':=d) (s:=a) (t:=x) (B:=B) (vs:=[_,_,_,_]) (ws:=[_,_,_,_]) (HS.out.below HBB.out hB) HRb.out hBb).mono ?_
     rintro e wd ⟨rfl,hb3⟩
     have b_x5:=b_x4.later hb3
     have HBd:=ym (HBb.out.trans (hb3.mono (by omega)))
     have HOd:=ym (HOb.out.later hb3 hBb)
     have HRd:=ym (HRb.out.below hb3 hBb)
     have hszd:=yn hszb hb3.size
     have hBd:=yn hBb hb3.size
     clear hb3 b_a4 b_b4 b_r4 b_x4 HBb HOb HRb HBB hszb hBb
     have HALL2:Hid (∀j (hj:j<k+1) (hj':j<b.l.length),nF a b b.l[j]=false):=ym fun j hj hj'=>by
      rcases Nat.lt_or_ge j k with h3 | h3
      ·exact HALL.out j h3 hj'
      ·obtain rfl:j=k:=by omega
       rw [(List.getElem?_eq_some_iff.1 HX.out).2];exact HNB.out
     by_cases hm:jM a x=true
     ·have HE:=ym (qW HX.out hm)
      rw [hm]
      clear hm
      go_wp2_with fail
      go_roundw
      case rel=>exact ⟨k+1,A2,_,by omega,by rw [HE.out],by go_num,HBd,ym (by rw [HE.out];exact HOd.out),HALL2⟩
      case measure=>simp [intOf];omega
     ·simp only [Bool.not_eq_true] at hm
      have HE:=ym (oy HX.out hm)
      rw [hm]
      clear hm
      generalize hout:fo a b k=out at *
      clear hout
      have k_x:=b_x5.cell
      have l_x:=b_x5.lt
      have HOW:=ym (And.intro (HOd.out.later ((yq _ wd).alloc (yo _) (.cells #[.int .i64 x.kind,.int .i64 x.n,.string x.s,.slice Ax x.l.length cx] 29)) hBd) (Blk.src (R:=TmR d) (B:=B) (x:=x) (Blk.new wd #[.int .i64 x.kind,.int .i64 x.n,.string x.s,.slice Ax x.l.length cx] 29) ((HRd.out.below ((yq _ wd).alloc (yo _) (.cells #[.int .i64 x.kind,.int .i64 x.n,.string x.s,.slice Ax x.l.length cx] 29)) hBd))))
      go_wp2_with ((
       at_builtin
       refine aq (R:=TmR d) (e:=29) (base:=w.heap.size+3) (B:=B) (xs:=out) (ys:=[x]) rfl (.tmp 50) (.tmp 52) 24 rfl (bytes:=56) Tryz.underlying24 hi0 hz0 hz1 hz2 rfl (show 0<4 by omega) (dV d) rfl HOW.out.1 rfl HOW.out.2 rfl (by omega) (by have:=HJL.out;simp only [yE,List.length_nil];omega) (by omega) (by rw [World.size_alloc];omega) ?_
       intro v2 w7 hown2 hb2
       obtain ⟨A3,c3,rfl⟩:=hown2.form
       have H7:=ym (And.intro hown2 (HBd.out.trans (((yq (w.heap.size+3) wd).alloc (by omega) (.cells #[.int .i64 x.kind,.int .i64 x.n,.string x.s,.slice Ax x.l.length cx] 29)).trans hb2)))
       clear hown2 hb2 k_x l_x b_x5))
      go_roundw
      case rel=>exact ⟨k+1,A3,c3,by omega,by rw [HE.out,yv];rfl,by go_num,ym H7.out.2,ym (by rw [HE.out];exact H7.out.1),HALL2⟩
      case measure=>simp [intOf];omega
  ·have HE:=ym (show fo a b k=fJ a b from ue (by omega))
   have HOK:=ym (wF (show b.l.length≤k by omega) HALL.out)
   rw [HE.out] at HOW HJL ⊢
   generalize hout:fJ a b=all at *
   have kR:=b_r2.cell
   have fR:=b_r2.free
   clear hout
   by_cases h16:16<all.length
   ·have hg:(16:Int)<(all.length:Int):=by omega
    have HR16:=ym (show jc a b=(noT,4) by rw [HOK.out,if_pos h16])
    go_wp2_with fail
    have hbr:=dq b_r2 (.int .i64 0) (.int .i64 0) (.string ⟨#[]⟩) (.slice none 0 0)
    refine bodyPost_ret (al rfl rfl hbr rfl) rfl ?_
    rw [HR16.out]
    exact ⟨⟨_,_,rfl,TmOwn.no⟩,cB HBr.out (by omega) _ _ _ _⟩
   ·have hg:¬(16:Int)<(all.length:Int):=by omega
    have HR16:=ym (show jc a b=qu all by rw [HOK.out,if_neg h16])
    obtain ⟨A3,c3,e3,r1,r2,r3⟩:=HOW.out.reads hBr (by have:=HJL.out;show all.length*(8*4)≤_;omega)
    simp only [yB] at e3
    obtain ⟨rfl,_,rfl⟩:=e3
    have HRL:=ym r3
    clear r1 r2 r3 kR fR
    go_wp2_with fail
    refine (set_any (d:=d) (B:=wr.heap.size) (l:=all) (A:=A2) (c:=c2) HRL.out (yo _) (by have:=HJL.out;omega)).mono ?_
    rintro e w9 ⟨⟨A4,c4,rfl,hrd⟩,hb9⟩
    have b_r9:=b_r2.later hb9
    have HB9:=ym (ac HBr.out hb9)
    have HRD:=ym hrd
    have kR:=b_r9.cell
    have fR:=b_r9.free
    clear hrd hb9
    go_wp2_with fail
    have hbr:=dq b_r9 (.int .i64 (qu all).1.kind) (.int .i64 (qu all).1.n) (.string (qu all).1.s) (.slice A4 (qu all).1.l.length c4)
    refine bodyPost_ret (al rfl rfl hbr rfl) rfl ?_
    rw [HR16.out]
    exact ⟨⟨A4,c4,rfl,(HRD.out.put4 (by omega) _ _ _ _).lower (by omega)⟩,cB HB9.out (by omega) _ _ _ _⟩
theorem fA {x:Int} {s:ByteArray} {l:List Tm} (h:af ⟨7,x,s,l⟩=true):l.length≤16∧∀x∈l,iP x:=dr (by
 have:=kL h
 rw [if_pos rfl] at this
 exact this.2.2)
theorem vV {x y:Int} {d B:Nat} {s s':ByteArray} {l l':List Tm} {vs ws:List Value} {w:World} (ha:RTm w B (d+1) ⟨7,x,s,l⟩ vs) (hb:RTm w B (d+1) ⟨7,y,s',l'⟩ ws) (hB:B≤w.heap.size) (fa:af ⟨7,x,s,l⟩=true) (fb:af ⟨7,y,s',l'⟩=true)  :
 Calls Tryz.prog 189 #[.int .i64 15,.agg vs.toArray,.agg ws.toArray] w fun z w'=>iR d w w' (la ⟨7,x,s,l⟩ ⟨7,y,s',l'⟩,0) z:=by
 obtain ⟨A,c,rfl,q1,q2,q3,q4,q5,_⟩:=ha.cells
 obtain ⟨A',c',rfl,r1,r2,r3,r4,r5,_⟩:=hb.cells
 have HA:=ym ha
 have HB_:=ym hb
 have FA:=ym fa
 have FB:=ym fb
 simp only at q2 q3 q4 q5 r2 r3 r4 r5
 clear ha hb fa fb
 have HK:Hid (aG 15 7 7=true):=ym (by decide)
 go_enter Tryz.func189,Tryz.ntmps189
 go_wp2_with fail
 generalize hW:World.alloc _ _=w1
 obtain ⟨hb,hz⟩:=al3 hW
 have b_a_1:=n31 hW
 have b_b_1:=n32 hW
 have b_r_1:=n33 hW
 have HB1:=ym hb
 clear hW hz hb
 refine (ai (t:=⟨7,x,s,l⟩) (vs:=[_,_,_,_]) (HA.out.below HB1.out hB) (yn hB HB1.out.size)).mono ?_
 rintro x w2 ⟨rfl,hb⟩
 have b_a_2:=b_a_1.later hb
 have b_b_2:=b_b_1.later hb
 have b_r_2:=b_r_1.later hb
 have HB2:=ym (ac HB1.out hb)
 clear b_a_1 b_b_1 b_r_1
 clear hb
 rw [FA.out]
 have k_a:=b_a_2.cell
 have k_b:=b_b_2.cell
 have k_r:=b_r_2.cell
 go_wp2_with fail
 clear k_a k_b k_r
 refine (ai (t:=⟨7,y,s',l'⟩) (vs:=[_,_,_,_]) (HB_.out.below HB2.out hB) (yn hB HB2.out.size)).mono ?_
 rintro x w3 ⟨rfl,hb⟩
 have b_a_3:=b_a_2.later hb
 have b_b_3:=b_b_2.later hb
 have b_r_3:=b_r_2.later hb
 have HB3:=ym (ac HB2.out hb)
 clear b_a_2 b_b_2 b_r_2
 clear hb
 rw [FB.out]
 have k_a:=b_a_3.cell
 have k_b:=b_b_3.cell
 have k_r:=b_r_3.cell
 go_wp2_with fail
 clear k_a k_b k_r
 refine (aU 15 7 7 _).mono ?_
 rintro x w4 ⟨rfl,hb⟩
 have b_a_4:=b_a_3.later hb
 have b_b_4:=b_b_3.later hb
 have b_r_4:=b_r_3.later hb
 have HB4:=ym (ac HB3.out hb)
 clear b_a_3 b_b_3 b_r_3
 clear hb
 rw [HK.out]
 have k_a:=b_a_4.cell
 have k_b:=b_b_4.cell
 have k_r:=b_r_4.cell
 go_wp2_with fail
 clear k_a k_b k_r
 have hlr:=b_r_4.lt
 have hwl:=HB4.out.size
 refine (wP (d:=d) (d':=d) (a:=⟨7,x,s,l⟩) (b:=⟨7,y,s',l'⟩) (vs:=[_,_,_,_]) (ws:=[_,_,_,_]) (HA.out.below HB4.out hB) (HB_.out.below HB4.out hB) (yn hB HB4.out.size) (fA FA.out).1 (fA FA.out).2).mono ?_
 rintro x w5 ⟨⟨A4,c4,rfl,hrd⟩,hb⟩
 have b_a_5:=b_a_4.later hb
 have b_b_5:=b_b_4.later hb
 have b_r_5:=b_r_4.later hb
 have HB5:=ym (ac HB4.out hb)
 clear b_a_4 b_b_4 b_r_4
 clear hb
 have HRD:=ym hrd
 clear hrd
 have k_a:=b_a_5.cell
 have k_b:=b_b_5.cell
 have k_r:=b_r_5.cell
 have f_r:=b_r_5.free
 go_wp2_with fail
 have hbr:=dq b_r_5 (.int .i64 7) (.int .i64 0) (.string kC) (.slice A4 (la ⟨7,x,s,l⟩ ⟨7,y,s',l'⟩).l.length c4)
 refine bodyPost_ret (al rfl rfl hbr rfl) rfl ?_
 exact ⟨⟨A4,c4,rfl,(HRD.out.put4 (by omega) _ _ _ _).lower (by omega)⟩,cB HB5.out (by omega) _ _ _ _⟩
theorem vT {x y:Int} {d B:Nat} {s s':ByteArray} {l l':List Tm} {vs ws:List Value} {w:World} (ha:RTm w B (d+1) ⟨7,x,s,l⟩ vs) (hb:RTm w B (d+1) ⟨7,y,s',l'⟩ ws) (hB:B≤w.heap.size) (fa:af ⟨7,x,s,l⟩=true) (fb:af ⟨7,y,s',l'⟩=true)  :
 Calls Tryz.prog 189 #[.int .i64 16,.agg vs.toArray,.agg ws.toArray] w fun z w'=>iR d w w' (jc ⟨7,x,s,l⟩ ⟨7,y,s',l'⟩) z:=by
 obtain ⟨A,c,rfl,q1,q2,q3,q4,q5,_⟩:=ha.cells
 obtain ⟨A',c',rfl,r1,r2,r3,r4,r5,_⟩:=hb.cells
 have HA:=ym ha
 have HB_:=ym hb
 have FA:=ym fa
 have FB:=ym fb
 simp only at q2 q3 q4 q5 r2 r3 r4 r5
 clear ha hb fa fb
 have HK:Hid (aG 16 7 7=true):=ym (by decide)
 go_enter Tryz.func189,Tryz.ntmps189
 go_wp2_with fail
 generalize hW:World.alloc _ _=w1
 obtain ⟨hb,hz⟩:=al3 hW
 have b_a_1:=n31 hW
 have b_b_1:=n32 hW
 have b_r_1:=n33 hW
 have HB1:=ym hb
 clear hW hz hb
 refine (ai (t:=⟨7,x,s,l⟩) (vs:=[_,_,_,_]) (HA.out.below HB1.out hB) (yn hB HB1.out.size)).mono ?_
 rintro x w2 ⟨rfl,hb⟩
 have b_a_2:=b_a_1.later hb
 have b_b_2:=b_b_1.later hb
 have b_r_2:=b_r_1.later hb
 have HB2:=ym (ac HB1.out hb)
 clear b_a_1 b_b_1 b_r_1
 clear hb
 rw [FA.out]
 have k_a:=b_a_2.cell
 have k_b:=b_b_2.cell
 have k_r:=b_r_2.cell
 go_wp2_with fail
 clear k_a k_b k_r
 refine (ai (t:=⟨7,y,s',l'⟩) (vs:=[_,_,_,_]) (HB_.out.below HB2.out hB) (yn hB HB2.out.size)).mono ?_
 rintro x w3 ⟨rfl,hb⟩
 have b_a_3:=b_a_2.later hb
 have b_b_3:=b_b_2.later hb
 have b_r_3:=b_r_2.later hb
 have HB3:=ym (ac HB2.out hb)
 clear b_a_2 b_b_2 b_r_2
 clear hb
 rw [FB.out]
 have k_a:=b_a_3.cell
 have k_b:=b_b_3.cell
 have k_r:=b_r_3.cell
 go_wp2_with fail
 clear k_a k_b k_r
 refine (aU 16 7 7 _).mono ?_
 rintro x w4 ⟨rfl,hb⟩
 have b_a_4:=b_a_3.later hb
 have b_b_4:=b_b_3.later hb
 have b_r_4:=b_r_3.later hb
 have HB4:=ym (ac HB3.out hb)
 clear b_a_3 b_b_3 b_r_3
 clear hb
 rw [HK.out]
 have k_a:=b_a_4.cell
 have k_b:=b_b_4.cell
 have k_r:=b_r_4.cell
 go_wp2_with fail
 clear k_a k_b k_r
 have hlr:=b_r_4.lt
 have hwl:=HB4.out.size
 refine (wG (d:=d) (d':=d) (a:=⟨7,x,s,l⟩) (b:=⟨7,y,s',l'⟩) (vs:=[_,_,_,_]) (ws:=[_,_,_,_]) (HA.out.below HB4.out hB) (HB_.out.below HB4.out hB) (yn hB HB4.out.size) (fA FA.out).1 (fA FB.out).1).mono ?_
 rintro x w5 ⟨⟨A4,c4,rfl,hrd⟩,hb⟩
 have b_a_5:=b_a_4.later hb
 have b_b_5:=b_b_4.later hb
 have b_r_5:=b_r_4.later hb
 have HB5:=ym (ac HB4.out hb)
 clear b_a_4 b_b_4 b_r_4
 clear hb
 have HRD:=ym hrd
 clear hrd
 have k_a:=b_a_5.cell
 have k_b:=b_b_5.cell
 have k_r:=b_r_5.cell
 have f_r:=b_r_5.free
 go_wp2_with fail
 have hbr:=dq b_r_5 (.int .i64 (jc ⟨7,x,s,l⟩ ⟨7,y,s',l'⟩).1.kind) (.int .i64 (jc ⟨7,x,s,l⟩ ⟨7,y,s',l'⟩).1.n) (.string (jc ⟨7,x,s,l⟩ ⟨7,y,s',l'⟩).1.s) (.slice A4 (jc ⟨7,x,s,l⟩ ⟨7,y,s',l'⟩).1.l.length c4)
 refine bodyPost_ret (al rfl rfl hbr rfl) rfl ?_
 exact ⟨⟨A4,c4,rfl,(HRD.out.put4 (by omega) _ _ _ _).lower (by omega)⟩,cB HB5.out (by omega) _ _ _ _⟩
theorem pD {x y kb:Int} {d B:Nat} {s s':ByteArray} {l l':List Tm} {vs ws:List Value} {w:World} (ha:RTm w B (d+1) ⟨7,x,s,l⟩ vs) (hb:RTm w B (d+1) ⟨kb,y,s',l'⟩ ws) (hB:B≤w.heap.size) (fa:af ⟨7,x,s,l⟩=true) (fb:af ⟨kb,y,s',l'⟩=true) (hk:aG 11 7 kb=true) :
 Calls Tryz.prog 189 #[.int .i64 11,.agg vs.toArray,.agg ws.toArray] w fun z w'=>z=bM 6 (bit (eB ⟨7,x,s,l⟩ ⟨kb,y,s',l'⟩)) emp 0∧Below w.heap.size w w':=by
 obtain ⟨A,c,rfl,q1,q2,q3,q4,q5,_⟩:=ha.cells
 obtain ⟨A',c',rfl,r1,r2,r3,r4,r5,_⟩:=hb.cells
 have HA:=ym ha
 have HB_:=ym hb
 have FA:=ym fa
 have FB:=ym fb
 simp only at q2 q3 q4 q5 r2 r3 r4 r5
 clear ha hb fa fb
 have HK:=ym hk
 clear hk
 go_enter Tryz.func189,Tryz.ntmps189
 go_wp2_with fail
 generalize hW:World.alloc _ _=w1
 obtain ⟨hb,hz⟩:=al3 hW
 have b_a_1:=n31 hW
 have b_b_1:=n32 hW
 have b_r_1:=n33 hW
 have HB1:=ym hb
 clear hW hz hb
 refine (ai (t:=⟨7,x,s,l⟩) (vs:=[_,_,_,_]) (HA.out.below HB1.out hB) (yn hB HB1.out.size)).mono ?_
 rintro x w2 ⟨rfl,hb⟩
 have b_a_2:=b_a_1.later hb
 have b_b_2:=b_b_1.later hb
 have b_r_2:=b_r_1.later hb
 have HB2:=ym (ac HB1.out hb)
 clear b_a_1 b_b_1 b_r_1
 clear hb
 rw [FA.out]
 have k_a:=b_a_2.cell
 have k_b:=b_b_2.cell
 have k_r:=b_r_2.cell
 go_wp2_with fail
 clear k_a k_b k_r
 refine (ai (t:=⟨kb,y,s',l'⟩) (vs:=[_,_,_,_]) (HB_.out.below HB2.out hB) (yn hB HB2.out.size)).mono ?_
 rintro x w3 ⟨rfl,hb⟩
 have b_a_3:=b_a_2.later hb
 have b_b_3:=b_b_2.later hb
 have b_r_3:=b_r_2.later hb
 have HB3:=ym (ac HB2.out hb)
 clear b_a_2 b_b_2 b_r_2
 clear hb
 rw [FB.out]
 have k_a:=b_a_3.cell
 have k_b:=b_b_3.cell
 have k_r:=b_r_3.cell
 go_wp2_with fail
 clear k_a k_b k_r
 refine (aU 11 7 kb _).mono ?_
 rintro x w4 ⟨rfl,hb⟩
 have b_a_4:=b_a_3.later hb
 have b_b_4:=b_b_3.later hb
 have b_r_4:=b_r_3.later hb
 have HB4:=ym (ac HB3.out hb)
 clear b_a_3 b_b_3 b_r_3
 clear hb
 rw [HK.out]
 have k_a:=b_a_4.cell
 have k_b:=b_b_4.cell
 have k_r:=b_r_4.cell
 go_wp2_with fail
 clear k_a k_b k_r
 refine (kA (d:=d) (d':=d) (s:=⟨7,x,s,l⟩) (t:=⟨kb,y,s',l'⟩) (vs:=[_,_,_,_]) (ws:=[_,_,_,_]) (HA.out.below HB4.out hB) (HB_.out.below HB4.out hB) (yn hB HB4.out.size) (by simp)).mono ?_
 rintro x w5 ⟨rfl,hb⟩
 have b_a_5:=b_a_4.later hb
 have b_b_5:=b_b_4.later hb
 have b_r_5:=b_r_4.later hb
 have HB5:=ym (ac HB4.out hb)
 clear b_a_4 b_b_4 b_r_4
 clear hb
 have k_a:=b_a_5.cell
 have k_b:=b_b_5.cell
 have k_r:=b_r_5.cell
 go_wp2_with fail
 clear k_a k_b k_r
 refine (dY _ _).mono ?_
 rintro x w6 ⟨rfl,hb⟩
 have b_a_6:=b_a_5.later hb
 have b_b_6:=b_b_5.later hb
 have b_r_6:=b_r_5.later hb
 have HB6:=ym (ac HB5.out hb)
 clear b_a_5 b_b_5 b_r_5
 clear hb
 have k_a:=b_a_6.cell
 have k_b:=b_b_6.cell
 have k_r:=b_r_6.cell
 have f_r:=b_r_6.free
 go_wp2_with fail
 refine bodyPost_ret (al rfl rfl (put4 b_r_6 HB6.out (by omega)).1 rfl) rfl ?_
 exact ⟨rfl,(put4 b_r_6 HB6.out (by omega)).2⟩
end Go.Proofs.YtjpndglegpcdnaaGreat
