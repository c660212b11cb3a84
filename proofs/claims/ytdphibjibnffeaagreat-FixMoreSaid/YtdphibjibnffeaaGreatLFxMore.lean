/- viaticumlaw21.FixMore. Printed by mk_lfxmore.py. -/
import Derived.Test.YtdphibjibnffeaaGreatFxAw2
set_option linter.unusedVariables false
set_option linter.unusedSimpArgs false
set_option maxRecDepth 100000
set_option maxHeartbeats 8000000
namespace Go.Proofs.YtdphibjibnffeaaGreat
open Go.ChangeShapes Go.WideShapes Go.ChangeAt Go.RowKit
theorem eA (d:Nat):dn (ay d):=fun h u hu=>by
 obtain ⟨A,c,rfl,_⟩:=aO h
 simp only [List.mem_cons,List.not_mem_nil,or_false] at hu
 rcases hu with rfl | rfl | rfl<;>rfl
theorem nS {d:Nat} {w:World} {B n c:Nat} {xs:List Fc} {A:Option Addr} (h:RSl (ay d) w B xs (.slice A n c)):RL (ay d) w B xs A:=by
 obtain ⟨A',c',e',_,_,hr⟩:=h
 cases e'
 exact hr
def yX (d:Nat) (w:World) (R:Option (List Fc) × Int × Int) (p:Option Addr):Prop:=R.2.2=0→∃S base xs As cs,p=some ⟨S,0,none⟩∧StA base d w S xs As cs∧R.1=some (xs.map FV.f)
theorem yX.later {d:Nat} {w w':World} {R:Option (List Fc) × Int × Int} {p:Option Addr} (h:yX d w R p) (hb:Below w.heap.size w w'):yX d w' R p:=fun h0=>by
 obtain ⟨S,base,xs,As,cs,e,k,hx⟩:=h h0
 exact ⟨S,base,xs,As,cs,e,k.later hb,hx⟩
theorem ui.p {d:Nat} {w w':World} {l:List Fc} {rs:List OwD} {lf lr:Int} {z:Ending} (h:ui d w w' (eE l rs lf lr) z) (hl:∀f∈l,sA f):(∃p,z=.returned (.tuple #[.pointer p,.int .i64 (eE l rs lf lr).2.1,.int .i64 (eE l rs lf lr).2.2])∧yX d w' (eE l rs lf lr) p)∧Below w.heap.size w w':=by
 obtain ⟨⟨S,base,xs,As,cs,rfl,k,hx,_,_⟩ | ⟨rfl,hn⟩,hb⟩:=h
 ·exact ⟨⟨_,rfl,fun _=>⟨S,base,xs,As,cs,rfl,k,hx⟩⟩,hb⟩
 ·refine ⟨⟨_,rfl,fun h0=>?_⟩,hb⟩
  obtain ⟨gs,m,e,_⟩:=pO hl h0
  rw [e] at hn
  cases hn
def fxP (d B base:Nat) (l:List Fc) (f:Fc) (A:Option Addr) (c:Nat) (xf:Array Value) (Ar:Option Addr) (nr cr:Nat) (lf lr:Int) (i:Nat) (v:Value) (w:World):Prop:=base≤w.heap.size∧B≤base∧match i with
 | 0=>∃b,v=.slice (some ⟨b,0,none⟩) 0 0∧base≤b∧w.heap[b]? = some (.cells #[] 33 (0,0))
 | 1=>v=.slice A l.length c
 | 2=>ar (ay (d+1)) 33 w base B v l
 | 3=>v=.agg xf
 | 4=>∃b,v=.slice (some ⟨b,0,none⟩) 1 1∧base≤b∧w.heap[b]? = some (.cells xf 33 (0,0))
 | 5=>ar (ay (d+1)) 33 w base B v (l++[f])
 | 6=>v=.slice Ar nr cr
 | 7=>v=.agg #[.int .i64 lf,.int .i64 lr]
 | 8=>∃q:Bool,v=.bool q∧(q=true→l.length+1≤60∧nr≤400)
 | _=>True
def fxQ (d B base:Nat) (l:List Fc) (f:Fc) (A:Option Addr) (c:Nat) (xf:Array Value) (Ar:Option Addr) (nr cr:Nat) (lf lr:Int) (rs:List OwD) (i:Nat) (v:Value) (w:World):Prop:=base≤w.heap.size∧B≤base∧match i with
 | 0=>∃b,v=.slice (some ⟨b,0,none⟩) 0 0∧base≤b∧w.heap[b]? = some (.cells #[] 33 (0,0))
 | 1=>v=.slice A l.length c
 | 2=>ar (ay (d+1)) 33 w base B v l
 | 3=>v=.agg xf
 | 4=>∃b,v=.slice (some ⟨b,0,none⟩) 1 1∧base≤b∧w.heap[b]? = some (.cells xf 33 (0,0))
 | 5=>ar (ay (d+1)) 33 w base B v (l++[f])
 | 6=>v=.slice Ar nr cr
 | 7=>v=.agg #[.int .i64 lf,.int .i64 lr]
 | 8=>∃p,v=.tuple #[.pointer p,.int .i64 (eE (l++[f]) rs lf lr).2.1,.int .i64 (eE (l++[f]) rs lf lr).2.2]∧yX d w (eE (l++[f]) rs lf lr) p
 | 9=>∃p,v=.tuple #[.pointer p,.int .i64 (eE (l++[f]) rs lf lr).2.1,.int .i64 (eE (l++[f]) rs lf lr).2.2]∧yX d w (eE (l++[f]) rs lf lr) p
 | 10=>∃p,v=.pointer p∧yX d w (eE (l++[f]) rs lf lr) p
 | 11=>v=.int .i64 (eE (l++[f]) rs lf lr).2.1
 | 12=>v=.int .i64 (eE (l++[f]) rs lf lr).2.2
 | 13=>∃p,v=.pointer p∧yX d w (eE (l++[f]) rs lf lr) p
 | 14=>v=.int .i64 (eE (l++[f]) rs lf lr).2.1
 | _=>True
theorem uz {w w':World} {v v':Value} {k:Nat} {cs:Array Value} {T:TypeId} (h:w.heap[k]? = some (.cells cs T (0,0))) (hn:v.ownBlock≠some k) (hg:w.grownBy w' v.ownBlock) (hf:bz w v v'):w'.heap[k]? = some (.cells cs T (0,0)):=(fz.app (fz.mk' h hn) hg hf).1
theorem fd {d B base:Nat} {l:List Fc} {f:Fc} {A:Option Addr} {c:Nat} {xf:Array Value} {Ar:Option Addr} {nr cr:Nat} {lf lr:Int}:∀i v w w',fxP d B base l f A c xf Ar nr cr lf lr i v w→Below w.heap.size w w'→fxP d B base l f A c xf Ar nr cr lf lr i v w'
 | 0,_,_,_,⟨h0,h1,b,e,h2,h3⟩,hb=>⟨zF h0 hb.size,h1,b,e,h2,jl h3 hb⟩
 | 1,_,_,_,⟨h0,h1,h2⟩,hb=>⟨zF h0 hb.size,h1,h2⟩
 | 2,_,_,_,⟨h0,h1,h2⟩,hb=>⟨zF h0 hb.size,h1,h2.later hb (zF h1 h0)⟩
 | 3,_,_,_,⟨h0,h1,h2⟩,hb=>⟨zF h0 hb.size,h1,h2⟩
 | 4,_,_,_,⟨h0,h1,b,e,h2,h3⟩,hb=>⟨zF h0 hb.size,h1,b,e,h2,jl h3 hb⟩
 | 5,_,_,_,⟨h0,h1,h2⟩,hb=>⟨zF h0 hb.size,h1,h2.later hb (zF h1 h0)⟩
 | 6,_,_,_,⟨h0,h1,h2⟩,hb=>⟨zF h0 hb.size,h1,h2⟩
 | 7,_,_,_,⟨h0,h1,h2⟩,hb=>⟨zF h0 hb.size,h1,h2⟩
 | 8,_,_,_,⟨h0,h1,h2⟩,hb=>⟨zF h0 hb.size,h1,h2⟩
 | _+9,_,_,_,⟨h0,h1,_⟩,hb=>⟨zF h0 hb.size,h1,trivial⟩
theorem bV {d B base:Nat} {l:List Fc} {f:Fc} {A:Option Addr} {c:Nat} {xf:Array Value} {Ar:Option Addr} {nr cr:Nat} {lf lr:Int} {rs:List OwD}:∀i v w w',fxQ d B base l f A c xf Ar nr cr lf lr rs i v w→Below w.heap.size w w'→fxQ d B base l f A c xf Ar nr cr lf lr rs i v w'
 | 0,_,_,_,⟨h0,h1,b,e,h2,h3⟩,hb=>⟨zF h0 hb.size,h1,b,e,h2,jl h3 hb⟩
 | 1,_,_,_,⟨h0,h1,h2⟩,hb=>⟨zF h0 hb.size,h1,h2⟩
 | 2,_,_,_,⟨h0,h1,h2⟩,hb=>⟨zF h0 hb.size,h1,h2.later hb (zF h1 h0)⟩
 | 3,_,_,_,⟨h0,h1,h2⟩,hb=>⟨zF h0 hb.size,h1,h2⟩
 | 4,_,_,_,⟨h0,h1,b,e,h2,h3⟩,hb=>⟨zF h0 hb.size,h1,b,e,h2,jl h3 hb⟩
 | 5,_,_,_,⟨h0,h1,h2⟩,hb=>⟨zF h0 hb.size,h1,h2.later hb (zF h1 h0)⟩
 | 6,_,_,_,⟨h0,h1,h2⟩,hb=>⟨zF h0 hb.size,h1,h2⟩
 | 7,_,_,_,⟨h0,h1,h2⟩,hb=>⟨zF h0 hb.size,h1,h2⟩
 | 8,_,_,_,⟨h0,h1,p,e,h2⟩,hb=>⟨zF h0 hb.size,h1,p,e,h2.later hb⟩
 | 9,_,_,_,⟨h0,h1,p,e,h2⟩,hb=>⟨zF h0 hb.size,h1,p,e,h2.later hb⟩
 | 10,_,_,_,⟨h0,h1,p,e,h2⟩,hb=>⟨zF h0 hb.size,h1,p,e,h2.later hb⟩
 | 11,_,_,_,⟨h0,h1,h2⟩,hb=>⟨zF h0 hb.size,h1,h2⟩
 | 12,_,_,_,⟨h0,h1,h2⟩,hb=>⟨zF h0 hb.size,h1,h2⟩
 | 13,_,_,_,⟨h0,h1,p,e,h2⟩,hb=>⟨zF h0 hb.size,h1,p,e,h2.later hb⟩
 | 14,_,_,_,⟨h0,h1,h2⟩,hb=>⟨zF h0 hb.size,h1,h2⟩
 | _+15,_,_,_,⟨h0,h1,_⟩,hb=>⟨zF h0 hb.size,h1,trivial⟩
theorem tb {d B c cr:Nat} {l:List Fc} {A:Option Addr} {rs:List OwD} {Ar:Option Addr} {lf lr:Int} {f:Fc} {vf:List Value} {m:Int} {w:World} (HAW:∀w1:World,Below w.heap.size w w1→Calls Tryz.prog 39 #[] w1 fun z w'=>z=.returned (.bool true)∧Below w1.heap.size w1 w')
 (hl:RL (ay (d+1)) w B l A) (hn48:l.length*48≤140737488351232) (hr:RL (OwR (d+1)) w B rs Ar) (hrn:rs.length≤140737488351232) (hlf:I64 lf) (hlr:I64 lr) (hf:(ay (d+1)).rd w B f vf) (h40:∀g∈l++[f],g.pr.terms.length*40≤140737488351232) (hB:B≤w.heap.size) (hm:w.cell? ⟨0,0,none⟩=some (.int .i64 m)) (hp:0<w.heap.size) :
 Calls Tryz.prog 13 #[.slice A l.length c,.slice Ar rs.length cr,.agg #[.int .i64 lf,.int .i64 lr],.agg vf.toArray] w fun z w'=>z=.returned (.bool true)∧Below w.heap.size w w':=by
 have HAWH:=zE HAW
 have HL:=zE hl
 have HR:=zE hr
 have HF:=zE hf
 have HM:=zE hm
 have H40:=zE h40
 have HIN:Hid (∀g∈l++[f],sA g):=zE (fun g hg=>by
  rcases List.mem_append.1 hg with h | h
  ·obtain ⟨i,hi,rfl⟩:=List.getElem_of_mem h
   obtain ⟨b,off,_,_,hc⟩:=hl (by omega)
   obtain ⟨vs,_,⟨x,hx,hr⟩,_⟩:=hc i hi
   obtain ⟨_,rfl⟩:=List.getElem?_eq_some_iff.1 hx
   exact qH hr
  ·obtain rfl:=List.mem_singleton.1 h
   exact qH hf)
 clear HAW hl hm hr h40
 obtain ⟨i0,hi0,hz0,hz1,hz2⟩:=info_parts fe
 obtain ⟨Af,cf,rfl,_⟩:=aO hf
 clear hf
 go_enter Tryz.func13,Tryz.ntmps13
 go_upto_region 1 with fail
 generalize hW:World.alloc _ _=w1
 obtain ⟨hb1,hz⟩:=al2 hW
 have HK1:=zE (n21 hW)
 have HG1:=zE (n22 hW)
 have HB1:=zE hb1
 have hsz1:=hb1.size
 clear hW hb1 hz
 have HBB:Hid (B≤w1.heap.size):=zE (zF hB hsz1)
 have HLW:=zE (HL.out.keep HB1.out hB)
 have HFW_:=zE ((ay (d+1)).keep HB1.out hB HF.out)
 have HRW:=zE (HR.out.keep HB1.out hB)
 have HBs:Hid (w1.heap.size≤w1.drew.heap.size):=zE (zG _)
 have HH0:Hid (w1.heap.size≤w1.drew.heap.size):=zE (zG _)
 have HDR:Hid (Below w1.heap.size w1 w1.drew):=zE (zI _ _).drew
 refine cT 9 (fxP d B w1.heap.size l f A c #[.string f.pr.name,.slice Af f.pr.terms.length cf,.int .u32 f.o] Ar rs.length cr lf lr) [2,5] (w1.heap.size) (zG _) (by kernel_rfl) (by kernel_rfl) (by kernel_rfl) (by kernel_rfl) (by kernel_rfl) rfl (ac (ac (ac (ac (ac (ac (ac (ac (ac gp ?op0_) ?op1_) ?op2_) ?op3_) ?op4_) ?op5_) ?op6_) ?op7_) ?op8_) ?last_
 case op0_=>
  refine ⟨_,rfl,fun T w' hk hb hgr hd K hK=>?_⟩
  rw [if_pos (show Region.wanted _ _=true from rfl)]
  clear hk hd
  go_simp
  generalize hW:World.alloc _ _=w4
  obtain ⟨hb4,hz4⟩:=al1 hW
  have hN4:=hW▸heap_alloc_new w' _
  clear hW
  exact hK.out _ _ (Moved.grow fd HH0.out hb hb4) ⟨zF HBs.out (zF hb.size hb4.size),HBB.out,_,rfl,hb.size,hN4⟩
 case op1_=>
  refine ⟨_,rfl,fun T w' hk hb hgr hd K hK=>?_⟩
  rw [if_pos (show Region.wanted _ _=true from rfl)]
  have h0:T.getD 0 undef=.slice A l.length c:=hk.2 0 (by kernel_rfl)
  rw [Array.getD_eq_getD_getElem?] at h0
  clear hk hd
  go_simp
  exact hK.out _ _ (Moved.grow fd HH0.out hb (zI _ _)) ⟨zF HBs.out hb.size,HBB.out,rfl⟩
 case op2_=>
  refine ⟨_,rfl,fun T w' hk hb hgr hd K hK=>?_⟩
  rw [if_pos (show Region.wanted _ _=true from rfl)]
  have d0:=hd 0 (of_decide_eq_true (by kernel_rfl))
  have d1:=hd 1 (of_decide_eq_true (by kernel_rfl))
  obtain ⟨_,_,b0,e0,hb0,hc0⟩:=d0
  replace d1:T.getD 23 undef=_:=d1.2.2
  refine cI (R:=ay (d+1)) (e:=33) (.tmp 22) (.tmp 23) 22 rfl (bytes:=48) Tryz.underlying22 hi0 hz0 hz1 hz2 rfl (show 0<3 by omega) (eA _) (xs:=[]) (base:=w1.heap.size) (B:=B) (v:=.slice (some ⟨b0,0,none⟩) 0 0) (by exact e0) (ar.empty _ _ hc0 hb0 B) (by exact d1) (ys:=l) (HLW.out.keep (HDR.out.trans hb) HBB.out).src rfl HBB.out (by simp<;>omega) (by omega) hb.size ?_
  intro v_1 w4 hown hb4 hg hf
  have hsz:=hb4.size
  refine hK.out _ _ (Moved.keep (hb.trans hb4) rfl [3,4,6,7] (by kernel_rfl) ?_) ⟨zF HBs.out (zF hb.size hb4.size),HBB.out,hown⟩
  intro j hj
  simp only [List.mem_cons,List.not_mem_nil,or_false] at hj
  rcases hj with rfl | rfl | rfl | rfl
  ·exact fun h=>⟨zF h.1 hsz,h.2⟩
  ·exact fun ⟨h0,h1,b,e,h2,h3⟩=>⟨zF h0 hsz,h1,b,e,h2,uz h3 (fun h=>at_ne hc0 h3 (by simp) (by cases h;rfl)) hg hf⟩
  ·exact fun h=>⟨zF h.1 hsz,h.2⟩
  ·exact fun h=>⟨zF h.1 hsz,h.2⟩
 case op3_=>
  refine ⟨_,rfl,fun T w' hk hb hgr hd K hK=>?_⟩
  rw [if_pos (show Region.wanted _ _=true from rfl)]
  have h7:T.getD 7 undef=.pointer (some ⟨w.heap.size+1,0,none⟩):=hk.2 7 (by kernel_rfl)
  rw [Array.getD_eq_getD_getElem?] at h7
  have k_g:=(HG1.out.later (HDR.out.trans hb)).cell
  have l_g:=(HG1.out.later (HDR.out.trans hb)).lt
  clear hk hd
  go_simp
  exact hK.out _ _ (Moved.grow fd HH0.out hb (zI _ _)) ⟨zF HBs.out hb.size,HBB.out,rfl⟩
 case op4_=>
  refine ⟨_,rfl,fun T w' hk hb hgr hd K hK=>?_⟩
  rw [if_pos (show Region.wanted _ _=true from rfl)]
  have d3:=hd 3 (of_decide_eq_true (by kernel_rfl))
  replace d3:T.getD 25 undef=.agg #[.string f.pr.name,.slice Af f.pr.terms.length cf,.int .u32 f.o]:=d3.2.2
  rw [Array.getD_eq_getD_getElem?] at d3
  clear hk hd
  go_simp
  generalize hW:World.alloc _ _=w4
  obtain ⟨hb4,hz4⟩:=al1 hW
  have hN4:=hW▸heap_alloc_new w' _
  clear hW
  exact hK.out _ _ (Moved.grow fd HH0.out hb hb4) ⟨zF HBs.out (zF hb.size hb4.size),HBB.out,_,rfl,hb.size,hN4⟩
 case op5_=>
  refine ⟨_,rfl,fun T w' hk hb hgr hd K hK=>?_⟩
  rw [if_pos (show Region.wanted _ _=true from rfl)]
  have d2:=hd 2 (of_decide_eq_true (by kernel_rfl))
  have d4:=hd 4 (of_decide_eq_true (by kernel_rfl))
  obtain ⟨_,_,b4,e4,hb4_,hc4⟩:=d4
  refine cI (R:=ay (d+1)) (e:=33) (.tmp 24) (.tmp 26) 22 rfl (bytes:=48) Tryz.underlying22 hi0 hz0 hz1 hz2 rfl (show 0<3 by omega) (eA _) (xs:=l) (base:=w1.heap.size) (B:=B) (v:=T.getD 24 undef) (by rfl) d2.2.2 (by exact e4) (ys:=[f]) (xk hc4 (bE.one (R:=ay (d+1)) ((ay (d+1)).keep (HDR.out.trans hb) HBB.out HFW_.out))) rfl HBB.out (by simp<;>omega) (by omega) hb.size ?_
  intro v_1 w4 hown hb4 hg hf
  have hsz:=hb4.size
  refine hK.out _ _ (Moved.keep (hb.trans hb4) rfl [6,7] (by kernel_rfl) ?_) ⟨zF HBs.out (zF hb.size hb4.size),HBB.out,hown⟩
  intro j hj
  simp only [List.mem_cons,List.not_mem_nil,or_false] at hj
  rcases hj with rfl | rfl
  ·exact fun h=>⟨zF h.1 hsz,h.2⟩
  ·exact fun h=>⟨zF h.1 hsz,h.2⟩
 case op6_=>
  refine ⟨_,rfl,fun T w' hk hb hgr hd K hK=>?_⟩
  rw [if_pos (show Region.wanted _ _=true from rfl)]
  have h1:T.getD 1 undef=.slice Ar rs.length cr:=hk.2 1 (by kernel_rfl)
  rw [Array.getD_eq_getD_getElem?] at h1
  clear hk hd
  go_simp
  exact hK.out _ _ (Moved.grow fd HH0.out hb (zI _ _)) ⟨zF HBs.out hb.size,HBB.out,rfl⟩
 case op7_=>
  refine ⟨_,rfl,fun T w' hk hb hgr hd K hK=>?_⟩
  rw [if_pos (show Region.wanted _ _=true from rfl)]
  have h6:T.getD 6 undef=.pointer (some ⟨w.heap.size,0,none⟩):=hk.2 6 (by kernel_rfl)
  rw [Array.getD_eq_getD_getElem?] at h6
  have k_m:=(HK1.out.later (HDR.out.trans hb)).cell
  have l_m:=(HK1.out.later (HDR.out.trans hb)).lt
  clear hk hd
  go_simp
  exact hK.out _ _ (Moved.grow fd HH0.out hb (zI _ _)) ⟨zF HBs.out hb.size,HBB.out,rfl⟩
 case op8_=>
  refine ⟨_,rfl,fun T w' hk hb hgr hd K hK=>?_⟩
  rw [if_pos (show Region.wanted _ _=true from rfl)]
  have d5:=hd 5 (of_decide_eq_true (by kernel_rfl))
  have d6:=hd 6 (of_decide_eq_true (by kernel_rfl))
  have d7:=hd 7 (of_decide_eq_true (by kernel_rfl))
  replace d5:=d5.2.2
  obtain ⟨A5,c5,e5⟩:=d5.form
  have hrd:RL (ay (d+1)) w' w'.heap.size (l++[f]) A5:=by
   have h:=d5.reads (zF HBB.out hb.size) (by show (l++[f]).length*(8*3)≤_;simp;omega)
   rw [show T.getD 27 undef=_ from e5] at h
   exact nS h
  have hrr:RL (OwR (d+1)) w' w'.heap.size rs Ar:=(HRW.out.keep (HDR.out.trans hb) HBB.out).wide (zF HBB.out hb.size)
  replace e5:T.getD 27 undef=.slice A5 (l++[f]).length c5:=e5
  rw [show (l++[f]).length=l.length+1 by simp] at e5
  replace d6:T.getD 28 undef=.slice Ar rs.length cr:=d6.2.2
  replace d7:T.getD 29 undef=.agg #[.int .i64 lf,.int .i64 lr]:=d7.2.2
  rw [Array.getD_eq_getD_getElem?] at e5
  rw [Array.getD_eq_getD_getElem?] at d6
  rw [Array.getD_eq_getD_getElem?] at d7
  have hcall:=vd (d:=d) (c:=c5) (cr:=cr) (lf:=lf) (lr:=lr) hrd hrr (zG _) (by simp;omega) (by omega)
  rw [show (l++[f]).length=l.length+1 by simp] at hcall
  clear hk hd d5 hrd hrr
  go_simp
  refine hcall.mono ?_
  rintro z w4 ⟨⟨q,rfl,hq⟩,hb4⟩
  exact hK.out _ _ (Moved.grow fd HH0.out hb hb4) ⟨zF HBs.out (zF hb.size hb4.size),HBB.out,q,rfl,hq⟩
 case last_=>
  refine ⟨_,rfl,fun T w' hk hb hgr hd K hK=>?_⟩
  rw [if_pos (show Region.wanted _ _=true from rfl)]
  have d8:=hd 8 (of_decide_eq_true (by kernel_rfl))
  obtain ⟨_,_,q,e30,hq⟩:=d8
  have HQ:=zE hq
  replace e30:T.getD 30 undef=_:=e30
  have e0:T.getD 0 undef=.slice A l.length c:=hk.2 0 (by kernel_rfl)
  have e1:T.getD 1 undef=.slice Ar rs.length cr:=hk.2 1 (by kernel_rfl)
  have e6:T.getD 6 undef=.pointer (some ⟨w.heap.size,0,none⟩):=hk.2 6 (by kernel_rfl)
  have e7:T.getD 7 undef=.pointer (some ⟨w.heap.size+1,0,none⟩):=hk.2 7 (by kernel_rfl)
  have hT:=jg hk.1
  obtain ⟨f_,hf_⟩:∃f_:Nat→Value,(fun t=>T.getD t undef)=f_:=⟨_,rfl⟩
  rw [hf_] at hT
  replace e0:f_ 0=_:=(congrFun hf_ 0).symm.trans e0
  replace e1:f_ 1=_:=(congrFun hf_ 1).symm.trans e1
  replace e6:f_ 6=_:=(congrFun hf_ 6).symm.trans e6
  replace e7:f_ 7=_:=(congrFun hf_ 7).symm.trans e7
  replace e30:f_ 30=_:=(congrFun hf_ 30).symm.trans e30
  replace hT:T=#[f_ 0,f_ 1,f_ 2,f_ 3,f_ 4,f_ 5,f_ 6,f_ 7,f_ 8,f_ 9,f_ 10,f_ 11,f_ 12,f_ 13,f_ 14,f_ 15,f_ 16,f_ 17,f_ 18,f_ 19,f_ 20,f_ 21,f_ 22,f_ 23,f_ 24,f_ 25,f_ 26,f_ 27,f_ 28,f_ 29,f_ 30,f_ 31,f_ 32,f_ 33,f_ 34,f_ 35,f_ 36,f_ 37,f_ 38,f_ 39,f_ 40,f_ 41,f_ 42,f_ 43,f_ 44,f_ 45,f_ 46,f_ 47,f_ 48,f_ 49,f_ 50,f_ 51,f_ 52,f_ 53,f_ 54,f_ 55,f_ 56,f_ 57,f_ 58,f_ 59,f_ 60,f_ 61,f_ 62,f_ 63,f_ 64,f_ 65,f_ 66,f_ 67,f_ 68,f_ 69,f_ 70,f_ 71,f_ 72,f_ 73,f_ 74,f_ 75,f_ 76,f_ 77,f_ 78,f_ 79,f_ 80,f_ 81,f_ 82,f_ 83,f_ 84,f_ 85,f_ 86,f_ 87,f_ 88,f_ 89,f_ 90,f_ 91,f_ 92,f_ 93,f_ 94,f_ 95,f_ 96,f_ 97,f_ 98,f_ 99,f_ 100,f_ 101,f_ 102,f_ 103,f_ 104,f_ 105,f_ 106,f_ 107,f_ 108,f_ 109,f_ 110]:=hT
  clear hf_
  subst hT
  rw [e0,e1,e6,e7,e30]
  clear hq hd hk
  go_simp
  refine hK.out _ _ ?_
  clear hK
  have HB12:=zE (HDR.out.trans hb)
  clear hb hgr
  generalize w'=w2 at *
  have HK2:=zE (HK1.out.later HB12.out)
  have HG2:=zE (HG1.out.later HB12.out)
  have HB2:=zE (ab HB1.out HB12.out)
  have hsz2:=HB2.out.size
  cases q
  ·clear HQ
   go_wp2_with fail
   refine (HAWH.out _ HB2.out).mono ?_
   rintro z w9 ⟨rfl,hb9⟩
   go_wp2_with fail
   go_ret
   exact ⟨rfl,ab HB2.out hb9⟩
  obtain ⟨hl6,hr4⟩:=HQ.out rfl
  clear HQ HDR HBs HBB HH0
  have k_m:=HK2.out.cell
  have l_m:=HK2.out.lt
  go_wp2_with fail
  refine (nV (d:=d) (B:=B) (l:=l) (A:=A) (c:=c) (rs:=rs) (Ar:=Ar) (cr:=cr) (HL.out.keep HB2.out hB) (HR.out.keep HB2.out hB) (by omega) (by omega) (by omega) (fun g hg=>H40.out g (by simp [hg])) hlf hlr ((HB2.out.cell (p:=⟨0,0,none⟩) hp).trans HM.out) (zJ hp hsz2)).mono ?_
  intro z w3 hrun
  obtain ⟨⟨p1,rfl,hp1⟩,hb3⟩:=hrun.p (fun g hg=>HIN.out g (by simp [hg]))
  have HP1:=zE hp1
  have HK3:=zE (HK2.out.later hb3)
  have HG3:=zE (HG2.out.later hb3)
  have HB3:=zE (ab HB2.out hb3)
  have hsz3:=HB3.out.size
  clear hrun hp1 hb3 k_m l_m
  have HBB:Hid (B≤w3.heap.size):=zE (by omega)
  have HLW:=zE (HL.out.keep HB3.out hB)
  have HRW:=zE (HR.out.keep HB3.out hB)
  have HFW_:=zE ((ay (d+1)).keep HB3.out hB HF.out)
  generalize hX1:eE l rs lf lr=X1 at *
  have HX1:=zE hX1
  clear hX1
  go_upto_region 4 with fail
  have HBs:Hid (w3.heap.size≤w3.drew.heap.size):=zE (zG _)
  have HH0:Hid (w3.heap.size≤w3.drew.heap.size):=zE (zG _)
  have HDR:Hid (Below w3.heap.size w3 w3.drew):=zE (zI _ _).drew
  refine gB 9 15 (fxQ d B w3.heap.size l f A c #[.string f.pr.name,.slice Af f.pr.terms.length cf,.int .u32 f.o] Ar rs.length cr lf lr rs) [2,5] (w3.heap.size) (zG _) (by kernel_rfl) (by kernel_rfl) (by kernel_rfl) (by kernel_rfl) (by kernel_rfl) rfl (ac (ac (ac (ac (ac (ac (ac (ac (ac (ac (ac (ac (ac (ac (ac gp ?op0_) ?op1_) ?op2_) ?op3_) ?op4_) ?op5_) ?op6_) ?op7_) ?op8_) ?op9_) ?op10_) ?op11_) ?op12_) ?op13_) ?op14_) ?last_
  case op0_=>
   refine ⟨_,rfl,fun T w' hk hb hgr hd K hK=>?_⟩
   rw [if_pos (show Region.wanted _ _=true from rfl)]
   clear hk hd
   go_simp
   generalize hW:World.alloc _ _=w4
   obtain ⟨hb4,hz4⟩:=al1 hW
   have hN4:=hW▸heap_alloc_new w' _
   clear hW
   exact hK.out _ _ (Moved.grow bV HH0.out hb hb4) ⟨zF HBs.out (zF hb.size hb4.size),HBB.out,_,rfl,hb.size,hN4⟩
  case op1_=>
   refine ⟨_,rfl,fun T w' hk hb hgr hd K hK=>?_⟩
   rw [if_pos (show Region.wanted _ _=true from rfl)]
   have h0:T.getD 0 undef=.slice A l.length c:=hk.2 0 (by kernel_rfl)
   rw [Array.getD_eq_getD_getElem?] at h0
   clear hk hd
   go_simp
   exact hK.out _ _ (Moved.grow bV HH0.out hb (zI _ _)) ⟨zF HBs.out hb.size,HBB.out,rfl⟩
  case op2_=>
   refine ⟨_,rfl,fun T w' hk hb hgr hd K hK=>?_⟩
   rw [if_pos (show Region.wanted _ _=true from rfl)]
   have d0:=hd 0 (of_decide_eq_true (by kernel_rfl))
   have d1:=hd 1 (of_decide_eq_true (by kernel_rfl))
   obtain ⟨_,_,b0,e0,hb0,hc0⟩:=d0
   replace d1:T.getD 43 undef=_:=d1.2.2
   refine cI (R:=ay (d+1)) (e:=33) (.tmp 42) (.tmp 43) 22 rfl (bytes:=48) Tryz.underlying22 hi0 hz0 hz1 hz2 rfl (show 0<3 by omega) (eA _) (xs:=[]) (base:=w3.heap.size) (B:=B) (v:=.slice (some ⟨b0,0,none⟩) 0 0) (by exact e0) (ar.empty _ _ hc0 hb0 B) (by exact d1) (ys:=l) (HLW.out.keep (HDR.out.trans hb) HBB.out).src rfl HBB.out (by simp<;>omega) (by omega) hb.size ?_
   intro v_1 w4 hown hb4 hg hf
   have hsz:=hb4.size
   refine hK.out _ _ (Moved.keep (hb.trans hb4) rfl [3,4,6,7] (by kernel_rfl) ?_) ⟨zF HBs.out (zF hb.size hb4.size),HBB.out,hown⟩
   intro j hj
   simp only [List.mem_cons,List.not_mem_nil,or_false] at hj
   rcases hj with rfl | rfl | rfl | rfl
   ·exact fun h=>⟨zF h.1 hsz,h.2⟩
   ·exact fun ⟨h0,h1,b,e,h2,h3⟩=>⟨zF h0 hsz,h1,b,e,h2,uz h3 (fun h=>at_ne hc0 h3 (by simp) (by cases h;rfl)) hg hf⟩
   ·exact fun h=>⟨zF h.1 hsz,h.2⟩
   ·exact fun h=>⟨zF h.1 hsz,h.2⟩
  case op3_=>
   refine ⟨_,rfl,fun T w' hk hb hgr hd K hK=>?_⟩
   rw [if_pos (show Region.wanted _ _=true from rfl)]
   have h7:T.getD 7 undef=.pointer (some ⟨w.heap.size+1,0,none⟩):=hk.2 7 (by kernel_rfl)
   rw [Array.getD_eq_getD_getElem?] at h7
   have k_g:=(HG3.out.later (HDR.out.trans hb)).cell
   have l_g:=(HG3.out.later (HDR.out.trans hb)).lt
   clear hk hd
   go_simp
   exact hK.out _ _ (Moved.grow bV HH0.out hb (zI _ _)) ⟨zF HBs.out hb.size,HBB.out,rfl⟩
  case op4_=>
   refine ⟨_,rfl,fun T w' hk hb hgr hd K hK=>?_⟩
   rw [if_pos (show Region.wanted _ _=true from rfl)]
   have d3:=hd 3 (of_decide_eq_true (by kernel_rfl))
   replace d3:T.getD 45 undef=.agg #[.string f.pr.name,.slice Af f.pr.terms.length cf,.int .u32 f.o]:=d3.2.2
   rw [Array.getD_eq_getD_getElem?] at d3
   clear hk hd
   go_simp
   generalize hW:World.alloc _ _=w4
   obtain ⟨hb4,hz4⟩:=al1 hW
   have hN4:=hW▸heap_alloc_new w' _
   clear hW
   exact hK.out _ _ (Moved.grow bV HH0.out hb hb4) ⟨zF HBs.out (zF hb.size hb4.size),HBB.out,_,rfl,hb.size,hN4⟩
  case op5_=>
   refine ⟨_,rfl,fun T w' hk hb hgr hd K hK=>?_⟩
   rw [if_pos (show Region.wanted _ _=true from rfl)]
   have d2:=hd 2 (of_decide_eq_true (by kernel_rfl))
   have d4:=hd 4 (of_decide_eq_true (by kernel_rfl))
   obtain ⟨_,_,b4,e4,hb4_,hc4⟩:=d4
   refine cI (R:=ay (d+1)) (e:=33) (.tmp 44) (.tmp 46) 22 rfl (bytes:=48) Tryz.underlying22 hi0 hz0 hz1 hz2 rfl (show 0<3 by omega) (eA _) (xs:=l) (base:=w3.heap.size) (B:=B) (v:=T.getD 44 undef) (by rfl) d2.2.2 (by exact e4) (ys:=[f]) (xk hc4 (bE.one (R:=ay (d+1)) ((ay (d+1)).keep (HDR.out.trans hb) HBB.out HFW_.out))) rfl HBB.out (by simp<;>omega) (by omega) hb.size ?_
   intro v_1 w4 hown hb4 hg hf
   have hsz:=hb4.size
   refine hK.out _ _ (Moved.keep (hb.trans hb4) rfl [6,7] (by kernel_rfl) ?_) ⟨zF HBs.out (zF hb.size hb4.size),HBB.out,hown⟩
   intro j hj
   simp only [List.mem_cons,List.not_mem_nil,or_false] at hj
   rcases hj with rfl | rfl
   ·exact fun h=>⟨zF h.1 hsz,h.2⟩
   ·exact fun h=>⟨zF h.1 hsz,h.2⟩
  case op6_=>
   refine ⟨_,rfl,fun T w' hk hb hgr hd K hK=>?_⟩
   rw [if_pos (show Region.wanted _ _=true from rfl)]
   have h1:T.getD 1 undef=.slice Ar rs.length cr:=hk.2 1 (by kernel_rfl)
   rw [Array.getD_eq_getD_getElem?] at h1
   clear hk hd
   go_simp
   exact hK.out _ _ (Moved.grow bV HH0.out hb (zI _ _)) ⟨zF HBs.out hb.size,HBB.out,rfl⟩
  case op7_=>
   refine ⟨_,rfl,fun T w' hk hb hgr hd K hK=>?_⟩
   rw [if_pos (show Region.wanted _ _=true from rfl)]
   have h6:T.getD 6 undef=.pointer (some ⟨w.heap.size,0,none⟩):=hk.2 6 (by kernel_rfl)
   rw [Array.getD_eq_getD_getElem?] at h6
   have k_m:=(HK3.out.later (HDR.out.trans hb)).cell
   have l_m:=(HK3.out.later (HDR.out.trans hb)).lt
   clear hk hd
   go_simp
   exact hK.out _ _ (Moved.grow bV HH0.out hb (zI _ _)) ⟨zF HBs.out hb.size,HBB.out,rfl⟩
  case op8_=>
   refine ⟨_,rfl,fun T w' hk hb hgr hd K hK=>?_⟩
   rw [if_pos (show Region.wanted _ _=true from rfl)]
   have d5:=hd 5 (of_decide_eq_true (by kernel_rfl))
   have d6:=hd 6 (of_decide_eq_true (by kernel_rfl))
   have d7:=hd 7 (of_decide_eq_true (by kernel_rfl))
   replace d5:=d5.2.2
   obtain ⟨A5,c5,e5⟩:=d5.form
   have hrd:RL (ay (d+1)) w' w'.heap.size (l++[f]) A5:=by
    have h:=d5.reads (zF HBB.out hb.size) (by show (l++[f]).length*(8*3)≤_;simp;omega)
    rw [show T.getD 47 undef=_ from e5] at h
    exact nS h
   have hrr:RL (OwR (d+1)) w' w'.heap.size rs Ar:=(HRW.out.keep (HDR.out.trans hb) HBB.out).wide (zF HBB.out hb.size)
   replace e5:T.getD 47 undef=.slice A5 (l++[f]).length c5:=e5
   rw [show (l++[f]).length=l.length+1 by simp] at e5
   replace d6:T.getD 48 undef=.slice Ar rs.length cr:=d6.2.2
   replace d7:T.getD 49 undef=.agg #[.int .i64 lf,.int .i64 lr]:=d7.2.2
   rw [Array.getD_eq_getD_getElem?] at e5
   rw [Array.getD_eq_getD_getElem?] at d6
   rw [Array.getD_eq_getD_getElem?] at d7
   have hcall:=nV (d:=d) (c:=c5) (cr:=cr) (lf:=lf) (lr:=lr) hrd hrr (zG _) (by simp;omega) (by omega) H40.out hlf hlr ((HB3.out.trans (HDR.out.mono hsz3 |>.trans (hb.mono hsz3))).cell (p:=⟨0,0,none⟩) hp |>.trans HM.out) (zJ hp (zF hsz3 hb.size))
   rw [show (l++[f]).length=l.length+1 by simp] at hcall
   clear hk hd d5 hrd hrr
   go_simp
   refine hcall.mono ?_
   intro z w4 hrun
   obtain ⟨⟨p2,rfl,hp2⟩,hb4⟩:=hrun.p HIN.out
   exact hK.out _ _ (Moved.grow bV HH0.out hb hb4) ⟨zF HBs.out (zF hb.size hb4.size),HBB.out,p2,rfl,hp2⟩
  case op9_=>
   refine ⟨_,rfl,fun T w' hk hb hgr hd K hK=>?_⟩
   rw [if_pos (show Region.wanted _ _=true from rfl)]
   have d8:=hd 8 (of_decide_eq_true (by kernel_rfl))
   obtain ⟨_,_,p2,e8,s2⟩:=d8
   replace e8:T.getD 50 undef=_:=e8
   rw [Array.getD_eq_getD_getElem?] at e8
   clear hk hd
   go_simp
   exact hK.out _ _ (Moved.grow bV HH0.out hb (zI _ _)) ⟨zF HBs.out hb.size,HBB.out,p2,rfl,s2⟩
  case op10_=>
   refine ⟨_,rfl,fun T w' hk hb hgr hd K hK=>?_⟩
   rw [if_pos (show Region.wanted _ _=true from rfl)]
   have d9:=hd 9 (of_decide_eq_true (by kernel_rfl))
   obtain ⟨_,_,p2,e9,s2⟩:=d9
   replace e9:T.getD 41 undef=_:=e9
   rw [Array.getD_eq_getD_getElem?] at e9
   clear hk hd
   go_simp
   exact hK.out _ _ (Moved.grow bV HH0.out hb (zI _ _)) ⟨zF HBs.out hb.size,HBB.out,p2,rfl,s2⟩
  case op11_=>
   refine ⟨_,rfl,fun T w' hk hb hgr hd K hK=>?_⟩
   rw [if_pos (show Region.wanted _ _=true from rfl)]
   have d9:=hd 9 (of_decide_eq_true (by kernel_rfl))
   obtain ⟨_,_,p2,e9,s2⟩:=d9
   replace e9:T.getD 41 undef=_:=e9
   rw [Array.getD_eq_getD_getElem?] at e9
   clear hk hd
   go_simp
   exact hK.out _ _ (Moved.grow bV HH0.out hb (zI _ _)) ⟨zF HBs.out hb.size,HBB.out,rfl⟩
  case op12_=>
   refine ⟨_,rfl,fun T w' hk hb hgr hd K hK=>?_⟩
   rw [if_pos (show Region.wanted _ _=true from rfl)]
   have d9:=hd 9 (of_decide_eq_true (by kernel_rfl))
   obtain ⟨_,_,p2,e9,s2⟩:=d9
   replace e9:T.getD 41 undef=_:=e9
   rw [Array.getD_eq_getD_getElem?] at e9
   clear hk hd
   go_simp
   exact hK.out _ _ (Moved.grow bV HH0.out hb (zI _ _)) ⟨zF HBs.out hb.size,HBB.out,rfl⟩
  case op13_=>
   refine ⟨_,rfl,fun T w' hk hb hgr hd K hK=>?_⟩
   rw [if_pos (show Region.wanted _ _=true from rfl)]
   have d10:=hd 10 (of_decide_eq_true (by kernel_rfl))
   obtain ⟨_,_,p2,e10,s2⟩:=d10
   replace e10:T.getD 51 undef=_:=e10
   rw [Array.getD_eq_getD_getElem?] at e10
   clear hk hd
   go_simp
   exact hK.out _ _ (Moved.grow bV HH0.out hb (zI _ _)) ⟨zF HBs.out hb.size,HBB.out,p2,rfl,s2⟩
  case op14_=>
   refine ⟨_,rfl,fun T w' hk hb hgr hd K hK=>?_⟩
   rw [if_pos (show Region.wanted _ _=true from rfl)]
   have d11:=hd 11 (of_decide_eq_true (by kernel_rfl))
   replace d11:T.getD 52 undef=.int .i64 (eE (l++[f]) rs lf lr).2.1:=d11.2.2
   rw [Array.getD_eq_getD_getElem?] at d11
   clear hk hd
   go_simp
   exact hK.out _ _ (Moved.grow bV HH0.out hb (zI _ _)) ⟨zF HBs.out hb.size,HBB.out,rfl⟩
  case last_=>
   refine ⟨_,rfl,fun T w' hk hb hgr hd K hK=>?_⟩
   rw [if_pos (show Region.wanted _ _=true from rfl)]
   have d12:=hd 12 (of_decide_eq_true (by kernel_rfl))
   have d13:=hd 13 (of_decide_eq_true (by kernel_rfl))
   replace d12:T.getD 53 undef=.int .i64 (eE (l++[f]) rs lf lr).2.2:=d12.2.2
   obtain ⟨_,_,p2,e12,s2⟩:=d13
   replace e12:T.getD 12 undef=_:=e12
   have HP2:=zE s2
   have e0:T.getD 0 undef=.slice A l.length c:=hk.2 0 (by kernel_rfl)
   have e1:T.getD 1 undef=.slice Ar rs.length cr:=hk.2 1 (by kernel_rfl)
   have e6:T.getD 6 undef=.pointer (some ⟨w.heap.size,0,none⟩):=hk.2 6 (by kernel_rfl)
   have e7:T.getD 7 undef=.pointer (some ⟨w.heap.size+1,0,none⟩):=hk.2 7 (by kernel_rfl)
   have e9:T.getD 9 undef=.pointer p1:=hk.2 9 (by kernel_rfl)
   have e10:T.getD 10 undef=.int .i64 X1.2.1:=hk.2 10 (by kernel_rfl)
   have e11:T.getD 11 undef=.int .i64 X1.2.2:=hk.2 11 (by kernel_rfl)
   have hT:=jg hk.1
   obtain ⟨f_,hf_⟩:∃f_:Nat→Value,(fun t=>T.getD t undef)=f_:=⟨_,rfl⟩
   rw [hf_] at hT
   replace e0:f_ 0=_:=(congrFun hf_ 0).symm.trans e0
   replace e1:f_ 1=_:=(congrFun hf_ 1).symm.trans e1
   replace e6:f_ 6=_:=(congrFun hf_ 6).symm.trans e6
   replace e7:f_ 7=_:=(congrFun hf_ 7).symm.trans e7
   replace e9:f_ 9=_:=(congrFun hf_ 9).symm.trans e9
   replace e10:f_ 10=_:=(congrFun hf_ 10).symm.trans e10
   replace e11:f_ 11=_:=(congrFun hf_ 11).symm.trans e11
   replace e12:f_ 12=_:=(congrFun hf_ 12).symm.trans e12
   replace d12:f_ 53=_:=(congrFun hf_ 53).symm.trans d12
   replace hT:T=#[f_ 0,f_ 1,f_ 2,f_ 3,f_ 4,f_ 5,f_ 6,f_ 7,f_ 8,f_ 9,f_ 10,f_ 11,f_ 12,f_ 13,f_ 14,f_ 15,f_ 16,f_ 17,f_ 18,f_ 19,f_ 20,f_ 21,f_ 22,f_ 23,f_ 24,f_ 25,f_ 26,f_ 27,f_ 28,f_ 29,f_ 30,f_ 31,f_ 32,f_ 33,f_ 34,f_ 35,f_ 36,f_ 37,f_ 38,f_ 39,f_ 40,f_ 41,f_ 42,f_ 43,f_ 44,f_ 45,f_ 46,f_ 47,f_ 48,f_ 49,f_ 50,f_ 51,f_ 52,f_ 53,f_ 54,f_ 55,f_ 56,f_ 57,f_ 58,f_ 59,f_ 60,f_ 61,f_ 62,f_ 63,f_ 64,f_ 65,f_ 66,f_ 67,f_ 68,f_ 69,f_ 70,f_ 71,f_ 72,f_ 73,f_ 74,f_ 75,f_ 76,f_ 77,f_ 78,f_ 79,f_ 80,f_ 81,f_ 82,f_ 83,f_ 84,f_ 85,f_ 86,f_ 87,f_ 88,f_ 89,f_ 90,f_ 91,f_ 92,f_ 93,f_ 94,f_ 95,f_ 96,f_ 97,f_ 98,f_ 99,f_ 100,f_ 101,f_ 102,f_ 103,f_ 104,f_ 105,f_ 106,f_ 107,f_ 108,f_ 109,f_ 110]:=hT
   clear hf_
   subst hT
   rw [e0,e1,e6,e7,e9,e10,e11,e12,d12]
   clear s2 hd hk
   go_simp
   refine hK.out _ _ ?_
   clear hK
   have HB35:=zE (HDR.out.trans hb)
   clear hb hgr
   generalize w'=w5 at *
   have HK5:=zE (HK3.out.later HB35.out)
   have HG5:=zE (HG3.out.later HB35.out)
   have HP15:=zE (HP1.out.later HB35.out)
   have HB5:=zE (ab HB3.out HB35.out)
   have hsz5:=HB5.out.size
   clear HDR HBs HBB HH0 HLW HRW HFW_ HP1
   generalize hX2:eE (l++[f]) rs lf lr=X2 at *
   have HX2:=zE hX2
   clear hX2
   have k_m:=HK5.out.cell
   have l_m:=HK5.out.lt
   go_wp2_with fail
   refine (nV (d:=d) (B:=B) (l:=l) (A:=A) (c:=c) (rs:=[]) (Ar:=none) (cr:=0) (HL.out.keep HB5.out hB) (fun h=>absurd h (by simp)) (by omega) (by omega) (by simp) (fun g hg=>H40.out g (by simp [hg])) hlf hlr ((HB5.out.cell (p:=⟨0,0,none⟩) hp).trans HM.out) (zJ hp hsz5)).mono ?_
   intro z w6 hrun
   obtain ⟨⟨p3,rfl,hp3⟩,hb6⟩:=hrun.p (fun g hg=>HIN.out g (by simp [hg]))
   have HP3:=zE hp3
   have HP16:=zE (HP15.out.later hb6)
   have HP26:=zE (HP2.out.later hb6)
   have HG6:=zE (HG5.out.later hb6)
   have HB6:=zE (ab HB5.out hb6)
   have hsz6:=HB6.out.size
   clear hrun hp3 hb6 k_m l_m HP15 HP2
   generalize hX3:eE l [] lf lr=X3 at *
   have HX3:=zE hX3
   clear hX3
   obtain ⟨s1,m1,e1⟩:=X1
   obtain ⟨s2,m2,e2⟩:=X2
   obtain ⟨s3,m3,e3⟩:=X3
   dsimp only
   by_cases h1:e1=0
   rotate_left
   ·have q1:(e1 !=0)=true:=by simpa using h1
    clear h1
    go_wp2_with fail
    refine (HAWH.out _ HB6.out).mono ?_
    rintro z w9 ⟨rfl,hb9⟩
    go_wp2_with fail
    go_ret
    exact ⟨rfl,ab HB6.out hb9⟩
   by_cases h2:e2=0
   rotate_left
   ·have q1:(e1 !=0)=false:=by simpa using h1
    have q2:(e2 !=0)=true:=by simpa using h2
    clear h1 h2
    go_wp2_with fail
    refine (HAWH.out _ HB6.out).mono ?_
    rintro z w9 ⟨rfl,hb9⟩
    go_wp2_with fail
    go_ret
    exact ⟨rfl,ab HB6.out hb9⟩
   subst h1
   subst h2
   obtain ⟨S1,base1,xs1,As1,cs1,rfl,ha1,hx1⟩:=HP16.out rfl
   obtain ⟨S2,base2,xs2,As2,cs2,rfl,ha2,hx2⟩:=HP26.out rfl
   have hx1':s1=some (xs1.map FV.f):=hx1
   have hx2':s2=some (xs2.map FV.f):=hx2
   subst hx1' hx2'
   obtain ⟨k1,k2,k3,k4,k5,u,k6,k7,k8,k9⟩:=yC HIN.out HX1.out HX2.out
   obtain ⟨_,_,i1,_,i2⟩:=pO (l:=l) (fun g hg=>HIN.out g (by simp [hg])) (by rw [HX1.out])
   obtain ⟨_,_,i3,_,i4⟩:=pO HIN.out (by rw [HX2.out])
   rw [HX3.out] at k6
   rw [HX1.out] at i1
   rw [HX2.out] at i3
   cases k6
   cases i1
   cases i3
   obtain ⟨S3,base3,xs3,As3,cs3,rfl,ha3,hx3⟩:=HP3.out rfl
   have hx3':u=xs3.map FV.f:=Option.some.inj hx3
   subst hx3'
   have HN:Hid (xs1.length≤1000∧xs2.length≤1000∧xs3.length≤xs1.length):=zE (by
    have a1:=i2.2.2.2.1
    have a2:=i2.1.few
    have a3:=i4.1.few
    simp only [vN,Bool.and_eq_true,decide_eq_true_eq] at a1
    rw [List.length_map] at a2 a3
    rw [List.length_map,List.length_map] at k9
    omega)
   have HH1:Hid (∀x∈xs1.map FV.f,fW (xs2.map FV.f) x=true∧x.pr.terms.length*40≤140737488351232):=zE (fun x hx=>⟨(k2.has (k1.ok x hx)).2 (k3 x hx),by have:=(k1.ok x hx).few;omega⟩)
   have HH3:Hid (∀x∈xs3.map FV.f,fW (xs1.map FV.f) x=true∧x.pr.terms.length*40≤140737488351232):=zE (fun x hx=>⟨(k1.has (k7.ok x hx)).2 (k8 x hx),by have:=(k7.ok x hx).few;omega⟩)
   have HHM:Hid (fW (xs2.map FV.f) f=true∧f.pr.terms.length*40≤140737488351232):=zE ⟨(k2.has k5).2 k4,by have:=k5.few;omega⟩
   have HA16:=zE ha1
   have HA26:=zE ha2
   have HA36:=zE ha3
   clear hx1 hx2 hx3 k1 k2 k3 k4 k5 k7 k8 k9 i2 i4 ha1 ha2 ha3 HX1 HX2 HX3 HP16 HP26 HP3
   go_wp2_with fail
   refine (pU HA16.out (by have:=HN.out;omega)).mono ?_
   rintro z w7 ⟨⟨ys1,Ay1,cy1,hy1,rfl,hr1⟩,hb_⟩
   have hyl1:ys1.length=xs1.length:=by simpa using congrArg List.length hy1
   have HRL1:Hid (RL (ay (d+1)) w7 w7.heap.size (xs1.map FV.f) Ay1):=zE (hy1▸nS (hr1.rl (by have:=HN.out;omega)))
   have HLM1:Hid ((xs1.map FV.f).length=xs1.length):=zE (List.length_map _)
   have HB7:=zE (ab HB6.out hb_)
   have HA17:=zE (HA16.out.later hb_)
   have HA27:=zE (HA26.out.later hb_)
   have HA37:=zE (HA36.out.later hb_)
   have HG7:=zE (HG6.out.later hb_)
   rw [hyl1]
   clear hb_ hr1 hy1 hyl1
   go_upto_region 9 with fail
   go_loopw [71] (fun i wr=>∃k:Nat,k≤xs1.length∧i=.int .i64 k∧Hid (Below w7.heap.size w7 wr)) (fun i _=>xs1.length-(intOf i).toNat)
   case atStart=>exact ⟨0,zH _,rfl,zE (zI _ _)⟩
   case round=>
    obtain ⟨k,hk,rfl,HW⟩:=hrel
    have hszr:=HW.out.size
    by_cases hlt:k<xs1.length
    ·obtain ⟨b,off,rfl,hob⟩:=(HRL1.out.keep HW.out (zG _)).base (zI _ _) hszr (by rw [HLM1.out];omega)
     obtain ⟨x,vs,hx,hlen,hcell,hr⟩:=(HRL1.out.keep HW.out (zG _)).at_ (zI _ _) hszr (by rw [HLM1.out];exact hlt)
     have HRX:=zE hr
     have HHX:=zE (HH1.out x (List.mem_of_getElem? hx))
     obtain ⟨Ax,cx,rfl,_⟩:=aO hr
     have p0:wr.cell? ⟨b,off+k*3,none⟩=some (.string x.pr.name):=hcell 0 _ rfl
     have p1:wr.cell? ⟨b,off+k*3+1,none⟩=some (.slice Ax x.pr.terms.length cx):=hcell 1 _ rfl
     have p2:wr.cell? ⟨b,off+k*3+2,none⟩=some (.int .u32 x.o):=hcell 2 _ rfl
     have hn_:=HN.out
     clear hcell hlen hx hr
     go_upto_region 11 with fail
     generalize hW:World.alloc _ _=w_8
     obtain ⟨hb8,hz8⟩:=al1 hW
     have HK8:=zE (n11 hW)
     have HW8:=zE (ab HW.out hb8)
     have HR8:=zE ((ay (d+1)).keep hb8 hszr HRX.out)
     have hsz8:=HW8.out.size
     clear hW hb8 hz8 p0 p1 p2
     have k_r:=HK8.out.cell
     have l_r:=HK8.out.lt
     go_wp2_with fail
     refine (eU (d:=d) (B:=w7.heap.size) (f:=x) (vf:=[_,_,_]) (HA27.out.later HW8.out) HR8.out hsz8 (by have:=HN.out;omega) HHX.out.2).mono ?_
     rintro z w_9 ⟨rfl,hb9⟩
     have HW9:=zE (ab HW8.out hb9)
     rw [HHX.out.1]
     clear hb9 k_r l_r
     go_wp2_with fail
     go_roundw
     case rel=>exact ⟨k+1,by omega,by go_num,HW9⟩
     case measure=>simp [intOf];omega
    ·generalize wr=w8 at *
     have HB8:=zE (ab HB7.out HW.out)
     have HA18:=zE (HA17.out.later HW.out)
     have HA28:=zE (HA27.out.later HW.out)
     have HA38:=zE (HA37.out.later HW.out)
     have HG8:=zE (HG7.out.later HW.out)
     go_wp2_with fail
     refine (pU HA38.out (by have:=HN.out;omega)).mono ?_
     rintro z w9 ⟨⟨ys3,Ay3,cy3,hy3,rfl,hr3⟩,hb_⟩
     have hyl3:ys3.length=xs3.length:=by simpa using congrArg List.length hy3
     have HRL3:Hid (RL (ay (d+1)) w9 w9.heap.size (xs3.map FV.f) Ay3):=zE (hy3▸nS (hr3.rl (by have:=HN.out;omega)))
     have HLM3:Hid ((xs3.map FV.f).length=xs3.length):=zE (List.length_map _)
     have HB9:=zE (ab HB8.out hb_)
     have HA19:=zE (HA18.out.later hb_)
     have HA29:=zE (HA28.out.later hb_)
     have HA39:=zE (HA38.out.later hb_)
     have HG9:=zE (HG8.out.later hb_)
     rw [hyl3]
     clear hb_ hr3 hy3 hyl3
     go_upto_region 17 with fail
     go_loopw [89] (fun i wr=>∃k:Nat,k≤xs3.length∧i=.int .i64 k∧Hid (Below w9.heap.size w9 wr)) (fun i _=>xs3.length-(intOf i).toNat)
     case atStart=>exact ⟨0,zH _,rfl,zE (zI _ _)⟩
     case round=>
      obtain ⟨k,hk,rfl,HW⟩:=hrel
      have hszr:=HW.out.size
      by_cases hlt:k<xs3.length
      ·obtain ⟨b,off,rfl,hob⟩:=(HRL3.out.keep HW.out (zG _)).base (zI _ _) hszr (by rw [HLM3.out];omega)
       obtain ⟨x,vs,hx,hlen,hcell,hr⟩:=(HRL3.out.keep HW.out (zG _)).at_ (zI _ _) hszr (by rw [HLM3.out];exact hlt)
       have HRX:=zE hr
       have HHX:=zE (HH3.out x (List.mem_of_getElem? hx))
       obtain ⟨Ax,cx,rfl,_⟩:=aO hr
       have p0:wr.cell? ⟨b,off+k*3,none⟩=some (.string x.pr.name):=hcell 0 _ rfl
       have p1:wr.cell? ⟨b,off+k*3+1,none⟩=some (.slice Ax x.pr.terms.length cx):=hcell 1 _ rfl
       have p2:wr.cell? ⟨b,off+k*3+2,none⟩=some (.int .u32 x.o):=hcell 2 _ rfl
       have hn_:=HN.out
       clear hcell hlen hx hr
       go_upto_region 19 with fail
       generalize hW:World.alloc _ _=w_8
       obtain ⟨hb8,hz8⟩:=al1 hW
       have HK8:=zE (n11 hW)
       have HW8:=zE (ab HW.out hb8)
       have HR8:=zE ((ay (d+1)).keep hb8 hszr HRX.out)
       have hsz8:=HW8.out.size
       clear hW hb8 hz8 p0 p1 p2
       have k_r:=HK8.out.cell
       have l_r:=HK8.out.lt
       go_wp2_with fail
       refine (eU (d:=d) (B:=w9.heap.size) (f:=x) (vf:=[_,_,_]) (HA19.out.later HW8.out) HR8.out hsz8 (by have:=HN.out;omega) HHX.out.2).mono ?_
       rintro z w_9 ⟨rfl,hb9⟩
       have HW9:=zE (ab HW8.out hb9)
       rw [HHX.out.1]
       clear hb9 k_r l_r
       go_wp2_with fail
       go_roundw
       case rel=>exact ⟨k+1,by omega,by go_num,HW9⟩
       case measure=>simp [intOf];omega
      ·generalize wr=w10 at *
       have HB10:=zE (ab HB9.out HW.out)
       have HA110:=zE (HA19.out.later HW.out)
       have HA210:=zE (HA29.out.later HW.out)
       have HA310:=zE (HA39.out.later HW.out)
       have HG10:=zE (HG9.out.later HW.out)
       go_wp2_with fail
       refine (gt HA310.out).mono ?_
       rintro z w_ ⟨rfl,rfl⟩
       go_wp2_with fail
       refine (gt HA110.out).mono ?_
       rintro z w_ ⟨rfl,rfl⟩
       have hle:(xs3.length:Int)≤(xs1.length:Int):=by have:=HN.out;omega
       have k_g:=HG10.out.cell
       have l_g:=HG10.out.lt
       go_wp2_with fail
       refine (eU (d:=d) (B:=B) (f:=f) (vf:=[_,_,_]) HA210.out ((ay (d+1)).keep HB10.out hB HF.out) (zF hB HB10.out.size) (by have:=HN.out;omega) HHM.out.2).mono ?_
       rintro z w11 ⟨rfl,hb11⟩
       have HB11:=zE (ab HB10.out hb11)
       rw [HHM.out.1]
       clear hb11 k_g l_g
       go_wp2_with fail
       refine (HAWH.out _ HB11.out).mono ?_
       rintro z w9 ⟨rfl,hb9⟩
       go_wp2_with fail
       go_ret
       exact ⟨rfl,ab HB11.out hb9⟩
end Go.Proofs.YtdphibjibnffeaaGreat
