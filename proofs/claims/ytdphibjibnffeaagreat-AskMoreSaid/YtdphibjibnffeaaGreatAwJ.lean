/- viaticumlaw19.awake. Printed by mk_awj.py. -/
import Derived.Test.YtdphibjibnffeaaGreatAkL
import Derived.Test.YtdphibjibnffeaaGreatLJoTurned
import Derived.Test.YtdphibjibnffeaaGreatPosts2
import Derived.Test.YtdphibjibnffeaaGreatLit
set_option linter.unusedVariables false
set_option linter.unusedSimpArgs false
set_option maxRecDepth 100000
set_option maxHeartbeats 8000000
namespace Go.Proofs.YtdphibjibnffeaaGreat
open Go.ChangeShapes Go.WideShapes Go.ChangeAt Go.RowKit
def amP (d B base:Nat) (l:List Fc) (f:Fc) (A:Option Addr) (c:Nat) (xf xr:Array Value) (i:Nat) (v:Value) (w:World):Prop:=base≤w.heap.size∧B≤base∧match i with
 | 0=>∃b,v=.slice (some ⟨b,0,none⟩) 0 0∧base≤b∧w.heap[b]? = some (.cells #[] 33 (0,0))
 | 1=>v=.slice A l.length c
 | 2=>am (ax (d+1)) 33 w base B v l
 | 3=>v=.agg xf
 | 4=>∃b,v=.slice (some ⟨b,0,none⟩) 1 1∧base≤b∧w.heap[b]? = some (.cells xf 33 (0,0))
 | 5=>am (ax (d+1)) 33 w base B v (l++[f])
 | 6=>v=.agg xr
 | 7=>∃b,v=.slice (some ⟨b,0,none⟩) 1 1∧base≤b∧w.heap[b]? = some (.cells xr 30 (0,0))
 | 8=>∃q:Bool,v=.bool q∧(q=true→l.length+1≤600)
 | _=>True
def amQ (d B base:Nat) (l:List Fc) (f:Fc) (A:Option Addr) (c:Nat) (xf:Array Value) (i:Nat) (v:Value) (w:World):Prop:=base≤w.heap.size∧B≤base∧match i with
 | 0=>∃b,v=.slice (some ⟨b,0,none⟩) 0 0∧base≤b∧w.heap[b]? = some (.cells #[] 33 (0,0))
 | 1=>v=.slice A l.length c
 | 2=>am (ax (d+1)) 33 w base B v l
 | 3=>v=.agg xf
 | 4=>∃b,v=.slice (some ⟨b,0,none⟩) 1 1∧base≤b∧w.heap[b]? = some (.cells xf 33 (0,0))
 | 5=>am (ax (d+1)) 33 w base B v (l++[f])
 | 6=>∃S M xs As cs,v=.tuple #[.pointer (some ⟨S,0,none⟩),.pointer (some ⟨M,0,none⟩)]∧StA (M+1) d w S xs As cs∧xs.map FV.f=stL (l++[f])
 | 7=>∃S M xs As cs,v=.tuple #[.pointer (some ⟨S,0,none⟩),.pointer (some ⟨M,0,none⟩)]∧StA (M+1) d w S xs As cs∧xs.map FV.f=stL (l++[f])
 | 8=>∃S M xs As cs,v=.pointer (some ⟨S,0,none⟩)∧StA (M+1) d w S xs As cs∧xs.map FV.f=stL (l++[f])
 | 9=>∃M,v=.pointer (some ⟨M,0,none⟩)
 | 10=>∃S M xs As cs,v=.pointer (some ⟨S,0,none⟩)∧StA (M+1) d w S xs As cs∧xs.map FV.f=stL (l++[f])
 | _=>True
theorem bare_rd {d B:Nat} {w:World} {r:Ru} {v0 v1 v2 v3 v4:Value} (h:(RuR d).rd w B r [v0,v1,v2,v3,v4]):(RuR d).rd w B (cH r) [v0,v1,v2,.slice none 0 0,v4]:=by
 obtain ⟨_,_,_,_,e,hs,h0,h1,_,h3⟩:=h
 simp only [List.cons.injEq,and_true] at e
 obtain ⟨rfl,rfl,rfl,rfl,rfl⟩:=e
 exact ⟨_,_,_,_,rfl,hs,h0,h1,⟨none,0,rfl,by simp [cH],by simp [cH,RSl],fun h=>absurd h (by simp [cH])⟩,h3⟩
theorem eU {d B base:Nat} {l:List Fc} {f:Fc} {A:Option Addr} {c:Nat} {xf xr:Array Value}:∀i v w w',amP d B base l f A c xf xr i v w→Below w.heap.size w w'→amP d B base l f A c xf xr i v w'
 | 0,_,_,_,⟨h0,h1,b,e,h2,h3⟩,hb=>⟨yX h0 hb.size,h1,b,e,h2,iY h3 hb⟩
 | 1,_,_,_,⟨h0,h1,h2⟩,hb=>⟨yX h0 hb.size,h1,h2⟩
 | 2,_,_,_,⟨h0,h1,h2⟩,hb=>⟨yX h0 hb.size,h1,h2.later hb (yX h1 h0)⟩
 | 3,_,_,_,⟨h0,h1,h2⟩,hb=>⟨yX h0 hb.size,h1,h2⟩
 | 4,_,_,_,⟨h0,h1,b,e,h2,h3⟩,hb=>⟨yX h0 hb.size,h1,b,e,h2,iY h3 hb⟩
 | 5,_,_,_,⟨h0,h1,h2⟩,hb=>⟨yX h0 hb.size,h1,h2.later hb (yX h1 h0)⟩
 | 6,_,_,_,⟨h0,h1,h2⟩,hb=>⟨yX h0 hb.size,h1,h2⟩
 | 7,_,_,_,⟨h0,h1,b,e,h2,h3⟩,hb=>⟨yX h0 hb.size,h1,b,e,h2,iY h3 hb⟩
 | 8,_,_,_,⟨h0,h1,h2⟩,hb=>⟨yX h0 hb.size,h1,h2⟩
 | _+9,_,_,_,⟨h0,h1,_⟩,hb=>⟨yX h0 hb.size,h1,trivial⟩
theorem dG {d B base:Nat} {l:List Fc} {f:Fc} {A:Option Addr} {c:Nat} {xf:Array Value}:∀i v w w',amQ d B base l f A c xf i v w→Below w.heap.size w w'→amQ d B base l f A c xf i v w'
 | 0,_,_,_,⟨h0,h1,b,e,h2,h3⟩,hb=>⟨yX h0 hb.size,h1,b,e,h2,iY h3 hb⟩
 | 1,_,_,_,⟨h0,h1,h2⟩,hb=>⟨yX h0 hb.size,h1,h2⟩
 | 2,_,_,_,⟨h0,h1,h2⟩,hb=>⟨yX h0 hb.size,h1,h2.later hb (yX h1 h0)⟩
 | 3,_,_,_,⟨h0,h1,h2⟩,hb=>⟨yX h0 hb.size,h1,h2⟩
 | 4,_,_,_,⟨h0,h1,b,e,h2,h3⟩,hb=>⟨yX h0 hb.size,h1,b,e,h2,iY h3 hb⟩
 | 5,_,_,_,⟨h0,h1,h2⟩,hb=>⟨yX h0 hb.size,h1,h2.later hb (yX h1 h0)⟩
 | 6,_,_,_,⟨h0,h1,S,M,xs,As,cs,e,h2,h3⟩,hb=>⟨yX h0 hb.size,h1,S,M,xs,As,cs,e,h2.later hb,h3⟩
 | 7,_,_,_,⟨h0,h1,S,M,xs,As,cs,e,h2,h3⟩,hb=>⟨yX h0 hb.size,h1,S,M,xs,As,cs,e,h2.later hb,h3⟩
 | 8,_,_,_,⟨h0,h1,S,M,xs,As,cs,e,h2,h3⟩,hb=>⟨yX h0 hb.size,h1,S,M,xs,As,cs,e,h2.later hb,h3⟩
 | 9,_,_,_,⟨h0,h1,h2⟩,hb=>⟨yX h0 hb.size,h1,h2⟩
 | 10,_,_,_,⟨h0,h1,S,M,xs,As,cs,e,h2,h3⟩,hb=>⟨yX h0 hb.size,h1,S,M,xs,As,cs,e,h2.later hb,h3⟩
 | _+11,_,_,_,⟨h0,h1,_⟩,hb=>⟨yX h0 hb.size,h1,trivial⟩
theorem rG {d B c:Nat} {l:List Fc} {A:Option Addr} {r:Ru} {vr:List Value} {f:Fc} {vf:List Value} {m:Int} {w:World} (HAW:∀w1:World,Below w.heap.size w w1→Calls Tryz.prog 26 #[] w1 fun z w'=>z=.returned (.bool true)∧Below w1.heap.size w1 w')
 (hl:RL (ax (d+1)) w B l A) (hn48:l.length*48≤140737488351232) (hr:(RuR (d+1)).rd w B r vr) (hf:(ax (d+1)).rd w B f vf) (hB:B≤w.heap.size) (hm:w.cell? ⟨0,0,none⟩=some (.int .i64 m)) (hp:0<w.heap.size) :
 Calls Tryz.prog 6 #[.slice A l.length c,.agg vr.toArray,.agg vf.toArray] w fun z w'=>z=.returned (.bool true)∧Below w.heap.size w w':=by
 have HAWH:=yW HAW
 have HL:=yW hl
 have HR:=yW hr
 have HF:=yW hf
 have HM:=yW hm
 clear HAW hl hm
 obtain ⟨i0,hi0,hz0,hz1,hz2⟩:=info_parts gB
 obtain ⟨_,_,_,_,rfl,_,⟨A0,c0,rfl,_⟩,⟨A1,c1,rfl,_⟩,⟨A2,c2,rfl,_⟩,⟨A3,c3,rfl,_⟩⟩:=hr
 obtain ⟨Af,cf,rfl,_⟩:=aI hf
 clear hf
 go_enter Tryz.func6,Tryz.ntmps6
 go_upto_region 1 with fail
 generalize hW:World.alloc _ _=w1
 obtain ⟨hb1,hz⟩:=al2 hW
 have HK1:=yW (n21 hW)
 have HG1:=yW (n22 hW)
 have HB1:=yW hb1
 have hsz1:=hb1.size
 clear hW hb1 hz
 have HBB:Hid (B≤w1.heap.size):=yW (yX hB hsz1)
 have HLW:=yW (HL.out.keep HB1.out hB)
 have HFW_:=yW ((ax (d+1)).keep HB1.out hB HF.out)
 have HRW:=yW ((RuR (d+1)).keep HB1.out hB HR.out)
 have HBs:Hid (w1.heap.size≤w1.drew.heap.size):=yW (yY _)
 have HH0:Hid (w1.heap.size≤w1.drew.heap.size):=yW (yY _)
 have HDR:Hid (Below w1.heap.size w1 w1.drew):=yW (za _ _).drew
 refine ej 9 (amP d B w1.heap.size l f A c #[.string f.pr.name,.slice Af f.pr.terms.length cf,.int .u32 f.o] #[.string r.head.name,.slice A0 r.head.terms.length c0,.slice A1 r.body.length c1,.slice A2 r.exprs.length c2,.slice A3 r.scopes.length c3]) [2,5] (w1.heap.size) (yY _) (by kernel_rfl) (by kernel_rfl) (by kernel_rfl) (by kernel_rfl) (by kernel_rfl) rfl (ae (ae (ae (ae (ae (ae (ae (ae (ae iK ?op0_) ?op1_) ?op2_) ?op3_) ?op4_) ?op5_) ?op6_) ?op7_) ?op8_) ?last_
 case op0_=>
  refine ⟨_,rfl,fun T w' hk hb hgr hd K hK=>?_⟩
  rw [if_pos (show Region.wanted _ _=true from rfl)]
  clear hk hd
  go_simp
  generalize hW:World.alloc _ _=w4
  obtain ⟨hb4,hz4⟩:=al1 hW
  have hN4:=hW▸heap_alloc_new w' _
  clear hW
  exact hK.out _ _ (Moved.grow eU HH0.out hb hb4) ⟨yX HBs.out (yX hb.size hb4.size),HBB.out,_,rfl,hb.size,hN4⟩
 case op1_=>
  refine ⟨_,rfl,fun T w' hk hb hgr hd K hK=>?_⟩
  rw [if_pos (show Region.wanted _ _=true from rfl)]
  have h0:T.getD 0 undef=.slice A l.length c:=hk.2 0 (by kernel_rfl)
  rw [Array.getD_eq_getD_getElem?] at h0
  clear hk hd
  go_simp
  exact hK.out _ _ (Moved.grow eU HH0.out hb (za _ _)) ⟨yX HBs.out hb.size,HBB.out,rfl⟩
 case op2_=>
  refine ⟨_,rfl,fun T w' hk hb hgr hd K hK=>?_⟩
  rw [if_pos (show Region.wanted _ _=true from rfl)]
  have d0:=hd 0 (of_decide_eq_true (by kernel_rfl))
  have d1:=hd 1 (of_decide_eq_true (by kernel_rfl))
  obtain ⟨_,_,b0,e0,hb0,hc0⟩:=d0
  replace d1:T.getD 21 undef=_:=d1.2.2
  refine bO (R:=ax (d+1)) (e:=33) (.tmp 20) (.tmp 21) 22 rfl (bytes:=48) Tryz.underlying22 hi0 hz0 hz1 hz2 rfl (show 0<3 by omega) (fg _) (xs:=[]) (base:=w1.heap.size) (B:=B) (v:=.slice (some ⟨b0,0,none⟩) 0 0) (by exact e0) (am.empty _ _ hc0 hb0 B) (by exact d1) (ys:=l) (HLW.out.keep (HDR.out.trans hb) HBB.out).src rfl HBB.out (by simp<;>omega) (by omega) hb.size ?_
  intro v_1 w4 hown hb4 hg hf
  have hsz:=hb4.size
  refine hK.out _ _ (Moved.keep (hb.trans hb4) rfl [3,4,6,7] (by kernel_rfl) ?_) ⟨yX HBs.out (yX hb.size hb4.size),HBB.out,hown⟩
  intro j hj
  simp only [List.mem_cons,List.not_mem_nil,or_false] at hj
  rcases hj with rfl | rfl | rfl | rfl
  ·exact fun h=>⟨yX h.1 hsz,h.2⟩
  ·exact fun ⟨h0,h1,b,e,h2,h3⟩=>⟨yX h0 hsz,h1,b,e,h2,lY h3 (fun h=>yI hc0 h3 (by simp) (by cases h;rfl)) hg hf⟩
  ·exact fun h=>⟨yX h.1 hsz,h.2⟩
  ·exact fun ⟨h0,h1,b,e,h2,h3⟩=>⟨yX h0 hsz,h1,b,e,h2,lY h3 (fun h=>yI hc0 h3 (by simp) (by cases h;rfl)) hg hf⟩
 case op3_=>
  refine ⟨_,rfl,fun T w' hk hb hgr hd K hK=>?_⟩
  rw [if_pos (show Region.wanted _ _=true from rfl)]
  have h5:T.getD 5 undef=.pointer (some ⟨w.heap.size+1,0,none⟩):=hk.2 5 (by kernel_rfl)
  rw [Array.getD_eq_getD_getElem?] at h5
  have k_g:=(HG1.out.later (HDR.out.trans hb)).cell
  have l_g:=(HG1.out.later (HDR.out.trans hb)).lt
  clear hk hd
  go_simp
  exact hK.out _ _ (Moved.grow eU HH0.out hb (za _ _)) ⟨yX HBs.out hb.size,HBB.out,rfl⟩
 case op4_=>
  refine ⟨_,rfl,fun T w' hk hb hgr hd K hK=>?_⟩
  rw [if_pos (show Region.wanted _ _=true from rfl)]
  have d3:=hd 3 (of_decide_eq_true (by kernel_rfl))
  replace d3:T.getD 23 undef=.agg #[.string f.pr.name,.slice Af f.pr.terms.length cf,.int .u32 f.o]:=d3.2.2
  rw [Array.getD_eq_getD_getElem?] at d3
  clear hk hd
  go_simp
  generalize hW:World.alloc _ _=w4
  obtain ⟨hb4,hz4⟩:=al1 hW
  have hN4:=hW▸heap_alloc_new w' _
  clear hW
  exact hK.out _ _ (Moved.grow eU HH0.out hb hb4) ⟨yX HBs.out (yX hb.size hb4.size),HBB.out,_,rfl,hb.size,hN4⟩
 case op5_=>
  refine ⟨_,rfl,fun T w' hk hb hgr hd K hK=>?_⟩
  rw [if_pos (show Region.wanted _ _=true from rfl)]
  have d2:=hd 2 (of_decide_eq_true (by kernel_rfl))
  have d4:=hd 4 (of_decide_eq_true (by kernel_rfl))
  obtain ⟨_,_,b4,e4,hb4_,hc4⟩:=d4
  refine bO (R:=ax (d+1)) (e:=33) (.tmp 22) (.tmp 24) 22 rfl (bytes:=48) Tryz.underlying22 hi0 hz0 hz1 hz2 rfl (show 0<3 by omega) (fg _) (xs:=l) (base:=w1.heap.size) (B:=B) (v:=T.getD 22 undef) (by rfl) d2.2.2 (by exact e4) (ys:=[f]) (yR hc4 (bg.one (R:=ax (d+1)) ((ax (d+1)).keep (HDR.out.trans hb) HBB.out HFW_.out))) rfl HBB.out (by simp<;>omega) (by omega) hb.size ?_
  intro v_1 w4 hown hb4 hg hf
  have hsz:=hb4.size
  refine hK.out _ _ (Moved.keep (hb.trans hb4) rfl [6,7] (by kernel_rfl) ?_) ⟨yX HBs.out (yX hb.size hb4.size),HBB.out,hown⟩
  intro j hj
  simp only [List.mem_cons,List.not_mem_nil,or_false] at hj
  rcases hj with rfl | rfl
  ·exact fun h=>⟨yX h.1 hsz,h.2⟩
  ·exact fun ⟨h0,h1,b,e,h2,h3⟩=>⟨yX h0 hsz,h1,b,e,h2,lY h3 (am.ne d2.2.2 h3 (by decide)) hg hf⟩
 case op6_=>
  refine ⟨_,rfl,fun T w' hk hb hgr hd K hK=>?_⟩
  rw [if_pos (show Region.wanted _ _=true from rfl)]
  have h4:T.getD 4 undef=.pointer (some ⟨w.heap.size,0,none⟩):=hk.2 4 (by kernel_rfl)
  rw [Array.getD_eq_getD_getElem?] at h4
  have k_r:=(HK1.out.later (HDR.out.trans hb)).cell
  have l_r:=(HK1.out.later (HDR.out.trans hb)).lt
  clear hk hd
  go_simp
  exact hK.out _ _ (Moved.grow eU HH0.out hb (za _ _)) ⟨yX HBs.out hb.size,HBB.out,rfl⟩
 case op7_=>
  refine ⟨_,rfl,fun T w' hk hb hgr hd K hK=>?_⟩
  rw [if_pos (show Region.wanted _ _=true from rfl)]
  have d6:=hd 6 (of_decide_eq_true (by kernel_rfl))
  replace d6:T.getD 26 undef=.agg #[.string r.head.name,.slice A0 r.head.terms.length c0,.slice A1 r.body.length c1,.slice A2 r.exprs.length c2,.slice A3 r.scopes.length c3]:=d6.2.2
  rw [Array.getD_eq_getD_getElem?] at d6
  clear hk hd
  go_simp
  generalize hW:World.alloc _ _=w4
  obtain ⟨hb4,hz4⟩:=al1 hW
  have hN4:=hW▸heap_alloc_new w' _
  clear hW
  exact hK.out _ _ (Moved.grow eU HH0.out hb hb4) ⟨yX HBs.out (yX hb.size hb4.size),HBB.out,_,rfl,hb.size,hN4⟩
 case op8_=>
  refine ⟨_,rfl,fun T w' hk hb hgr hd K hK=>?_⟩
  rw [if_pos (show Region.wanted _ _=true from rfl)]
  have d5:=hd 5 (of_decide_eq_true (by kernel_rfl))
  have d7:=hd 7 (of_decide_eq_true (by kernel_rfl))
  obtain ⟨_,_,b7,e7,hb7,hc7⟩:=d7
  replace d5:=d5.2.2
  obtain ⟨A5,c5,e5⟩:=d5.form
  have hrd:RL (ax (d+1)) w' w'.heap.size (l++[f]) A5:=by
   have h:=d5.reads (yX HBB.out hb.size) (by show (l++[f]).length*(8*3)≤_;simp;omega)
   have e5':T.getD 25 undef=.slice A5 (l++[f]).length c5:=e5
   rw [show T.getD (25) undef=_ from e5'] at h
   exact oU h rfl
  replace e5:T.getD 25 undef=.slice A5 (l++[f]).length c5:=e5
  replace e7:T.getD 27 undef=_:=e7
  rw [show (l++[f]).length=l.length+1 by simp] at e5
  rw [Array.getD_eq_getD_getElem?] at e5
  rw [Array.getD_eq_getD_getElem?] at e7
  have hrr:RSl (RuR (d+1)) w' w'.heap.size [r] (.slice (some ⟨b7,0,none⟩) [r].length 1):=kW (R:=RuR (d+1)) (c:=1) ((show Blk w' b7 _ from ⟨_,hc7⟩).rl (R:=RuR (d+1)) (x:=r) ((RuR (d+1)).wide (yX HBB.out hb.size) ((RuR (d+1)).keep (HDR.out.trans hb) HBB.out HRW.out)) (Array.getElem?_eq_some_iff.1 hc7).1) (by simp) (by simp [RuR]) (by omega)
  have hcall:=uw (d:=d) (c:=c5) (blk:=[]) (keys:=[]) (Ab:=none) (Ak:=none) (cb:=0) (ck:=0) hrd hrr (yY _) (by simp;omega)
  rw [show (l++[f]).length=l.length+1 by simp] at hcall
  clear hk hd d5 hrd hrr hc7
  go_simp
  refine hcall.mono ?_
  rintro z w4 ⟨⟨q,rfl,hq⟩,hb4⟩
  exact hK.out _ _ (Moved.grow eU HH0.out hb hb4) ⟨yX HBs.out (yX hb.size hb4.size),HBB.out,q,rfl,fun h=>(hq h).1⟩
 case last_=>
  refine ⟨_,rfl,fun T w' hk hb hgr hd K hK=>?_⟩
  rw [if_pos (show Region.wanted _ _=true from rfl)]
  have d8:=hd 8 (of_decide_eq_true (by kernel_rfl))
  obtain ⟨_,_,q,e8,hq⟩:=d8
  have HQ:=yW hq
  have e0:T.getD 0 undef=.slice A l.length c:=hk.2 0 (by kernel_rfl)
  have e4:T.getD 4 undef=.pointer (some ⟨w.heap.size,0,none⟩):=hk.2 4 (by kernel_rfl)
  have e5:T.getD 5 undef=.pointer (some ⟨w.heap.size+1,0,none⟩):=hk.2 5 (by kernel_rfl)
  replace e8:T.getD 28 undef=_:=e8
  have hT:=kg hk.1
  obtain ⟨f_,hf_⟩:∃f_:Nat→Value,(fun t=>T.getD t undef)=f_:=⟨_,rfl⟩
  rw [hf_] at hT
  replace e0:f_ 0=_:=(congrFun hf_ 0).symm.trans e0
  replace e4:f_ 4=_:=(congrFun hf_ 4).symm.trans e4
  replace e5:f_ 5=_:=(congrFun hf_ 5).symm.trans e5
  replace e8:f_ 28=_:=(congrFun hf_ 28).symm.trans e8
  replace hT:T=#[f_ 0,f_ 1,f_ 2,f_ 3,f_ 4,f_ 5,f_ 6,f_ 7,f_ 8,f_ 9,f_ 10,f_ 11,f_ 12,f_ 13,f_ 14,f_ 15,f_ 16,f_ 17,f_ 18,f_ 19,f_ 20,f_ 21,f_ 22,f_ 23,f_ 24,f_ 25,f_ 26,f_ 27,f_ 28,f_ 29,f_ 30,f_ 31,f_ 32,f_ 33,f_ 34,f_ 35,f_ 36,f_ 37,f_ 38,f_ 39,f_ 40,f_ 41,f_ 42,f_ 43,f_ 44,f_ 45,f_ 46,f_ 47,f_ 48,f_ 49,f_ 50,f_ 51,f_ 52,f_ 53,f_ 54,f_ 55,f_ 56,f_ 57,f_ 58,f_ 59,f_ 60,f_ 61,f_ 62,f_ 63,f_ 64,f_ 65,f_ 66,f_ 67,f_ 68,f_ 69,f_ 70,f_ 71,f_ 72,f_ 73,f_ 74,f_ 75,f_ 76,f_ 77,f_ 78,f_ 79,f_ 80,f_ 81,f_ 82,f_ 83,f_ 84,f_ 85,f_ 86,f_ 87,f_ 88,f_ 89,f_ 90,f_ 91,f_ 92,f_ 93,f_ 94,f_ 95,f_ 96,f_ 97,f_ 98,f_ 99,f_ 100,f_ 101,f_ 102,f_ 103,f_ 104,f_ 105,f_ 106,f_ 107,f_ 108,f_ 109,f_ 110,f_ 111,f_ 112,f_ 113,f_ 114,f_ 115]:=hT
  clear hf_
  subst hT
  rw [e0,e4,e5,e8]
  clear hq hd hk
  go_simp
  refine hK.out _ _ ?_
  clear hK
  have HB12:=yW (HDR.out.trans hb)
  clear hb
  generalize w'=w2 at *
  have HK2:=yW (HK1.out.later HB12.out)
  have HG2:=yW (HG1.out.later HB12.out)
  have HB2:=yW (ab HB1.out HB12.out)
  have hsz2:=HB2.out.size
  cases q
  ·clear HQ
   go_wp2_with fail
   refine (HAWH.out _ HB2.out).mono ?_
   rintro z w9 ⟨rfl,hb9⟩
   go_wp2_with fail
   go_ret
   exact ⟨rfl,ab HB2.out hb9⟩
  have hl6:l.length+1≤600:=HQ.out rfl
  clear HQ HDR HBs HBB HH0
  go_wp2_with fail
  refine (qa (d:=d) (B:=B) (l:=l) (A:=A) (c:=c) (HL.out.keep HB2.out hB) (by omega) (by omega)).mono ?_
  rintro z w3 ⟨S,M,xs,As,cs,ys,Am,cm,rfl,hT,hx,hy,hb3⟩
  have HT3:=yW hT.s
  have HX3:=yW hx
  have HK3:=yW (HK2.out.later hb3)
  have HG3:=yW (HG2.out.later hb3)
  have HB3:=yW (ab HB2.out hb3)
  have hsz3:=HB3.out.size
  clear hT hx hy hb3
  have HBB:Hid (B≤w3.heap.size):=yW (by omega)
  have HLW:=yW (HL.out.keep HB3.out hB)
  have HFW_:=yW ((ax (d+1)).keep HB3.out hB HF.out)
  go_upto_region 4 with fail
  have HBs:Hid (w3.heap.size≤w3.drew.heap.size):=yW (yY _)
  have HH0:Hid (w3.heap.size≤w3.drew.heap.size):=yW (yY _)
  have HDR:Hid (Below w3.heap.size w3 w3.drew):=yW (za _ _).drew
  refine ej 11 (amQ d B w3.heap.size l f A c #[.string f.pr.name,.slice Af f.pr.terms.length cf,.int .u32 f.o]) [2,5] (w3.heap.size) (yY _) (by kernel_rfl) (by kernel_rfl) (by kernel_rfl) (by kernel_rfl) (by kernel_rfl) rfl (ae (ae (ae (ae (ae (ae (ae (ae (ae (ae (ae iK ?op0_) ?op1_) ?op2_) ?op3_) ?op4_) ?op5_) ?op6_) ?op7_) ?op8_) ?op9_) ?op10_) ?last_
  case op0_=>
   refine ⟨_,rfl,fun T w' hk hb hgr hd K hK=>?_⟩
   rw [if_pos (show Region.wanted _ _=true from rfl)]
   clear hk hd
   go_simp
   generalize hW:World.alloc _ _=w4
   obtain ⟨hb4,hz4⟩:=al1 hW
   have hN4:=hW▸heap_alloc_new w' _
   clear hW
   exact hK.out _ _ (Moved.grow dG HH0.out hb hb4) ⟨yX HBs.out (yX hb.size hb4.size),HBB.out,_,rfl,hb.size,hN4⟩
  case op1_=>
   refine ⟨_,rfl,fun T w' hk hb hgr hd K hK=>?_⟩
   rw [if_pos (show Region.wanted _ _=true from rfl)]
   have h0:T.getD 0 undef=.slice A l.length c:=hk.2 0 (by kernel_rfl)
   rw [Array.getD_eq_getD_getElem?] at h0
   clear hk hd
   go_simp
   exact hK.out _ _ (Moved.grow dG HH0.out hb (za _ _)) ⟨yX HBs.out hb.size,HBB.out,rfl⟩
  case op2_=>
   refine ⟨_,rfl,fun T w' hk hb hgr hd K hK=>?_⟩
   rw [if_pos (show Region.wanted _ _=true from rfl)]
   have d0:=hd 0 (of_decide_eq_true (by kernel_rfl))
   have d1:=hd 1 (of_decide_eq_true (by kernel_rfl))
   obtain ⟨_,_,b0,e0,hb0,hc0⟩:=d0
   replace d1:T.getD 38 undef=_:=d1.2.2
   refine bO (R:=ax (d+1)) (e:=33) (.tmp 37) (.tmp 38) 22 rfl (bytes:=48) Tryz.underlying22 hi0 hz0 hz1 hz2 rfl (show 0<3 by omega) (fg _) (xs:=[]) (base:=w3.heap.size) (B:=B) (v:=.slice (some ⟨b0,0,none⟩) 0 0) (by exact e0) (am.empty _ _ hc0 hb0 B) (by exact d1) (ys:=l) (HLW.out.keep (HDR.out.trans hb) HBB.out).src rfl HBB.out (by simp<;>omega) (by omega) hb.size ?_
   intro v_1 w4 hown hb4 hg hf
   have hsz:=hb4.size
   refine hK.out _ _ (Moved.keep (hb.trans hb4) rfl [3,4] (by kernel_rfl) ?_) ⟨yX HBs.out (yX hb.size hb4.size),HBB.out,hown⟩
   intro j hj
   simp only [List.mem_cons,List.not_mem_nil,or_false] at hj
   rcases hj with rfl | rfl
   ·exact fun h=>⟨yX h.1 hsz,h.2⟩
   ·exact fun ⟨h0,h1,b,e,h2,h3⟩=>⟨yX h0 hsz,h1,b,e,h2,lY h3 (fun h=>yI hc0 h3 (by simp) (by cases h;rfl)) hg hf⟩
  case op3_=>
   refine ⟨_,rfl,fun T w' hk hb hgr hd K hK=>?_⟩
   rw [if_pos (show Region.wanted _ _=true from rfl)]
   have h5:T.getD 5 undef=.pointer (some ⟨w.heap.size+1,0,none⟩):=hk.2 5 (by kernel_rfl)
   rw [Array.getD_eq_getD_getElem?] at h5
   have k_g:=(HG3.out.later (HDR.out.trans hb)).cell
   have l_g:=(HG3.out.later (HDR.out.trans hb)).lt
   clear hk hd
   go_simp
   exact hK.out _ _ (Moved.grow dG HH0.out hb (za _ _)) ⟨yX HBs.out hb.size,HBB.out,rfl⟩
  case op4_=>
   refine ⟨_,rfl,fun T w' hk hb hgr hd K hK=>?_⟩
   rw [if_pos (show Region.wanted _ _=true from rfl)]
   have d3:=hd 3 (of_decide_eq_true (by kernel_rfl))
   replace d3:T.getD 40 undef=.agg #[.string f.pr.name,.slice Af f.pr.terms.length cf,.int .u32 f.o]:=d3.2.2
   rw [Array.getD_eq_getD_getElem?] at d3
   clear hk hd
   go_simp
   generalize hW:World.alloc _ _=w4
   obtain ⟨hb4,hz4⟩:=al1 hW
   have hN4:=hW▸heap_alloc_new w' _
   clear hW
   exact hK.out _ _ (Moved.grow dG HH0.out hb hb4) ⟨yX HBs.out (yX hb.size hb4.size),HBB.out,_,rfl,hb.size,hN4⟩
  case op5_=>
   refine ⟨_,rfl,fun T w' hk hb hgr hd K hK=>?_⟩
   rw [if_pos (show Region.wanted _ _=true from rfl)]
   have d2:=hd 2 (of_decide_eq_true (by kernel_rfl))
   have d4:=hd 4 (of_decide_eq_true (by kernel_rfl))
   obtain ⟨_,_,b4,e4,hb4_,hc4⟩:=d4
   refine bO (R:=ax (d+1)) (e:=33) (.tmp 39) (.tmp 41) 22 rfl (bytes:=48) Tryz.underlying22 hi0 hz0 hz1 hz2 rfl (show 0<3 by omega) (fg _) (xs:=l) (base:=w3.heap.size) (B:=B) (v:=T.getD 39 undef) (by rfl) d2.2.2 (by exact e4) (ys:=[f]) (yR hc4 (bg.one (R:=ax (d+1)) ((ax (d+1)).keep (HDR.out.trans hb) HBB.out HFW_.out))) rfl HBB.out (by simp<;>omega) (by omega) hb.size ?_
   intro v_1 w4 hown hb4 hg hf
   have hsz:=hb4.size
   refine hK.out _ _ (Moved.keep (hb.trans hb4) rfl [] (by kernel_rfl) ?_) ⟨yX HBs.out (yX hb.size hb4.size),HBB.out,hown⟩
   intro j hj
   simp at hj
  case op6_=>
   refine ⟨_,rfl,fun T w' hk hb hgr hd K hK=>?_⟩
   rw [if_pos (show Region.wanted _ _=true from rfl)]
   have d5:=hd 5 (of_decide_eq_true (by kernel_rfl))
   replace d5:=d5.2.2
   obtain ⟨A5,c5,e5⟩:=d5.form
   have hrd:RL (ax (d+1)) w' w'.heap.size (l++[f]) A5:=by
    have h:=d5.reads (yX HBB.out hb.size) (by show (l++[f]).length*(8*3)≤_;simp;omega)
    rw [show T.getD 42 undef=_ from e5] at h
    exact oU h rfl
   replace e5:T.getD 42 undef=.slice A5 (l++[f]).length c5:=e5
   rw [show (l++[f]).length=l.length+1 by simp] at e5
   rw [Array.getD_eq_getD_getElem?] at e5
   have hcall:=qa (c:=c5) hrd (yY _) (by simp;omega)
   rw [show (l++[f]).length=l.length+1 by simp] at hcall
   clear hk hd d5 hrd
   go_simp
   refine hcall.mono ?_
   rintro z w4 ⟨S2,M2,xs2,As2,cs2,ys2,Am2,cm2,rfl,hT,hx,hy,hb4⟩
   exact hK.out _ _ (Moved.grow dG HH0.out hb hb4) ⟨yX HBs.out (yX hb.size hb4.size),HBB.out,S2,M2,xs2,As2,cs2,rfl,hT.s,hx⟩
  case op7_=>
   refine ⟨_,rfl,fun T w' hk hb hgr hd K hK=>?_⟩
   rw [if_pos (show Region.wanted _ _=true from rfl)]
   have d6:=hd 6 (of_decide_eq_true (by kernel_rfl))
   obtain ⟨_,_,S2,M2,xs2,As2,cs2,e6,s1,s2⟩:=d6
   replace e6:T.getD 43 undef=_:=e6
   rw [Array.getD_eq_getD_getElem?] at e6
   clear hk hd
   go_simp
   exact hK.out _ _ (Moved.grow dG HH0.out hb (za _ _)) ⟨yX HBs.out hb.size,HBB.out,S2,M2,xs2,As2,cs2,rfl,s1,s2⟩
  case op8_=>
   refine ⟨_,rfl,fun T w' hk hb hgr hd K hK=>?_⟩
   rw [if_pos (show Region.wanted _ _=true from rfl)]
   have d7:=hd 7 (of_decide_eq_true (by kernel_rfl))
   obtain ⟨_,_,S2,M2,xs2,As2,cs2,e7,s1,s2⟩:=d7
   replace e7:T.getD 36 undef=_:=e7
   rw [Array.getD_eq_getD_getElem?] at e7
   clear hk hd
   go_simp
   exact hK.out _ _ (Moved.grow dG HH0.out hb (za _ _)) ⟨yX HBs.out hb.size,HBB.out,S2,M2,xs2,As2,cs2,rfl,s1,s2⟩
  case op9_=>
   refine ⟨_,rfl,fun T w' hk hb hgr hd K hK=>?_⟩
   rw [if_pos (show Region.wanted _ _=true from rfl)]
   have d7:=hd 7 (of_decide_eq_true (by kernel_rfl))
   obtain ⟨_,_,S2,M2,xs2,As2,cs2,e7,s1,s2⟩:=d7
   replace e7:T.getD 36 undef=_:=e7
   rw [Array.getD_eq_getD_getElem?] at e7
   clear hk hd
   go_simp
   exact hK.out _ _ (Moved.grow dG HH0.out hb (za _ _)) ⟨yX HBs.out hb.size,HBB.out,M2,rfl⟩
  case op10_=>
   refine ⟨_,rfl,fun T w' hk hb hgr hd K hK=>?_⟩
   rw [if_pos (show Region.wanted _ _=true from rfl)]
   have d8:=hd 8 (of_decide_eq_true (by kernel_rfl))
   obtain ⟨_,_,S2,M2,xs2,As2,cs2,e8,s1,s2⟩:=d8
   replace e8:T.getD 44 undef=_:=e8
   rw [Array.getD_eq_getD_getElem?] at e8
   clear hk hd
   go_simp
   exact hK.out _ _ (Moved.grow dG HH0.out hb (za _ _)) ⟨yX HBs.out hb.size,HBB.out,S2,M2,xs2,As2,cs2,rfl,s1,s2⟩
  case last_=>
   refine ⟨_,rfl,fun T w' hk hb hgr hd K hK=>?_⟩
   rw [if_pos (show Region.wanted _ _=true from rfl)]
   have d10:=hd 10 (of_decide_eq_true (by kernel_rfl))
   have d9:=hd 9 (of_decide_eq_true (by kernel_rfl))
   obtain ⟨_,_,S2,M2,xs2,As2,cs2,e9,s1,s2⟩:=d10
   obtain ⟨_,_,M3,e45⟩:=d9
   replace e9:T.getD 9 undef=_:=e9
   replace e45:T.getD 45 undef=_:=e45
   have HT5:=yW s1
   have HX5:=yW s2
   have e4:T.getD 4 undef=.pointer (some ⟨w.heap.size,0,none⟩):=hk.2 4 (by kernel_rfl)
   have e7:T.getD 7 undef=.pointer (some ⟨S,0,none⟩):=hk.2 7 (by kernel_rfl)
   have hT:=kg hk.1
   obtain ⟨f_,hf_⟩:∃f_:Nat→Value,(fun t=>T.getD t undef)=f_:=⟨_,rfl⟩
   rw [hf_] at hT
   replace e4:f_ 4=_:=(congrFun hf_ 4).symm.trans e4
   replace e7:f_ 7=_:=(congrFun hf_ 7).symm.trans e7
   replace e9:f_ 9=_:=(congrFun hf_ 9).symm.trans e9
   replace e45:f_ 45=_:=(congrFun hf_ 45).symm.trans e45
   replace hT:T=#[f_ 0,f_ 1,f_ 2,f_ 3,f_ 4,f_ 5,f_ 6,f_ 7,f_ 8,f_ 9,f_ 10,f_ 11,f_ 12,f_ 13,f_ 14,f_ 15,f_ 16,f_ 17,f_ 18,f_ 19,f_ 20,f_ 21,f_ 22,f_ 23,f_ 24,f_ 25,f_ 26,f_ 27,f_ 28,f_ 29,f_ 30,f_ 31,f_ 32,f_ 33,f_ 34,f_ 35,f_ 36,f_ 37,f_ 38,f_ 39,f_ 40,f_ 41,f_ 42,f_ 43,f_ 44,f_ 45,f_ 46,f_ 47,f_ 48,f_ 49,f_ 50,f_ 51,f_ 52,f_ 53,f_ 54,f_ 55,f_ 56,f_ 57,f_ 58,f_ 59,f_ 60,f_ 61,f_ 62,f_ 63,f_ 64,f_ 65,f_ 66,f_ 67,f_ 68,f_ 69,f_ 70,f_ 71,f_ 72,f_ 73,f_ 74,f_ 75,f_ 76,f_ 77,f_ 78,f_ 79,f_ 80,f_ 81,f_ 82,f_ 83,f_ 84,f_ 85,f_ 86,f_ 87,f_ 88,f_ 89,f_ 90,f_ 91,f_ 92,f_ 93,f_ 94,f_ 95,f_ 96,f_ 97,f_ 98,f_ 99,f_ 100,f_ 101,f_ 102,f_ 103,f_ 104,f_ 105,f_ 106,f_ 107,f_ 108,f_ 109,f_ 110,f_ 111,f_ 112,f_ 113,f_ 114,f_ 115]:=hT
   clear hf_
   subst hT
   rw [e4,e7,e9,e45]
   clear s1 s2 hd hk
   go_simp
   refine hK.out _ _ ?_
   clear hK
   have HB35:=yW (HDR.out.trans hb)
   clear hb
   generalize w'=w5 at *
   have HK5:=yW (HK3.out.later HB35.out)
   have HT4:=yW (HT3.out.later HB35.out)
   have HB5:=yW (ab HB3.out HB35.out)
   have hsz5:=HB5.out.size
   have HFW:Hid (xs.length≤100000∧xs2.length≤100000):=yW (by
    have h1:=nh l []
    have h2:=nh (l++[f]) []
    have h3:=congrArg List.length HX3.out
    have h4:=congrArg List.length HX5.out
    rw [List.length_map] at h3 h4
    unfold stL at h3 h4
    simp only [List.length_nil,List.length_append,List.length_cons] at h1 h2
    omega)
   have HLAW:Hid ((aV (xs2.map FV.f) 4294967295 r).2=0→(aV (xs.map FV.f) 4294967295 r).1=true→(aV (xs2.map FV.f) 4294967295 r).1=true):=yW (by
    rw [HX3.out,HX5.out,rv]
    exact sP (wq _ _))
   have HBR:Hid (r.body.length≠0→cV (xs.map FV.f) 4294967295 (cH r)=aV (xs.map FV.f) 4294967295 (cH r)):=yW (fun h=>sa h)
   have HQB:Hid ((aV (xs.map FV.f) 4294967295 r).2=0→(aV (xs.map FV.f) 4294967295 (cH r)).2=0→(aV (xs.map FV.f) 4294967295 r).1=true→(aV (xs.map FV.f) 4294967295 (cH r)).1=true):=yW sO
   have HRP:Hid (∀W:World,Below w.heap.size w W→(RuR (d+1)).rd W B r [.string r.head.name,.slice A0 r.head.terms.length c0,.slice A1 r.body.length c1,.slice A2 r.exprs.length c2,.slice A3 r.scopes.length c3]):=yW (fun W h=>(RuR (d+1)).keep h hB HR.out)
   clear HDR HBs HBB HLW HFW_ HG3 HH0
   have k_r:=HK5.out.cell
   have l_r:=HK5.out.lt
   go_wp2_with fail
   refine (iN (d:=d) (B:=B) (r:=r) (vr:=[_,_,_,_,_]) (tr:=4294967295) (HRP.out _ HB5.out) (yX hB HB5.out.size) HT4.out HFW.out.1 ((HB5.out.cell (p:=⟨0,0,none⟩) hp).trans HM.out) (zb hp HB5.out.size)).mono ?_
   rintro z w6 ⟨rfl,hb6⟩
   have HK6:=yW (HK5.out.later hb6)
   have HT6:=yW (HT4.out.later hb6)
   have HU6:=yW (HT5.out.later hb6)
   have HB6:=yW (ab HB5.out hb6)
   clear hb6 k_r l_r
   have k_r:=HK6.out.cell
   have l_r:=HK6.out.lt
   go_wp2_with fail
   refine (iN (d:=d) (B:=B) (r:=r) (vr:=[_,_,_,_,_]) (tr:=4294967295) (HRP.out _ HB6.out) (yX hB HB6.out.size) HU6.out HFW.out.2 ((HB6.out.cell (p:=⟨0,0,none⟩) hp).trans HM.out) (zb hp HB6.out.size)).mono ?_
   rintro z w7 ⟨rfl,hb7⟩
   have HK7:=yW (HK6.out.later hb7)
   have HT7:=yW (HT6.out.later hb7)
   have HB7:=yW (ab HB6.out hb7)
   clear hb7 k_r l_r
   generalize aV (xs2.map FV.f) 4294967295 r=Q2 at *
   generalize aV (xs.map FV.f) 4294967295 r=Q1 at *
   obtain ⟨a1,e1⟩:=Q1
   obtain ⟨a2,e2⟩:=Q2
   simp only at HLAW HQB
   dsimp only
   go_upto_region 7 with fail
   go_cut [59,60,61,62,63,64,65,66,67,68,69,70] (fun _ _ _ _ _ _ _ _ _ _ _ v wx=>v=.bool false∧w7=wx)
   case first=>
    by_cases h1:e1=0
    ·have q1:(e1==0)=true:=by simpa using h1
     by_cases h2:e2=0
     ·have q2:(e2==0)=true:=by simpa using h2
      cases a1
      ·clear h1 h2
       go_wp2_with fail
       go_meet
       exact ⟨rfl,rfl⟩
      ·obtain rfl:a2=true:=HLAW.out h2 rfl
       clear h1 h2
       go_wp2_with fail
       go_meet
       exact ⟨rfl,rfl⟩
     ·have q2:(e2==0)=false:=by simpa using h2
      clear h1 h2
      go_wp2_with fail
      go_meet
      exact ⟨rfl,rfl⟩
    ·have q1:(e1==0)=false:=by simpa using h1
     clear h1
     go_wp2_with fail
     go_meet
     exact ⟨rfl,rfl⟩
   case rest=>
    obtain ⟨rfl,rfl⟩:=hcut
    have k_r:=HK7.out.cell
    have l_r:=HK7.out.lt
    go_upto_region 10 with fail
    generalize hW:World.alloc _ _=w8
    obtain ⟨hb8,hz8⟩:=al1 hW
    have HP8:=yW (n11 hW)
    have HB8:=yW (ab HB7.out hb8)
    have HN8:=yW hb8
    have hszw:=HB7.out.size
    clear hW hb8 hz8 k_r l_r
    have k_p:=HP8.out.cell
    have f_p:=HP8.out.free
    have l_p:=HP8.out.lt
    go_upto_region 11 with fail
    have HP9:=yW (HP8.out.set_ 3 (.slice none 0 0))
    have hb9:Below w7.heap.size w8 (w8.setCell ⟨w7.heap.size,3,none⟩ (.slice none 0 0)):=(za _ _).setCell (p:=⟨w7.heap.size,3,none⟩) (yY _) _
    have HB9:Hid (Below w.heap.size w (w8.setCell ⟨w7.heap.size,3,none⟩ (.slice none 0 0))):=yW (HB8.out.trans (hb9.mono hszw))
    have HT9:Hid (StA (M+1) d (w8.setCell ⟨w7.heap.size,3,none⟩ (.slice none 0 0)) S xs As cs):=yW (HT7.out.later (HN8.out.trans hb9))
    generalize World.setCell w8 _ _=w9 at *
    clear hb9 k_p f_p l_p
    have k_p:=HP9.out.cell
    have l_p:=HP9.out.lt
    by_cases hbd:r.body.length=0
    ·have hb0:((r.body.length:Int)==0)=true:=by simp [hbd]
     clear hbd
     go_wp2_with fail
     refine (HAWH.out _ HB9.out).mono ?_
     rintro z wa ⟨rfl,hba⟩
     go_wp2_with fail
     go_ret
     exact ⟨rfl,ab HB9.out hba⟩
    have hb0:((r.body.length:Int)==0)=false:=by rw [beq_eq_false_iff_ne];omega
    have HEQ:=yW (HBR.out hbd)
    have HRB:Hid (∀W:World,Below w9.heap.size w9 W→(RuR (d+1)).rd W B (cH r) [.string r.head.name,.slice A0 r.head.terms.length c0,.slice A1 r.body.length c1,.slice none 0 0,.slice A3 r.scopes.length c3]):=yW (fun W h=>bare_rd (HRP.out W (ab HB9.out h)))
    clear hbd HBR
    go_wp2_with fail
    refine (iN (d:=d) (B:=B) (r:=cH r) (vr:=[_,_,_,_,_]) (tr:=4294967295) (HRB.out _ (za _ _)) (yX hB HB9.out.size) HT9.out HFW.out.1 ((HB9.out.cell (p:=⟨0,0,none⟩) hp).trans HM.out) (zb hp HB9.out.size)).mono ?_
    rintro z wa ⟨rfl,hba⟩
    have HPa:=yW (HP9.out.later hba)
    have HTa:=yW (HT9.out.later hba)
    have HBa:=yW (ab HB9.out hba)
    have HXa:=yW hba
    clear hba k_p l_p
    have k_p:=HPa.out.cell
    have l_p:=HPa.out.lt
    go_wp2_with fail
    have hev:=nV (d:=d) (B:=B) (r:=cH r) (vr:=[_,_,_,_,_]) (tr:=4294967295) (HRB.out _ HXa.out) (yX hB HBa.out.size) HTa.out HFW.out.1 ((HBa.out.cell (p:=⟨0,0,none⟩) hp).trans HM.out) (zb hp HBa.out.size)
    rw [HEQ.out] at hev
    refine hev.mono ?_
    rintro z wb ⟨rfl,hbb⟩
    have HBb:=yW (ab HBa.out hbb)
    clear hbb k_p l_p hev HEQ
    generalize aV (xs.map FV.f) 4294967295 (cH r)=Q3 at *
    obtain ⟨c3_,g3⟩:=Q3
    simp only at HQB
    dsimp only
    by_cases h1:e1=0
    rotate_left
    ·have q1:(e1 !=0)=true:=by simpa using h1
     clear h1
     go_wp2_with fail
     refine (HAWH.out _ HBb.out).mono ?_
     rintro z wc ⟨rfl,hbc⟩
     go_wp2_with fail
     go_ret
     exact ⟨rfl,ab HBb.out hbc⟩
    have q1:(e1 !=0)=false:=by simpa using h1
    by_cases h3:g3=0
    rotate_left
    ·have q3:(g3 !=0)=true:=by simpa using h3
     clear h1 h3
     go_wp2_with fail
     refine (HAWH.out _ HBb.out).mono ?_
     rintro z wc ⟨rfl,hbc⟩
     go_wp2_with fail
     go_ret
     exact ⟨rfl,ab HBb.out hbc⟩
    have q3:(g3 !=0)=false:=by simpa using h3
    cases a1
    ·clear h1 h3
     go_wp2_with fail
     refine (HAWH.out _ HBb.out).mono ?_
     rintro z wc ⟨rfl,hbc⟩
     go_wp2_with fail
     go_ret
     exact ⟨rfl,ab HBb.out hbc⟩
    ·obtain rfl:c3_=true:=HQB.out h1 h3 rfl
     clear h1 h3
     go_wp2_with fail
     refine (HAWH.out _ HBb.out).mono ?_
     rintro z wc ⟨rfl,hbc⟩
     go_wp2_with fail
     go_ret
     exact ⟨rfl,ab HBb.out hbc⟩
def awS:ByteArray:=⟨#[112]⟩
def awX:ByteArray:=⟨#[120]⟩
def awT (n:Int):Tm:=⟨2,n,⟨#[]⟩,[]⟩
def awV:Tm:=⟨1,0,awX,[]⟩
def awF (n:Int):Fc:=⟨⟨awS,[awT n]⟩,1⟩
def awA (n:Int):Ans:=⟨⟨[[120]],[awT n]⟩,1⟩
end Go.Proofs.YtdphibjibnffeaaGreat
