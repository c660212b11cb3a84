/- viaticumlaw22.AskFirst. Printed by mk_lasfirst.py. -/
import Derived.Test.YtdphibjibnffeaaGreatAwQ
import Derived.Test.YtdphibjibnffeaaGreatPosts2
set_option linter.unusedVariables false
set_option linter.unusedSimpArgs false
set_option maxRecDepth 100000
set_option maxHeartbeats 8000000
namespace Go.Proofs.YtdphibjibnffeaaGreat
open Go.ChangeShapes Go.WideShapes Go.ChangeAt Go.RowKit
theorem jl {n:Int} {w:World}:Calls Tryz.prog 75 #[.int .i64 n] w fun z w'=>z=.returned (.agg #[.int .i64 2,.int .i64 n,.string ⟨#[]⟩,.slice none 0 0])∧Below w.heap.size w w':=by
 go_enter Tryz.func75,Tryz.ntmps75
 go_upto_region 1 with fail
 generalize hW:World.alloc _ _=w1
 obtain ⟨hb1,hz⟩:=al1 hW
 have HS1:=zl (n11 hW)
 have HB1:=zl hb1
 clear hW hb1 hz
 have f_s:=HS1.out.free
 have k_s:=HS1.out.cell
 have l_s:=HS1.out.lt
 go_wp2_with fail
 refine bodyPost_ret (oZ rfl rfl ((((HS1.out.set_ 0 (.int .i64 2)).set_ 1 (.int .i64 n)).set_ 2 (.string ⟨#[]⟩)).set_ 3 (.slice none 0 0)) rfl) rfl ?_
 exact ⟨rfl,(((HB1.out.setCell (p:=⟨w.heap.size,0,none⟩) (zn _) _).setCell (p:=⟨w.heap.size,1,none⟩) (zn _) _).setCell (p:=⟨w.heap.size,2,none⟩) (zn _) _).setCell (p:=⟨w.heap.size,3,none⟩) (zn _) _⟩
theorem Blk.rlTwo {α:Type} {R:Reader α} {w:World} {B b:Nat} {x y:α} {us vs:List Value} {cells:Array Value} (h:Blk w b cells) (hc:cells.toList=us++vs) (hx:R.rd w B x us) (hy:R.rd w B y vs) (hb:b<B):RL R w B [x,y] (some ⟨b,0,none⟩):=fun _=>
 ⟨b,0,rfl,hb,fun i hi=>by
  have hi0:i=0∨i=1:=by simp at hi;omega
  have l1:=R.len hx
  rcases hi0 with rfl | rfl
  ·refine ⟨us,l1,⟨x,rfl,hx⟩,fun j v hj=>?_⟩
   have hl:=(List.getElem?_eq_some_iff.1 hj).1
   have e:0+0*R.k+j=j:=by omega
   rw [e,h.cell,←Array.getElem?_toList,hc,List.getElem?_append_left hl,hj]
  ·refine ⟨vs,R.len hy,⟨y,rfl,hy⟩,fun j v hj=>?_⟩
   have e:0+1*R.k+j=us.length+j:=by omega
   rw [e,h.cell,←Array.getElem?_toList,hc,List.getElem?_append_right (by omega),Nat.add_sub_cancel_left,hj]⟩
theorem aw_row2 {w:World} {T U G:Nat} (hT:Blk w T #[.int .i64 2,.int .i64 1,.string ⟨#[]⟩,.slice none 0 0]) (hU:Blk w U #[.int .i64 2,.int .i64 2,.string ⟨#[]⟩,.slice none 0 0]) (hG:Blk w G #[.string awS,.slice (some ⟨T,0,none⟩) 1 1,.int .u32 1,.string awS,.slice (some ⟨U,0,none⟩) 1 1,.int .u32 1]):RL (az 2) w w.heap.size [awF 1,awF 2] (some ⟨G,0,none⟩):=
 Blk.rlTwo hG (R:=az 2) (us:=[_,_,_]) (vs:=[_,_,_]) rfl (yK (f:=awF 1) (vm (by decide) (iI (R:=TmR 2) (c:=1) (hT.rl (R:=TmR 2) (x:=awT 1) (vn (by unfold I64;omega) (by unfold I64;omega) (by decide)) hT.lt) (by simp) (by simp [TmR]) (by omega))) (by unfold U32;simp [awF]))
  (yK (f:=awF 2) (vm (by decide) (iI (R:=TmR 2) (c:=1) (hU.rl (R:=TmR 2) (x:=awT 2) (vn (by unfold I64;omega) (by unfold I64;omega) (by decide)) hU.lt) (by simp) (by simp [TmR]) (by omega))) (by unfold U32;simp [awF])) hG.lt
def Rw1 (w:World) (v:Value):Prop:=∃b,v=.slice (some ⟨b,0,none⟩) 1 1∧Blk w b #[.int .i64 1,.int .i64 0,.string awX,.slice none 0 0]
def Rw2 (w:World) (v:Value):Prop:=∃b u,v=.slice (some ⟨b,0,none⟩) 1 1∧Blk w b #[.string awS,u]∧Rw1 w u
def Rw3 (w:World) (v:Value):Prop:=∃b,v=.slice (some ⟨b,0,none⟩) 3 3∧Blk w b #[.int .i64 1,.int .i64 1,.int .i64 0,.string awX,.slice none 0 0,.int .i64 0,.int .i64 0,.int .i64 1,.int .i64 2,.int .i64 2,.string ⟨#[]⟩,.slice none 0 0,.int .i64 0,.int .i64 0,.int .i64 3,.int .i64 0,.int .i64 0,.string ⟨#[]⟩,.slice none 0 0,.int .i64 1,.int .i64 0]
def Rw4 (w:World) (v:Value):Prop:=∃b u,v=.slice (some ⟨b,0,none⟩) 1 1∧Blk w b #[u]∧Rw3 w u
def tM (B:Nat) (i:Nat) (v:Value) (w:World):Prop:=match i with
 | 0=>v=.agg #[.int .i64 1,.int .i64 0,.string awX,.slice none 0 0]
 | 1=>Rw1 w v
 | 2=>∃u,v=.agg #[.string awS,u]∧Rw1 w u
 | 3=>Rw2 w v
 | 4=>v=.agg #[.int .i64 1,.int .i64 0,.string awX,.slice none 0 0]
 | 5=>v=.agg #[.int .i64 1,.int .i64 1,.int .i64 0,.string awX,.slice none 0 0,.int .i64 0,.int .i64 0]
 | 6=>v=.agg #[.int .i64 2,.int .i64 2,.string ⟨#[]⟩,.slice none 0 0]
 | 7=>v=.agg #[.int .i64 1,.int .i64 2,.int .i64 2,.string ⟨#[]⟩,.slice none 0 0,.int .i64 0,.int .i64 0]
 | 8=>v=.agg #[.int .i64 3,.int .i64 0,.int .i64 0,.string ⟨#[]⟩,.slice none 0 0,.int .i64 1,.int .i64 0]
 | 9=>Rw3 w v
 | 10=>∃u,v=.agg #[u]∧Rw3 w u
 | 11=>Rw4 w v
 | 12=>∃u1 u2,v=.agg #[.string ⟨#[]⟩,.slice none 0 0,u1,u2,.slice none 0 0]∧Rw2 w u1∧Rw4 w u2
 | 13=>∃p,v=.pointer (some ⟨p,0,none⟩)∧B≤p∧Blk w p #[.string ⟨#[]⟩,.slice none 0 0,.slice none 0 0,.slice none 0 0,.slice none 0 0]
 | _=>True
theorem Rw1.later {w w':World} {v:Value} (h:Rw1 w v) (hb:Below w.heap.size w w'):Rw1 w' v:=by obtain ⟨b,e,h⟩:=h;exact ⟨b,e,h.later hb⟩
theorem Rw2.later {w w':World} {v:Value} (h:Rw2 w v) (hb:Below w.heap.size w w'):Rw2 w' v:=by obtain ⟨b,u,e,h,h2⟩:=h;exact ⟨b,u,e,h.later hb,h2.later hb⟩
theorem Rw3.later {w w':World} {v:Value} (h:Rw3 w v) (hb:Below w.heap.size w w'):Rw3 w' v:=by obtain ⟨b,e,h⟩:=h;exact ⟨b,e,h.later hb⟩
theorem Rw4.later {w w':World} {v:Value} (h:Rw4 w v) (hb:Below w.heap.size w w'):Rw4 w' v:=by obtain ⟨b,u,e,h,h2⟩:=h;exact ⟨b,u,e,h.later hb,h2.later hb⟩
theorem pw (B:Nat):∀i v w w',tM B i v w→Below w.heap.size w w'→tM B i v w'
 | 0,_,_,_,h,_=>h
 | 1,_,_,_,h,hb=>Rw1.later h hb
 | 2,_,_,_,⟨u,e,h⟩,hb=>⟨u,e,h.later hb⟩
 | 3,_,_,_,h,hb=>Rw2.later h hb
 | 4,_,_,_,h,_=>h
 | 5,_,_,_,h,_=>h
 | 6,_,_,_,h,_=>h
 | 7,_,_,_,h,_=>h
 | 8,_,_,_,h,_=>h
 | 9,_,_,_,h,hb=>Rw3.later h hb
 | 10,_,_,_,⟨u,e,h⟩,hb=>⟨u,e,h.later hb⟩
 | 11,_,_,_,h,hb=>Rw4.later h hb
 | 12,_,_,_,⟨u1,u2,e,h,h2⟩,hb=>⟨u1,u2,e,h.later hb,h2.later hb⟩
 | 13,_,_,_,⟨p,e,h,h2⟩,hb=>⟨p,e,h,h2.later hb⟩
 | _+14,_,_,_,_,_=>trivial
theorem Blk.rlAll {α:Type} {R:Reader α} {w:World} {B b:Nat} {xs:List α} {cells:Array Value} (h:Blk w b cells) (hf:bi R w B xs cells.toList) (hb:b<B):RL R w B xs (some ⟨b,0,none⟩):=fun _=>
 ⟨b,0,rfl,hb,fun i hi=>⟨_,R.len (hf.2 i hi),⟨xs[i],List.getElem?_eq_getElem hi,hf.2 i hi⟩,fun j v hj=>by
  rw [List.getElem?_take] at hj
  split at hj
  ·rw [List.getElem?_drop] at hj
   rw [Nat.zero_add,h.cell,←Array.getElem?_toList]
   exact hj
  ·cases hj⟩⟩
theorem mP {w:World} {B:Nat} {o:OpD} (d:Nat) (h1:I64 o.kind) (h2:I64 o.code) (h3:I64 o.skip) (k1:I64 o.term.kind) (k2:I64 o.term.n) (k3:o.term.s.size≤140737488351232) (k4:o.term.l=[]):(OpR (d+1)).rd w B o [.int .i64 o.kind,.int .i64 o.term.kind,.int .i64 o.term.n,.string o.term.s,.slice none 0 0,.int .i64 o.code,.int .i64 o.skip]:=by
 obtain ⟨k,⟨tk,n,s,l⟩,c,sk⟩:=o
 simp only at k4
 subst k4
 exact ⟨[.int .i64 tk,.int .i64 n,.string s,.slice none 0 0],rfl,h1,h2,h3,none,0,rfl,zn _,⟨by simp,by omega⟩,k3,k1,k2,fun h=>absurd h (by simp)⟩
theorem Blk.sep {w:World} {b p:Nat} {vs us:Array Value} (h:Blk w b vs) (h2:Blk w p us) (hs:vs.size≠us.size):b≠p:=by
 rintro rfl
 obtain ⟨T,h⟩:=h
 obtain ⟨U,h2⟩:=h2
 rw [h] at h2
 simp only [Option.some.injEq,Obj.cells.injEq] at h2
 exact hs (by rw [h2.1])
theorem aw_ops {w:World} {b:Nat} (h:Blk w b #[.int .i64 1,.int .i64 1,.int .i64 0,.string awX,.slice none 0 0,.int .i64 0,.int .i64 0,.int .i64 1,.int .i64 2,.int .i64 2,.string ⟨#[]⟩,.slice none 0 0,.int .i64 0,.int .i64 0,.int .i64 3,.int .i64 0,.int .i64 0,.string ⟨#[]⟩,.slice none 0 0,.int .i64 1,.int .i64 0]):RL (OpR 2) w w.heap.size awE (some ⟨b,0,none⟩):=by
 have k1:(OpR 2).rd w w.heap.size ⟨1,awV,0,0⟩ _:=mP 1 (by unfold I64;simp) (by unfold I64;simp) (by unfold I64;simp) (by unfold I64;simp [awV]) (by unfold I64;simp [awV]) (by simp [awV,awX];decide) rfl
 have k2:(OpR 2).rd w w.heap.size ⟨1,awT 2,0,0⟩ _:=mP 1 (by unfold I64;simp) (by unfold I64;simp) (by unfold I64;simp) (by unfold I64;simp [awT]) (by unfold I64;simp [awT]) (by simp [awT];decide) rfl
 have k3:(OpR 2).rd w w.heap.size ⟨3,⟨0,0,⟨#[]⟩,[]⟩,1,0⟩ _:=mP 1 (by unfold I64;simp) (by unfold I64;simp) (by unfold I64;simp) (by unfold I64;simp) (by unfold I64;simp) (by simp;decide) rfl
 refine h.rlAll ⟨rfl,fun i hi=>?_⟩ h.lt
 match i,hi with
 | 0,_=>exact k1
 | 1,_=>exact k2
 | 2,_=>exact k3
theorem wP {B:Nat} {w w':World} {p b4 b6 b32 b34:Nat} {Z:Array Value} (hZ:Z.size=5) (hP:Blk w' p Z) (h4:Blk w' b4 #[.int .i64 1,.int .i64 0,.string awX,.slice none 0 0]) (h6:Blk w' b6 #[.string awS,.slice (some ⟨b4,0,none⟩) 1 1]) (h32:Blk w' b32 #[.int .i64 1,.int .i64 1,.int .i64 0,.string awX,.slice none 0 0,.int .i64 0,.int .i64 0,.int .i64 1,.int .i64 2,.int .i64 2,.string ⟨#[]⟩,.slice none 0 0,.int .i64 0,.int .i64 0,.int .i64 3,.int .i64 0,.int .i64 0,.string ⟨#[]⟩,.slice none 0 0,.int .i64 1,.int .i64 0]) (h34:Blk w' b34 #[.slice (some ⟨b32,0,none⟩) 3 3]) (hp:B≤p) (hb:Below B w w') {w4:World} (hw:w4=((((w'.setCell ⟨p,0,none⟩ (.string ⟨#[]⟩)).setCell ⟨p,1,none⟩ (.slice none 0 0)).setCell ⟨p,2,none⟩ (.slice (some ⟨b6,0,none⟩) 1 1)).setCell ⟨p,3,none⟩ (.slice (some ⟨b34,0,none⟩) 1 1)).setCell ⟨p,4,none⟩ (.slice none 0 0)) :
 (RuR 2).rd w4 w4.heap.size awQ [.string ⟨#[]⟩,.slice none 0 0,.slice (some ⟨b6,0,none⟩) 1 1,.slice (some ⟨b34,0,none⟩) 1 1,.slice none 0 0]∧Blk w4 p (((((Z.setIfInBounds 0 (.string ⟨#[]⟩)).setIfInBounds 1 (.slice none 0 0)).setIfInBounds 2 (.slice (some ⟨b6,0,none⟩) 1 1)).setIfInBounds 3 (.slice (some ⟨b34,0,none⟩) 1 1)).setIfInBounds 4 (.slice none 0 0))∧Below B w w4:=by
 have far:∀{b:Nat} {vs:Array Value},Blk w' b vs→vs.size≠5→Blk w4 b vs:=fun {b vs} h hs=>by
  have hne:b≠p:=h.sep hP (by rw [hZ];exact hs)
  rw [hw]
  exact ((((h.far hne 0 _).far hne 1 _).far hne 2 _).far hne 3 _).far hne 4 _
 have k4:=far h4 (by simp)
 have k6:=far h6 (by simp)
 have k32:=far h32 (by simp)
 have k34:=far h34 (by simp)
 refine ⟨?_,?_,?_⟩
 ·exact yL (r:=awQ) (by decide) dz (iI (R:=PrR 2) (c:=1) (k6.rl (R:=PrR 2) (x:=⟨awS,[awV]⟩) (vm (by decide) (iI (R:=TmR 2) (c:=1) (k4.rl (R:=TmR 2) (x:=awV) (vn (by unfold I64;omega) (by unfold I64;omega) (by decide)) k4.lt) (by simp) (by simp [TmR]) (by omega))) k6.lt) (by simp [awQ]) (by simp [awQ,PrR]) (by omega))
   (iI (R:=ExR 2) (c:=1) (k34.rl (R:=ExR 2) (x:=awE) ⟨_,rfl,iI (R:=OpR 2) (c:=3) (xs:=awE) (aw_ops k32) (by simp [awE]) (by simp [awE,OpR]) (by omega)⟩ k34.lt) (by simp [awQ]) (by simp [awQ,ExR]) (by omega)) dz
 ·rw [hw]
  exact ((((hP.set_ 0 _).set_ 1 _).set_ 2 _).set_ 3 _).set_ 4 _
 ·rw [hw]
  exact ((((hb.setCell (p:=⟨p,0,none⟩) hp _).setCell (p:=⟨p,1,none⟩) hp _).setCell (p:=⟨p,2,none⟩) hp _).setCell (p:=⟨p,3,none⟩) hp _).setCell (p:=⟨p,4,none⟩) hp _
theorem px {w:World} {m:Int} (hm:w.cell? ⟨0,0,none⟩=some (.int .i64 m)) (hp:0<w.heap.size):Calls Tryz.prog 26 #[] w fun z w'=>z=.returned (.bool true)∧Below w.heap.size w w':=by
 have HM:=zl hm
 clear hm
 go_enter Tryz.func26,Tryz.ntmps26
 go_wp2_with fail
 refine jl.mono ?_
 rintro e wa ⟨rfl,hba⟩
 have HBa:=zl hba
 clear hba
 go_wp2_with fail
 generalize hW:World.alloc _ _=wb
 obtain ⟨hbb,hzb⟩:=al1 hW
 have HTb:=zl (n11 hW)
 have HBb:=zl (ab HBa.out hbb)
 clear hW hbb hzb
 refine jl.mono ?_
 rintro e wc ⟨rfl,hbc⟩
 have HBc:=zl (ab HBb.out hbc)
 have HTc:=zl (HTb.out.later hbc)
 clear hbc
 go_wp2_with fail
 generalize hWa:wc.alloc _=wd
 obtain ⟨hbd,hzd⟩:=al1 hWa
 have HUd:=zl (n11 hWa)
 have HTd:=zl (HTc.out.later hbd)
 have HBd:=zl (ab HBc.out hbd)
 clear hWa hbd
 rw [show wc.heap.size+1=wd.heap.size from hzd.symm]
 generalize hWa:wd.alloc _=we
 obtain ⟨hbe,hze⟩:=al1 hWa
 have HGe:=zl (n11 hWa)
 have HTe:=zl (HTd.out.later hbe)
 have HUe:=zl (HUd.out.later hbe)
 have HBe:=zl (ab HBd.out hbe)
 clear hWa hbe hzd hze
 refine (vu (d:=1) (B:=we.heap.size) (l:=[awF 1,awF 2]) (c:=2) (aw_row2 HTe.out HUe.out HGe.out) (zn _) (by simp)).mono ?_
 rintro e w2 ⟨S,M,xs,As,cs,ys,Am,cm,rfl,hT,hx,hy,hb2⟩
 have HT2:=zl hT
 have HX2:=zl hx
 have HB2:=zl (ab HBe.out hb2)
 clear hT hx hy hb2
 clear HTb HTc HTd HTe HUd HUe HGe HBa HBb HBc HBd HBe
 go_upto_region 3 with fail
 generalize hW:World.alloc _ _=w3
 obtain ⟨hb3,hz3⟩:=al1 hW
 have HX3:=zl (n11 hW)
 have HT3:=zl (HT2.out.later hb3)
 have HB3:=zl (ab HB2.out hb3)
 clear hW hb3 hz3
 refine lE 14 (tM w3.heap.size) (by kernel_rfl) (by kernel_rfl) (by kernel_rfl) (by kernel_rfl) (by kernel_rfl) rfl (pw _) (ao (ao (ao (ao (ao (ao (ao (ao (ao (ao (ao (ao (ao (ao oQ ?op0_) ?op1_) ?op2_) ?op3_) ?op4_) ?op5_) ?op6_) ?op7_) ?op8_) ?op9_) ?op10_) ?op11_) ?op12_) ?op13_) ?last_
 case op0_=>
  refine ⟨_,rfl,fun T w' hk hb hd K hK=>?_⟩
  rw [if_pos (show Region.wanted _ _=true from rfl)]
  have h3:T.getD 3 undef=.pointer (some ⟨w2.heap.size,0,none⟩):=hk.2 3 (by kernel_rfl)
  rw [Array.getD_eq_getD_getElem?] at h3
  have k_x:=(HX3.out.drew.later hb).cell
  have f_x:=(HX3.out.drew.later hb).free
  have l_x:=(HX3.out.drew.later hb).lt
  clear hk hd
  go_simp
  exact hK.out _ _ (zp _ _) rfl
 case op1_=>
  refine ⟨_,rfl,fun T w' hk hb hd K hK=>?_⟩
  rw [if_pos (show Region.wanted _ _=true from rfl)]
  have d0:=hd 0 (of_decide_eq_true (by kernel_rfl))
  replace d0:T.getD 23 undef=.agg #[.int .i64 1,.int .i64 0,.string awX,.slice none 0 0]:=d0
  rw [Array.getD_eq_getD_getElem?] at d0
  clear hk hd
  go_simp
  generalize hW:World.alloc _ _=w4
  obtain ⟨hb4,hz4⟩:=al1 hW
  have HN4:=n11 hW
  clear hW
  exact hK.out _ _ hb4 ⟨_,rfl,HN4⟩
 case op2_=>
  refine ⟨_,rfl,fun T w' hk hb hd K hK=>?_⟩
  rw [if_pos (show Region.wanted _ _=true from rfl)]
  have d1:=hd 1 (of_decide_eq_true (by kernel_rfl))
  obtain ⟨b1,e1,r1⟩:=(show Rw1 w' (T.getD 24 undef) from d1)
  clear d1
  rw [Array.getD_eq_getD_getElem?] at e1
  clear hk hd
  go_simp
  exact hK.out _ _ (zp _ _) ⟨_,rfl,_,rfl,r1⟩
 case op3_=>
  refine ⟨_,rfl,fun T w' hk hb hd K hK=>?_⟩
  rw [if_pos (show Region.wanted _ _=true from rfl)]
  have d2:=hd 2 (of_decide_eq_true (by kernel_rfl))
  obtain ⟨u,e2,r2⟩:=(show ∃u,T.getD 25 undef=.agg #[.string awS,u]∧Rw1 w' u from d2)
  clear d2
  rw [Array.getD_eq_getD_getElem?] at e2
  clear hk hd
  go_simp
  generalize hW:World.alloc _ _=w4
  obtain ⟨hb4,hz4⟩:=al1 hW
  have HN4:=n11 hW
  clear hW
  exact hK.out _ _ hb4 ⟨_,u,rfl,HN4,r2.later hb4⟩
 case op4_=>
  refine ⟨_,rfl,fun T w' hk hb hd K hK=>?_⟩
  rw [if_pos (show Region.wanted _ _=true from rfl)]
  have h3:T.getD 3 undef=.pointer (some ⟨w2.heap.size,0,none⟩):=hk.2 3 (by kernel_rfl)
  rw [Array.getD_eq_getD_getElem?] at h3
  have k_x:=(HX3.out.drew.later hb).cell
  have f_x:=(HX3.out.drew.later hb).free
  have l_x:=(HX3.out.drew.later hb).lt
  clear hk hd
  go_simp
  exact hK.out _ _ (zp _ _) rfl
 case op5_=>
  refine ⟨_,rfl,fun T w' hk hb hd K hK=>?_⟩
  rw [if_pos (show Region.wanted _ _=true from rfl)]
  have d4:=hd 4 (of_decide_eq_true (by kernel_rfl))
  replace d4:T.getD 27 undef=.agg #[.int .i64 1,.int .i64 0,.string awX,.slice none 0 0]:=d4
  rw [Array.getD_eq_getD_getElem?] at d4
  clear hk hd
  go_simp
  exact hK.out _ _ (zp _ _) rfl
 case op6_=>
  refine ⟨_,rfl,fun T w' hk hb hd K hK=>?_⟩
  rw [if_pos (show Region.wanted _ _=true from rfl)]
  clear hk hd
  go_simp
  refine jl.mono ?_
  rintro e w4 ⟨rfl,hb4⟩
  exact hK.out _ _ hb4 rfl
 case op7_=>
  refine ⟨_,rfl,fun T w' hk hb hd K hK=>?_⟩
  rw [if_pos (show Region.wanted _ _=true from rfl)]
  have d6:=hd 6 (of_decide_eq_true (by kernel_rfl))
  replace d6:T.getD 29 undef=.agg #[.int .i64 2,.int .i64 2,.string ⟨#[]⟩,.slice none 0 0]:=d6
  rw [Array.getD_eq_getD_getElem?] at d6
  clear hk hd
  go_simp
  exact hK.out _ _ (zp _ _) rfl
 case op8_=>
  refine ⟨_,rfl,fun T w' hk hb hd K hK=>?_⟩
  rw [if_pos (show Region.wanted _ _=true from rfl)]
  clear hk hd
  go_simp
  exact hK.out _ _ (zp _ _) rfl
 case op9_=>
  refine ⟨_,rfl,fun T w' hk hb hd K hK=>?_⟩
  rw [if_pos (show Region.wanted _ _=true from rfl)]
  have d5:=hd 5 (of_decide_eq_true (by kernel_rfl))
  replace d5:T.getD 28 undef=.agg #[.int .i64 1,.int .i64 1,.int .i64 0,.string awX,.slice none 0 0,.int .i64 0,.int .i64 0]:=d5
  rw [Array.getD_eq_getD_getElem?] at d5
  have d7:=hd 7 (of_decide_eq_true (by kernel_rfl))
  replace d7:T.getD 30 undef=.agg #[.int .i64 1,.int .i64 2,.int .i64 2,.string ⟨#[]⟩,.slice none 0 0,.int .i64 0,.int .i64 0]:=d7
  rw [Array.getD_eq_getD_getElem?] at d7
  have d8:=hd 8 (of_decide_eq_true (by kernel_rfl))
  replace d8:T.getD 31 undef=.agg #[.int .i64 3,.int .i64 0,.int .i64 0,.string ⟨#[]⟩,.slice none 0 0,.int .i64 1,.int .i64 0]:=d8
  rw [Array.getD_eq_getD_getElem?] at d8
  clear hk hd
  go_simp
  generalize hW:World.alloc _ _=w4
  obtain ⟨hb4,hz4⟩:=al1 hW
  have HN4:=n11 hW
  clear hW
  exact hK.out _ _ hb4 ⟨_,rfl,HN4⟩
 case op10_=>
  refine ⟨_,rfl,fun T w' hk hb hd K hK=>?_⟩
  rw [if_pos (show Region.wanted _ _=true from rfl)]
  have d9:=hd 9 (of_decide_eq_true (by kernel_rfl))
  obtain ⟨b1,e1,r1⟩:=(show Rw3 w' (T.getD 32 undef) from d9)
  clear d9
  rw [Array.getD_eq_getD_getElem?] at e1
  clear hk hd
  go_simp
  exact hK.out _ _ (zp _ _) ⟨_,rfl,_,rfl,r1⟩
 case op11_=>
  refine ⟨_,rfl,fun T w' hk hb hd K hK=>?_⟩
  rw [if_pos (show Region.wanted _ _=true from rfl)]
  have d10:=hd 10 (of_decide_eq_true (by kernel_rfl))
  obtain ⟨u,e10,r10⟩:=(show ∃u,T.getD 33 undef=.agg #[u]∧Rw3 w' u from d10)
  clear d10
  rw [Array.getD_eq_getD_getElem?] at e10
  clear hk hd
  go_simp
  generalize hW:World.alloc _ _=w4
  obtain ⟨hb4,hz4⟩:=al1 hW
  have HN4:=n11 hW
  clear hW
  exact hK.out _ _ hb4 ⟨_,u,rfl,HN4,r10.later hb4⟩
 case op12_=>
  refine ⟨_,rfl,fun T w' hk hb hd K hK=>?_⟩
  rw [if_pos (show Region.wanted _ _=true from rfl)]
  have d3:=hd 3 (of_decide_eq_true (by kernel_rfl))
  obtain ⟨b1,u1,e1,r1,r2⟩:=(show Rw2 w' (T.getD 26 undef) from d3)
  clear d3
  rw [Array.getD_eq_getD_getElem?] at e1
  have d11:=hd 11 (of_decide_eq_true (by kernel_rfl))
  obtain ⟨b3,u3,e3,r3,r4⟩:=(show Rw4 w' (T.getD 34 undef) from d11)
  clear d11
  rw [Array.getD_eq_getD_getElem?] at e3
  clear hk hd
  go_simp
  exact hK.out _ _ (zp _ _) ⟨_,_,rfl,⟨_,_,rfl,r1,r2⟩,_,_,rfl,r3,r4⟩
 case op13_=>
  refine ⟨_,rfl,fun T w' hk hb hd K hK=>?_⟩
  rw [if_pos (show Region.wanted _ _=true from rfl)]
  clear hk hd
  go_simp
  generalize hW:World.alloc _ _=w4
  obtain ⟨hb4,hz4⟩:=al1 hW
  have HN4:=n11 hW
  clear hW
  exact hK.out _ _ hb4 ⟨_,rfl,hb.size,HN4⟩
 case last_=>
  refine ⟨_,rfl,fun T w' hk hb hd K hK=>?_⟩
  rw [if_pos (show Region.wanted _ _=true from rfl)]
  have d12:=hd 12 (by omega)
  have d13:=hd 13 (by omega)
  obtain ⟨u1,u2,e12,r2,r4⟩:=(show ∃u1 u2,T.getD 35 undef=.agg #[.string ⟨#[]⟩,.slice none 0 0,u1,u2,.slice none 0 0]∧Rw2 w' u1∧Rw4 w' u2 from d12)
  obtain ⟨p,e13,hp3,hP⟩:=(show ∃p,T.getD 4 undef=.pointer (some ⟨p,0,none⟩)∧w3.heap.size≤p∧Blk w' p #[.string ⟨#[]⟩,.slice none 0 0,.slice none 0 0,.slice none 0 0,.slice none 0 0] from d13)
  have h1:T.getD 1 undef=.pointer (some ⟨S,0,none⟩):=hk.2 1 (by kernel_rfl)
  have hT:=rD hk.1
  clear d12 d13 hk hd
  obtain ⟨f,hf⟩:∃f:Nat→Value,(fun t=>T.getD t undef)=f:=⟨_,rfl⟩
  rw [hf] at hT
  have e12:f 35=_:=(congrFun hf 35).symm.trans e12
  have e13:f 4=_:=(congrFun hf 4).symm.trans e13
  have h1:f 1=_:=(congrFun hf 1).symm.trans h1
  replace hT:T=#[f 0,f 1,f 2,f 3,f 4,f 5,f 6,f 7,f 8,f 9,f 10,f 11,f 12,f 13,f 14,f 15,f 16,f 17,f 18,f 19,f 20,f 21,f 22,f 23,f 24,f 25,f 26,f 27,f 28,f 29,f 30,f 31,f 32,f 33,f 34,f 35,f 36,f 37,f 38,f 39,f 40,f 41,f 42,f 43,f 44,f 45,f 46,f 47,f 48,f 49,f 50,f 51,f 52,f 53,f 54,f 55,f 56,f 57,f 58,f 59,f 60]:=hT
  clear hf
  subst hT
  obtain ⟨b6,ua,rfl,hb6,b4,rfl,hb4⟩:=r2
  obtain ⟨b34,uc,rfl,hb34,b32,rfl,hb32⟩:=r4
  have k_p:=hP.cell
  have f_p:=hP.free
  have l_p:=hP.lt
  go_simp
  have hS:=wP rfl hP hb4 hb6 hb32 hb34 hp3 hb rfl
  clear hP hb4 hb6 hb32 hb34 hb l_p f_p k_p
  generalize World.setCell (World.setCell (World.setCell (World.setCell (World.setCell w' _ _) _ _) _ _) _ _) _ _=w4 at hS ⊢
  obtain ⟨hR,hP,hb⟩:=hS
  replace hb:=((zp w3.heap.size w3).drew).trans hb
  have HR:=zl hR
  have HB4:=zl (ab HB3.out hb)
  have HT4:=zl (HT3.out.later hb)
  have k_p:=hP.cell
  have f_p:=hP.free
  have l_p:=hP.lt
  clear hR hP hb
  have HFW:Hid (xs.length≤100000):=zl (by
   have h:=congrArg List.length HX2.out
   rw [tP,List.length_map] at h
   simp at h
   omega)
  refine hK.out _ _ ?_
  clear hK
  go_wp2_with fail
  have hq:=oV (d:=1) (B:=w4.heap.size) (r:=awQ) (vr:=[_,_,_,_,_]) (tr:=1) HR.out (zn _) HT4.out.s HFW.out ((HB4.out.cell (p:=⟨0,0,none⟩) hp).trans HM.out) (zq hp HB4.out.size)
  rw [HX2.out,tO] at hq
  refine hq.mono ?_
  rintro e w5 ⟨rfl,hb5⟩
  have HB5:=zl (ab HB4.out hb5)
  have HT5:=zl (HT4.out.later hb5)
  have HR5:=zl ((RuR 2).keep hb5 (zn _) HR.out)
  have hsz5:=hb5.size
  have HP5:Hid (∀o,w5.cell? ⟨p,o,none⟩=w4.cell? ⟨p,o,none⟩):=zl (fun o=>hb5.cell l_p)
  have k_5:=fun o=>(HP5.out o).trans (k_p o)
  clear hb5 k_p f_p hq
  go_wp2_with fail
  have hq:=nZ (d:=1) (B:=w4.heap.size) (r:=awQ) (vr:=[_,_,_,_,_]) (tr:=1) HR5.out hsz5 HT5.out.s HFW.out ((HB5.out.cell (p:=⟨0,0,none⟩) hp).trans HM.out) (zq hp HB5.out.size)
  rw [HX2.out,tN] at hq
  refine hq.mono ?_
  rintro e w6 ⟨rfl,hb6⟩
  have HB6:=zl (ab HB5.out hb6)
  clear hb6 hq
  go_wp2_with fail
  go_ret
  exact ⟨rfl,HB6.out⟩
theorem nx {d b1 b2 b3:Nat} {w:World} (h1:Blk w b1 #[.int .i64 1,.int .i64 6,.int .i64 1,.string ⟨#[]⟩,.slice none 0 0,.int .i64 0,.int .i64 0]) (h2:Blk w b2 #[.slice (some ⟨b1,0,none⟩) 1 1]) (h3:Blk w b3 #[.string ⟨#[]⟩,.slice none 0 0,.slice none 0 0,.slice (some ⟨b2,0,none⟩) 1 1,.slice none 0 0]):(CkR (d+1)).rd w w.heap.size tu [.bool false,.slice (some ⟨b3,0,none⟩) 1 1]:=by
 have k1:(OpR (d+1)).rd w w.heap.size ⟨1,⟨6,1,⟨#[]⟩,[]⟩,0,0⟩ _:=mP d (by unfold I64;simp) (by unfold I64;simp) (by unfold I64;simp) (by unfold I64;simp) (by unfold I64;simp) (by simp;decide) rfl
 exact ⟨_,rfl,iI (R:=RuR (d+1)) (c:=1) (h3.rl (R:=RuR (d+1)) (x:=tv) (yL (r:=tv) (by decide) dz dz (iI (R:=ExR (d+1)) (c:=1) (h2.rl (R:=ExR (d+1)) (x:=zh) ⟨_,rfl,iI (R:=OpR (d+1)) (c:=1) (xs:=zh) (h1.rl (R:=OpR (d+1)) k1 h1.lt) (by simp [zh]) (by simp [zh,OpR]) (by omega)⟩ h2.lt) (by simp [tv]) (by simp [tv,ExR]) (by omega)) dz) h3.lt) (by simp [tu]) (by simp [tu,RuR]) (by omega)⟩
theorem pu {d B c cq ce ck:Nat} {l:List Fc} {A Aq Ae Ak:Option Addr} {qs es:List Ru} {keys:List ByteArray} {m:Int} {w:World} (HAW:∀w1:World,Below w.heap.size w w1→Calls Tryz.prog 26 #[] w1 fun z w'=>z=.returned (.bool true)∧Below w1.heap.size w1 w')
 (hl:RL (az (d+1)) w B l A) (hn0:l.length*(8*3)≤140737488351232) (hqs:RSl (RuR (d+1)) w B qs (.slice Aq qs.length cq)) (hes:RSl (RuR (d+1)) w B es (.slice Ae es.length ce)) (hks:RL cr w B keys Ak) (hkn0:keys.length*(8*1)≤140737488351232) (hB:B≤w.heap.size) (hm:w.cell? ⟨0,0,none⟩=some (.int .i64 m)) (hp:0<w.heap.size) :
 Calls Tryz.prog 9 #[.slice A l.length c,.slice Aq qs.length cq,.slice Ae es.length ce,.slice Ak keys.length ck] w fun z w'=>z=.returned (.bool true)∧Below w.heap.size w w':=by
 have hn:l.length≤140737488351232:=by omega
 have HSN:Hid (keys.length≤140737488351232):=zl (by omega)
 clear hn0 hkn0
 have HAWH:=zl HAW
 have HL:=zl hl
 have HQS:=zl hqs
 have HES:=zl hes
 have HKS:=zl hks
 have HM:=zl hm
 clear HAW hl hqs hes hks hm
 go_enter Tryz.func9,Tryz.ntmps9
 go_wp2_with fail
 refine (oc (d:=d) (B:=B) (blk:=[]) HL.out HQS.out hB hn).mono ?_
 rintro z w1 ⟨⟨q,rfl,hq⟩,hb1⟩
 have HB1:=zl hb1
 clear hb1
 cases q
 ·clear hq
  go_wp2_with fail
  refine (HAWH.out _ HB1.out).mono ?_
  rintro z w3 ⟨rfl,hb3⟩
  go_wp2_with fail
  go_ret
  exact ⟨rfl,ab HB1.out hb3⟩
 obtain ⟨hl6,_,hk20⟩:=hq rfl
 clear hq
 go_wp2_with fail
 refine (oc (d:=d) (B:=B) (blk:=[]) (HL.out.keep HB1.out hB) (HES.out.keep HB1.out hB) (zm hB HB1.out.size) hn).mono ?_
 rintro z w2 ⟨⟨q,rfl,hq⟩,hb2⟩
 have HB2:=zl (ab HB1.out hb2)
 clear hb2
 cases q
 ·clear hq
  go_wp2_with fail
  refine (HAWH.out _ HB2.out).mono ?_
  rintro z w3 ⟨rfl,hb3⟩
  go_wp2_with fail
  go_ret
  exact ⟨rfl,ab HB2.out hb3⟩
 clear hq
 go_wp2_with fail
 refine (vu (d:=d) (B:=B) (l:=l) (A:=A) (c:=c) (HL.out.keep HB2.out hB) (zm hB HB2.out.size) (by omega)).mono ?_
 rintro z w3 ⟨S,M,xs,As,cs,ys,Am,cm,rfl,hT,hx,hy,hb3⟩
 have HB3:=zl (ab HB2.out hb3)
 have HFW:=zl (stL_few hx (by omega))
 have HS3:=zl hT.s
 clear hT hx hy hb3
 generalize hfs:xs.map FV.f=fs at *
 go_upto_region 5 with fail
 generalize hW:World.alloc _ _=w4
 obtain ⟨hb4,hz4⟩:=al1 hW
 have HP4:=zl (n11 hW)
 have HB4:=zl (ab HB3.out hb4)
 have HX4:=zl hb4
 have hsz4:=HB4.out.size
 have k_p:=HP4.out.cell
 have f_p:=HP4.out.free
 have l_p:=HP4.out.lt
 clear hW hb4 hz4
 have HSW:Hid (∀W:World,Below w3.heap.size w3 W→StA (M+1) d W S xs As cs):=zl (fun W h=>HS3.out.later h)
 have HT3:Hid (∀W:World,Below w3.heap.size w3 W→W.cell? ⟨0,0,none⟩=some (.int .i64 m)∧0<W.heap.size):=zl (fun W h=>⟨((ab HB3.out h).cell (p:=⟨0,0,none⟩) hp).trans HM.out,zq hp (ab HB3.out h).size⟩)
 go_wp2_with fail
 generalize hW:World.alloc _ _=w5
 obtain ⟨hb5,hz5⟩:=al1 hW
 have HN5:=zl (n11 hW)
 have HB5:=zl (ab HB4.out hb5)
 have HX5:=zl (ab HX4.out hb5)
 have HP5:=zl (HP4.out.later hb5)
 have hsz5:=HB5.out.size
 clear hW hb5 hz5 k_p f_p l_p
 have HLP:Hid (RL (CkR (d+1)) w5 w5.heap.size [⟨true,qs⟩] (some ⟨w4.heap.size,0,none⟩)):=zl (HN5.out.rl (R:=CkR (d+1)) (x:=⟨true,qs⟩) ⟨_,rfl,(HQS.out.keep HB5.out hB).wide (zm hB hsz5)⟩ HN5.out.lt)
 refine (cE (d:=d) (B:=w5.heap.size) (blk:=[]) HLP.out (by simp) (fun h=>absurd h (by simp)) ((HKS.out.keep HB5.out hB).wide (zm hB hsz5)) (by simp) HSN.out (zn _) (HSW.out _ HX5.out) HFW.out (HT3.out _ HX5.out).1 (HT3.out _ HX5.out).2).mono ?_
 rintro z w6 ⟨rfl,hb6⟩
 have HB6:=zl (ab HB5.out hb6)
 have HX6:=zl (ab HX5.out hb6)
 have HP6:=zl (HP5.out.later hb6)
 clear hb6 HLP HN5 HP5 HP4
 have HFE:=zl (uG (fs:=fs) (blk:=[]) (keys:=keys) (p:=⟨true,qs⟩))
 have HFL:=zl (uH (fs:=fs) (blk:=[]) (keys:=keys) (p:=⟨true,qs⟩) (m:=⟨false,es⟩))
 rw [hfs]
 generalize gN fs [] keys [⟨true,qs⟩]=R at *
 obtain ⟨i1,e1⟩:=R
 simp only at HFE HFL
 by_cases he:e1=0
 rotate_left
 ·have he2:(e1 !=0)=true:=by simpa using he
  obtain rfl:=HFE.out he
  clear he
  go_wp2_with fail
  refine (HAWH.out _ HB6.out).mono ?_
  rintro z w7 ⟨rfl,hb7⟩
  go_wp2_with fail
  go_ret
  exact ⟨rfl,ab HB6.out hb7⟩
 subst he
 obtain ⟨l2,l3,l4,l5⟩:=HFL.out rfl
 have HL2:=zl l2
 have HL3:=zl l3
 have HL4:=zl l4
 have HL5:=zl l5
 clear l2 l3 l4 l5 HFL HFE
 go_upto_region 9 with fail
 generalize hWa:w6.alloc _=wa
 obtain ⟨hba,hza⟩:=al1 hWa
 have H1a:=zl (n11 hWa)
 rw [show w6.heap.size+1=wa.heap.size from hza.symm]
 generalize hWb:wa.alloc _=wb
 obtain ⟨hbb,hzb⟩:=al1 hWb
 have H2b:=zl (n11 hWb)
 have H1b:=zl (H1a.out.later hbb)
 rw [show wa.heap.size+1=wb.heap.size from hzb.symm]
 generalize hWc:wb.alloc _=wc
 obtain ⟨hbc,hzc⟩:=al1 hWc
 have H3c:=zl (n11 hWc)
 have H2c:=zl (H2b.out.later hbc)
 have H1c:=zl (H1b.out.later hbc)
 try rw [show wb.heap.size+1=wc.heap.size from hzc.symm]
 generalize hWd:wc.alloc _=wd
 obtain ⟨hbd,hzd⟩:=al1 hWd
 have HYd:=zl (n11 hWd)
 have H3d:=zl (H3c.out.later hbd)
 have H2d:=zl (H2c.out.later hbd)
 have H1d:=zl (H1c.out.later hbd)
 have hb7:=ab (ab (ab hba hbb) hbc) hbd
 have HBd:=zl (ab HB6.out hb7)
 have HXd:=zl (ab HX6.out hb7)
 have HPd:=zl (HP6.out.later hb7)
 clear hWa hWb hWc hWd hba hbb hbc hbd hza hzb hzc hzd hb7 H1a H1b H1c H2b H2c H3c HB6 HX6 HP6
 have k_p:=HPd.out.cell
 have k_y:=HYd.out.cell
 have f_p:=HPd.out.free
 have f_y:=HYd.out.free
 have l_p:=HPd.out.lt
 have l_y:=HYd.out.lt
 go_upto_region 10 with fail
 generalize hW:World.alloc _ _=u1
 obtain ⟨hbu,hzu⟩:=al1 hW
 have HN1:=zl (n11 hW)
 have HBu1:=zl (ab HBd.out hbu)
 have HXu1:=zl (ab HXd.out hbu)
 have HPu1:=zl (HPd.out.later hbu)
 have H1u1:=zl (H1d.out.later hbu)
 have H2u1:=zl (H2d.out.later hbu)
 have H3u1:=zl (H3d.out.later hbu)
 have HYu1:=zl (HYd.out.later hbu)
 have hsu1:=HBu1.out.size
 clear hW hbu hzu k_p k_y f_p f_y l_p l_y
 have HL_1:Hid (RL (CkR (d+1)) u1 u1.heap.size [tu,⟨true,qs⟩] (some ⟨_,0,none⟩)):=zl (Blk.rlTwo HN1.out (R:=CkR (d+1)) (us:=[_,_]) (vs:=[_,_]) rfl (nx H1u1.out H2u1.out H3u1.out) ⟨_,rfl,(HQS.out.keep HBu1.out hB).wide (zm hB hsu1)⟩ HN1.out.lt)
 have hpol:=cE (d:=d) (B:=u1.heap.size) (blk:=[]) (Ab:=none) (cb:=0) (c:=2) (ck:=ck) HL_1.out (by simp) (fun h=>absurd h (by simp)) ((HKS.out.keep HBu1.out hB).wide (zm hB hsu1)) (by simp) HSN.out (zn _) (HSW.out _ HXu1.out) HFW.out (HT3.out _ HXu1.out).1 (HT3.out _ HXu1.out).2
 rw [hfs,HL2.out] at hpol
 refine hpol.mono ?_
 rintro z v1 ⟨rfl,hbv⟩
 have HBv1:=zl (ab HBu1.out hbv)
 have HXv1:=zl (ab HXu1.out hbv)
 have HPv1:=zl (HPu1.out.later hbv)
 have H1v1:=zl (H1u1.out.later hbv)
 have H2v1:=zl (H2u1.out.later hbv)
 have H3v1:=zl (H3u1.out.later hbv)
 have HYv1:=zl (HYu1.out.later hbv)
 clear hbv hpol HL_1 HN1
 have k_p:=HPv1.out.cell
 have k_y:=HYv1.out.cell
 have f_p:=HPv1.out.free
 have f_y:=HYv1.out.free
 have l_p:=HPv1.out.lt
 have l_y:=HYv1.out.lt
 obtain rfl | rfl:=HL4.out
 ·clear HL4 HL2
  have l3:gN fs [] keys [⟨true,qs⟩,tu]=(0,0):=by simpa using HL3.out
  clear HL3
  go_upto_region 10 with fail
  go_wp2_with fail
  generalize hW:World.alloc _ _=u2
  obtain ⟨hbu,hzu⟩:=al1 hW
  have HN2:=zl (n11 hW)
  have HBu2:=zl (ab HBv1.out hbu)
  have HXu2:=zl (ab HXv1.out hbu)
  have HPu2:=zl (HPv1.out.later hbu)
  have H1u2:=zl (H1v1.out.later hbu)
  have H2u2:=zl (H2v1.out.later hbu)
  have H3u2:=zl (H3v1.out.later hbu)
  have HYu2:=zl (HYv1.out.later hbu)
  have hsu2:=HBu2.out.size
  clear hW hbu hzu k_p k_y f_p f_y l_p l_y
  have HL_2:Hid (RL (CkR (d+1)) u2 u2.heap.size [⟨true,qs⟩,tu] (some ⟨_,0,none⟩)):=zl (Blk.rlTwo HN2.out (R:=CkR (d+1)) (us:=[_,_]) (vs:=[_,_]) rfl ⟨_,rfl,(HQS.out.keep HBu2.out hB).wide (zm hB hsu2)⟩ (nx H1u2.out H2u2.out H3u2.out) HN2.out.lt)
  have hpol:=cE (d:=d) (B:=u2.heap.size) (blk:=[]) (Ab:=none) (cb:=0) (c:=2) (ck:=ck) HL_2.out (by simp) (fun h=>absurd h (by simp)) ((HKS.out.keep HBu2.out hB).wide (zm hB hsu2)) (by simp) HSN.out (zn _) (HSW.out _ HXu2.out) HFW.out (HT3.out _ HXu2.out).1 (HT3.out _ HXu2.out).2
  rw [hfs,l3] at hpol
  refine hpol.mono ?_
  rintro z v2 ⟨rfl,hbv⟩
  have HBv2:=zl (ab HBu2.out hbv)
  have HXv2:=zl (ab HXu2.out hbv)
  have HPv2:=zl (HPu2.out.later hbv)
  have H1v2:=zl (H1u2.out.later hbv)
  have H2v2:=zl (H2u2.out.later hbv)
  have H3v2:=zl (H3u2.out.later hbv)
  have HYv2:=zl (HYu2.out.later hbv)
  clear hbv hpol HL_2 HN2
  have k_p:=HPv2.out.cell
  have k_y:=HYv2.out.cell
  have f_p:=HPv2.out.free
  have f_y:=HYv2.out.free
  have l_p:=HPv2.out.lt
  have l_y:=HYv2.out.lt
  go_wp2_with fail
  generalize hW:World.alloc _ _=u3
  obtain ⟨hbu,hzu⟩:=al1 hW
  have HN3:=zl (n11 hW)
  have HBu3:=zl (ab HBv2.out hbu)
  have HXu3:=zl (ab HXv2.out hbu)
  have HPu3:=zl (HPv2.out.later hbu)
  have H1u3:=zl (H1v2.out.later hbu)
  have H2u3:=zl (H2v2.out.later hbu)
  have H3u3:=zl (H3v2.out.later hbu)
  have HYu3:=zl (HYv2.out.later hbu)
  have hsu3:=HBu3.out.size
  clear hW hbu hzu k_p k_y f_p f_y l_p l_y
  have HL_3:Hid (RL (CkR (d+1)) u3 u3.heap.size [⟨true,qs⟩,⟨false,es⟩] (some ⟨_,0,none⟩)):=zl (Blk.rlTwo HN3.out (R:=CkR (d+1)) (us:=[_,_]) (vs:=[_,_]) rfl ⟨_,rfl,(HQS.out.keep HBu3.out hB).wide (zm hB hsu3)⟩ ⟨_,rfl,(HES.out.keep HBu3.out hB).wide (zm hB hsu3)⟩ HN3.out.lt)
  have hpol:=cE (d:=d) (B:=u3.heap.size) (blk:=[]) (Ab:=none) (cb:=0) (c:=2) (ck:=ck) HL_3.out (by simp) (fun h=>absurd h (by simp)) ((HKS.out.keep HBu3.out hB).wide (zm hB hsu3)) (by simp) HSN.out (zn _) (HSW.out _ HXu3.out) HFW.out (HT3.out _ HXu3.out).1 (HT3.out _ HXu3.out).2
  rw [hfs] at hpol
  refine hpol.mono ?_
  rintro z v3 ⟨rfl,hbv⟩
  have HBv3:=zl (ab HBu3.out hbv)
  have HXv3:=zl (ab HXu3.out hbv)
  have HPv3:=zl (HPu3.out.later hbv)
  have H1v3:=zl (H1u3.out.later hbv)
  have H2v3:=zl (H2u3.out.later hbv)
  have H3v3:=zl (H3u3.out.later hbv)
  have HYv3:=zl (HYu3.out.later hbv)
  clear hbv hpol HL_3 HN3
  generalize gN fs [] keys [⟨true,qs⟩,⟨false,es⟩]=R4 at *
  obtain ⟨i4,e4⟩:=R4
  simp only at HL5
  by_cases h4:e4=0
  ·obtain rfl:i4=0:=(HL5.out (by simp)).resolve_left (fun h=>h h4)
   have h5:(e4 !=0)=false:=by simpa using h4
   clear HL5 h4
   go_wp2_with fail
   refine (HAWH.out _ HBv3.out).mono ?_
   rintro z w9 ⟨rfl,hb9⟩
   go_wp2_with fail
   go_ret
   exact ⟨rfl,ab HBv3.out hb9⟩
  ·have h5:(e4 !=0)=true:=by simpa using h4
   clear HL5 h4
   go_wp2_with fail
   refine (HAWH.out _ HBv3.out).mono ?_
   rintro z w9 ⟨rfl,hb9⟩
   go_wp2_with fail
   go_ret
   exact ⟨rfl,ab HBv3.out hb9⟩
 ·clear HL4 HL2
  have l3:gN fs [] keys [⟨true,qs⟩,tu]=(1,0):=by simpa using HL3.out
  clear HL3
  go_upto_region 10 with fail
  go_wp2_with fail
  generalize hW:World.alloc _ _=u2
  obtain ⟨hbu,hzu⟩:=al1 hW
  have HN2:=zl (n11 hW)
  have HBu2:=zl (ab HBv1.out hbu)
  have HXu2:=zl (ab HXv1.out hbu)
  have HPu2:=zl (HPv1.out.later hbu)
  have H1u2:=zl (H1v1.out.later hbu)
  have H2u2:=zl (H2v1.out.later hbu)
  have H3u2:=zl (H3v1.out.later hbu)
  have HYu2:=zl (HYv1.out.later hbu)
  have hsu2:=HBu2.out.size
  clear hW hbu hzu k_p k_y f_p f_y l_p l_y
  have HL_2:Hid (RL (CkR (d+1)) u2 u2.heap.size [⟨true,qs⟩,tu] (some ⟨_,0,none⟩)):=zl (Blk.rlTwo HN2.out (R:=CkR (d+1)) (us:=[_,_]) (vs:=[_,_]) rfl ⟨_,rfl,(HQS.out.keep HBu2.out hB).wide (zm hB hsu2)⟩ (nx H1u2.out H2u2.out H3u2.out) HN2.out.lt)
  have hpol:=cE (d:=d) (B:=u2.heap.size) (blk:=[]) (Ab:=none) (cb:=0) (c:=2) (ck:=ck) HL_2.out (by simp) (fun h=>absurd h (by simp)) ((HKS.out.keep HBu2.out hB).wide (zm hB hsu2)) (by simp) HSN.out (zn _) (HSW.out _ HXu2.out) HFW.out (HT3.out _ HXu2.out).1 (HT3.out _ HXu2.out).2
  rw [hfs,l3] at hpol
  refine hpol.mono ?_
  rintro z v2 ⟨rfl,hbv⟩
  have HBv2:=zl (ab HBu2.out hbv)
  have HXv2:=zl (ab HXu2.out hbv)
  have HPv2:=zl (HPu2.out.later hbv)
  have H1v2:=zl (H1u2.out.later hbv)
  have H2v2:=zl (H2u2.out.later hbv)
  have H3v2:=zl (H3u2.out.later hbv)
  have HYv2:=zl (HYu2.out.later hbv)
  clear hbv hpol HL_2 HN2
  have k_p:=HPv2.out.cell
  have k_y:=HYv2.out.cell
  have f_p:=HPv2.out.free
  have f_y:=HYv2.out.free
  have l_p:=HPv2.out.lt
  have l_y:=HYv2.out.lt
  go_wp2_with fail
  generalize hW:World.alloc _ _=u3
  obtain ⟨hbu,hzu⟩:=al1 hW
  have HN3:=zl (n11 hW)
  have HBu3:=zl (ab HBv2.out hbu)
  have HXu3:=zl (ab HXv2.out hbu)
  have HPu3:=zl (HPv2.out.later hbu)
  have H1u3:=zl (H1v2.out.later hbu)
  have H2u3:=zl (H2v2.out.later hbu)
  have H3u3:=zl (H3v2.out.later hbu)
  have HYu3:=zl (HYv2.out.later hbu)
  have hsu3:=HBu3.out.size
  clear hW hbu hzu k_p k_y f_p f_y l_p l_y
  have HL_3:Hid (RL (CkR (d+1)) u3 u3.heap.size [⟨true,qs⟩,⟨false,es⟩] (some ⟨_,0,none⟩)):=zl (Blk.rlTwo HN3.out (R:=CkR (d+1)) (us:=[_,_]) (vs:=[_,_]) rfl ⟨_,rfl,(HQS.out.keep HBu3.out hB).wide (zm hB hsu3)⟩ ⟨_,rfl,(HES.out.keep HBu3.out hB).wide (zm hB hsu3)⟩ HN3.out.lt)
  have hpol:=cE (d:=d) (B:=u3.heap.size) (blk:=[]) (Ab:=none) (cb:=0) (c:=2) (ck:=ck) HL_3.out (by simp) (fun h=>absurd h (by simp)) ((HKS.out.keep HBu3.out hB).wide (zm hB hsu3)) (by simp) HSN.out (zn _) (HSW.out _ HXu3.out) HFW.out (HT3.out _ HXu3.out).1 (HT3.out _ HXu3.out).2
  rw [hfs] at hpol
  refine hpol.mono ?_
  rintro z v3 ⟨rfl,hbv⟩
  have HBv3:=zl (ab HBu3.out hbv)
  have HXv3:=zl (ab HXu3.out hbv)
  have HPv3:=zl (HPu3.out.later hbv)
  have H1v3:=zl (H1u3.out.later hbv)
  have H2v3:=zl (H2u3.out.later hbv)
  have H3v3:=zl (H3u3.out.later hbv)
  have HYv3:=zl (HYu3.out.later hbv)
  clear hbv hpol HL_3 HN3
  generalize gN fs [] keys [⟨true,qs⟩,⟨false,es⟩]=R4 at *
  obtain ⟨i4,e4⟩:=R4
  clear HL5
  go_wp2_with fail
  refine (HAWH.out _ HBv3.out).mono ?_
  rintro z w9 ⟨rfl,hb9⟩
  go_wp2_with fail
  go_ret
  exact ⟨rfl,ab HBv3.out hb9⟩
end Go.Proofs.YtdphibjibnffeaaGreat
