/- expr.stack.push. -/
import Derived.Test.YtdphibjibnffeaaGreatAn1
import Derived.Test.YtdphibjibnffeaaGreatTmAt
import Derived.Test.YtdphibjibnffeaaGreatStab
import Derived.Test.YtdphibjibnffeaaGreatHeldA
import Derived.Deep.RegionLaw
set_option linter.unusedVariables false
set_option linter.unusedSimpArgs false
set_option maxRecDepth 100000
set_option maxHeartbeats 8000000
namespace Go.Proofs.YtdphibjibnffeaaGreat
open Go.ChangeShapes Go.WideShapes Go.ChangeAt Go.RowKit
structure BelowD (B:Nat) (w w':World):Prop where
 b:Below B w w'
 d:w.drawn≤w'.drawn
theorem BelowD.size {B:Nat} {w w':World} (h:BelowD B w w'):w.heap.size≤w'.heap.size:=h.b.size
theorem BelowD.refl (B:Nat) (w:World):BelowD B w w:=⟨za B w,yY _⟩
theorem BelowD.trans {B:Nat} {w v u:World} (h:BelowD B w v) (k:BelowD B v u):BelowD B w u:=⟨h.b.trans k.b,yX h.d k.d⟩
theorem BelowD.mono {B C:Nat} {w v:World} (h:BelowD B w v) (k:C≤B):BelowD C w v:=⟨h.b.mono k,h.d⟩
theorem BelowD.drew {B:Nat} {w v:World} (h:BelowD B w v):BelowD B w v.drew:=⟨h.b.drew,Nat.le_succ_of_le h.d⟩
theorem BelowD.alloc {B:Nat} {w v:World} (h:BelowD B w v) (k:B≤v.heap.size) (o:Obj):BelowD B w (v.alloc o):=⟨h.b.alloc k o,h.d⟩
theorem BelowD.cell {B:Nat} {w v:World} (h:BelowD B w v) {p:Addr} (hp:p.block<B):v.cell? p=w.cell? p:=h.b.cell hp
theorem dr1 {w W:World} {o:Obj} (h:w.alloc o=W):W.drawn=w.drawn:=by subst h;rfl
theorem dr2 {w W:World} {o p:Obj} (h:(w.alloc o).alloc p=W):W.drawn=w.drawn:=by subst h;rfl
theorem fo (F:FuncId) (cap:Array Value) (f:Tm→Tm→Int) (d e:Nat) (xs ys:List Tm) (A A':Option Addr) (c c' B:Nat) (w:World)
 (hF:∀args (w:World),(callFunc F args).run Tryz.prog w=.ok (.enter F args) w)
 (hA:iU w B d xs A) (hA':iU w B e ys A') (hB:B≤w.heap.size) (hn:xs.length*40≤140737488351232) (hn':ys.length*40≤140737488351232)
 (hf:∀(x y:Tm) (vs ws:List Value) (w1:World),BelowD w.heap.size w w1→RTm w1 B d x vs→RTm w1 B e y ws →
  Calls Tryz.prog F (#[.agg vs.toArray,.agg ws.toArray]++cap) w1 fun e w'=>e=.returned (.int .i64 (f x y))∧BelowD w1.heap.size w1 w') :
 Calls Tryz.prog 61 #[.slice A xs.length c,.slice A' ys.length c',.func (.func F) #[] cap] w fun e w'=>e=.returned (.int .i64 (cF f xs ys))∧BelowD w.heap.size w w':=by
 have HF:=yW hf
 clear hf
 go_enter Tryz.func61,Tryz.ntmps61
 go_wp2_with fail
 go_loopw [13] (fun i wr=>∃k:Nat,k≤xs.length∧i=.int .i64 k∧BelowD w.heap.size w wr∧cF f xs ys=cF f (xs.drop k) (ys.drop k)) (fun i _=>xs.length-(intOf i).toNat)
 case atStart=>exact ⟨0,yZ _,rfl,BelowD.refl _ _,rfl⟩
 case round=>
  obtain ⟨k,hk,rfl,hbw,heq⟩:=hrel
  have HE:=yW heq
  clear heq
  by_cases hlt:k<xs.length
  ·obtain ⟨b,off,x,Ax,cx,rfl,hb,hx,c0,c1,c2,c3,hr⟩:=hA.elem hbw.b hB hlt
   by_cases hlt2:k<ys.length
   ·obtain ⟨b',off',y,Ay,cy,rfl,hb',hy,e0,e1,e2,e3,hr'⟩:=hA'.elem hbw.b hB hlt2
    have hsz:=hbw.size
    have hbw2:∀o o':Obj,BelowD w.heap.size w ((wr.alloc o).alloc o'):=fun o o'=>(hbw.alloc hsz _).alloc (by simp;omega) _
    have hbr2:∀o o':Obj,BelowD wr.heap.size wr ((wr.alloc o).alloc o'):=fun o o'=>((BelowD.refl _ _).alloc (yY _) _).alloc (by simp) _
    have HB:=yW hbw2
    have HR:=yW hbr2
    have hx':xs.drop k=x::xs.drop (k+1):=by
     obtain ⟨h1,h2⟩:=List.getElem?_eq_some_iff.1 hx
     rw [←h2];exact List.drop_eq_getElem_cons h1
    have hy':ys.drop k=y::ys.drop (k+1):=by
     obtain ⟨h1,h2⟩:=List.getElem?_eq_some_iff.1 hy
     rw [←h2];exact List.drop_eq_getElem_cons h1
    have HE2:Hid (cF f xs ys=if f x y=0 then cF f (xs.drop (k+1)) (ys.drop (k+1)) else f x y):=by
     have:=HE.out
     rw [hx',hy'] at this
     exact this
    clear hbw2 hbr2 hx' hy' HE
    go_wp2_with fail
    refine (HF.out x y [_,_,_,_] [_,_,_,_] _ (HB.out _ _) (hr.below (HR.out _ _).b (by omega)) (hr'.below (HR.out _ _).b (by omega))).mono ?_
    rintro e w1 ⟨rfl,hb1⟩
    have hbw1:=yW ((HB.out _ _).trans (hb1.mono (by simp;omega)))
    clear hb1
    by_cases hz:(f x y !=0)=true
    ·go_wp2_with fail
     go_ret
     exact ⟨ar (by rw [HE2.out,if_neg (by simpa using hz)]),hbw1.out⟩
    ·have hz':(f x y !=0)=false:=by simpa using hz
     go_wp2_with fail
     go_roundw
     case rel=>exact ⟨k+1,by omega,by go_num,hbw1.out,by rw [HE2.out,if_pos (by simpa using hz')]⟩
     case measure=>simp [intOf];omega
   ·have hz:ys.drop k=[]:=List.drop_eq_nil_iff.2 (by omega)
    have HE2:Hid (cF f xs ys=1):=by
     have:=HE.out
     obtain ⟨h1,h2⟩:=List.getElem?_eq_some_iff.1 hx
     rw [List.drop_eq_getElem_cons h1,hz] at this
     exact this
    have hbw2:=yW (fun o:Obj=>hbw.alloc hbw.size o)
    clear HE hz
    go_wp2_with fail
    go_ret
    exact ⟨ar HE2.out.symm,hbw2.out _⟩
  ·have hz:xs.drop k=[]:=List.drop_eq_nil_iff.2 (by omega)
   have HE2:=HE.out
   rw [hz] at HE2
   have HE3:=yW HE2
   clear HE HE2 hz
   by_cases hlt2:xs.length<ys.length
   ·go_wp2_with fail
    go_ret
    obtain rfl:k=xs.length:=by omega
    exact ⟨ar (by rw [HE3.out,List.drop_eq_getElem_cons hlt2];rfl),hbw⟩
   ·go_wp2_with fail
    go_ret
    obtain rfl:k=xs.length:=by omega
    exact ⟨ar (by rw [HE3.out,List.drop_eq_nil_iff.2 (by omega)];rfl),hbw⟩
theorem pu (w:World) (o1 o2 o3 o4:Obj):BelowD w.heap.size w ((((w.alloc o1).alloc o2).alloc o3).alloc o4).drew:=
 ((((((BelowD.refl _ _).alloc (yY _) _).alloc (by simp) _).alloc (by simp;omega) _).alloc (by simp;omega) _)).drew
theorem lH (d:Nat) (hd:d≤100) (ih:∀(da db:Nat) (a b:Tm) (vs ws:List Value) (B:Nat) (w:World),RTm w B da a vs→RTm w B db b ws→B≤w.heap.size →
 Calls Tryz.prog 118 #[.agg vs.toArray,.agg ws.toArray,.int .i64 d] w fun e w'=>e=.returned (.int .i64 (aU d a b))∧BelowD w.heap.size w w')
 (da db:Nat) (a b:Tm) (vs ws:List Value) (G B:Nat) (w:World) (hG:w.cell? ⟨G,0,none⟩=some (.int .i64 (d+1))) (ha:RTm w B da a vs) (hb:RTm w B db b ws) (hB:B≤w.heap.size) :
 Calls Tryz.prog 185 #[.agg vs.toArray,.agg ws.toArray,.pointer (some ⟨G,0,none⟩)] w fun e w'=>e=.returned (.int .i64 (aU d a b))∧BelowD w.heap.size w w':=by
 have HI:=yW ih
 clear ih
 obtain ⟨A,c,rfl,_⟩:=ha.cells
 obtain ⟨A',c',rfl,_⟩:=hb.cells
 have hGl:G<w.heap.size:=block_lt_of_cell hG
 go_enter Tryz.func185,Tryz.ntmps185
 have hbel:BelowD w.heap.size w ((w.alloc (.cells #[.int .i64 a.kind,.int .i64 a.n,.string a.s,.slice A a.l.length c] 79)).alloc (.cells #[.int .i64 b.kind,.int .i64 b.n,.string b.s,.slice A' b.l.length c'] 79)):=
  ((BelowD.refl _ _).alloc (yY _) _).alloc (by simp) _
 have HB:=yW hbel
 clear hbel
 go_wp2_with fail
 refine (HI.out da db a b [_,_,_,_] [_,_,_,_] B _ (ha.below HB.out.b hB) (hb.below HB.out.b hB) (yX hB HB.out.size)).mono ?_
 rintro e w1 ⟨rfl,hb1⟩
 have hfin:=yW (HB.out.trans (hb1.mono HB.out.size))
 clear hb1
 go_wp2_with fail
 go_ret
 exact ⟨rfl,hfin.out⟩
theorem mP (d:Nat) (hd:d≤100):∀(da db:Nat) (a b:Tm) (vs ws:List Value) (B:Nat) (w:World),RTm w B da a vs→RTm w B db b ws→B≤w.heap.size →
 Calls Tryz.prog 118 #[.agg vs.toArray,.agg ws.toArray,.int .i64 d] w fun e w'=>e=.returned (.int .i64 (aU d a b))∧BelowD w.heap.size w w':=by
 induction d with
 | zero=>
   intro da db a b vs ws B w ha hb hB
   obtain ⟨A,c,rfl,_⟩:=ha.cells
   obtain ⟨A',c',rfl,_⟩:=hb.cells
   show Calls _ _ #[_,_,.int .i64 0] _ _
   go_enter Tryz.func118,Tryz.ntmps118
   go_wp2_with fail
   refine bf 15 (by kernel_rfl) (by kernel_rfl) ?_
   simp only [List.take_succ_cons,List.take_zero,List.drop_succ_cons,List.drop_zero]
   repeat still_step
   still_call (jN (dJ _ _ _))
   repeat still_step
   still_call (jN (eq _ _ _))
   repeat still_step
   still_call (jN (de _ _ _))
   refine wpStill_nil ?_
   go_wp2_with fail
   refine (iI (cR a.kind b.kind) (cR a.n b.n) (cZ (bs a.s) (bs b.s)) _ _ (by go_simp) (by go_simp) (by go_simp)).mono ?_
   rintro e w' ⟨rfl,rfl⟩
   by_cases hz:(ik a b !=0)=true
   all_goals (unfold ik at hz;try rw [Bool.not_eq_true] at hz)
   all_goals
    go_wp2_with fail
    go_ret
    exact ⟨rfl,pu _ _ _ _ _⟩
 | succ d ih=>
   intro da db a b vs ws B w ha hb hB
   obtain ⟨A,c,rfl,_⟩:=ha.cells
   obtain ⟨A',c',rfl,_⟩:=hb.cells
   go_enter Tryz.func118,Tryz.ntmps118
   go_wp2_with fail
   refine bf 15 (by kernel_rfl) (by kernel_rfl) ?_
   simp only [List.take_succ_cons,List.take_zero,List.drop_succ_cons,List.drop_zero]
   repeat still_step
   still_call (jN (dJ _ _ _))
   repeat still_step
   still_call (jN (eq _ _ _))
   repeat still_step
   still_call (jN (de _ _ _))
   refine wpStill_nil ?_
   go_wp2_with fail
   refine (iI (cR a.kind b.kind) (cR a.n b.n) (cZ (bs a.s) (bs b.s)) _ _ (by go_simp) (by go_simp) (by go_simp)).mono ?_
   rintro e w' ⟨rfl,rfl⟩
   have hd0:(((d+1:Nat):Int)==0)=false:=by simp;omega
   by_cases hz:(ik a b !=0)=true
   all_goals (have HZ:=yW hz;unfold ik at hz;try rw [Bool.not_eq_true] at hz)
   ·go_wp2_with fail
    go_ret
    exact ⟨ar (by rw [aU,if_neg (by simpa using HZ.out)];rfl),pu _ _ _ _ _⟩
   ·go_wp2_with fail
    obtain ⟨_,_,e1,a1,a2,a3,a4,a5,hA⟩:=ha.cells
    obtain ⟨rfl,rfl⟩:_∧_:=by simpa using e1
    obtain ⟨_,_,e2,b1,b2,b3,b4,b5,hB'⟩:=hb.cells
    obtain ⟨rfl,rfl⟩:_∧_:=by simpa using e2
    have hbel:=pu w (.cells #[.int .i64 a.kind,.int .i64 a.n,.string a.s,.slice A a.l.length c] 79) (.cells #[.int .i64 b.kind,.int .i64 b.n,.string b.s,.slice A' b.l.length c'] 79)
     (.cells #[.int .i64 (d+1)] 3) (.cells #[.int .i64 (cR a.kind b.kind),.int .i64 (cR a.n b.n),.int .i64 (cZ (bs a.s) (bs b.s))] 3)
    refine (fo 185 _ (aU d) (da-1) (db-1) a.l b.l A A' c c' B _ qV (hA.below hbel.b hB) (hB'.below hbel.b hB) (yX hB hbel.size) (by omega) (by omega) ?_).mono ?_
    ·intro x y vs ws w1 hb1 hx hy
     refine (lH d (by omega) (fun da db a b vs ws B w h1 h2 h3=>ih (by omega) da db a b vs ws B w h1 h2 h3) _ _ x y vs ws _ B w1 ((hb1.cell (by simp)).trans (by go_simp)) hx hy (yX hB (yX hbel.size hb1.size)))
    ·rintro e w1 ⟨rfl,hb1⟩
     have hfin:=hbel.trans (hb1.mono hbel.size)
     clear hb1 hbel
     go_wp2_with fail
     go_ret
     exact ⟨ar (by rw [aU,if_pos (by simpa using HZ.out)]),hfin⟩
theorem nK (da db:Nat) (a b:Tm) (vs ws:List Value) (B:Nat) (w:World) (ha:RTm w B da a vs) (hb:RTm w B db b ws) (hB:B≤w.heap.size) :
 Calls Tryz.prog 62 #[.agg vs.toArray,.agg ws.toArray] w fun e w'=>e=.returned (.int .i64 (aU 3 a b))∧BelowD w.heap.size w w':=by
 obtain ⟨A,c,rfl,_⟩:=ha.cells
 obtain ⟨A',c',rfl,_⟩:=hb.cells
 have hbel:BelowD w.heap.size w ((w.alloc (.cells #[.int .i64 a.kind,.int .i64 a.n,.string a.s,.slice A a.l.length c] 79)).alloc (.cells #[.int .i64 b.kind,.int .i64 b.n,.string b.s,.slice A' b.l.length c'] 79)):=
  ((BelowD.refl _ _).alloc (yY _) _).alloc (by simp) _
 have HB:=yW hbel
 clear hbel
 go_enter Tryz.func62,Tryz.ntmps62
 go_wp2_with fail
 refine (mP 3 (by omega) da db a b [_,_,_,_] [_,_,_,_] B _ (ha.below HB.out.b hB) (hb.below HB.out.b hB) (yX hB HB.out.size)).mono ?_
 rintro e w1 ⟨rfl,hb1⟩
 have hfin:=yW (HB.out.trans (hb1.mono HB.out.size))
 clear hb1
 go_wp2_with fail
 go_ret
 exact ⟨rfl,hfin.out⟩
theorem kk {d e B:Nat} {x y:Ans} {va vb:List Value} {w:World} (ha:(mC d).rd w B x va) (hb:(mC e).rd w B y vb) (hx:AnOk x) (hy:AnOk y) (hB:B≤w.heap.size) :
 Calls Tryz.prog 19 #[.agg va.toArray,.agg vb.toArray] w fun z w'=>z=.returned (.int .i64 (aM x y))∧BelowD w.heap.size w w':=by
 obtain ⟨An,cn,At,ct,rfl,hn,ht⟩:=ha
 obtain ⟨An',cn',At',ct',rfl,hn',ht'⟩:=hb
 have HN:=yW hn
 have HT:=yW ht
 have HN':=yW hn'
 have HT':=yW ht'
 obtain ⟨x1,x2⟩:=hx
 obtain ⟨y1,y2⟩:=hy
 clear hn ht hn' ht'
 unfold anV
 go_enter Tryz.func19,Tryz.ntmps19
 go_upto_region 1 with fail
 generalize hW:World.alloc _ _=w1
 have hdr:=dr2 hW
 obtain ⟨hb,hz⟩:=al2 hW
 have HA1:=yW (n21 hW)
 have HB1:=yW (n22 hW)
 have HU1:=yW (BelowD.mk hb (Nat.le_of_eq hdr.symm))
 clear hW hb hdr
 have hsz:=HU1.out.size
 have hB1:B≤w1.heap.size:=yX hB hsz
 have HSL:Hid (∀{w':World},Below w1.heap.size w1 w'→(w'.cell? ⟨w.heap.size,0,none⟩=some (.slice An x.b.names.length cn)∧w'.cell? ⟨w.heap.size,1,none⟩=some (.slice At x.b.terms.length ct)∧w'.cell? ⟨w.heap.size,2,none⟩=some (.int .u32 x.o)∧w'.cell? ⟨w.heap.size+1,0,none⟩=some (.slice An' y.b.names.length cn')∧w'.cell? ⟨w.heap.size+1,1,none⟩=some (.slice At' y.b.terms.length ct')∧w'.cell? ⟨w.heap.size+1,2,none⟩=some (.int .u32 y.o))):=yW (fun hb=>⟨(HA1.out.later hb).cell 0,(HA1.out.later hb).cell 1,(HA1.out.later hb).cell 2,(HB1.out.later hb).cell 0,(HB1.out.later hb).cell 1,(HB1.out.later hb).cell 2⟩)
 refine aG (fun w'=>w'.cell? ⟨w.heap.size,0,none⟩=some (.slice An x.b.names.length cn)∧w'.cell? ⟨w.heap.size,1,none⟩=some (.slice At x.b.terms.length ct)∧w'.cell? ⟨w.heap.size,2,none⟩=some (.int .u32 x.o)∧w'.cell? ⟨w.heap.size+1,0,none⟩=some (.slice An' y.b.names.length cn')∧w'.cell? ⟨w.heap.size+1,1,none⟩=some (.slice At' y.b.terms.length ct')∧w'.cell? ⟨w.heap.size+1,2,none⟩=some (.int .u32 y.o)) (by kernel_rfl) (HSL.out (za _ _).drew) ?_
 refine aa (i:=0) (v:=?v1_) rfl (by kernel_rfl) (by kernel_rfl) (by kernel_rfl) ?hq1_ ?hw1_ ?hy1_ ?rest1_
 case hq1_=>exact fun _ _ _ h=>h
 case hw1_=>rfl
 case hy1_=>(intro w' hS';(try dsimp only at hS');go_simp;(try with_reducible rfl))
 refine aa (i:=1) (v:=?v2_) rfl (by kernel_rfl) (by kernel_rfl) (by kernel_rfl) ?hq2_ ?hw2_ ?hy2_ ?rest2_
 case hq2_=>exact fun _ _ _ h=>h
 case hw2_=>rfl
 case hy2_=>(intro w' hS';(try dsimp only at hS');go_simp;(try with_reducible rfl))
 refine aa (i:=2) (v:=?v3_) rfl (by kernel_rfl) (by kernel_rfl) (by kernel_rfl) ?hq3_ ?hw3_ ?hy3_ ?rest3_
 case hq3_=>exact fun _ _ _ h=>h
 case hw3_=>rfl
 case hy3_=>(intro w' hS';(try dsimp only at hS');go_simp;(try with_reducible rfl))
 refine aa (i:=3) (v:=?v4_) rfl (by kernel_rfl) (by kernel_rfl) (by kernel_rfl) ?hq4_ ?hw4_ ?hy4_ ?rest4_
 case hq4_=>exact fun _ _ _ h=>h
 case hw4_=>rfl
 case hy4_=>(intro w' hS';(try dsimp only at hS');go_simp;(try with_reducible rfl))
 refine aa (i:=4) (v:=?v5_) rfl (by kernel_rfl) (by kernel_rfl) (by kernel_rfl) ?hq5_ ?hw5_ ?hy5_ ?rest5_
 case hq5_=>exact fun _ _ _ h=>h
 case hw5_=>rfl
 case hy5_=>(intro w' hS';(try dsimp only at hS');go_simp;(try with_reducible rfl))
 refine aa (i:=5) (v:=?v6_) rfl (by kernel_rfl) (by kernel_rfl) (by kernel_rfl) ?hq6_ ?hw6_ ?hy6_ ?rest6_
 case hq6_=>exact fun _ _ _ h=>h
 case hw6_=>rfl
 case hy6_=>(intro w' hS';(try dsimp only at hS');go_simp;(try with_reducible rfl))
 refine aa (i:=7) (v:=?v7_) rfl (by kernel_rfl) (by kernel_rfl) (by kernel_rfl) ?hq7_ ?hw7_ ?hy7_ ?rest7_
 case hq7_=>exact fun _ _ _ h=>h
 case hw7_=>rfl
 case hy7_=>(intro w' hS';(try dsimp only at hS');go_simp;(try with_reducible rfl))
 refine aa (i:=8) (v:=?v8_) rfl (by kernel_rfl) (by kernel_rfl) (by kernel_rfl) ?hq8_ ?hw8_ ?hy8_ ?rest8_
 case hq8_=>exact fun _ _ _ h=>h
 case hw8_=>rfl
 case hy8_=>(intro w' hS';(try dsimp only at hS');go_simp;(try with_reducible rfl))
 refine aa (i:=9) (v:=?v9_) rfl (by kernel_rfl) (by kernel_rfl) (by kernel_rfl) ?hq9_ ?hw9_ ?hy9_ ?rest9_
 case hq9_=>exact fun _ _ _ h=>h
 case hw9_=>rfl
 case hy9_=>(intro w' hS';(try dsimp only at hS');go_simp;(try with_reducible rfl))
 refine aa (i:=10) (v:=?v10_) rfl (by kernel_rfl) (by kernel_rfl) (by kernel_rfl) ?hq10_ ?hw10_ ?hy10_ ?rest10_
 case hq10_=>exact fun _ _ _ h=>h
 case hw10_=>rfl
 case hy10_=>(intro w' hS';(try dsimp only at hS');go_simp;(try with_reducible rfl))
 refine aa (i:=11) (v:=?v11_) rfl (by kernel_rfl) (by kernel_rfl) (by kernel_rfl) ?hq11_ ?hw11_ ?hy11_ ?rest11_
 case hq11_=>exact fun _ _ _ h=>h
 case hw11_=>rfl
 case hy11_=>(intro w' hS';(try dsimp only at hS');go_simp;(try with_reducible rfl))
 refine aa (i:=12) (v:=?v12_) rfl (by kernel_rfl) (by kernel_rfl) (by kernel_rfl) ?hq12_ ?hw12_ ?hy12_ ?rest12_
 case hq12_=>exact fun _ _ _ h=>h
 case hw12_=>rfl
 case hy12_=>(intro w' hS';(try dsimp only at hS');go_simp;(try with_reducible rfl))
 refine aa (i:=14) (v:=?v13_) rfl (by kernel_rfl) (by kernel_rfl) (by kernel_rfl) ?hq13_ ?hw13_ ?hy13_ ?rest13_
 case hq13_=>exact fun _ _ _ h=>h
 case hw13_=>rfl
 case hy13_=>(intro w' hS';(try dsimp only at hS');go_simp;(try with_reducible rfl))
 refine aa (i:=15) (v:=?v14_) rfl (by kernel_rfl) (by kernel_rfl) (by kernel_rfl) ?hq14_ ?hw14_ ?hy14_ ?rest14_
 case hq14_=>exact fun _ _ _ h=>h
 case hw14_=>rfl
 case hy14_=>(intro w' hS';(try dsimp only at hS');go_simp;(try with_reducible rfl))
 refine aa (i:=16) (v:=?v15_) rfl (by kernel_rfl) (by kernel_rfl) (by kernel_rfl) ?hq15_ ?hw15_ ?hy15_ ?rest15_
 case hq15_=>exact fun _ _ _ h=>h
 case hw15_=>rfl
 case hy15_=>(intro w' hS';(try dsimp only at hS');go_simp;(try with_reducible rfl))
 refine aa (i:=17) (v:=?v16_) rfl (by kernel_rfl) (by kernel_rfl) (by kernel_rfl) ?hq16_ ?hw16_ ?hy16_ ?rest16_
 case hq16_=>exact fun _ _ _ h=>h
 case hw16_=>rfl
 case hy16_=>(intro w' hS';(try dsimp only at hS');go_simp;(try with_reducible rfl))
 generalize hD:World.drew w1=w2
 have HU:Hid (BelowD w1.heap.size w1 w2):=yW (hD▸(BelowD.refl w1.heap.size w1).drew)
 clear hD
 refine au (rs:=[6]) (by kernel_rfl) rfl ?_
 refine ak.cons rfl (fun K hK=>?_) ak.nil
 go_simp
 refine (gf x.b.names y.b.names An An' cn cn' B w2 (HN.out.keep (HU1.out.trans (HU.out.mono hsz)).b hB) (HN'.out.keep (HU1.out.trans (HU.out.mono hsz)).b hB) (yX hB1 HU.out.size) (by omega) (by omega)).mono ?_
 rintro e w' ⟨rfl,rfl⟩
 refine hK.out _ _ (HSL.out HU.out.b) ?_
 clear hK
 refine au (rs:=[13]) (by kernel_rfl) rfl ?_
 refine ak.cons rfl (fun K hK=>?_) ak.nil
 go_simp
 refine (fo 62 #[] (aU 3) d e x.b.terms y.b.terms At At' ct ct' B w2 gW (HT.out.keep (HU1.out.trans (HU.out.mono hsz)).b hB) (HT'.out.keep (HU1.out.trans (HU.out.mono hsz)).b hB) (yX hB1 HU.out.size) (by omega) (by omega) (fun x y vs ws w9 hb9 hx hy=>nK d e x y vs ws B w9 hx hy (yX (yX hB1 HU.out.size) hb9.size))).mono ?_
 rintro z w3 ⟨rfl,hb3⟩
 have HU3:Hid (BelowD w1.heap.size w1 w3):=yW (HU.out.trans (hb3.mono HU.out.size))
 clear hb3
 refine hK.out _ _ (HSL.out HU3.out.b) ?_
 clear hK
 refine au (rs:=[18]) (by kernel_rfl) rfl ?_
 refine ak.cons rfl (fun K hK=>?_) ak.nil
 go_simp
 refine (ja _ _ _).mono ?_
 rintro e w' ⟨rfl,rfl⟩
 refine hK.out _ _ (HSL.out HU3.out.b) ?_
 clear hK
 refine au (rs:=[19]) (by kernel_rfl) rfl ?_
 refine ak.cons rfl (fun K hK=>?_) ak.nil
 go_simp
 generalize hW:World.alloc _ _=w4
 have hb4:BelowD w3.heap.size w3 w4:=⟨(al1 hW).1,Nat.le_of_eq (dr1 hW).symm⟩
 have HL4:=yW (n11 hW)
 have HU4:Hid (BelowD w1.heap.size w1 w4):=yW (HU3.out.trans (hb4.mono HU3.out.size))
 clear hW hb4
 refine hK.out _ _ (HSL.out HU4.out.b) ?_
 clear hK
 refine au (rs:=[20]) (by kernel_rfl) rfl ?_
 refine ak.cons rfl (fun K hK=>?_) ak.nil
 go_simp
 refine (iH [ez x.b.names y.b.names,cF (aU 3) x.b.terms y.b.terms,cR x.o y.o] w3.heap.size w4 (fun i hi=>by
  rw [HL4.out.cell i]
  match i,hi with
  | 0,_=>rfl
  | 1,_=>rfl
  | 2,_=>rfl) (by simp)).mono ?_
 rintro e w' ⟨rfl,rfl⟩
 refine hK.out _ _ (HSL.out HU4.out.b) ?_
 clear hK
 refine aa (i:=21) (v:=?v17_) rfl (by kernel_rfl) (by kernel_rfl) (by kernel_rfl) ?hq17_ ?hw17_ ?hy17_ ?rest17_
 case hq17_=>exact fun _ _ _ h=>h
 case hw17_=>rfl
 case hy17_=>(intro w' hS';(try dsimp only at hS');go_simp;(try with_reducible rfl))
 refine bG (by kernel_rfl) ?_
 go_wp2_with fail
 go_ret
 exact ⟨ar rfl,HU1.out.trans (HU4.out.mono hsz)⟩
theorem sl {w w':World} (h:BelowD w.heap.size w w'):∃q os,w'=Sort.grow (w.drewN q) os:=by
 obtain ⟨p,hp⟩:=regrown_of_below h.b
 refine ⟨w'.drawn-w.drawn,p.os,?_⟩
 have hd:=h.d
 have e1:w'.drawn=p.d:=by rw [hp];rfl
 rw [hp]
 unfold Sort.grow redrawn World.drewN
 simp only [World.mk.injEq,true_and,and_true]
 show p.d=w.drawn+(p.d-w.drawn)
 omega
def tl:SV:=⟨⟨0,0,⟨#[]⟩,[]⟩,none,0⟩
theorem StkE.push {S base D c:Nat} {bn bt:Value} {w w':World} {xs:List SV} {x:SV} {next:Int} {A A':Option Addr} {c':Nat} (h:StkE S base D bn bt w xs next A c) (hx:dl D w x) (hap:mD S A x) (hlt:∀a,x.a=some a→base≤a.block∧a.block<w.heap.size)
 (hb:Below 0 w w') (hk:∀b,b<w.heap.size→b≠S→(∀a,A=some a→a.block≠b)→w'.heap[b]? = w.heap[b]?)
 (hd:bV w' S #[bn,bt,.slice A' (xs++[x]).length c',.int .i64 next] 243) (ho:am SvR 79 w' base 0 (.slice A' (xs++[x]).length c') (xs++[x]))
 (hf:∀b,A'=some b→(∃a,A=some a∧a.block=b.block)∨w.heap.size≤b.block):StkE S base D bn bt w' (xs++[x]) next A' c':=by
 have key:∀y,dl D w y→(∀a,y.a=some a→a.block≠S∧∀b,A=some b→a.block≠b.block)→(∀a,y.a=some a→base≤a.block∧a.block<w.heap.size)→dl D w' y∧∀a,y.a=some a→(base≤a.block∧a.block<w'.heap.size)∧a.block≠S∧∀b,A'=some b→a.block≠b.block:=by
  intro y hy hs hl
  refine ⟨hy.keep hb fun a ha=>hk _ (hl a ha).2 (hs a ha).1 fun b hb2 e=>(hs a ha).2 b hb2 e.symm,fun a ha=>⟨⟨(hl a ha).1,zb (hl a ha).2 hb.size⟩,(hs a ha).1,fun b hb2 e=>?_⟩⟩
  rcases hf b hb2 with ⟨a2,h2,e2⟩ | h2
  ·exact (hs a ha).2 a2 h2 (e.trans e2.symm)
  ·have:=(hl a ha).2
   omega
 have hall:∀y∈xs++[x],dl D w' y∧∀a,y.a=some a→(base≤a.block∧a.block<w'.heap.size)∧a.block≠S∧∀b,A'=some b→a.block≠b.block:=by
  intro y hy
  rcases List.mem_append.1 hy with h1 | h1
  ·exact key y (h.tms y h1) (h.sep y h1) (h.lt y h1)
  ·rw [List.mem_singleton] at h1
   subst h1
   exact key y hx hap hlt
 exact ⟨hd,ho,fun y hy=>(hall y hy).1,fun y hy a ha=>((hall y hy).2 a ha).2,fun y hy a ha=>((hall y hy).2 a ha).1⟩
structure BelX (B S:Nat) (w w':World):Prop where
 os:w'.os=w.os
 tape:w'.tape=w.tape
 output:w'.output=w.output
 size:w.heap.size≤w'.heap.size
 block:∀k,k<B→k≠S→w'.heap[k]? = w.heap[k]?
section
variable {B S:Nat} {w w' w'':World}
theorem BelX.of (h:Below B w w'):BelX B S w w':=⟨h.os,h.tape,h.output,h.size,fun k hk _=>h.block k hk⟩
theorem BelX.exc (h:Exc S w w') (hb:B≤w.heap.size):BelX B S w w':=⟨h.1.os,h.1.tape,h.1.output,h.1.size,fun k hk hne=>h.2 k (zb hk hb) hne⟩
theorem BelX.refl (B S:Nat) (w:World):BelX B S w w:=.of (.refl _ _)
theorem BelX.trans (h:BelX B S w w') (k:BelX B S w' w''):BelX B S w w'':=⟨k.os.trans h.os,k.tape.trans h.tape,k.output.trans h.output,yX h.size k.size,fun i hi hne=>(k.block i hi hne).trans (h.block i hi hne)⟩
theorem BelX.setCell (h:BelX B S w w') {p:Addr} (hp:B≤p.block) (v:Value):BelX B S w (w'.setCell p v):=h.trans (.of ((za B w').setCell hp v))
theorem BelX.setS (h:BelX B S w w') (i:Nat) (v:Value):BelX B S w (w'.setCell ⟨S,i,none⟩ v):=
 have k:=(za 0 w').setCell (p:=⟨S,i,none⟩) (yZ _) v
 h.trans ⟨k.os,k.tape,k.output,k.size,fun b _ hne=>Below.heap_setCell w' ⟨S,i,none⟩ v b hne⟩
theorem BelX.drew (h:BelX B S w w'):BelX B S w w'.drew:=h.trans (.of (za B w').drew)
theorem BelX.zero (h:BelX B S w w'):Below 0 w w':=⟨h.os,h.tape,h.output,h.size,fun k hk=>absurd hk (Nat.not_lt_zero _)⟩
theorem BelX.mono {B':Nat} (h:BelX B S w w') (hB:B'≤B):BelX B' S w w':=⟨h.os,h.tape,h.output,h.size,fun k hk=>h.block k (by omega)⟩
theorem BelX.low (h:BelX B S w w') (hB:B≤S):Below B w w':=⟨h.os,h.tape,h.output,h.size,fun k hk=>h.block k hk (by omega)⟩
end
theorem ro {S base D c g2 c2:Nat} {bn bt:Value} {w wA w2 wf:World} {xs:List SV} {x:SV} {next:Int} {A:Option Addr} (h:StkE S base D bn bt w xs next A c) (hx:dl D w x) (hap:mD S A x) (hlt:∀a,x.a=some a→base≤a.block∧a.block<w.heap.size) (hb:base≤w.heap.size)
 (hA:Below w.heap.size w wA) (hg:wA.grownBy w2 (Value.slice A xs.length c).ownBlock) (hf:bl wA (.slice A xs.length c) (.slice (some ⟨g2,0,none⟩) (xs.length+1) c2)) (hg2:base≤g2)
 (hfin:∀b,b≠S→b≠g2→wf.heap[b]? = w2.heap[b]?) (hbf:BelX base S w2 wf)
 (hd:bV wf S #[bn,bt,.slice (some ⟨g2,0,none⟩) (xs.length+1) c2,.int .i64 next] 243) (ho:am SvR 79 wf base 0 (.slice (some ⟨g2,0,none⟩) (xs.length+1) c2) (xs++[x])) :
 BelX base S w wf∧∃A' c',StkE S base D bn bt wf (xs++[x]) next A' c':=by
 have hAb:∀k,(Value.slice A xs.length c).ownBlock=some k→base≤k:=by
  obtain ⟨cells,how,_⟩:=h.own
  exact fun k hk=>(how.lt k hk).1
 have hsz:=hA.size
 have hB2:Below base wA w2:=(za base wA).grown hg (by omega) hAb
 have hB:BelX base S w wf:=(BelX.of ((hA.mono hb).trans hB2)).trans hbf
 have e1:xs.length+1=(xs++[x]).length:=by simp
 rw [e1] at hd ho
 refine ⟨hB,_,_,h.push hx hap hlt hB.zero (fun b hbl hbS2 hne=>?_) hd ho fun b hb2=>?_⟩
 ·have hnr:some b≠(Value.slice A xs.length c).ownBlock:=by
   rcases A with _ | a
   ·simp [Value.ownBlock]
   ·simp only [Value.ownBlock,ne_eq,Option.some.injEq]
    exact fun e=>hne a rfl e.symm
  have hng:b≠g2:=by
   rcases hf with hf | ⟨k,hk,hk2⟩
   ·intro e
    subst e
    exact hnr hf
   ·simp only [Value.ownBlock,Option.some.injEq] at hk
    omega
  rw [hfin b hbS2 hng,hg.block b (zb hbl hsz) hnr,hA.block b hbl]
 ·simp only [Option.some.injEq] at hb2
  subst hb2
  rcases hf with hf | ⟨k,hk,hk2⟩
  ·rcases A with _ | a
   ·simp [Value.ownBlock] at hf
   ·simp only [Value.ownBlock,Option.some.injEq] at hf
    exact .inl ⟨a,rfl,hf.symm⟩
  ·simp only [Value.ownBlock,Option.some.injEq] at hk
   subst hk
   exact .inr (by show w.heap.size≤g2;omega)
theorem uS {w2:World} {base g2 c2:Nat} {xs:List SV} (ho:am SvR 79 w2 base 0 (.slice (some ⟨g2,0,none⟩) (xs.length+1) c2) (xs++[tl])) (x:SV):am SvR 79 ((((w2.setCell ⟨g2,xs.length*4,none⟩ (.int .i64 x.t.kind)).setCell ⟨g2,xs.length*4+1,none⟩ (.int .i64 x.t.n)).setCell ⟨g2,xs.length*4+2,none⟩ (.string x.t.s)).setCell ⟨g2,xs.length*4+3,none⟩ (.slice x.a x.t.l.length x.c)) base 0 (.slice (some ⟨g2,0,none⟩) (xs.length+1) c2) (xs++[x]):=by
 obtain ⟨g3,c3,e3,_,_,_,_,_,_,hp3⟩:=ho.last
 simp only [Value.slice.injEq,Option.some.injEq,Addr.mk.injEq,and_true,true_and] at e3
 obtain ⟨rfl,rfl⟩:=e3
 exact hp3 x
theorem vx {S base D c g2 c2:Nat} {bn bt:Value} {w wA w2:World} {xs:List SV} {x:SV} {next:Int} {A:Option Addr} (h:StkE S base D bn bt w xs next A c) (hx:dl D w x) (hap:mD S A x) (hlt:∀a,x.a=some a→base≤a.block∧a.block<w.heap.size) (hb:base≤w.heap.size)
 (hA:Below w.heap.size w wA) (ho:am SvR 79 w2 base 0 (.slice (some ⟨g2,0,none⟩) (xs.length+1) c2) (xs++[tl])) (hg:wA.grownBy w2 (Value.slice A xs.length c).ownBlock) (hf:bl wA (.slice A xs.length c) (.slice (some ⟨g2,0,none⟩) (xs.length+1) c2)) (hg2:base≤g2) (hne:S≠g2) (hd:bV w2 S #[bn,bt,.slice A xs.length c,.int .i64 next] 243) :
 BelX base S w (((((w2.setCell ⟨g2,xs.length*4,none⟩ (.int .i64 x.t.kind)).setCell ⟨g2,xs.length*4+1,none⟩ (.int .i64 x.t.n)).setCell ⟨g2,xs.length*4+2,none⟩ (.string x.t.s)).setCell ⟨g2,xs.length*4+3,none⟩ (.slice x.a x.t.l.length x.c)).setCell ⟨S,2,none⟩ (.slice (some ⟨g2,0,none⟩) (xs.length+1) c2))∧∃A' c',StkE S base D bn bt (((((w2.setCell ⟨g2,xs.length*4,none⟩ (.int .i64 x.t.kind)).setCell ⟨g2,xs.length*4+1,none⟩ (.int .i64 x.t.n)).setCell ⟨g2,xs.length*4+2,none⟩ (.string x.t.s)).setCell ⟨g2,xs.length*4+3,none⟩ (.slice x.a x.t.l.length x.c)).setCell ⟨S,2,none⟩ (.slice (some ⟨g2,0,none⟩) (xs.length+1) c2)) (xs++[x]) next A' c':=by
 have d1:=hd.far hne (xs.length*4) (.int .i64 x.t.kind)
 have d2:=d1.far hne (xs.length*4+1) (.int .i64 x.t.n)
 have d3:=d2.far hne (xs.length*4+2) (.string x.t.s)
 have d4:=d3.far hne (xs.length*4+3) (.slice x.a x.t.l.length x.c)
 have b1:=(za base w2).setCell (p:=⟨g2,xs.length*4,none⟩) hg2 (.int .i64 x.t.kind)
 have b2:=b1.setCell (p:=⟨g2,xs.length*4+1,none⟩) hg2 (.int .i64 x.t.n)
 have b3:=b2.setCell (p:=⟨g2,xs.length*4+2,none⟩) hg2 (.string x.t.s)
 have b4:=b3.setCell (p:=⟨g2,xs.length*4+3,none⟩) hg2 (.slice x.a x.t.l.length x.c)
 have b5:=(BelX.of (S:=S) b4).setS 2 (.slice (some ⟨g2,0,none⟩) (xs.length+1) c2)
 refine ro h hx hap hlt hb hA hg hf hg2 (fun b h1 h2=>?_) b5 (d4.set_ 2 (.slice (some ⟨g2,0,none⟩) (xs.length+1) c2)) ((uS ho x).farT d4 yQ 2 (.slice (some ⟨g2,0,none⟩) (xs.length+1) c2))
 rw [Below.heap_setCell _ ⟨S,2,none⟩ _ b h1,Below.heap_setCell _ ⟨g2,xs.length*4+3,none⟩ _ b h2,Below.heap_setCell _ ⟨g2,xs.length*4+2,none⟩ _ b h2,Below.heap_setCell _ ⟨g2,xs.length*4+1,none⟩ _ b h2,Below.heap_setCell _ ⟨g2,xs.length*4,none⟩ _ b h2]
theorem vz {S base D c g2 c2:Nat} {bn bt:Value} {w wA w2:World} {xs:List SV} {x:SV} {next:Int} {A:Option Addr} (h:StkE S base D bn bt w xs next A c) (hx:dl D w x) (hap:mD S A x) (hlt:∀a,x.a=some a→base≤a.block∧a.block<w.heap.size) (hb:base≤w.heap.size)
 (hA:Below w.heap.size w wA) (ho:am SvR 79 w2 base 0 (.slice (some ⟨g2,0,none⟩) (xs.length+1) c2) (xs++[tl])) (hg:wA.grownBy w2 (Value.slice A xs.length c).ownBlock) (hf:bl wA (.slice A xs.length c) (.slice (some ⟨g2,0,none⟩) (xs.length+1) c2)) (hg2:base≤g2) (hne:S≠g2) (hd:bV w2 S #[bn,bt,.slice A xs.length c,.int .i64 next] 243) :
 BelX base S w (((((w2.setCell ⟨S,2,none⟩ (.slice (some ⟨g2,0,none⟩) (xs.length+1) c2)).setCell ⟨g2,xs.length*4,none⟩ (.int .i64 x.t.kind)).setCell ⟨g2,xs.length*4+1,none⟩ (.int .i64 x.t.n)).setCell ⟨g2,xs.length*4+2,none⟩ (.string x.t.s)).setCell ⟨g2,xs.length*4+3,none⟩ (.slice x.a x.t.l.length x.c))∧∃A' c',StkE S base D bn bt (((((w2.setCell ⟨S,2,none⟩ (.slice (some ⟨g2,0,none⟩) (xs.length+1) c2)).setCell ⟨g2,xs.length*4,none⟩ (.int .i64 x.t.kind)).setCell ⟨g2,xs.length*4+1,none⟩ (.int .i64 x.t.n)).setCell ⟨g2,xs.length*4+2,none⟩ (.string x.t.s)).setCell ⟨g2,xs.length*4+3,none⟩ (.slice x.a x.t.l.length x.c)) (xs++[x]) next A' c':=by
 have d0:=hd.set_ 2 (.slice (some ⟨g2,0,none⟩) (xs.length+1) c2)
 have d1:=d0.far hne (xs.length*4) (.int .i64 x.t.kind)
 have d2:=d1.far hne (xs.length*4+1) (.int .i64 x.t.n)
 have d3:=d2.far hne (xs.length*4+2) (.string x.t.s)
 have d4:=d3.far hne (xs.length*4+3) (.slice x.a x.t.l.length x.c)
 have b0:=(BelX.refl base S w2).setS 2 (.slice (some ⟨g2,0,none⟩) (xs.length+1) c2)
 have b1:=b0.setCell (p:=⟨g2,xs.length*4,none⟩) hg2 (.int .i64 x.t.kind)
 have b2:=b1.setCell (p:=⟨g2,xs.length*4+1,none⟩) hg2 (.int .i64 x.t.n)
 have b3:=b2.setCell (p:=⟨g2,xs.length*4+2,none⟩) hg2 (.string x.t.s)
 have b4:=b3.setCell (p:=⟨g2,xs.length*4+3,none⟩) hg2 (.slice x.a x.t.l.length x.c)
 refine ro h hx hap hlt hb hA hg hf hg2 (fun b h1 h2=>?_) b4 d4 (uS (ho.farT hd yQ 2 (.slice (some ⟨g2,0,none⟩) (xs.length+1) c2)) x)
 rw [Below.heap_setCell _ ⟨g2,xs.length*4+3,none⟩ _ b h2,Below.heap_setCell _ ⟨g2,xs.length*4+2,none⟩ _ b h2,Below.heap_setCell _ ⟨g2,xs.length*4+1,none⟩ _ b h2,Below.heap_setCell _ ⟨g2,xs.length*4,none⟩ _ b h2,Below.heap_setCell _ ⟨S,2,none⟩ _ b h1]
theorem push_ok {S base D c:Nat} {bn bt:Value} {w:World} {xs:List SV} {x:SV} {next:Int} {A:Option Addr} (h:StkE S base D bn bt w xs next A c) (hx:dl D w x) (hap:mD S A x) (hlt:∀a,x.a=some a→base≤a.block∧a.block<w.heap.size) (hb:base≤w.heap.size) (hn:xs.length≤100000) :
 Calls Tryz.prog 245 #[.pointer (some ⟨S,0,none⟩),.agg x.cs.toArray,.int .i64 0] w fun e w'=>e=.returned (.int .i64 0)∧BelX base S w w'∧∃A' c',StkE S base D bn bt w' (xs++[x]) next A' c':=by
 obtain ⟨i0,hi0,hz0,hz1,hz2⟩:=info_parts iz
 have HS:=yW h
 have HX:=yW (And.intro hx (And.intro hap hlt))
 have hSlt:=h.hd.blk.lt
 clear h hx hap hlt
 unfold SV.cs
 go_enter Tryz.func245,Tryz.ntmps245
 go_wp2_with fail
 generalize hW:World.alloc _ _=w1
 obtain ⟨hb1,hz⟩:=al1 hW
 have BX:=yW (show bV w1 w.heap.size #[.int .i64 x.t.kind,.int .i64 x.t.n,.string x.t.s,.slice x.a x.t.l.length x.c] 79 from hW▸heap_alloc_new w _)
 have HS1:=yW (HS.out.later hb1)
 have HB1:=yW hb1
 clear hW hb1
 have s1:w1.drew.cell? ⟨S,2,none⟩=some (.slice A xs.length c):=HS1.out.hd.blk.cell 2
 have s2:w1.drew.cell? ⟨w.heap.size,0,none⟩=some (.int .i64 x.t.kind):=BX.out.blk.cell 0
 have s3:w1.drew.cell? ⟨w.heap.size,1,none⟩=some (.int .i64 x.t.n):=BX.out.blk.cell 1
 have s4:w1.drew.cell? ⟨w.heap.size,2,none⟩=some (.string x.t.s):=BX.out.blk.cell 2
 have s5:w1.drew.cell? ⟨w.heap.size,3,none⟩=some (.slice x.a x.t.l.length x.c):=BX.out.blk.cell 3
 clear s1 s2 s3 s4 s5
 have k_s:=HS1.out.hd.blk.cell
 have k_x:=BX.out.blk.cell
 have hXlt:w.heap.size<w1.heap.size:=by omega
 have hS1:S<w1.heap.size:=by omega
 have hsrc:=(Blk.src (R:=SvR) (B:=0) (x:=tl) (Blk.drew (Blk.new w1 #[.int .i64 0,.int .i64 0,.string ⟨#[]⟩,.slice none 0 0] 79)) rfl)
 rw [hz] at hsrc
 have HN:=yW (And.intro (HS1.out.own.later ((aq (w:=w1) (o:=.cells #[.int .i64 0,.int .i64 0,.string ⟨#[]⟩,.slice none 0 0] 79) rfl).drew) (yZ _)) hsrc)
 clear hsrc
 have hii:(xs.length:Int)<(xs.length:Int)+1:=by omega
 go_region_law (
  refine fh (R:=SvR) (e:=79) (base:=base) (xs:=xs) (ys:=[tl]) rfl (.tmp 12) (.tmp 15) 23 rfl (bytes:=56) Tryz.underlying23 hi0 hz0 hz1 hz2 rfl (show 0<4 by omega) dv rfl HN.out.1 rfl HN.out.2 rfl (by simp only [List.length_cons,List.length_nil];omega) (by omega) (by rw [World.size_drew,World.size_alloc];omega) ?_
  intro v2 w2 hown2 hg2 hf2
  have HO2:Hid (am SvR 79 w2 base 0 v2 (xs++[tl])∧World.grownBy (w1.alloc (.cells #[.int .i64 0,.int .i64 0,.string ⟨#[]⟩,.slice none 0 0] 79)).drew w2 (Value.slice A xs.length c).ownBlock∧bl (w1.alloc (.cells #[.int .i64 0,.int .i64 0,.string ⟨#[]⟩,.slice none 0 0] 79)).drew (.slice A xs.length c) v2):=yW ⟨hown2,hg2,hf2⟩
  have bd:=((HS1.out.hd.later (aq (w:=w1) (o:=.cells #[.int .i64 0,.int .i64 0,.string ⟨#[]⟩,.slice none 0 0] 79) rfl)).drew).grown hg2 (HN.out.1.ne ((HS1.out.hd.later (aq (w:=w1) (o:=.cells #[.int .i64 0,.int .i64 0,.string ⟨#[]⟩,.slice none 0 0] 79) rfl)).drew) yQ)
  have hne2:=hown2.ne bd yQ
  have ks2:=bd.blk.cell 2
  have fs2:=bd.blk.free
  have BD:=yW bd
  obtain ⟨g2,c2,rfl,hg2lt,hg2b,hn2,hc2,hcell2,hfr2,hput2⟩:=hown2.last
  simp only [Value.ownBlock,ne_eq,Option.some.injEq] at hne2
  have hne3:S≠g2:=fun e=>hne2 e.symm
  have HP2:=yW hput2
  clear bd
  have e0:w2.cell? ⟨g2,xs.length*4,none⟩=some (.int .i64 0):=hcell2 0 _ rfl
  have e1:w2.cell? ⟨g2,xs.length*4+1,none⟩=some (.int .i64 0):=hcell2 1 _ rfl
  have e2:w2.cell? ⟨g2,xs.length*4+2,none⟩=some (.string ⟨#[]⟩):=hcell2 2 _ rfl
  have e3:w2.cell? ⟨g2,xs.length*4+3,none⟩=some (.slice none 0 0):=hcell2 3 _ rfl
  clear hown2 hg2 hf2 hput2 hcell2)
 all_goals
  go_wp2_with fail
  go_ret
  obtain ⟨hx,hap,hlt⟩:=HX.out
  have hwA:Below w.heap.size w (w1.alloc (.cells #[.int .i64 0,.int .i64 0,.string ⟨#[]⟩,.slice none 0 0] 79)).drew:=(HB1.out.alloc HB1.out.size _).drew
  refine ⟨rfl,?_⟩
  first
   | (with_reducible exact vx HS.out hx hap hlt hb hwA HO2.out.1 HO2.out.2.1 HO2.out.2.2 hg2b hne3 BD.out)
   | (with_reducible exact vz HS.out hx hap hlt hb hwA HO2.out.1 HO2.out.2.1 HO2.out.2.2 hg2b hne3 BD.out)
def yF (S base D:Nat) (bn bt:Value) (w:World) (xs:List SV) (x:SV) (next e:Int):Prop:=
 (e=0∧∃A c,StkE S base D bn bt w (xs++[x]) next A c)∨(e≠0∧∃A c,StkE S base D bn bt w xs next A c)
theorem gc {S base D c:Nat} {bn bt:Value} {w:World} {xs:List SV} {x:SV} {next e0:Int} {A:Option Addr} (h:StkE S base D bn bt w xs next A c) (hx:dl D w x) (hap:mD S A x) (hlt:∀a,x.a=some a→base≤a.block∧a.block<w.heap.size) (hb:base≤w.heap.size) (hn:xs.length≤100000) :
 Calls Tryz.prog 245 #[.pointer (some ⟨S,0,none⟩),.agg x.cs.toArray,.int .i64 e0] w fun e w'=>e=.returned (.int .i64 e0)∧BelX base S w w'∧yF S base D bn bt w' xs x next e0:=by
 by_cases he:e0=0
 ·subst he
  exact (push_ok h hx hap hlt hb hn).mono fun _ _ ⟨h1,h2,h3⟩=>⟨h1,h2,.inl ⟨rfl,h3⟩⟩
 ·have HS:=yW h
  have hq:(e0==0)=false:=by simpa using he
  have HE:=yW he
  clear h hx hap hlt he
  unfold SV.cs
  go_enter Tryz.func245,Tryz.ntmps245
  go_wp2_with fail
  go_ret
  have hb1:=aq (w:=w) (o:=.cells #[.int .i64 x.t.kind,.int .i64 x.t.n,.string x.t.s,.slice x.a x.t.l.length x.c] 79) rfl
  exact ⟨rfl,.of (hb1.mono hb),.inr ⟨HE.out,A,c,HS.out.later hb1⟩⟩
end Go.Proofs.YtdphibjibnffeaaGreat
