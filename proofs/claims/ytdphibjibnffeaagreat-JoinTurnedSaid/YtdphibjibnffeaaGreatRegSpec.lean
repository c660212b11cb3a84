/- Patterns as programs: what regex.Compile computes, as functions (a mirror of the program's own steps). -/
import Derived.Test.YtdphibjibnffeaaGreatAn1
import Derived.Test.YtdphibjibnffeaaGreatBSearch
set_option linter.unusedVariables false
set_option linter.unusedSimpArgs false
set_option maxRecDepth 100000
set_option maxHeartbeats 8000000
namespace Go.Proofs.YtdphibjibnffeaaGreat
open Go.ChangeShapes Go.WideShapes Go.ChangeAt Go.RowKit
structure BelowD (B:Nat) (w w':World):Prop where
 b:Below B w w'
 d:w.drawn≤w'.drawn
theorem BelowD.size {B:Nat} {w w':World} (h:BelowD B w w'):w.heap.size≤w'.heap.size:=h.b.size
theorem BelowD.refl (B:Nat) (w:World):BelowD B w w:=⟨Below.refl B w,Nat.le_refl _⟩
theorem BelowD.trans {B:Nat} {w v u:World} (h:BelowD B w v) (k:BelowD B v u):BelowD B w u:=⟨h.b.trans k.b,Nat.le_trans h.d k.d⟩
theorem BelowD.mono {B C:Nat} {w v:World} (h:BelowD B w v) (k:C≤B):BelowD C w v:=⟨h.b.mono k,h.d⟩
theorem BelowD.drew {B:Nat} {w v:World} (h:BelowD B w v):BelowD B w v.drew:=⟨h.b.drew,Nat.le_succ_of_le h.d⟩
theorem BelowD.alloc {B:Nat} {w v:World} (h:BelowD B w v) (k:B≤v.heap.size) (o:Obj):BelowD B w (v.alloc o):=⟨h.b.alloc k o,h.d⟩
theorem BelowD.cell {B:Nat} {w v:World} (h:BelowD B w v) {p:Addr} (hp:p.block<B):v.cell? p=w.cell? p:=h.b.cell hp
theorem dr1 {w W:World} {o:Obj} (h:w.alloc o=W):W.drawn=w.drawn:=by subst h;rfl
theorem dr2 {w W:World} {o p:Obj} (h:(w.alloc o).alloc p=W):W.drawn=w.drawn:=by subst h;rfl
theorem eY (F:FuncId) (cap:Array Value) (f:Tm→Tm→Int) (d e:Nat) (xs ys:List Tm) (A A':Option Addr) (c c' B:Nat) (w:World)
 (hF:∀args (w:World),(callFunc F args).run Tryz.prog w=.ok (.enter F args) w)
 (hA:iB w B d xs A) (hA':iB w B e ys A') (hB:B≤w.heap.size) (hn:xs.length*40≤140737488351232) (hn':ys.length*40≤140737488351232)
 (hf:∀(x y:Tm) (vs ws:List Value) (w1:World),BelowD w.heap.size w w1→RTm w1 B d x vs→RTm w1 B e y ws →
  Calls Tryz.prog F (#[.agg vs.toArray,.agg ws.toArray]++cap) w1 fun e w'=>e=.returned (.int .i64 (f x y))∧BelowD w1.heap.size w1 w') :
 Calls Tryz.prog 61 #[.slice A xs.length c,.slice A' ys.length c',.func (.func F) #[] cap] w fun e w'=>e=.returned (.int .i64 (bW f xs ys))∧BelowD w.heap.size w w':=by
 have HF:=Lib.hid hf
 clear hf
 go_enter Tryz.func61,Tryz.ntmps61
 go_wp2_with fail
 go_loopw [13] (fun i wr=>∃k:Nat,k≤xs.length∧i=.int .i64 k∧BelowD w.heap.size w wr∧bW f xs ys=bW f (xs.drop k) (ys.drop k)) (fun i _=>xs.length-(intOf i).toNat)
 case atStart=>exact ⟨0,Nat.zero_le _,rfl,BelowD.refl _ _,rfl⟩
 case round=>
  obtain ⟨k,hk,rfl,hbw,heq⟩:=hrel
  have HE:=Lib.hid heq
  clear heq
  by_cases hlt:k<xs.length
  ·obtain ⟨b,off,x,Ax,cx,rfl,hb,hx,c0,c1,c2,c3,hr⟩:=hA.elem hbw.b hB hlt
   by_cases hlt2:k<ys.length
   ·obtain ⟨b',off',y,Ay,cy,rfl,hb',hy,e0,e1,e2,e3,hr'⟩:=hA'.elem hbw.b hB hlt2
    have hsz:=hbw.size
    have hbw2:∀o o':Obj,BelowD w.heap.size w ((wr.alloc o).alloc o'):=fun o o'=>(hbw.alloc hsz _).alloc (by simp;omega) _
    have hbr2:∀o o':Obj,BelowD wr.heap.size wr ((wr.alloc o).alloc o'):=fun o o'=>((BelowD.refl _ _).alloc (Nat.le_refl _) _).alloc (by simp) _
    have HB:=Lib.hid hbw2
    have HR:=Lib.hid hbr2
    have hx':xs.drop k=x::xs.drop (k+1):=by
     obtain ⟨h1,h2⟩:=List.getElem?_eq_some_iff.1 hx
     rw [←h2];exact List.drop_eq_getElem_cons h1
    have hy':ys.drop k=y::ys.drop (k+1):=by
     obtain ⟨h1,h2⟩:=List.getElem?_eq_some_iff.1 hy
     rw [←h2];exact List.drop_eq_getElem_cons h1
    have HE2:Hid (bW f xs ys=if f x y=0 then bW f (xs.drop (k+1)) (ys.drop (k+1)) else f x y):=by
     have:=HE.out
     rw [hx',hy'] at this
     exact this
    clear hbw2 hbr2 hx' hy' HE
    go_wp2_with fail
    refine (HF.out x y [_,_,_,_] [_,_,_,_] _ (HB.out _ _) (hr.below (HR.out _ _).b (by omega)) (hr'.below (HR.out _ _).b (by omega))).mono ?_
    rintro e w1 ⟨rfl,hb1⟩
    have hbw1:=Lib.hid ((HB.out _ _).trans (hb1.mono (by simp;omega)))
    clear hb1
    by_cases hz:(f x y !=0)=true
    ·go_wp2_with fail
     go_ret
     exact ⟨ay (by rw [HE2.out,if_neg (by simpa using hz)]),hbw1.out⟩
    ·have hz':(f x y !=0)=false:=by simpa using hz
     go_wp2_with fail
     go_roundw
     case rel=>exact ⟨k+1,by omega,by go_num,hbw1.out,by rw [HE2.out,if_pos (by simpa using hz')]⟩
     case measure=>simp [intOf];omega
   ·have hz:ys.drop k=[]:=List.drop_eq_nil_iff.2 (by omega)
    have HE2:Hid (bW f xs ys=1):=by
     have:=HE.out
     obtain ⟨h1,h2⟩:=List.getElem?_eq_some_iff.1 hx
     rw [List.drop_eq_getElem_cons h1,hz] at this
     exact this
    have hbw2:=Lib.hid (fun o:Obj=>hbw.alloc hbw.size o)
    clear HE hz
    go_wp2_with fail
    go_ret
    exact ⟨ay HE2.out.symm,hbw2.out _⟩
  ·have hz:xs.drop k=[]:=List.drop_eq_nil_iff.2 (by omega)
   have HE2:=HE.out
   rw [hz] at HE2
   have HE3:=Lib.hid HE2
   clear HE HE2 hz
   by_cases hlt2:xs.length<ys.length
   ·go_wp2_with fail
    go_ret
    obtain rfl:k=xs.length:=by omega
    exact ⟨ay (by rw [HE3.out,List.drop_eq_getElem_cons hlt2];rfl),hbw⟩
   ·go_wp2_with fail
    go_ret
    obtain rfl:k=xs.length:=by omega
    exact ⟨ay (by rw [HE3.out,List.drop_eq_nil_iff.2 (by omega)];rfl),hbw⟩
theorem oF (w:World) (o1 o2 o3 o4:Obj):BelowD w.heap.size w ((((w.alloc o1).alloc o2).alloc o3).alloc o4).drew:=
 ((((((BelowD.refl _ _).alloc (Nat.le_refl _) _).alloc (by simp) _).alloc (by simp;omega) _).alloc (by simp;omega) _)).drew
theorem li (d:Nat) (hd:d≤100) (ih:∀(da db:Nat) (a b:Tm) (vs ws:List Value) (B:Nat) (w:World),RTm w B da a vs→RTm w B db b ws→B≤w.heap.size →
 Calls Tryz.prog 118 #[.agg vs.toArray,.agg ws.toArray,.int .i64 d] w fun e w'=>e=.returned (.int .i64 (aW d a b))∧BelowD w.heap.size w w')
 (da db:Nat) (a b:Tm) (vs ws:List Value) (G B:Nat) (w:World) (hG:w.cell? ⟨G,0,none⟩=some (.int .i64 (d+1))) (ha:RTm w B da a vs) (hb:RTm w B db b ws) (hB:B≤w.heap.size) :
 Calls Tryz.prog 185 #[.agg vs.toArray,.agg ws.toArray,.pointer (some ⟨G,0,none⟩)] w fun e w'=>e=.returned (.int .i64 (aW d a b))∧BelowD w.heap.size w w':=by
 have HI:=Lib.hid ih
 clear ih
 obtain ⟨A,c,rfl,_⟩:=ha.cells
 obtain ⟨A',c',rfl,_⟩:=hb.cells
 have hGl:G<w.heap.size:=block_lt_of_cell hG
 go_enter Tryz.func185,Tryz.ntmps185
 have hbel:BelowD w.heap.size w ((w.alloc (.cells #[.int .i64 a.kind,.int .i64 a.n,.string a.s,.slice A a.l.length c] 79)).alloc (.cells #[.int .i64 b.kind,.int .i64 b.n,.string b.s,.slice A' b.l.length c'] 79)):=
  ((BelowD.refl _ _).alloc (Nat.le_refl _) _).alloc (by simp) _
 have HB:=Lib.hid hbel
 clear hbel
 go_wp2_with fail
 refine (HI.out da db a b [_,_,_,_] [_,_,_,_] B _ (ha.below HB.out.b hB) (hb.below HB.out.b hB) (Nat.le_trans hB HB.out.size)).mono ?_
 rintro e w1 ⟨rfl,hb1⟩
 have hfin:=Lib.hid (HB.out.trans (hb1.mono HB.out.size))
 clear hb1
 go_wp2_with fail
 go_ret
 exact ⟨rfl,hfin.out⟩
theorem mi (d:Nat) (hd:d≤100):∀(da db:Nat) (a b:Tm) (vs ws:List Value) (B:Nat) (w:World),RTm w B da a vs→RTm w B db b ws→B≤w.heap.size →
 Calls Tryz.prog 118 #[.agg vs.toArray,.agg ws.toArray,.int .i64 d] w fun e w'=>e=.returned (.int .i64 (aW d a b))∧BelowD w.heap.size w w':=by
 induction d with
 | zero=>
   intro da db a b vs ws B w ha hb hB
   obtain ⟨A,c,rfl,_⟩:=ha.cells
   obtain ⟨A',c',rfl,_⟩:=hb.cells
   show Calls _ _ #[_,_,.int .i64 0] _ _
   go_enter Tryz.func118,Tryz.ntmps118
   go_wp2_with fail
   refine bi 15 (by kernel_rfl) (by kernel_rfl) ?_
   simp only [List.take_succ_cons,List.take_zero,List.drop_succ_cons,List.drop_zero]
   repeat still_step
   still_call (jv (dC _ _ _))
   repeat still_step
   still_call (jv (eh _ _ _))
   repeat still_step
   still_call (jv (cU _ _ _))
   refine wpStill_nil ?_
   go_wp2_with fail
   refine (im (cM a.kind b.kind) (cM a.n b.n) (cT (bs a.s) (bs b.s)) _ _ (by go_simp) (by go_simp) (by go_simp)).mono ?_
   rintro e w' ⟨rfl,rfl⟩
   by_cases hz:(gR a b !=0)=true
   all_goals (unfold gR at hz;try rw [Bool.not_eq_true] at hz)
   all_goals
    go_wp2_with fail
    go_ret
    exact ⟨rfl,oF _ _ _ _ _⟩
 | succ d ih=>
   intro da db a b vs ws B w ha hb hB
   obtain ⟨A,c,rfl,_⟩:=ha.cells
   obtain ⟨A',c',rfl,_⟩:=hb.cells
   go_enter Tryz.func118,Tryz.ntmps118
   go_wp2_with fail
   refine bi 15 (by kernel_rfl) (by kernel_rfl) ?_
   simp only [List.take_succ_cons,List.take_zero,List.drop_succ_cons,List.drop_zero]
   repeat still_step
   still_call (jv (dC _ _ _))
   repeat still_step
   still_call (jv (eh _ _ _))
   repeat still_step
   still_call (jv (cU _ _ _))
   refine wpStill_nil ?_
   go_wp2_with fail
   refine (im (cM a.kind b.kind) (cM a.n b.n) (cT (bs a.s) (bs b.s)) _ _ (by go_simp) (by go_simp) (by go_simp)).mono ?_
   rintro e w' ⟨rfl,rfl⟩
   have hd0:(((d+1:Nat):Int)==0)=false:=by simp;omega
   by_cases hz:(gR a b !=0)=true
   all_goals (have HZ:=Lib.hid hz;unfold gR at hz;try rw [Bool.not_eq_true] at hz)
   ·go_wp2_with fail
    go_ret
    exact ⟨ay (by rw [aW,if_neg (by simpa using HZ.out)];rfl),oF _ _ _ _ _⟩
   ·go_wp2_with fail
    obtain ⟨_,_,e1,a1,a2,a3,a4,a5,hA⟩:=ha.cells
    obtain ⟨rfl,rfl⟩:_∧_:=by simpa using e1
    obtain ⟨_,_,e2,b1,b2,b3,b4,b5,hB'⟩:=hb.cells
    obtain ⟨rfl,rfl⟩:_∧_:=by simpa using e2
    have hbel:=oF w (.cells #[.int .i64 a.kind,.int .i64 a.n,.string a.s,.slice A a.l.length c] 79) (.cells #[.int .i64 b.kind,.int .i64 b.n,.string b.s,.slice A' b.l.length c'] 79)
     (.cells #[.int .i64 (d+1)] 3) (.cells #[.int .i64 (cM a.kind b.kind),.int .i64 (cM a.n b.n),.int .i64 (cT (bs a.s) (bs b.s))] 3)
    refine (eY 185 _ (aW d) (da-1) (db-1) a.l b.l A A' c c' B _ qe (hA.below hbel.b hB) (hB'.below hbel.b hB) (Nat.le_trans hB hbel.size) (by omega) (by omega) ?_).mono ?_
    ·intro x y vs ws w1 hb1 hx hy
     refine (li d (by omega) (fun da db a b vs ws B w h1 h2 h3=>ih (by omega) da db a b vs ws B w h1 h2 h3) _ _ x y vs ws _ B w1 ((hb1.cell (by simp)).trans (by go_simp)) hx hy (Nat.le_trans hB (Nat.le_trans hbel.size hb1.size)))
    ·rintro e w1 ⟨rfl,hb1⟩
     have hfin:=hbel.trans (hb1.mono hbel.size)
     clear hb1 hbel
     go_wp2_with fail
     go_ret
     exact ⟨ay (by rw [aW,if_pos (by simpa using HZ.out)]),hfin⟩
theorem mY (da db:Nat) (a b:Tm) (vs ws:List Value) (B:Nat) (w:World) (ha:RTm w B da a vs) (hb:RTm w B db b ws) (hB:B≤w.heap.size) :
 Calls Tryz.prog 62 #[.agg vs.toArray,.agg ws.toArray] w fun e w'=>e=.returned (.int .i64 (aW 3 a b))∧BelowD w.heap.size w w':=by
 obtain ⟨A,c,rfl,_⟩:=ha.cells
 obtain ⟨A',c',rfl,_⟩:=hb.cells
 have hbel:BelowD w.heap.size w ((w.alloc (.cells #[.int .i64 a.kind,.int .i64 a.n,.string a.s,.slice A a.l.length c] 79)).alloc (.cells #[.int .i64 b.kind,.int .i64 b.n,.string b.s,.slice A' b.l.length c'] 79)):=
  ((BelowD.refl _ _).alloc (Nat.le_refl _) _).alloc (by simp) _
 have HB:=Lib.hid hbel
 clear hbel
 go_enter Tryz.func62,Tryz.ntmps62
 go_wp2_with fail
 refine (mi 3 (by omega) da db a b [_,_,_,_] [_,_,_,_] B _ (ha.below HB.out.b hB) (hb.below HB.out.b hB) (Nat.le_trans hB HB.out.size)).mono ?_
 rintro e w1 ⟨rfl,hb1⟩
 have hfin:=Lib.hid (HB.out.trans (hb1.mono HB.out.size))
 clear hb1
 go_wp2_with fail
 go_ret
 exact ⟨rfl,hfin.out⟩
theorem jL {d e B:Nat} {x y:Ans} {va vb:List Value} {w:World} (ha:(jt d).rd w B x va) (hb:(jt e).rd w B y vb) (hx:AnOk x) (hy:AnOk y) (hB:B≤w.heap.size) :
 Calls Tryz.prog 19 #[.agg va.toArray,.agg vb.toArray] w fun z w'=>z=.returned (.int .i64 (aH x y))∧BelowD w.heap.size w w':=by
 obtain ⟨An,cn,At,ct,rfl,hn,ht⟩:=ha
 obtain ⟨An',cn',At',ct',rfl,hn',ht'⟩:=hb
 have HN:=Lib.hid hn
 have HT:=Lib.hid ht
 have HN':=Lib.hid hn'
 have HT':=Lib.hid ht'
 obtain ⟨x1,x2⟩:=hx
 obtain ⟨y1,y2⟩:=hy
 clear hn ht hn' ht'
 unfold anV
 go_enter Tryz.func19,Tryz.ntmps19
 go_upto_region 1 with fail
 generalize hW:World.alloc _ _=w1
 have hdr:=dr2 hW
 obtain ⟨hb,hz⟩:=al2 hW
 have HA1:=Lib.hid (n21 hW)
 have HB1:=Lib.hid (n22 hW)
 have HU1:=Lib.hid (BelowD.mk hb (Nat.le_of_eq hdr.symm))
 clear hW hb hdr
 have hsz:=HU1.out.size
 have hB1:B≤w1.heap.size:=Nat.le_trans hB hsz
 have HSL:Hid (∀{w':World},Below w1.heap.size w1 w'→(w'.cell? ⟨w.heap.size,0,none⟩=some (.slice An x.b.names.length cn)∧w'.cell? ⟨w.heap.size,1,none⟩=some (.slice At x.b.terms.length ct)∧w'.cell? ⟨w.heap.size,2,none⟩=some (.int .u32 x.o)∧w'.cell? ⟨w.heap.size+1,0,none⟩=some (.slice An' y.b.names.length cn')∧w'.cell? ⟨w.heap.size+1,1,none⟩=some (.slice At' y.b.terms.length ct')∧w'.cell? ⟨w.heap.size+1,2,none⟩=some (.int .u32 y.o))):=Lib.hid (fun hb=>⟨(HA1.out.later hb).cell 0,(HA1.out.later hb).cell 1,(HA1.out.later hb).cell 2,(HB1.out.later hb).cell 0,(HB1.out.later hb).cell 1,(HB1.out.later hb).cell 2⟩)
 refine aD (fun w'=>w'.cell? ⟨w.heap.size,0,none⟩=some (.slice An x.b.names.length cn)∧w'.cell? ⟨w.heap.size,1,none⟩=some (.slice At x.b.terms.length ct)∧w'.cell? ⟨w.heap.size,2,none⟩=some (.int .u32 x.o)∧w'.cell? ⟨w.heap.size+1,0,none⟩=some (.slice An' y.b.names.length cn')∧w'.cell? ⟨w.heap.size+1,1,none⟩=some (.slice At' y.b.terms.length ct')∧w'.cell? ⟨w.heap.size+1,2,none⟩=some (.int .u32 y.o)) (by kernel_rfl) (HSL.out (Below.refl _ _).drew) ?_
 refine aa (i:=0) (v:=?v1_) rfl (by kernel_rfl) (by kernel_rfl) (by kernel_rfl) ?hq1_ ?hw1_ ?hy1_ ?rest1_
 case hq1_=>exact fun _ _ _ h=>h
 case hw1_=>rfl
 case hy1_=>(intro w' hS';(try dsimp only at hS');go_simp;(try with_reducible rfl))
 refine aa (i:=1) (v:=?v2_) rfl (by kernel_rfl) (by kernel_rfl) (by kernel_rfl) ?hq2_ ?hw2_ ?hy2_ ?rest2_
 case hq2_=>exact fun _ _ _ h=>h
 case hw2_=>rfl
 case hy2_=>(intro w' hS';(try dsimp only at hS');go_simp;(try with_reducible rfl))
 refine aa (i:=2) (v:=?v3_) rfl (by kernel_rfl) (by kernel_rfl) (by kernel_rfl) ?hq3_ ?hw3_ ?hy3_ ?rest3_
 case hq3_=>exact fun _ _ _ h=>h
 case hw3_=>rfl
 case hy3_=>(intro w' hS';(try dsimp only at hS');go_simp;(try with_reducible rfl))
 refine aa (i:=3) (v:=?v4_) rfl (by kernel_rfl) (by kernel_rfl) (by kernel_rfl) ?hq4_ ?hw4_ ?hy4_ ?rest4_
 case hq4_=>exact fun _ _ _ h=>h
 case hw4_=>rfl
 case hy4_=>(intro w' hS';(try dsimp only at hS');go_simp;(try with_reducible rfl))
 refine aa (i:=4) (v:=?v5_) rfl (by kernel_rfl) (by kernel_rfl) (by kernel_rfl) ?hq5_ ?hw5_ ?hy5_ ?rest5_
 case hq5_=>exact fun _ _ _ h=>h
 case hw5_=>rfl
 case hy5_=>(intro w' hS';(try dsimp only at hS');go_simp;(try with_reducible rfl))
 refine aa (i:=5) (v:=?v6_) rfl (by kernel_rfl) (by kernel_rfl) (by kernel_rfl) ?hq6_ ?hw6_ ?hy6_ ?rest6_
 case hq6_=>exact fun _ _ _ h=>h
 case hw6_=>rfl
 case hy6_=>(intro w' hS';(try dsimp only at hS');go_simp;(try with_reducible rfl))
 refine aa (i:=7) (v:=?v7_) rfl (by kernel_rfl) (by kernel_rfl) (by kernel_rfl) ?hq7_ ?hw7_ ?hy7_ ?rest7_
 case hq7_=>exact fun _ _ _ h=>h
 case hw7_=>rfl
 case hy7_=>(intro w' hS';(try dsimp only at hS');go_simp;(try with_reducible rfl))
 refine aa (i:=8) (v:=?v8_) rfl (by kernel_rfl) (by kernel_rfl) (by kernel_rfl) ?hq8_ ?hw8_ ?hy8_ ?rest8_
 case hq8_=>exact fun _ _ _ h=>h
 case hw8_=>rfl
 case hy8_=>(intro w' hS';(try dsimp only at hS');go_simp;(try with_reducible rfl))
 refine aa (i:=9) (v:=?v9_) rfl (by kernel_rfl) (by kernel_rfl) (by kernel_rfl) ?hq9_ ?hw9_ ?hy9_ ?rest9_
 case hq9_=>exact fun _ _ _ h=>h
 case hw9_=>rfl
 case hy9_=>(intro w' hS';(try dsimp only at hS');go_simp;(try with_reducible rfl))
 refine aa (i:=10) (v:=?v10_) rfl (by kernel_rfl) (by kernel_rfl) (by kernel_rfl) ?hq10_ ?hw10_ ?hy10_ ?rest10_
 case hq10_=>exact fun _ _ _ h=>h
 case hw10_=>rfl
 case hy10_=>(intro w' hS';(try dsimp only at hS');go_simp;(try with_reducible rfl))
 refine aa (i:=11) (v:=?v11_) rfl (by kernel_rfl) (by kernel_rfl) (by kernel_rfl) ?hq11_ ?hw11_ ?hy11_ ?rest11_
 case hq11_=>exact fun _ _ _ h=>h
 case hw11_=>rfl
 case hy11_=>(intro w' hS';(try dsimp only at hS');go_simp;(try with_reducible rfl))
 refine aa (i:=12) (v:=?v12_) rfl (by kernel_rfl) (by kernel_rfl) (by kernel_rfl) ?hq12_ ?hw12_ ?hy12_ ?rest12_
 case hq12_=>exact fun _ _ _ h=>h
 case hw12_=>rfl
 case hy12_=>(intro w' hS';(try dsimp only at hS');go_simp;(try with_reducible rfl))
 refine aa (i:=14) (v:=?v13_) rfl (by kernel_rfl) (by kernel_rfl) (by kernel_rfl) ?hq13_ ?hw13_ ?hy13_ ?rest13_
 case hq13_=>exact fun _ _ _ h=>h
 case hw13_=>rfl
 case hy13_=>(intro w' hS';(try dsimp only at hS');go_simp;(try with_reducible rfl))
 refine aa (i:=15) (v:=?v14_) rfl (by kernel_rfl) (by kernel_rfl) (by kernel_rfl) ?hq14_ ?hw14_ ?hy14_ ?rest14_
 case hq14_=>exact fun _ _ _ h=>h
 case hw14_=>rfl
 case hy14_=>(intro w' hS';(try dsimp only at hS');go_simp;(try with_reducible rfl))
 refine aa (i:=16) (v:=?v15_) rfl (by kernel_rfl) (by kernel_rfl) (by kernel_rfl) ?hq15_ ?hw15_ ?hy15_ ?rest15_
 case hq15_=>exact fun _ _ _ h=>h
 case hw15_=>rfl
 case hy15_=>(intro w' hS';(try dsimp only at hS');go_simp;(try with_reducible rfl))
 refine aa (i:=17) (v:=?v16_) rfl (by kernel_rfl) (by kernel_rfl) (by kernel_rfl) ?hq16_ ?hw16_ ?hy16_ ?rest16_
 case hq16_=>exact fun _ _ _ h=>h
 case hw16_=>rfl
 case hy16_=>(intro w' hS';(try dsimp only at hS');go_simp;(try with_reducible rfl))
 generalize hD:World.drew w1=w2
 have HU:Hid (BelowD w1.heap.size w1 w2):=Lib.hid (hD▸(BelowD.refl w1.heap.size w1).drew)
 clear hD
 refine al (rs:=[6]) (by kernel_rfl) rfl ?_
 refine af.cons rfl (fun K hK=>?_) af.nil
 go_simp
 refine (fL x.b.names y.b.names An An' cn cn' B w2 (HN.out.keep (HU1.out.trans (HU.out.mono hsz)).b hB) (HN'.out.keep (HU1.out.trans (HU.out.mono hsz)).b hB) (Nat.le_trans hB1 HU.out.size) (by omega) (by omega)).mono ?_
 rintro e w' ⟨rfl,rfl⟩
 refine hK.out _ _ (HSL.out HU.out.b) ?_
 clear hK
 refine al (rs:=[13]) (by kernel_rfl) rfl ?_
 refine af.cons rfl (fun K hK=>?_) af.nil
 go_simp
 refine (eY 62 #[] (aW 3) d e x.b.terms y.b.terms At At' ct ct' B w2 gH (HT.out.keep (HU1.out.trans (HU.out.mono hsz)).b hB) (HT'.out.keep (HU1.out.trans (HU.out.mono hsz)).b hB) (Nat.le_trans hB1 HU.out.size) (by omega) (by omega) (fun x y vs ws w9 hb9 hx hy=>mY d e x y vs ws B w9 hx hy (Nat.le_trans (Nat.le_trans hB1 HU.out.size) hb9.size))).mono ?_
 rintro z w3 ⟨rfl,hb3⟩
 have HU3:Hid (BelowD w1.heap.size w1 w3):=Lib.hid (HU.out.trans (hb3.mono HU.out.size))
 clear hb3
 refine hK.out _ _ (HSL.out HU3.out.b) ?_
 clear hK
 refine al (rs:=[18]) (by kernel_rfl) rfl ?_
 refine af.cons rfl (fun K hK=>?_) af.nil
 go_simp
 refine (iF _ _ _).mono ?_
 rintro e w' ⟨rfl,rfl⟩
 refine hK.out _ _ (HSL.out HU3.out.b) ?_
 clear hK
 refine al (rs:=[19]) (by kernel_rfl) rfl ?_
 refine af.cons rfl (fun K hK=>?_) af.nil
 go_simp
 generalize hW:World.alloc _ _=w4
 have hb4:BelowD w3.heap.size w3 w4:=⟨(al1 hW).1,Nat.le_of_eq (dr1 hW).symm⟩
 have HL4:=Lib.hid (n11 hW)
 have HU4:Hid (BelowD w1.heap.size w1 w4):=Lib.hid (HU3.out.trans (hb4.mono HU3.out.size))
 clear hW hb4
 refine hK.out _ _ (HSL.out HU4.out.b) ?_
 clear hK
 refine al (rs:=[20]) (by kernel_rfl) rfl ?_
 refine af.cons rfl (fun K hK=>?_) af.nil
 go_simp
 refine (il [eo x.b.names y.b.names,bW (aW 3) x.b.terms y.b.terms,cM x.o y.o] w3.heap.size w4 (fun i hi=>by
  rw [HL4.out.cell i]
  match i,hi with
  | 0,_=>rfl
  | 1,_=>rfl
  | 2,_=>rfl) (by simp)).mono ?_
 rintro e w' ⟨rfl,rfl⟩
 refine hK.out _ _ (HSL.out HU4.out.b) ?_
 clear hK
 refine aa (i:=21) (v:=?v17_) rfl (by kernel_rfl) (by kernel_rfl) (by kernel_rfl) ?hq17_ ?hw17_ ?hy17_ ?rest17_
 case hq17_=>exact fun _ _ _ h=>h
 case hw17_=>rfl
 case hy17_=>(intro w' hS';(try dsimp only at hS');go_simp;(try with_reducible rfl))
 refine aX (by kernel_rfl) ?_
 go_wp2_with fail
 go_ret
 exact ⟨ay rfl,HU1.out.trans (HU4.out.mono hsz)⟩
theorem rp {w w':World} (h:BelowD w.heap.size w w'):∃q os,w'=Sort.grow (w.drewN q) os:=by
 obtain ⟨p,hp⟩:=regrown_of_below h.b
 refine ⟨w'.drawn-w.drawn,p.os,?_⟩
 have hd:=h.d
 have e1:w'.drawn=p.d:=by rw [hp];rfl
 rw [hp]
 unfold Sort.grow redrawn World.drewN
 simp only [World.mk.injEq,true_and,and_true]
 show p.d=w.drawn+(p.d-w.drawn)
 omega
structure Ins where
 kind:Int
 a:Int
 b:Int
 c:Int
 d:Int
 x:Int
 y:Int
def Ins.word (i:Ins) (j:Nat):Int:=if j=0 then i.a else if j=1 then i.b else if j=2 then i.c else i.d
def Ins.put (i:Ins) (j:Nat) (v:Int):Ins:=if j=0 then { i with a:=v } else if j=1 then { i with b:=v } else if j=2 then { i with c:=v } else { i with d:=v }
def lh (i:Ins) (c:Nat):Ins:=i.put (c / 64) (bits .or .u64 (i.word (c / 64)) (IntKind.u64.wrap (1*2 ^ (c % 64))))
def bZ:Ins:=⟨1,0,0,0,0,0,0⟩
def lZ:Int:=18446744073709551615
def anyI:Ins:=⟨1,lZ,lZ,lZ,lZ,0,0⟩
def gt (k:Int) (i:Ins):Ins:=if i.kind=2 then { i with x:=wrap64 (i.x+k),y:=wrap64 (i.y+k) } else if i.kind=3 then { i with x:=wrap64 (i.x+k) } else i
def bu (x y:Int):Ins:=⟨2,0,0,0,0,x,y⟩
def ib (x:Int):Ins:=⟨3,0,0,0,0,x,0⟩
def oW:Ins:=⟨6,0,0,0,0,0,0⟩
def aK (l:List Ins) (k:Int):List Ins:=l.map (gt k)
def gG (a b:List Ins):List Ins:=[bu 1 (a.length+2)]++aK a 1++[ib (a.length+2+b.length)]++aK b (a.length+2)
structure PS where
 at_:Nat
 deep:Nat
 e:Int
def bV (s:ByteArray) (k:Nat):Nat:=((bs s)[k]?.map UInt8.toNat).getD 0
def bJ (s:ByteArray) (p:PS):Bool:=decide (p.e≠0)||decide (s.size≤p.at_)
def isP (s:ByteArray) (p:PS) (c:Nat):Bool:=!bJ s p&&decide (bV s p.at_=c)
def bf (p:PS) (e:Int):PS:=if p.e=0 then { p with e:=e } else p
def PS.step (p:PS):PS:={ p with at_:=p.at_+1 }
def aG (s:ByteArray) (p:PS):Nat × PS:=if bJ s p then (0,bf p 3) else (bV s p.at_,p.step)
def aO (s:ByteArray) (p:PS):Nat × PS:=
 let r:=aG s p
 if r.1=92 then aG s r.2 else r
def dR (i:Ins) (f t:Nat):Ins:=(List.range (t+1-f)).foldl (fun i k=>lh i (f+k)) i
def eG (s:ByteArray) (p:PS):(Nat × Nat) × PS:=
 let r:=aO s p
 if isP s r.2 45&&(decide (r.2.at_+1<s.size)&&decide (bV s (r.2.at_+1)≠93)) then
  let q:=aO s r.2.step
  ((r.1,q.1),q.2)
 else ((r.1,r.1),r.2)
def bh (s:ByteArray):Nat→PS→Ins→Ins × PS
 | 0,p,i=>(i,p)
 | n+1,p,i=>
   if !bJ s p&&!isP s p 93 then
    let r:=eG s p
    bh s n (if r.1.2<r.1.1 then bf r.2 3 else r.2) (dR i r.1.1 r.1.2)
   else (i,p)
def mX (v:Int):Int:=bits .xor .u64 (if IntKind.u64.signed=true then -1 else IntKind.u64.max) v
def qa (i:Ins):Ins:=⟨i.kind,mX i.a,mX i.b,mX i.c,mX i.d,i.x,i.y⟩
def dF (s:ByteArray) (p:PS):Ins × PS:=
 let not_:=isP s p 94
 let p1:=if not_ then p.step else p
 let p2:=if isP s p1 93 then bf p1 3 else p1
 let r:=bh s (s.size+1-p2.at_) p2 bZ
 let q:=aG s r.2
 (if not_ then qa r.1 else r.1,q.2)
def jP (c:Nat):Bool:=decide (c=41)||decide (c=42)||decide (c=43)||decide (c=63)||decide (c=124)
mutual
def pw (s:ByteArray):Nat→PS→List Ins × PS
 | 0,p=>([],p)
 | n+1,p=>
   let r:=iQ s n p []
   if isP s r.2 124 then
    let q:=pw s n r.2.step
    (gG r.1 q.1,q.2)
   else r
def iQ (s:ByteArray):Nat→PS→List Ins→List Ins × PS
 | 0,p,out=>(out,p)
 | n+1,p,out=>
   if !bJ s p&&(!isP s p 124&&!isP s p 41) then
    let r:=eD s n p
    iQ s n r.2 (out++aK r.1 out.length)
   else (out,p)
def eD (s:ByteArray):Nat→PS→List Ins × PS
 | 0,p=>([],p)
 | n+1,p=>
   let r:=fj s n p
   if isP s r.2 42 then ([bu 1 (r.1.length+2)]++aK r.1 1++[ib 0],r.2.step)
   else if isP s r.2 43 then (r.1++[bu 0 (r.1.length+1)],r.2.step)
   else if isP s r.2 63 then ([bu 1 (r.1.length+1)]++aK r.1 1,r.2.step)
   else r
def fj (s:ByteArray):Nat→PS→List Ins × PS
 | 0,p=>([],p)
 | n+1,p=>
   let r:=aG s p
   if r.1=40∧r.2.e=0 then
    if r.2.deep=20 then ([],bf r.2 4)
    else
     let q:=pw s n ⟨r.2.at_,r.2.deep+1,r.2.e⟩
     let z:=aG s q.2
     let f:=if z.1≠41 then bf z.2 3 else z.2
     (q.1,⟨f.at_,f.deep-1,f.e⟩)
   else if r.1=91 then
    let q:=dF s r.2
    ([q.1],q.2)
   else if r.1=46 then ([anyI],r.2)
   else if r.1=94 then ([⟨4,0,0,0,0,0,0⟩],r.2)
   else if r.1=36 then ([⟨5,0,0,0,0,0,0⟩],r.2)
   else if r.1=92 then
    let q:=aG s r.2
    ([lh bZ q.1],q.2)
   else if jP r.1 then ([bZ],bf r.2 3)
   else ([lh bZ r.1],r.2)
end
def eZ (rem:Nat):Nat:=4*rem+4
def wQ (s:ByteArray) (p:PS):PS:=if bJ s p then p else bf p 3
def dH (s:ByteArray):List Ins × Int:=
 if 256<s.size then ([],4)
 else
  let r:=pw s (eZ s.size) ⟨0,0,0⟩
  if (wQ s r.2).e=0 then (r.1++[oW],0) else ([],(wQ s r.2).e)
end Go.Proofs.YtdphibjibnffeaaGreat
