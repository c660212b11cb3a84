/- Readers of predicates, operations, expressions, scopes, rules, checks, policies, blocks. -/
import Derived.Test.YtjpndglegpcdnaaGreatTerm1
import Derived.Lib.QuietBelow
set_option linter.unusedVariables false
set_option linter.unusedSimpArgs false
set_option maxRecDepth 100000
set_option maxHeartbeats 8000000
namespace Go.Proofs.YtjpndglegpcdnaaGreat
open Go.ChangeShapes Go.WideShapes Go.ChangeAt Go.RowKit
theorem zU {a b c:Nat}(h:a≤b)(k:b≤c):a≤c:=Nat.le_trans h k
theorem zV(a:Nat):a≤a:=Nat.le_refl a
theorem zX(B:Nat)(w:World):Below B w w:=Below.refl B w
theorem Ai {α:Type _}(a b:α):(some a=some b)=(a=b):=Option.some.injEq a b
def bL (f:Tm→Tm→Int):List Tm→List Tm→Int
 | [],[]=>0
 | [],_::_=>-1
 | _::_,[]=>1
 | x::xs,y::ys=>if f x y=0 then bL f xs ys else f x y
def or3 (x y z:Int):Int:=if x=0 then if y=0 then z else y else x
def iz (a b:Tm):Int:=or3 (cT a.kind b.kind) (cT a.n b.n) (de (bs a.s) (bs b.s))
def aY:Nat→Tm→Tm→Int
 | 0,a,b=>iz a b
 | d+1,a,b=>if iz a b=0 then bL (aY d) a.l b.l else iz a b
theorem RTm.cells {w:World} {B d:Nat} {t:Tm} {vs:List Value} (h:RTm w B d t vs):∃A c,vs=[.int .i64 t.kind,.int .i64 t.n,.string t.s,.slice A t.l.length c]∧t.l.length≤c∧(t.l.length*40≤140737488351232∧c≤9223372036854775807)∧t.s.size≤140737488351232∧I64 t.kind∧I64 t.n∧jk w B (d-1) t.l A:=by
 match d,h with
 | d+1,⟨A,c,h⟩=>exact ⟨A,c,h⟩
theorem jk.elem {w wr:World} {B d k:Nat} {ts:List Tm} {A:Option Addr} (h:jk w B d ts A) (hbw:Below w.heap.size w wr) (hB:B≤w.heap.size) (hk:k<ts.length) :
 ∃b off x Ax cx,A=some ⟨b,off,none⟩∧b<wr.heap.size∧ts[k]? = some x∧wr.cell? ⟨b,off+k*4,none⟩=some (.int .i64 x.kind)∧wr.cell? ⟨b,off+k*4+1,none⟩=some (.int .i64 x.n) ∧
  wr.cell? ⟨b,off+k*4+2,none⟩=some (.string x.s)∧wr.cell? ⟨b,off+k*4+3,none⟩=some (.slice Ax x.l.length cx) ∧
  RTm wr B d x [.int .i64 x.kind,.int .i64 x.n,.string x.s,.slice Ax x.l.length cx]:=by
 obtain ⟨b,off,rfl,hb,hc⟩:=h (by omega)
 obtain ⟨vs,hl,⟨x,hx,hr⟩,hcell⟩:=hc k hk
 obtain ⟨Ax,cx,rfl,_⟩:=hr.cells
 have hlt:b<w.heap.size:=by omega
 have hsz:=hbw.size
 exact ⟨b,off,x,Ax,cx,rfl,by omega,hx,(hbw.cell (p:=⟨b,off+k*4,none⟩) hlt).trans (hcell 0 _ rfl),(hbw.cell (p:=⟨b,off+k*4+1,none⟩) hlt).trans (hcell 1 _ rfl),
  (hbw.cell (p:=⟨b,off+k*4+2,none⟩) hlt).trans (hcell 2 _ rfl),(hbw.cell (p:=⟨b,off+k*4+3,none⟩) hlt).trans (hcell 3 _ rfl),hr.below hbw hB⟩
theorem jk.base {w wr:World} {B d:Nat} {ts:List Tm} {A:Option Addr} (h:jk w B d ts A) (hbw:Below w.heap.size w wr) (hB:B≤w.heap.size) (hk:0<ts.length) :
 ∃b off,A=some ⟨b,off,none⟩∧b<wr.heap.size:=by
 obtain ⟨b,off,rfl,hb,_⟩:=h hk
 exact ⟨b,off,rfl,by have:=hbw.size;omega⟩
theorem jk.at_ {w wr:World} {B d k b off:Nat} {ts:List Tm} (h:jk w B d ts (some ⟨b,off,none⟩)) (hbw:Below w.heap.size w wr) (hB:B≤w.heap.size) (hk:k<ts.length) :
 ∃x Ax cx,ts[k]? = some x∧wr.cell? ⟨b,off+k*4,none⟩=some (.int .i64 x.kind)∧wr.cell? ⟨b,off+k*4+1,none⟩=some (.int .i64 x.n) ∧
  wr.cell? ⟨b,off+k*4+2,none⟩=some (.string x.s)∧wr.cell? ⟨b,off+k*4+3,none⟩=some (.slice Ax x.l.length cx) ∧
  RTm wr B d x [.int .i64 x.kind,.int .i64 x.n,.string x.s,.slice Ax x.l.length cx]:=by
 obtain ⟨b',off',x,Ax,cx,e,hb,h⟩:=h.elem hbw hB hk
 simp only [Ai,Addr.mk.injEq,and_true] at e
 obtain ⟨rfl,rfl⟩:=e
 exact ⟨x,Ax,cx,h⟩
theorem dV (F:FuncId) (cap:Array Value) (f:Tm→Tm→Int) (d e:Nat) (xs ys:List Tm) (A A':Option Addr) (c c' B:Nat) (w:World)
 (hF:∀args (w:World),(callFunc F args).run Tryz.prog w=.ok (.enter F args) w)
 (hA:jk w B d xs A) (hA':jk w B e ys A') (hB:B≤w.heap.size) (hn:xs.length*40≤140737488351232) (hn':ys.length*40≤140737488351232)
 (hf:∀(x y:Tm) (vs ws:List Value) (w1:World),Below w.heap.size w w1→RTm w1 B d x vs→RTm w1 B e y ws →
  Calls Tryz.prog F (#[.agg vs.toArray,.agg ws.toArray]++cap) w1 fun e w'=>e=.returned (.int .i64 (f x y))∧Below w1.heap.size w1 w') :
 Calls Tryz.prog 54 #[.slice A xs.length c,.slice A' ys.length c',.func (.func F) #[] cap] w fun e w'=>e=.returned (.int .i64 (bL f xs ys))∧Below w.heap.size w w':=by
 have HF:=zT hf
 clear hf
 go_enter Tryz.func54,Tryz.ntmps54
 go_wp2_with fail
 go_loopw [13] (fun i wr=>∃k:Nat,k≤xs.length∧i=.int .i64 k∧Below w.heap.size w wr∧bL f xs ys=bL f (xs.drop k) (ys.drop k)) (fun i _=>xs.length-(intOf i).toNat)
 case atStart=>exact ⟨0,zW _,rfl,zX _ _,rfl⟩
 case round=>
  obtain ⟨k,hk,rfl,hbw,heq⟩:=hrel
  have HE:=zT heq
  clear heq
  by_cases hlt:k<xs.length
  ·obtain ⟨b,off,x,Ax,cx,rfl,hb,hx,c0,c1,c2,c3,hr⟩:=hA.elem hbw hB hlt
   by_cases hlt2:k<ys.length
   ·obtain ⟨b',off',y,Ay,cy,rfl,hb',hy,e0,e1,e2,e3,hr'⟩:=hA'.elem hbw hB hlt2
    have hsz:=hbw.size
    have hbw2:∀o o':Obj,Below w.heap.size w ((wr.alloc o).alloc o'):=fun o o'=>(hbw.alloc hsz _).alloc (by simp;omega) _
    have hbr2:∀o o':Obj,Below wr.heap.size wr ((wr.alloc o).alloc o'):=fun o o'=>((zX _ _).alloc (zV _) _).alloc (by simp) _
    have HB:=zT hbw2
    have HR:=zT hbr2
    have hx':xs.drop k=x::xs.drop (k+1):=by
     obtain ⟨h1,h2⟩:=List.getElem?_eq_some_iff.1 hx
     rw [←h2];exact List.drop_eq_getElem_cons h1
    have hy':ys.drop k=y::ys.drop (k+1):=by
     obtain ⟨h1,h2⟩:=List.getElem?_eq_some_iff.1 hy
     rw [←h2];exact List.drop_eq_getElem_cons h1
    have HE2:Hid (bL f xs ys=if f x y=0 then bL f (xs.drop (k+1)) (ys.drop (k+1)) else f x y):=by
     have:=HE.out
     rw [hx',hy'] at this
     exact this
    clear hbw2 hbr2 hx' hy' HE
    go_wp2_with fail
    refine (HF.out x y [_,_,_,_] [_,_,_,_] _ (HB.out _ _) (hr.below (HR.out _ _) (by omega)) (hr'.below (HR.out _ _) (by omega))).mono ?_
    rintro e w1 ⟨rfl,hb1⟩
    have hbw1:=zT ((HB.out _ _).trans (hb1.mono (by simp;omega)))
    clear hb1
    by_cases hz:(f x y !=0)=true
    ·go_wp2_with fail
     go_ret
     exact ⟨av (by rw [HE2.out,if_neg (by simpa using hz)]),hbw1.out⟩
    ·have hz':(f x y !=0)=false:=by simpa using hz
     go_wp2_with fail
     go_roundw
     case rel=>exact ⟨k+1,by omega,by go_num,hbw1.out,by rw [HE2.out,if_pos (by simpa using hz')]⟩
     case measure=>simp [intOf];omega
   ·have hz:ys.drop k=[]:=List.drop_eq_nil_iff.2 (by omega)
    have HE2:Hid (bL f xs ys=1):=by
     have:=HE.out
     obtain ⟨h1,h2⟩:=List.getElem?_eq_some_iff.1 hx
     rw [List.drop_eq_getElem_cons h1,hz] at this
     exact this
    have hbw2:=zT (fun o:Obj=>hbw.alloc hbw.size o)
    clear HE hz
    go_wp2_with fail
    go_ret
    exact ⟨av HE2.out.symm,hbw2.out _⟩
  ·have hz:xs.drop k=[]:=List.drop_eq_nil_iff.2 (by omega)
   have HE2:=HE.out
   rw [hz] at HE2
   have HE3:=zT HE2
   clear HE HE2 hz
   by_cases hlt2:xs.length<ys.length
   ·go_wp2_with fail
    go_ret
    obtain rfl:k=xs.length:=by omega
    exact ⟨av (by rw [HE3.out,List.drop_eq_getElem_cons hlt2];rfl),hbw⟩
   ·go_wp2_with fail
    go_ret
    obtain rfl:k=xs.length:=by omega
    exact ⟨av (by rw [HE3.out,List.drop_eq_nil_iff.2 (by omega)];rfl),hbw⟩
def OrRel (x y z:Int) (i:Value):Prop:=i=.int .i64 0∨(i=.int .i64 1∧x=0)∨(i=.int .i64 2∧x=0∧y=0)∨(i=.int .i64 3∧x=0∧y=0∧z=0)
theorem iX (x y z:Int) (b:Nat) (w:World) (h0:w.cell? ⟨b,0,none⟩=some (.int .i64 x)) (h1:w.cell? ⟨b,1,none⟩=some (.int .i64 y)) (h2:w.cell? ⟨b,2,none⟩=some (.int .i64 z)) :
 Calls Tryz.prog 27 #[.slice (some ⟨b,0,none⟩) 3 3] w fun e w'=>e=.returned (.int .i64 (or3 x y z))∧w=w':=by
 go_enter Tryz.func27,Tryz.ntmps27
 go_wp2_with fail
 go_loop [8] (fun i=>OrRel x y z i) (fun i=>3-(intOf i).toNat)
 case atStart=>exact .inl rfl
 case round=>
  rcases hrel with rfl | ⟨rfl,hx⟩ | ⟨rfl,hx,hy⟩ | ⟨rfl,hx,hy,hz⟩
  ·by_cases h:(x !=0)=true
   ·go_wp2_with fail
    go_ret
    exact ⟨av (by rw [or3,if_neg (by simpa using h)]),rfl⟩
   ·have h:(x !=0)=false:=by simpa using h
    go_wp2_with fail
    go_round
    case rel=>exact .inr (.inl ⟨rfl,by simpa using h⟩)
    case measure=>simp [intOf]
  ·have HX:=zT hx
   clear hx
   by_cases h:(y !=0)=true
   ·go_wp2_with fail
    go_ret
    exact ⟨av (by rw [or3,if_pos HX.out,if_neg (by simpa using h)]),rfl⟩
   ·have h:(y !=0)=false:=by simpa using h
    go_wp2_with fail
    go_round
    case rel=>exact .inr (.inr (.inl ⟨rfl,HX.out,by simpa using h⟩))
    case measure=>simp [intOf]
  ·have HX:=zT hx
   have HY:=zT hy
   clear hx hy
   by_cases h:(z !=0)=true
   ·go_wp2_with fail
    go_ret
    exact ⟨av (by rw [or3,if_pos HX.out,if_pos HY.out]),rfl⟩
   ·have h:(z !=0)=false:=by simpa using h
    go_wp2_with fail
    go_round
    case rel=>exact .inr (.inr (.inr ⟨rfl,HX.out,HY.out,by simpa using h⟩))
    case measure=>simp [intOf]
  ·have HX:=zT hx
   have HY:=zT hy
   have HZ:=zT hz
   clear hx hy hz
   go_wp2_with fail
   go_ret
   exact ⟨av (by rw [or3,if_pos HX.out,if_pos HY.out,HZ.out]),rfl⟩
theorem ko {P:Program} {f:FuncId} {args:Array Value} {w:World} {v:Ending} (h:Calls P f args w fun e w'=>e=v∧w=w'):Calls P f args w fun e w'=>e=v∧w'=w:=
 h.mono fun _ _ h=>⟨h.1,h.2.symm⟩
theorem bl {P:Program} {id:Nat} {Q:Exit→Act→World→Prop} {a:Act} {w:World} {l:List Oper} (n:Nat) (hm:P.follows .mixedOrders=true) (hB:Region.lexTailB .any l.toArray n=true)
 (h:wpStill P l.toArray w.drew (fun a'=>wpList P l.toArray Q (l.drop n) a' w.drew) (l.take n) a):(Code.region id l.toArray true).wp P Q a w:=
 wp_region_still_tail n hm hB h
theorem uJ (w:World) (o1 o2 o3 o4:Obj):Below w.heap.size w ((((w.alloc o1).alloc o2).alloc o3).alloc o4).drew:=
 ((((((zX _ _).alloc (zV _) _).alloc (by simp) _).alloc (by simp;omega) _).alloc (by simp;omega) _)).drew
theorem rT:∀args (w:World),(callFunc 95 args).run Tryz.prog w=.ok (.enter 95 args) w:=ent Tryz.func95 (by kernel_rfl) rfl
theorem nH (d:Nat) (hd:d≤100) (ih:∀(da db:Nat) (a b:Tm) (vs ws:List Value) (B:Nat) (w:World),RTm w B da a vs→RTm w B db b ws→B≤w.heap.size →
 Calls Tryz.prog 73 #[.agg vs.toArray,.agg ws.toArray,.int .i64 d] w fun e w'=>e=.returned (.int .i64 (aY d a b))∧Below w.heap.size w w')
 (da db:Nat) (a b:Tm) (vs ws:List Value) (G B:Nat) (w:World) (hG:w.cell? ⟨G,0,none⟩=some (.int .i64 (d+1))) (ha:RTm w B da a vs) (hb:RTm w B db b ws) (hB:B≤w.heap.size) :
 Calls Tryz.prog 95 #[.agg vs.toArray,.agg ws.toArray,.pointer (some ⟨G,0,none⟩)] w fun e w'=>e=.returned (.int .i64 (aY d a b))∧Below w.heap.size w w':=by
 have HI:=zT ih
 clear ih
 obtain ⟨A,c,rfl,_⟩:=ha.cells
 obtain ⟨A',c',rfl,_⟩:=hb.cells
 have hGl:G<w.heap.size:=block_lt_of_cell hG
 go_enter Tryz.func95,Tryz.ntmps95
 have hbel:Below w.heap.size w ((w.alloc (.cells #[.int .i64 a.kind,.int .i64 a.n,.string a.s,.slice A a.l.length c] 29)).alloc (.cells #[.int .i64 b.kind,.int .i64 b.n,.string b.s,.slice A' b.l.length c'] 29)):=
  ((zX _ _).alloc (zV _) _).alloc (by simp) _
 have HB:=zT hbel
 clear hbel
 go_wp2_with fail
 refine (HI.out da db a b [_,_,_,_] [_,_,_,_] B _ (ha.below HB.out hB) (hb.below HB.out hB) (zU hB HB.out.size)).mono ?_
 rintro e w1 ⟨rfl,hb1⟩
 have hfin:=zT (HB.out.trans (hb1.mono HB.out.size))
 clear hb1
 go_wp2_with fail
 go_ret
 exact ⟨rfl,hfin.out⟩
theorem oU (d:Nat) (hd:d≤100):∀(da db:Nat) (a b:Tm) (vs ws:List Value) (B:Nat) (w:World),RTm w B da a vs→RTm w B db b ws→B≤w.heap.size →
 Calls Tryz.prog 73 #[.agg vs.toArray,.agg ws.toArray,.int .i64 d] w fun e w'=>e=.returned (.int .i64 (aY d a b))∧Below w.heap.size w w':=by
 induction d with
 | zero=>
   intro da db a b vs ws B w ha hb hB
   obtain ⟨A,c,rfl,_⟩:=ha.cells
   obtain ⟨A',c',rfl,_⟩:=hb.cells
   show Calls _ _ #[_,_,.int .i64 0] _ _
   go_enter Tryz.func73,Tryz.ntmps73
   go_wp2_with fail
   refine bl 15 (by kernel_rfl) (by kernel_rfl) ?_
   simp only [List.take_succ_cons,List.take_zero,List.drop_succ_cons,List.drop_zero]
   repeat still_step
   still_call (ko (dL _ _ _))
   repeat still_step
   still_call (ko (eu _ _ _))
   repeat still_step
   still_call (ko (df _ _ _))
   refine wpStill_nil ?_
   go_wp2_with fail
   refine (iX (cT a.kind b.kind) (cT a.n b.n) (de (bs a.s) (bs b.s)) _ _ (by go_simp) (by go_simp) (by go_simp)).mono ?_
   rintro e w' ⟨rfl,rfl⟩
   by_cases hz:(iz a b !=0)=true
   all_goals (unfold iz at hz;try rw [Bool.not_eq_true] at hz)
   all_goals
    go_wp2_with fail
    go_ret
    exact ⟨rfl,uJ _ _ _ _ _⟩
 | succ d ih=>
   intro da db a b vs ws B w ha hb hB
   obtain ⟨A,c,rfl,_⟩:=ha.cells
   obtain ⟨A',c',rfl,_⟩:=hb.cells
   go_enter Tryz.func73,Tryz.ntmps73
   go_wp2_with fail
   refine bl 15 (by kernel_rfl) (by kernel_rfl) ?_
   simp only [List.take_succ_cons,List.take_zero,List.drop_succ_cons,List.drop_zero]
   repeat still_step
   still_call (ko (dL _ _ _))
   repeat still_step
   still_call (ko (eu _ _ _))
   repeat still_step
   still_call (ko (df _ _ _))
   refine wpStill_nil ?_
   go_wp2_with fail
   refine (iX (cT a.kind b.kind) (cT a.n b.n) (de (bs a.s) (bs b.s)) _ _ (by go_simp) (by go_simp) (by go_simp)).mono ?_
   rintro e w' ⟨rfl,rfl⟩
   have hd0:(((d+1:Nat):Int)==0)=false:=by simp;omega
   by_cases hz:(iz a b !=0)=true
   all_goals (have HZ:=zT hz;unfold iz at hz;try rw [Bool.not_eq_true] at hz)
   ·go_wp2_with fail
    go_ret
    exact ⟨av (by rw [aY,if_neg (by simpa using HZ.out)];rfl),uJ _ _ _ _ _⟩
   ·go_wp2_with fail
    obtain ⟨_,_,e1,a1,a2,a3,a4,a5,hA⟩:=ha.cells
    obtain ⟨rfl,rfl⟩:_∧_:=by simpa using e1
    obtain ⟨_,_,e2,b1,b2,b3,b4,b5,hB'⟩:=hb.cells
    obtain ⟨rfl,rfl⟩:_∧_:=by simpa using e2
    have hbel:=uJ w (.cells #[.int .i64 a.kind,.int .i64 a.n,.string a.s,.slice A a.l.length c] 29) (.cells #[.int .i64 b.kind,.int .i64 b.n,.string b.s,.slice A' b.l.length c'] 29)
     (.cells #[.int .i64 (d+1)] 3) (.cells #[.int .i64 (cT a.kind b.kind),.int .i64 (cT a.n b.n),.int .i64 (de (bs a.s) (bs b.s))] 3)
    refine (dV 95 _ (aY d) (da-1) (db-1) a.l b.l A A' c c' B _ rT (hA.below hbel hB) (hB'.below hbel hB) (zU hB hbel.size) (by omega) (by omega) ?_).mono ?_
    ·intro x y vs ws w1 hb1 hx hy
     refine (nH d (by omega) (fun da db a b vs ws B w h1 h2 h3=>ih (by omega) da db a b vs ws B w h1 h2 h3) _ _ x y vs ws _ B w1 ((hb1.cell (by simp)).trans (by go_simp)) hx hy (zU hB (zU hbel.size hb1.size)))
    ·rintro e w1 ⟨rfl,hb1⟩
     have hfin:=hbel.trans (hb1.mono hbel.size)
     clear hb1 hbel
     go_wp2_with fail
     go_ret
     exact ⟨av (by rw [aY,if_pos (by simpa using HZ.out)]),hfin⟩
theorem dg (da db:Nat) (a b:Tm) (vs ws:List Value) (B:Nat) (w:World) (ha:RTm w B da a vs) (hb:RTm w B db b ws) (hB:B≤w.heap.size) :
 Calls Tryz.prog 55 #[.agg vs.toArray,.agg ws.toArray] w fun e w'=>e=.returned (.int .i64 (aY 3 a b))∧Below w.heap.size w w':=by
 obtain ⟨A,c,rfl,_⟩:=ha.cells
 obtain ⟨A',c',rfl,_⟩:=hb.cells
 have hbel:Below w.heap.size w ((w.alloc (.cells #[.int .i64 a.kind,.int .i64 a.n,.string a.s,.slice A a.l.length c] 29)).alloc (.cells #[.int .i64 b.kind,.int .i64 b.n,.string b.s,.slice A' b.l.length c'] 29)):=
  ((zX _ _).alloc (zV _) _).alloc (by simp) _
 have HB:=zT hbel
 clear hbel
 go_enter Tryz.func55,Tryz.ntmps55
 go_wp2_with fail
 refine (oU 3 (by omega) da db a b [_,_,_,_] [_,_,_,_] B _ (ha.below HB.out hB) (hb.below HB.out hB) (zU hB HB.out.size)).mono ?_
 rintro e w1 ⟨rfl,hb1⟩
 have hfin:=zT (HB.out.trans (hb1.mono HB.out.size))
 clear hb1
 go_wp2_with fail
 go_ret
 exact ⟨rfl,hfin.out⟩
def eY (t:Tm):Bool:=
 decide (t.l.length=0) &&
 ((decide (t.kind=1)&&decide (t.n=0)&&fA (bs t.s)) ||
  (decide (t.kind=2)&&decide (t.s.size=0)) ||
  ((decide (t.kind=3)||decide (t.kind=5))&&decide (t.n=0)&&decide (t.s.size≤256)) ||
  (decide (t.kind=4)&&decide (t.s.size=0)&&decide (0≤t.n)&&decide (t.n≤253402300799)) ||
  (decide (t.kind=6)&&decide (t.s.size=0)&&(decide (t.n=0)||decide (t.n=1))))
def kc (l:List Tm) (i:Nat):Bool:=
 match l[i]?,l[0]?,l[i-1]? with
 | some x,some y,some z=>eY x&&decide (x.kind≠1)&&decide (x.kind=y.kind)&&(decide (i=0)||decide (aY 3 z x<0))
 | _,_,_=>false
def gj (l:List Tm):Bool:=(List.range l.length).all (kc l)&&decide (l.length≤16)
def lE (t:Tm):Bool:=if t.kind=7 then decide (t.n=0)&&decide (t.s.size=0)&&gj t.l else eY t
def af (t:Tm):Bool:=decide (t.kind≠1)&&lE t
theorem rY (d:Nat) (hM:∀(t:Tm) (vs:List Value) (B:Nat) (w:World),RTm w B d t vs→B≤w.heap.size →
 Calls Tryz.prog 68 #[.agg vs.toArray] w fun e w'=>e=.returned (.bool (lE t))∧Below w.heap.size w w')
 (t:Tm) (vs:List Value) (B:Nat) (w:World) (ht:RTm w B d t vs) (hB:B≤w.heap.size) :
 Calls Tryz.prog 47 #[.agg vs.toArray] w fun e w'=>e=.returned (.bool (af t))∧Below w.heap.size w w':=by
 have HM:=zT hM
 clear hM
 obtain ⟨A,c,rfl,_⟩:=ht.cells
 have hbel:Below w.heap.size w (w.alloc (.cells #[.int .i64 t.kind,.int .i64 t.n,.string t.s,.slice A t.l.length c] 29)):=(zX _ _).alloc (zV _) _
 have HB:=zT hbel
 clear hbel
 by_cases hk:(t.kind !=1)=true
 ·have hk':=zT hk
  go_enter Tryz.func47,Tryz.ntmps47
  go_wp2_with fail
  refine (HM.out t [_,_,_,_] B _ (ht.below HB.out hB) (zU hB HB.out.size)).mono ?_
  rintro e w1 ⟨rfl,hb1⟩
  have hfin:=zT (HB.out.trans (hb1.mono HB.out.size))
  clear hb1
  go_wp2_with fail
  go_ret
  exact ⟨ae (by simp [af,(by simpa using hk'.out:t.kind≠1)]),hfin.out⟩
 ·have hk:(t.kind !=1)=false:=by simpa using hk
  have hk':=zT hk
  go_enter Tryz.func47,Tryz.ntmps47
  go_wp2_with fail
  go_ret
  exact ⟨ae (by simp [af,(by simpa using hk'.out:t.kind=1)]),HB.out⟩
theorem tT {l:List Tm} {i:Nat} {x y z:Tm} (h1:l[i]? = some x) (h2:l[0]? = some y) (h3:l[i-1]? = some z) :
 kc l i=true↔((af x=true∧x.kind≠7)∧x.kind=y.kind)∧(0<i→aY 3 z x<0):=by
 unfold kc
 rw [h1,h2,h3]
 simp only [Ag,Bool.or_eq_true,Am,af,lE]
 by_cases hk:x.kind=7
 ·constructor
  ·intro h
   have:=h.1.1.1
   simp [eY,hk] at this
  ·intro h;exact absurd hk h.1.1.2
 ·rw [if_neg hk]
  constructor
  ·rintro ⟨⟨⟨a,b⟩,c⟩,d⟩
   exact ⟨⟨⟨⟨b,a⟩,hk⟩,c⟩,fun h=>d.resolve_left (by omega)⟩
  ·rintro ⟨⟨⟨⟨a,b⟩,c⟩,d⟩,e⟩
   refine ⟨⟨⟨b,a⟩,d⟩,?_⟩
   by_cases h:i=0
   ·exact .inl h
   ·exact .inr (e (by omega))
theorem wN (d:Nat) (hF:∀(t:Tm) (vs:List Value) (B:Nat) (w:World),RTm w B d t vs→B≤w.heap.size →
 Calls Tryz.prog 47 #[.agg vs.toArray] w fun e w'=>e=.returned (.bool (af t))∧Below w.heap.size w w')
 (l:List Tm) (A:Option Addr) (c B:Nat) (w:World) (hl:jk w B d l A) (hB:B≤w.heap.size) (hn:l.length*40≤140737488351232) :
 Calls Tryz.prog 92 #[.slice A l.length c] w fun e w'=>e=.returned (.bool (gj l))∧Below w.heap.size w w':=by
 have HF:=zT hF
 clear hF
 go_enter Tryz.func92,Tryz.ntmps92
 go_wp2_with fail
 go_loopw [7] (fun i wr=>∃k:Nat,k≤l.length∧i=.int .i64 k∧Below w.heap.size w wr∧∀i,i<k→kc l i=true) (fun i _=>l.length-(intOf i).toNat)
 case atStart=>exact ⟨0,zW _,rfl,zX _ _,fun i h=>absurd h (by omega)⟩
 case round=>
  obtain ⟨k,hk,rfl,hbw,hall⟩:=hrel
  have HA:=zT hall
  clear hall
  by_cases hlt:k<l.length
  ·obtain ⟨b,off,rfl,hb⟩:=hl.base hbw hB (by omega)
   obtain ⟨x,Ax,cx,hx,c0,c1,c2,c3,hr⟩:=hl.at_ hbw hB hlt
   obtain ⟨y,Ay,cy,hy,f0,f1,f2,f3,hr0⟩:=hl.at_ (k:=0) hbw hB (by omega)
   obtain ⟨z,Az,cz,hz,g0,g1,g2,g3,hrz⟩:=hl.at_ (k:=k-1) hbw hB (by omega)
   have HR:=zT (tT hx hy hz)
   simp only [Nat.zero_mul,Nat.add_zero] at f0 f1 f2 f3
   clear hx hy hz f1 f2 f3
   have hW:Below wr.heap.size wr (wr.alloc (.cells #[.int .i64 x.kind,.int .i64 x.n,.string x.s,.slice Ax x.l.length cx] 29)):=(zX _ _).alloc (zV _) _
   have x0:(wr.alloc (.cells #[.int .i64 x.kind,.int .i64 x.n,.string x.s,.slice Ax x.l.length cx] 29)).cell? ⟨wr.heap.size,0,none⟩=some (.int .i64 x.kind):=by go_simp
   have x1:(wr.alloc (.cells #[.int .i64 x.kind,.int .i64 x.n,.string x.s,.slice Ax x.l.length cx] 29)).cell? ⟨wr.heap.size,1,none⟩=some (.int .i64 x.n):=by go_simp
   have x2:(wr.alloc (.cells #[.int .i64 x.kind,.int .i64 x.n,.string x.s,.slice Ax x.l.length cx] 29)).cell? ⟨wr.heap.size,2,none⟩=some (.string x.s):=by go_simp
   have x3:(wr.alloc (.cells #[.int .i64 x.kind,.int .i64 x.n,.string x.s,.slice Ax x.l.length cx] 29)).cell? ⟨wr.heap.size,3,none⟩=some (.slice Ax x.l.length cx):=by go_simp
   have hS:(wr.alloc (.cells #[.int .i64 x.kind,.int .i64 x.n,.string x.s,.slice Ax x.l.length cx] 29)).heap.size=wr.heap.size+1:=by simp
   have HW:=zT hW
   have HS:=zT hS
   clear hW hS
   go_wp2_with fail
   generalize (wr.alloc (.cells #[.int .i64 x.kind,.int .i64 x.n,.string x.s,.slice Ax x.l.length cx] 29))=W0 at *
   have q0:=cell_regrown x0
   have q1:=cell_regrown x1
   have q2:=cell_regrown x2
   have q3:=cell_regrown x3
   have q4:=cell_regrown ((HW.out.cell (p:=⟨b,off,none⟩) hb).trans f0)
   have q5:=cell_regrown ((HW.out.cell (p:=⟨b,off+(k-1)*4,none⟩) hb).trans g0)
   have q6:=cell_regrown ((HW.out.cell (p:=⟨b,off+(k-1)*4+1,none⟩) hb).trans g1)
   have q7:=cell_regrown ((HW.out.cell (p:=⟨b,off+(k-1)*4+2,none⟩) hb).trans g2)
   have q8:=cell_regrown ((HW.out.cell (p:=⟨b,off+(k-1)*4+3,none⟩) hb).trans g3)
   clear x0 x1 x2 x3 f0 g0 g1 g2 g3 c0 c1 c2 c3
   have hrx:=hr.below HW.out (by have:=hbw.size;omega)
   have hrz:=hrz.below HW.out (by have:=hbw.size;omega)
   have hBW:B≤W0.heap.size:=by have:=hbw.size;have:=HS.out;omega
   have hl0:0<l.length:=by omega
   have hcases:af x=false∨(af x=true∧(x.kind==7)=true)∨(af x=true∧(x.kind==7)=false∧(x.kind !=y.kind)=true) ∨
    (af x=true∧(x.kind==7)=false∧(x.kind !=y.kind)=false∧decide (0<k)=false) ∨
    (af x=true∧(x.kind==7)=false∧(x.kind !=y.kind)=false∧0<k∧decide (0≤aY 3 z x)=true) ∨
    (af x=true∧(x.kind==7)=false∧(x.kind !=y.kind)=false∧0<k∧decide (0≤aY 3 z x)=false):=by
    cases af x<;>cases (x.kind==7)<;>cases (x.kind !=y.kind)<;>cases decide (0≤aY 3 z x)<;>rcases Nat.eq_zero_or_pos k with h | h<;>simp [h]
   rcases hcases with hf | ⟨hf,h7⟩ | ⟨hf,h7,hy⟩ | ⟨hf,h7,hy,hk0⟩ | ⟨hf,h7,hy,hk0,hc⟩ | ⟨hf,h7,hy,hk0,hc⟩
   all_goals
    refine wp_region_quiet_below (by kernel_rfl) (by kernel_rfl) ?_
    repeat (go_big_quiet_step ((first
     | (go_at_call 47;exact Calls.regrown_of (HF.out x [_,_,_,_] B _ (hrx.below (below_regrown _ _ _) hBW) (zU hBW (below_regrown _ _ _).size)))
     | (go_at_call 55;exact Calls.regrown_of (dg d d z x [_,_,_,_] [_,_,_,_] B _ (hrz.below (below_regrown _ _ _) hBW) (hrx.below (below_regrown _ _ _) hBW) (zU hBW (below_regrown _ _ _).size))))))
    refine wpQuiet_nil ?_
    intro w1 hw1
    have hb1:Below W0.heap.size W0 w1:=by obtain ⟨p,rfl⟩:=hw1;exact below_regrown _ _ _
    clear hw1
    go_wp2_with fail
    have hfin:Below w.heap.size w w1:=(hbw.trans (HW.out.mono hbw.size)).trans (hb1.mono (by have:=hbw.size;have:=HS.out;omega))
    try simp only [beq_iff_eq,bne_iff_ne,beq_eq_false_iff_ne,bne_eq_false_iff_eq,Am,decide_eq_false_iff_not] at *
    first
     | (have hn:kc l k=false:=by
         rw [Bool.eq_false_iff]
         intro h
         have:=HR.out.1 h
         simp_all
         try omega
        go_ret
        refine ⟨ae ?_,hfin⟩
        show false=_
        rw [eq_comm,Bool.eq_false_iff,gj]
        intro h
        rw [Ag,List.all_eq_true] at h
        have:=h.1 k (by simpa using hlt)
        rw [hn] at this
        cases this)
     | (have hn:kc l k=true:=HR.out.2 (by
         refine ⟨⟨⟨hf,h7⟩,hy⟩,fun h=>?_⟩
         omega)
        go_roundw
        case rel=>exact ⟨k+1,by omega,by go_num,hfin,fun i hi=>by
         rcases Nat.lt_or_ge i k with h1 | h1
         ·exact HA.out i h1
         ·obtain rfl:i=k:=by omega
          exact hn⟩
        case measure=>simp [intOf];omega)
  ·go_wp2_with fail
   go_ret
   refine ⟨ae ?_,hbw⟩
   obtain rfl:k=l.length:=by omega
   show decide ((l.length:Int)≤16)=_
   have:(List.range l.length).all (kc l)=true:=by simpa using HA.out
   rw [gj,this,Bool.true_and,Bool.eq_iff_iff]
   simp
   omega
theorem ug (s:ByteArray):s.toList=[]↔s.size=0:=by
 rw [ByteArray.toList_eq,Lib.size_eq]
 exact ⟨fun h=>by rw [h];rfl,fun h=>List.eq_nil_of_length_eq_zero h⟩
theorem tx (k:Nat):((k:Int)≤256)=(k≤256):=by rw [eq_iff_iff];omega
theorem eB (s:ByteArray):s.toList=[]↔s=ByteArray.empty:=by rw [ug];simp
theorem bY (s:ByteArray):s.toList.isEmpty=decide (s=ByteArray.empty):=by
 rw [Bool.eq_iff_iff,List.isEmpty_iff,eB];simp
theorem may_of (d:Nat) (hR:∀(l:List Tm) (A:Option Addr) (c B:Nat) (w:World),jk w B d l A→B≤w.heap.size→l.length*40≤140737488351232 →
 Calls Tryz.prog 92 #[.slice A l.length c] w fun e w'=>e=.returned (.bool (gj l))∧Below w.heap.size w w')
 (t:Tm) (vs:List Value) (B:Nat) (w:World) (ht:RTm w B (d+1) t vs) (hB:B≤w.heap.size) :
 Calls Tryz.prog 68 #[.agg vs.toArray] w fun e w'=>e=.returned (.bool (lE t))∧Below w.heap.size w w':=by
 have HR:=zT hR
 clear hR
 obtain ⟨A,c,rfl,hc1,hc2,hs,_,_,hl⟩:=ht.cells
 obtain ⟨kind,n,s,l⟩:=t
 dsimp only at hc1 hc2 hs hl
 have hbel:∀o:Obj,Below w.heap.size w (w.alloc o):=fun o=>(zX _ _).alloc (zV _) _
 have HB:=zT hbel
 have HL:=zT hl
 clear hbel ht hl
 have hcases:kind=1∨kind=2∨kind=3∨kind=4∨kind=5∨kind=6∨kind=7∨((kind==1)=false∧(kind==2)=false∧(kind==3)=false∧(kind==4)=false∧(kind==5)=false∧(kind==6)=false∧(kind==7)=false∧(kind !=7)=true):=by
  simp only [beq_eq_false_iff_ne,bne_iff_ne];omega
 rcases hcases with rfl | rfl | rfl | rfl | rfl | rfl | rfl | ⟨k1,k2,k3,k4,k5,k6,k7,k8⟩
 all_goals
  go_enter Tryz.func68,Tryz.ntmps68
  go_wp2_with (first
   | (go_at_call 44;refine (fe _ _ (by unfold maxLen;omega)).mono ?_;rintro e w' ⟨rfl,rfl⟩)
   | (go_at_call 92;refine (HR.out l A c B _ (HL.out.below (HB.out _) hB) (zU hB (HB.out _).size) (by omega)).mono ?_;rintro e w1 ⟨rfl,hb1⟩))
  all_goals go_ret
  all_goals first
   | refine ⟨ae ?_,HB.out _⟩
   | refine ⟨ae ?_,(HB.out _).trans (hb1.mono (HB.out _).size)⟩
  all_goals
   clear HR HL HB
   try simp only [eB,bY,Nat.not_lt,Nat.le_zero_eq,List.length_pos_iff,ne_eq,Classical.not_not,beq_eq_false_iff_ne] at *
   simp [lE,eY,tx, *]
   try first
    | omega
    | (rw [Bool.eq_iff_iff];simp;omega)
theorem wj (d:Nat):∀(t:Tm) (vs:List Value) (B:Nat) (w:World),RTm w B d t vs→B≤w.heap.size →
 Calls Tryz.prog 68 #[.agg vs.toArray] w fun e w'=>e=.returned (.bool (lE t))∧Below w.heap.size w w':=by
 induction d with
 | zero=>intro t vs B w h;exact h.elim
 | succ d ih=>exact fun t vs B w=>may_of d (fun l A c B w h1 h2 h3=>wN d (rY d ih) l A c B w h1 h2 h3) t vs B w
theorem wk {d:Nat} {t:Tm} {vs:List Value} {B:Nat} {w:World} (h:RTm w B d t vs) (hB:B≤w.heap.size) :
 Calls Tryz.prog 68 #[.agg vs.toArray] w fun e w'=>e=.returned (.bool (lE t))∧Below w.heap.size w w':=wj d t vs B w h hB
theorem aj {d:Nat} {t:Tm} {vs:List Value} {B:Nat} {w:World} (h:RTm w B d t vs) (hB:B≤w.heap.size) :
 Calls Tryz.prog 47 #[.agg vs.toArray] w fun e w'=>e=.returned (.bool (af t))∧Below w.heap.size w w':=rY d (wj d) t vs B w h hB
structure Reader (α:Type) where
 k:Nat
 rd:World→Nat→α→List Value→Prop
 keep:∀{w w':World} {B C:Nat} {x:α} {vs:List Value},Below C w w'→B≤C→rd w B x vs→rd w' B x vs
 wide:∀{w:World} {B B':Nat} {x:α} {vs:List Value},B≤B'→rd w B x vs→rd w B' x vs
 len:∀{w:World} {B:Nat} {x:α} {vs:List Value},rd w B x vs→vs.length=k
def RL {α:Type} (R:Reader α) (w:World) (B:Nat) (xs:List α) (A:Option Addr):Prop:=eH w B R.k A xs.length (fun i vs=>∃x,xs[i]? = some x∧R.rd w B x vs)
section
variable {α:Type} {R:Reader α} {w wr w':World} {B B' C:Nat} {xs:List α} {A:Option Addr}
theorem RL.keep (h:RL R w B xs A) (hw:Below C w w') (hB:B≤C):RL R w' B xs A:=
 (eH.below h hw hB).mono fun _ _ _ ⟨x,hx,hr⟩=>⟨x,hx,R.keep hw hB hr⟩
theorem RL.wide (h:RL R w B xs A) (hB:B≤B'):RL R w B' xs A:=
 (eH.more h hB).mono fun _ _ _ ⟨x,hx,hr⟩=>⟨x,hx,R.wide hB hr⟩
theorem RL.base (h:RL R w B xs A) (hbw:Below w.heap.size w wr) (hB:B≤w.heap.size) (hk:0<xs.length):∃b off,A=some ⟨b,off,none⟩∧b<wr.heap.size:=by
 obtain ⟨b,off,rfl,hb,_⟩:=h hk
 exact ⟨b,off,rfl,by have:=hbw.size;omega⟩
theorem RL.at_ {b off k:Nat} (h:RL R w B xs (some ⟨b,off,none⟩)) (hbw:Below w.heap.size w wr) (hB:B≤w.heap.size) (hk:k<xs.length) :
 ∃x vs,xs[k]? = some x∧vs.length=R.k∧(∀j v,vs[j]? = some v→wr.cell? ⟨b,off+k*R.k+j,none⟩=some v)∧R.rd wr B x vs:=by
 obtain ⟨b',off',e,hb,hc⟩:=h (by omega)
 simp only [Ai,Addr.mk.injEq,and_true] at e
 obtain ⟨rfl,rfl⟩:=e
 obtain ⟨vs,hl,⟨x,hx,hr⟩,hcell⟩:=hc k hk
 have hlt:b<w.heap.size:=by omega
 exact ⟨x,vs,hx,hl,fun j v hv=>(hbw.cell (p:=⟨b,off+k*R.k+j,none⟩) hlt).trans (hcell j v hv),R.keep hbw hB hr⟩
end
section
variable {α:Type} {R:Reader α} {w wr:World} {B:Nat} {xs:List α}
theorem RL.at0 {b off k:Nat} (h:RL R w B xs (some ⟨b,off,none⟩)) (hbw:Below w.heap.size w wr) (hB:B≤w.heap.size) (hk:k<xs.length) :
 ∃x vs,xs[k]? = some x∧vs.length=R.k∧(∀j v,vs[j]? = some v→wr.cell? ⟨b,off+k*R.k+j,none⟩=some v)∧R.rd w B x vs:=by
 obtain ⟨b',off',e,hb,hc⟩:=h (by omega)
 simp only [Ai,Addr.mk.injEq,and_true] at e
 obtain ⟨rfl,rfl⟩:=e
 obtain ⟨vs,hl,⟨x,hx,hr⟩,hcell⟩:=hc k hk
 have hlt:b<w.heap.size:=by omega
 exact ⟨x,vs,hx,hl,fun j v hv=>(hbw.cell (p:=⟨b,off+k*R.k+j,none⟩) hlt).trans (hcell j v hv),hr⟩
end
def TmR (d:Nat):Reader Tm where
 k:=4
 rd:=fun w B t vs=>RTm w B d t vs
 keep:=fun hw hB h=>RTm.below hw hB h
 wide:=fun hB h=>RTm.more hB h
 len:=fun h=>by obtain ⟨_,_,rfl,_⟩:=RTm.cells h;rfl
theorem jk.rl {w:World} {B d:Nat} {ts:List Tm} {A:Option Addr} (h:jk w B d ts A):RL (TmR d) w B ts A:=h
theorem jq {W w1:World} (hb:Below W.heap.size W w1):∀b o,b<W.heap.size→w1.cell? ⟨b,o,none⟩=W.cell? ⟨b,o,none⟩:=fun b o h=>hb.cell (p:=⟨b,o,none⟩) h
def vI {α:Type} (p:α→Bool) (xs:List α):Int:=if xs.findIdx p<xs.length then (xs.findIdx p:Int) else -1
theorem fU {α:Type} {p:α→Bool} {xs:List α} (h:∀i (hi:i<xs.length),p xs[i]=false):vI p xs=-1:=by
 unfold vI
 rw [if_neg]
 rw [List.findIdx_lt_length]
 rintro ⟨x,hx,hp⟩
 obtain ⟨i,hi,rfl⟩:=List.getElem_of_mem hx
 rw [h i hi] at hp
 cases hp
theorem fV {α:Type} {p:α→Bool} {xs:List α} {k:Nat} (hk:k<xs.length) (hp:p xs[k]=true) (h:∀i (hi:i<k),p (xs[i]'(by omega))=false):vI p xs=k:=by
 have e:xs.findIdx p=k:=(List.findIdx_eq hk).2 ⟨hp,fun j hj=>h j hj⟩
 unfold vI
 rw [e,if_pos hk]
theorem iN {α:Type} (p:α→Bool) (xs:List α):decide (0≤vI p xs)=xs.any p:=by
 rw [Bool.eq_iff_iff,Am,List.any_eq_true]
 unfold vI
 by_cases h:xs.findIdx p<xs.length
 ·rw [if_pos h]
  have:=List.findIdx_lt_length.1 h
  simp only [this,iff_true]
  omega
 ·rw [if_neg h]
  rw [List.findIdx_lt_length] at h
  simp only [h,iff_false]
  omega
def bV (P:Program) {α:Type} (R:Reader α) (val:List Value→Value) (B:Nat) (w:World) (F:FuncId) (cap:Array Value) (p:α→Bool):Prop:=
 ∀(x:α) (vs:List Value) (w1:World),Below w.heap.size w w1→R.rd w1 B x vs→Calls P F (#[val vs]++cap) w1 fun e w'=>e=.returned (.bool (p x))∧Below w1.heap.size w1 w'
theorem bV.later {P:Program} {α:Type} {R:Reader α} {val:List Value→Value} {B:Nat} {w w':World} {F:FuncId} {cap:Array Value} {p:α→Bool} (h:bV P R val B w F cap p) (hb:Below w.heap.size w w'):bV P R val B w' F cap p:=
 fun x vs w1 h1 hr=>h x vs w1 (hb.trans (h1.mono hb.size)) hr
def cV (vs:List Value):Value:=.agg vs.toArray
def zL (vs:List Value):Value:=vs.getD 0 undef
theorem jB (d:Nat) (F:FuncId) (cap:Array Value) (p:Tm→Bool) (xs:List Tm) (A:Option Addr) (c B:Nat) (w:World)
 (hF:∀args (w:World),(callFunc F args).run Tryz.prog w=.ok (.enter F args) w) (hl:RL (TmR d) w B xs A) (hB:B≤w.heap.size) (hn:xs.length≤140737488351232)
 (ht:bV Tryz.prog (TmR d) cV B w F cap p) :
 Calls Tryz.prog 67 #[.slice A xs.length c,.func (.func F) #[] cap] w fun e w'=>e=.returned (.int .i64 (vI p xs))∧Below w.heap.size w w':=by
 have HT:=zT ht
 clear ht
 have hRk:(TmR d).k=4:=rfl
 go_enter Tryz.func67,Tryz.ntmps67
 go_wp2_with fail
 go_loopw [8] (fun i wr=>∃k:Nat,k≤xs.length∧i=.int .i64 k∧Below w.heap.size w wr∧∀i (hi:i<xs.length),i<k→p xs[i]=false) (fun i _=>xs.length-(intOf i).toNat)
 case atStart=>exact ⟨0,zW _,rfl,zX _ _,fun i hi h=>absurd h (by omega)⟩
 case round=>
  obtain ⟨k,hk,rfl,hbw,hall⟩:=hrel
  have HA:=zT hall
  clear hall
  by_cases hlt:k<xs.length
  ·obtain ⟨b,off,rfl,hb⟩:=hl.base hbw hB (by omega)
   obtain ⟨x,vs,hx,hlen,hcell,hr⟩:=hl.at_ hbw hB hlt
   rw [hRk] at hlen hcell
   obtain ⟨v0,v1,v2,v3,rfl⟩:∃v0 v1 v2 v3,vs=[v0,v1,v2,v3]:=by
    match vs,hlen with
    | [v0,v1,v2,v3],_=>exact ⟨_,_,_,_,rfl⟩
   have c0:wr.cell? ⟨b,off+k*4,none⟩=some v0:=hcell 0 _ rfl
   have c1:wr.cell? ⟨b,off+k*4+1,none⟩=some v1:=hcell 1 _ rfl
   have c2:wr.cell? ⟨b,off+k*4+2,none⟩=some v2:=hcell 2 _ rfl
   have c3:wr.cell? ⟨b,off+k*4+3,none⟩=some v3:=hcell 3 _ rfl
   have hsz:=hbw.size
   have HX:=zT hx
   clear hcell hlen hx
   go_wp2_with fail
   refine (HT.out x [v0,v1,v2,v3] _ hbw hr).mono ?_
   rintro e w1 ⟨rfl,hb1⟩
   have hbw1:=zT (hbw.trans (hb1.mono hsz))
   clear hb1
   have hxe:xs[k]=x:=(List.getElem?_eq_some_iff.1 HX.out).2
   have HXE:=zT hxe
   clear hxe
   by_cases hp:p x=true
   ·go_wp2_with fail
    go_ret
    exact ⟨av (fV hlt (by rw [HXE.out];exact hp) (fun i hi=>HA.out i (by omega) hi)).symm,hbw1.out⟩
   ·have hp:p x=false:=by simpa using hp
    go_wp2_with fail
    go_roundw
    case rel=>exact ⟨k+1,by omega,by go_num,hbw1.out,fun i hi h=>by
     rcases Nat.lt_or_ge i k with h1 | h1
     ·exact HA.out i hi h1
     ·obtain rfl:i=k:=by omega
      rw [HXE.out];exact hp⟩
    case measure=>simp [intOf];omega
  ·go_wp2_with fail
   go_ret
   exact ⟨av (fU (fun i hi=>HA.out i hi (by omega))).symm,hbw⟩
theorem bu (d:Nat) (F:FuncId) (cap:Array Value) (p:Tm→Bool) (xs:List Tm) (A:Option Addr) (c B:Nat) (w:World)
 (hF:∀args (w:World),(callFunc F args).run Tryz.prog w=.ok (.enter F args) w) (hl:RL (TmR d) w B xs A) (hB:B≤w.heap.size) (hn:xs.length≤140737488351232)
 (ht:bV Tryz.prog (TmR d) cV B w F cap p) :
 Calls Tryz.prog 45 #[.slice A xs.length c,.func (.func F) #[] cap] w fun e w'=>e=.returned (.bool (xs.any p))∧Below w.heap.size w w':=by
 have HT:=zT ht
 clear ht
 go_enter Tryz.func45,Tryz.ntmps45
 go_wp2_with (go_at_call 67;refine (jB d F cap p xs A c B w hF hl hB hn HT.out).mono ?_;rintro e w1 ⟨rfl,hb1⟩)
 go_ret
 exact ⟨ae (iN p xs),hb1⟩
theorem my (d:Nat) (M:FuncId) (p:Tm→Bool) (B G:Nat) (w:World) (hM:∀args (w:World),(callFunc M args).run Tryz.prog w=.ok (.enter M args) w)
 (hB:B≤w.heap.size) (hG:w.cell? ⟨G,0,none⟩=some (.func (.func M) #[] #[])) (ht:bV Tryz.prog (TmR d) cV B w M #[] p) :
 bV Tryz.prog (TmR d) cV B w 137 #[.pointer (some ⟨G,0,none⟩)] (fun x=>!p x):=by
 intro x vs w1 hb hr
 have hlen:vs.length=4:=(TmR d).len hr
 obtain ⟨v0,v1,v2,v3,rfl⟩:∃v0 v1 v2 v3,vs=[v0,v1,v2,v3]:=by
  match vs,hlen with
  | [v0,v1,v2,v3],_=>exact ⟨_,_,_,_,rfl⟩
 have hGl:G<w.heap.size:=block_lt_of_cell hG
 have hG1:w1.cell? ⟨G,0,none⟩=some (.func (.func M) #[] #[]):=(hb.cell (p:=⟨G,0,none⟩) hGl).trans hG
 have hGl1:G<w1.heap.size:=by have:=hb.size;omega
 have HB:=zT (fun o:Obj=>(zX w1.heap.size w1).alloc (zV _) o)
 have HT:=zT ht
 have HR:=zT hr
 have hBw:B≤w1.heap.size:=by have:=hb.size;omega
 clear ht hr
 show Calls Tryz.prog 137 #[.agg #[v0,v1,v2,v3],.pointer (some ⟨G,0,none⟩)] w1 _
 go_enter Tryz.func137,Tryz.ntmps137
 go_wp2_with fail
 refine (HT.out x [v0,v1,v2,v3] _ (hb.trans ((HB.out _).mono hb.size)) ((TmR d).keep (HB.out _) hBw HR.out)).mono ?_
 rintro e w2 ⟨rfl,hb2⟩
 have hfin:=zT ((HB.out _).trans (hb2.mono (HB.out _).size))
 clear hb2
 go_wp2_with fail
 go_ret
 exact ⟨rfl,hfin.out⟩
theorem qN (d:Nat) (M:FuncId) (p:Tm→Bool) (most:Int) (xs:List Tm) (A:Option Addr) (c B:Nat) (w:World) (hM:∀args (w:World),(callFunc M args).run Tryz.prog w=.ok (.enter M args) w)
 (hl:RL (TmR d) w B xs A) (hB:B≤w.heap.size) (hn:xs.length≤140737488351232) (ht:bV Tryz.prog (TmR d) cV B w M #[] p) :
 Calls Tryz.prog 101 #[.slice A xs.length c,.int .i64 most,.func (.func M) #[] #[]] w fun e w'=>e=.returned (.bool (decide ((xs.length:Int)≤most)&&xs.all p))∧Below w.heap.size w w':=by
 have HB:=zT (fun o:Obj=>(zX w.heap.size w).alloc (zV _) o)
 have HT:=zT ht
 have HL:=zT hl
 clear ht hl
 by_cases hm:(xs.length:Int)≤most
 ·go_enter Tryz.func101,Tryz.ntmps101
  go_wp2_with fail
  refine (bu d 137 _ _ xs A c B _ (ent Tryz.func137 (by kernel_rfl) rfl) (HL.out.keep (HB.out _) hB) (zU hB (HB.out _).size) hn
   (my d M p B w.heap.size _ hM (zU hB (HB.out _).size) (by go_simp) (HT.out.later (HB.out _)))).mono ?_
  rintro e w1 ⟨rfl,hb1⟩
  have hfin:=zT ((HB.out _).trans (hb1.mono (HB.out _).size))
  clear hb1
  go_wp2_with fail
  go_ret
  exact ⟨ae (by simp [hm,List.all_eq_not_any_not]),hfin.out⟩
 ·have hm':decide ((xs.length:Int)≤most)=false:=by simpa using hm
  go_enter Tryz.func101,Tryz.ntmps101
  go_wp2_with fail
  go_ret
  exact ⟨ae (by simp [hm]),HB.out _⟩
structure Pr where
 name:ByteArray
 terms:List Tm
structure OpD where
 kind:Int
 term:Tm
 code:Int
 skip:Int
structure Sc where
 kind:Int
 key:ByteArray
structure Ru where
 head:Pr
 body:List Pr
 exprs:List (List OpD)
 scopes:List Sc
def RSl {α:Type} (R:Reader α) (w:World) (B:Nat) (xs:List α) (v:Value):Prop:=∃A c,v=.slice A xs.length c∧xs.length≤c∧(xs.length*(8*R.k)≤140737488351232∧c≤9223372036854775807)∧RL R w B xs A
section
variable {α:Type} {R:Reader α} {w w':World} {B B' C:Nat} {xs:List α} {v:Value}
theorem RSl.keep (h:RSl R w B xs v) (hw:Below C w w') (hB:B≤C):RSl R w' B xs v:=by
 obtain ⟨A,c,rfl,h1,h2,h3⟩:=h
 exact ⟨A,c,rfl,h1,h2,h3.keep hw hB⟩
theorem RSl.wide (h:RSl R w B xs v) (hB:B≤B'):RSl R w B' xs v:=by
 obtain ⟨A,c,rfl,h1,h2,h3⟩:=h
 exact ⟨A,c,rfl,h1,h2,h3.wide hB⟩
end
def cU:Reader ByteArray where
 k:=1
 rd:=fun _ _ s vs=>vs=[.string s]∧s.size≤140737488351232
 keep:=fun _ _ h=>h
 wide:=fun _ h=>h
 len:=fun h=>by rw [h.1];rfl
def PrR (d:Nat):Reader Pr where
 k:=2
 rd:=fun w B p vs=>∃v,vs=[.string p.name,v]∧p.name.size≤140737488351232∧RSl (TmR d) w B p.terms v
 keep:=fun hw hB ⟨v,e,h1,h2⟩=>⟨v,e,h1,h2.keep hw hB⟩
 wide:=fun hB ⟨v,e,h1,h2⟩=>⟨v,e,h1,h2.wide hB⟩
 len:=fun ⟨_,e,_⟩=>by rw [e];rfl
def OpR (d:Nat):Reader OpD where
 k:=7
 rd:=fun w B o vs=>∃ts,vs=.int .i64 o.kind::(ts++[.int .i64 o.code,.int .i64 o.skip])∧I64 o.kind∧I64 o.code∧I64 o.skip∧RTm w B d o.term ts
 keep:=fun hw hB ⟨ts,e,h1,h2,h3,h⟩=>⟨ts,e,h1,h2,h3,RTm.below hw hB h⟩
 wide:=fun hB ⟨ts,e,h1,h2,h3,h⟩=>⟨ts,e,h1,h2,h3,RTm.more hB h⟩
 len:=fun ⟨ts,e,_,_,_,h⟩=>by
  obtain ⟨_,_,rfl,_⟩:=RTm.cells h
  rw [e];rfl
def ExR (d:Nat):Reader (List OpD) where
 k:=1
 rd:=fun w B e vs=>∃v,vs=[v]∧RSl (OpR d) w B e v
 keep:=fun hw hB ⟨v,e,h⟩=>⟨v,e,h.keep hw hB⟩
 wide:=fun hB ⟨v,e,h⟩=>⟨v,e,h.wide hB⟩
 len:=fun ⟨_,e,_⟩=>by rw [e];rfl
def ScR:Reader Sc where
 k:=2
 rd:=fun _ _ s vs=>vs=[.int .i64 s.kind,.string s.key]∧I64 s.kind∧s.key.size≤140737488351232
 keep:=fun _ _ h=>h
 wide:=fun _ h=>h
 len:=fun h=>by rw [h.1];rfl
def RuR (d:Nat):Reader Ru where
 k:=5
 rd:=fun w B r vs=>∃v0 v1 v2 v3,vs=[.string r.head.name,v0,v1,v2,v3]∧r.head.name.size≤140737488351232∧RSl (TmR d) w B r.head.terms v0∧RSl (PrR d) w B r.body v1∧RSl (ExR d) w B r.exprs v2∧RSl ScR w B r.scopes v3
 keep:=fun hw hB ⟨a,b,c,d,e,h,h0,h1,h2,h3⟩=>⟨a,b,c,d,e,h,h0.keep hw hB,h1.keep hw hB,h2.keep hw hB,h3.keep hw hB⟩
 wide:=fun hB ⟨a,b,c,d,e,h,h0,h1,h2,h3⟩=>⟨a,b,c,d,e,h,h0.wide hB,h1.wide hB,h2.wide hB,h3.wide hB⟩
 len:=fun ⟨_,_,_,_,e,_⟩=>by rw [e];rfl
end Go.Proofs.YtjpndglegpcdnaaGreat
