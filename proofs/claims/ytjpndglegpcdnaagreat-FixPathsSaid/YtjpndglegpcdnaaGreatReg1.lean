/- regex's parser: its small steps. -/
import Derived.Test.YtjpndglegpcdnaaGreatAn1
import Derived.Test.YtjpndglegpcdnaaGreatBSearch
import Derived.Test.YtjpndglegpcdnaaGreatHeapLaw
import Derived.Test.YtjpndglegpcdnaaGreatBS
import Derived.BigQuiet
set_option linter.unusedVariables false
set_option linter.unusedSimpArgs false
set_option maxRecDepth 100000
set_option maxHeartbeats 8000000
namespace Go.Proofs.YtjpndglegpcdnaaGreat
open Go.ChangeShapes Go.WideShapes Go.ChangeAt Go.RowKit
structure BelowD (B:Nat) (w w':World):Prop where
 b:Below B w w'
 d:w.drawn≤w'.drawn
theorem BelowD.size {B:Nat} {w w':World} (h:BelowD B w w'):w.heap.size≤w'.heap.size:=h.b.size
theorem BelowD.refl (B:Nat) (w:World):BelowD B w w:=⟨yq B w,yo _⟩
theorem BelowD.trans {B:Nat} {w v u:World} (h:BelowD B w v) (k:BelowD B v u):BelowD B w u:=⟨h.b.trans k.b,yn h.d k.d⟩
theorem BelowD.mono {B C:Nat} {w v:World} (h:BelowD B w v) (k:C≤B):BelowD C w v:=⟨h.b.mono k,h.d⟩
theorem BelowD.drew {B:Nat} {w v:World} (h:BelowD B w v):BelowD B w v.drew:=⟨h.b.drew,Nat.le_succ_of_le h.d⟩
theorem BelowD.alloc {B:Nat} {w v:World} (h:BelowD B w v) (k:B≤v.heap.size) (o:Obj):BelowD B w (v.alloc o):=⟨h.b.alloc k o,h.d⟩
theorem BelowD.cell {B:Nat} {w v:World} (h:BelowD B w v) {p:Addr} (hp:p.block<B):v.cell? p=w.cell? p:=h.b.cell hp
theorem dr1 {w W:World} {o:Obj} (h:w.alloc o=W):W.drawn=w.drawn:=by subst h;rfl
theorem dr2 {w W:World} {o p:Obj} (h:(w.alloc o).alloc p=W):W.drawn=w.drawn:=by subst h;rfl
theorem fh (F:FuncId) (cap:Array Value) (f:Tm→Tm→Int) (d e:Nat) (xs ys:List Tm) (A A':Option Addr) (c c' B:Nat) (w:World)
 (hF:∀args (w:World),(callFunc F args).run Tryz.prog w=.ok (.enter F args) w)
 (hA:jJ w B d xs A) (hA':jJ w B e ys A') (hB:B≤w.heap.size) (hn:xs.length*40≤140737488351232) (hn':ys.length*40≤140737488351232)
 (hf:∀(x y:Tm) (vs ws:List Value) (w1:World),BelowD w.heap.size w w1→RTm w1 B d x vs→RTm w1 B e y ws →
  Calls Tryz.prog F (#[.agg vs.toArray,.agg ws.toArray]++cap) w1 fun e w'=>e=.returned (.int .i64 (f x y))∧BelowD w1.heap.size w1 w') :
 Calls Tryz.prog 54 #[.slice A xs.length c,.slice A' ys.length c',.func (.func F) #[] cap] w fun e w'=>e=.returned (.int .i64 (dG f xs ys))∧BelowD w.heap.size w w':=by
 have HF:=ym hf
 clear hf
 go_enter Tryz.func54,Tryz.ntmps54
 go_wp2_with fail
 go_loopw [13] (fun i wr=>∃k:Nat,k≤xs.length∧i=.int .i64 k∧BelowD w.heap.size w wr∧dG f xs ys=dG f (xs.drop k) (ys.drop k)) (fun i _=>xs.length-(intOf i).toNat)
 case atStart=>exact ⟨0,yp _,rfl,BelowD.refl _ _,rfl⟩
 case round=>
  obtain ⟨k,hk,rfl,hbw,heq⟩:=hrel
  have HE:=ym heq
  clear heq
  by_cases hlt:k<xs.length
  ·obtain ⟨b,off,x,Ax,cx,rfl,hb,hx,c0,c1,c2,c3,hr⟩:=hA.elem hbw.b hB hlt
   by_cases hlt2:k<ys.length
   ·obtain ⟨b',off',y,Ay,cy,rfl,hb',hy,e0,e1,e2,e3,hr'⟩:=hA'.elem hbw.b hB hlt2
    have hsz:=hbw.size
    have hbw2:∀o o':Obj,BelowD w.heap.size w ((wr.alloc o).alloc o'):=fun o o'=>(hbw.alloc hsz _).alloc (by simp;omega) _
    have hbr2:∀o o':Obj,BelowD wr.heap.size wr ((wr.alloc o).alloc o'):=fun o o'=>((BelowD.refl _ _).alloc (yo _) _).alloc (by simp) _
    have HB:=ym hbw2
    have HR:=ym hbr2
    have hx':xs.drop k=x::xs.drop (k+1):=by
     obtain ⟨h1,h2⟩:=List.getElem?_eq_some_iff.1 hx
     rw [←h2];exact List.drop_eq_getElem_cons h1
    have hy':ys.drop k=y::ys.drop (k+1):=by
     obtain ⟨h1,h2⟩:=List.getElem?_eq_some_iff.1 hy
     rw [←h2];exact List.drop_eq_getElem_cons h1
    have HE2:Hid (dG f xs ys=if f x y=0 then dG f (xs.drop (k+1)) (ys.drop (k+1)) else f x y):=by
     have:=HE.out
     rw [hx',hy'] at this
     exact this
    clear hbw2 hbr2 hx' hy' HE
    go_wp2_with fail
    refine (HF.out x y [_,_,_,_] [_,_,_,_] _ (HB.out _ _) (hr.below (HR.out _ _).b (by omega)) (hr'.below (HR.out _ _).b (by omega))).mono ?_
    rintro e w1 ⟨rfl,hb1⟩
    have hbw1:=ym ((HB.out _ _).trans (hb1.mono (by simp;omega)))
    clear hb1
    by_cases hz:(f x y !=0)=true
    ·go_wp2_with fail
     go_ret
     exact ⟨az (by rw [HE2.out,if_neg (by simpa using hz)]),hbw1.out⟩
    ·have hz':(f x y !=0)=false:=by simpa using hz
     go_wp2_with fail
     go_roundw
     case rel=>exact ⟨k+1,by omega,by go_num,hbw1.out,by rw [HE2.out,if_pos (by simpa using hz')]⟩
     case measure=>simp [intOf];omega
   ·have hz:ys.drop k=[]:=List.drop_eq_nil_iff.2 (by omega)
    have HE2:Hid (dG f xs ys=1):=by
     have:=HE.out
     obtain ⟨h1,h2⟩:=List.getElem?_eq_some_iff.1 hx
     rw [List.drop_eq_getElem_cons h1,hz] at this
     exact this
    have hbw2:=ym (fun o:Obj=>hbw.alloc hbw.size o)
    clear HE hz
    go_wp2_with fail
    go_ret
    exact ⟨az HE2.out.symm,hbw2.out _⟩
  ·have hz:xs.drop k=[]:=List.drop_eq_nil_iff.2 (by omega)
   have HE2:=HE.out
   rw [hz] at HE2
   have HE3:=ym HE2
   clear HE HE2 hz
   by_cases hlt2:xs.length<ys.length
   ·go_wp2_with fail
    go_ret
    obtain rfl:k=xs.length:=by omega
    exact ⟨az (by rw [HE3.out,List.drop_eq_getElem_cons hlt2];rfl),hbw⟩
   ·go_wp2_with fail
    go_ret
    obtain rfl:k=xs.length:=by omega
    exact ⟨az (by rw [HE3.out,List.drop_eq_nil_iff.2 (by omega)];rfl),hbw⟩
theorem pz (w:World) (o1 o2 o3 o4:Obj):BelowD w.heap.size w ((((w.alloc o1).alloc o2).alloc o3).alloc o4).drew:=
 ((((((BelowD.refl _ _).alloc (yo _) _).alloc (by simp) _).alloc (by simp;omega) _).alloc (by simp;omega) _)).drew
theorem lN (d:Nat) (hd:d≤100) (ih:∀(da db:Nat) (a b:Tm) (vs ws:List Value) (B:Nat) (w:World),RTm w B da a vs→RTm w B db b ws→B≤w.heap.size →
 Calls Tryz.prog 73 #[.agg vs.toArray,.agg ws.toArray,.int .i64 d] w fun e w'=>e=.returned (.int .i64 (cH d a b))∧BelowD w.heap.size w w')
 (da db:Nat) (a b:Tm) (vs ws:List Value) (G B:Nat) (w:World) (hG:w.cell? ⟨G,0,none⟩=some (.int .i64 (d+1))) (ha:RTm w B da a vs) (hb:RTm w B db b ws) (hB:B≤w.heap.size) :
 Calls Tryz.prog 95 #[.agg vs.toArray,.agg ws.toArray,.pointer (some ⟨G,0,none⟩)] w fun e w'=>e=.returned (.int .i64 (cH d a b))∧BelowD w.heap.size w w':=by
 have HI:=ym ih
 clear ih
 obtain ⟨A,c,rfl,_⟩:=ha.cells
 obtain ⟨A',c',rfl,_⟩:=hb.cells
 have hGl:G<w.heap.size:=block_lt_of_cell hG
 go_enter Tryz.func95,Tryz.ntmps95
 have hbel:BelowD w.heap.size w ((w.alloc (.cells #[.int .i64 a.kind,.int .i64 a.n,.string a.s,.slice A a.l.length c] 29)).alloc (.cells #[.int .i64 b.kind,.int .i64 b.n,.string b.s,.slice A' b.l.length c'] 29)):=
  ((BelowD.refl _ _).alloc (yo _) _).alloc (by simp) _
 have HB:=ym hbel
 clear hbel
 go_wp2_with fail
 refine (HI.out da db a b [_,_,_,_] [_,_,_,_] B _ (ha.below HB.out.b hB) (hb.below HB.out.b hB) (yn hB HB.out.size)).mono ?_
 rintro e w1 ⟨rfl,hb1⟩
 have hfin:=ym (HB.out.trans (hb1.mono HB.out.size))
 clear hb1
 go_wp2_with fail
 go_ret
 exact ⟨rfl,hfin.out⟩
theorem mU (d:Nat) (hd:d≤100):∀(da db:Nat) (a b:Tm) (vs ws:List Value) (B:Nat) (w:World),RTm w B da a vs→RTm w B db b ws→B≤w.heap.size →
 Calls Tryz.prog 73 #[.agg vs.toArray,.agg ws.toArray,.int .i64 d] w fun e w'=>e=.returned (.int .i64 (cH d a b))∧BelowD w.heap.size w w':=by
 induction d with
 | zero=>
   intro da db a b vs ws B w ha hb hB
   obtain ⟨A,c,rfl,_⟩:=ha.cells
   obtain ⟨A',c',rfl,_⟩:=hb.cells
   show Calls _ _ #[_,_,.int .i64 0] _ _
   go_enter Tryz.func73,Tryz.ntmps73
   go_wp2_with fail
   refine bi 15 (by kernel_rfl) (by kernel_rfl) ?_
   simp only [List.take_succ_cons,List.take_zero,List.drop_succ_cons,List.drop_zero]
   repeat still_step
   still_call (jL (dF _ _ _))
   repeat still_step
   still_call (jL (ei _ _ _))
   repeat still_step
   still_call (jL (cW _ _ _))
   refine wpStill_nil ?_
   go_wp2_with fail
   refine (iC (eA a.kind b.kind) (eA a.n b.n) (dE (bs a.s) (bs b.s)) _ _ (by go_simp) (by go_simp) (by go_simp)).mono ?_
   rintro e w' ⟨rfl,rfl⟩
   by_cases hz:(mg a b !=0)=true
   all_goals (unfold mg at hz;try rw [Bool.not_eq_true] at hz)
   all_goals
    go_wp2_with fail
    go_ret
    exact ⟨rfl,pz _ _ _ _ _⟩
 | succ d ih=>
   intro da db a b vs ws B w ha hb hB
   obtain ⟨A,c,rfl,_⟩:=ha.cells
   obtain ⟨A',c',rfl,_⟩:=hb.cells
   go_enter Tryz.func73,Tryz.ntmps73
   go_wp2_with fail
   refine bi 15 (by kernel_rfl) (by kernel_rfl) ?_
   simp only [List.take_succ_cons,List.take_zero,List.drop_succ_cons,List.drop_zero]
   repeat still_step
   still_call (jL (dF _ _ _))
   repeat still_step
   still_call (jL (ei _ _ _))
   repeat still_step
   still_call (jL (cW _ _ _))
   refine wpStill_nil ?_
   go_wp2_with fail
   refine (iC (eA a.kind b.kind) (eA a.n b.n) (dE (bs a.s) (bs b.s)) _ _ (by go_simp) (by go_simp) (by go_simp)).mono ?_
   rintro e w' ⟨rfl,rfl⟩
   have hd0:(((d+1:Nat):Int)==0)=false:=by simp;omega
   by_cases hz:(mg a b !=0)=true
   all_goals (have HZ:=ym hz;unfold mg at hz;try rw [Bool.not_eq_true] at hz)
   ·go_wp2_with fail
    go_ret
    exact ⟨az (by rw [cH,if_neg (by simpa using HZ.out)];rfl),pz _ _ _ _ _⟩
   ·go_wp2_with fail
    obtain ⟨_,_,e1,a1,a2,a3,a4,a5,hA⟩:=ha.cells
    obtain ⟨rfl,rfl⟩:_∧_:=by simpa using e1
    obtain ⟨_,_,e2,b1,b2,b3,b4,b5,hB'⟩:=hb.cells
    obtain ⟨rfl,rfl⟩:_∧_:=by simpa using e2
    have hbel:=pz w (.cells #[.int .i64 a.kind,.int .i64 a.n,.string a.s,.slice A a.l.length c] 29) (.cells #[.int .i64 b.kind,.int .i64 b.n,.string b.s,.slice A' b.l.length c'] 29)
     (.cells #[.int .i64 (d+1)] 3) (.cells #[.int .i64 (eA a.kind b.kind),.int .i64 (eA a.n b.n),.int .i64 (dE (bs a.s) (bs b.s))] 3)
    refine (fh 95 _ (cH d) (da-1) (db-1) a.l b.l A A' c c' B _ qL (hA.below hbel.b hB) (hB'.below hbel.b hB) (yn hB hbel.size) (by omega) (by omega) ?_).mono ?_
    ·intro x y vs ws w1 hb1 hx hy
     refine (lN d (by omega) (fun da db a b vs ws B w h1 h2 h3=>ih (by omega) da db a b vs ws B w h1 h2 h3) _ _ x y vs ws _ B w1 ((hb1.cell (by simp)).trans (by go_simp)) hx hy (yn hB (yn hbel.size hb1.size)))
    ·rintro e w1 ⟨rfl,hb1⟩
     have hfin:=hbel.trans (hb1.mono hbel.size)
     clear hb1 hbel
     go_wp2_with fail
     go_ret
     exact ⟨az (by rw [cH,if_pos (by simpa using HZ.out)]),hfin⟩
theorem nX (da db:Nat) (a b:Tm) (vs ws:List Value) (B:Nat) (w:World) (ha:RTm w B da a vs) (hb:RTm w B db b ws) (hB:B≤w.heap.size) :
 Calls Tryz.prog 55 #[.agg vs.toArray,.agg ws.toArray] w fun e w'=>e=.returned (.int .i64 (cH 3 a b))∧BelowD w.heap.size w w':=by
 obtain ⟨A,c,rfl,_⟩:=ha.cells
 obtain ⟨A',c',rfl,_⟩:=hb.cells
 have hbel:BelowD w.heap.size w ((w.alloc (.cells #[.int .i64 a.kind,.int .i64 a.n,.string a.s,.slice A a.l.length c] 29)).alloc (.cells #[.int .i64 b.kind,.int .i64 b.n,.string b.s,.slice A' b.l.length c'] 29)):=
  ((BelowD.refl _ _).alloc (yo _) _).alloc (by simp) _
 have HB:=ym hbel
 clear hbel
 go_enter Tryz.func55,Tryz.ntmps55
 go_wp2_with fail
 refine (mU 3 (by omega) da db a b [_,_,_,_] [_,_,_,_] B _ (ha.below HB.out.b hB) (hb.below HB.out.b hB) (yn hB HB.out.size)).mono ?_
 rintro e w1 ⟨rfl,hb1⟩
 have hfin:=ym (HB.out.trans (hb1.mono HB.out.size))
 clear hb1
 go_wp2_with fail
 go_ret
 exact ⟨rfl,hfin.out⟩
theorem km {d e B:Nat} {x y:Ans} {va vb:List Value} {w:World} (ha:(mJ d).rd w B x va) (hb:(mJ e).rd w B y vb) (hx:AnOk x) (hy:AnOk y) (hB:B≤w.heap.size) :
 Calls Tryz.prog 78 #[.agg va.toArray,.agg vb.toArray] w fun z w'=>z=.returned (.int .i64 (aR x y))∧BelowD w.heap.size w w':=by
 obtain ⟨An,cn,At,ct,rfl,hn,ht⟩:=ha
 obtain ⟨An',cn',At',ct',rfl,hn',ht'⟩:=hb
 have HN:=ym hn
 have HT:=ym ht
 have HN':=ym hn'
 have HT':=ym ht'
 obtain ⟨x1,x2⟩:=hx
 obtain ⟨y1,y2⟩:=hy
 clear hn ht hn' ht'
 unfold anV
 go_enter Tryz.func78,Tryz.ntmps78
 go_upto_region 1 with fail
 generalize hW:World.alloc _ _=w1
 have hdr:=dr2 hW
 obtain ⟨hb,hz⟩:=al2 hW
 have HA1:=ym (n21 hW)
 have HB1:=ym (n22 hW)
 have HU1:=ym (BelowD.mk hb (Nat.le_of_eq hdr.symm))
 clear hW hb hdr
 have hsz:=HU1.out.size
 have hB1:B≤w1.heap.size:=yn hB hsz
 have HSL:Hid (∀{w':World},Below w1.heap.size w1 w'→(w'.cell? ⟨w.heap.size,0,none⟩=some (.slice An x.b.names.length cn)∧w'.cell? ⟨w.heap.size,1,none⟩=some (.slice At x.b.terms.length ct)∧w'.cell? ⟨w.heap.size,2,none⟩=some (.int .u32 x.o)∧w'.cell? ⟨w.heap.size+1,0,none⟩=some (.slice An' y.b.names.length cn')∧w'.cell? ⟨w.heap.size+1,1,none⟩=some (.slice At' y.b.terms.length ct')∧w'.cell? ⟨w.heap.size+1,2,none⟩=some (.int .u32 y.o))):=ym (fun hb=>⟨(HA1.out.later hb).cell 0,(HA1.out.later hb).cell 1,(HA1.out.later hb).cell 2,(HB1.out.later hb).cell 0,(HB1.out.later hb).cell 1,(HB1.out.later hb).cell 2⟩)
 refine aN (fun w'=>w'.cell? ⟨w.heap.size,0,none⟩=some (.slice An x.b.names.length cn)∧w'.cell? ⟨w.heap.size,1,none⟩=some (.slice At x.b.terms.length ct)∧w'.cell? ⟨w.heap.size,2,none⟩=some (.int .u32 x.o)∧w'.cell? ⟨w.heap.size+1,0,none⟩=some (.slice An' y.b.names.length cn')∧w'.cell? ⟨w.heap.size+1,1,none⟩=some (.slice At' y.b.terms.length ct')∧w'.cell? ⟨w.heap.size+1,2,none⟩=some (.int .u32 y.o)) (by kernel_rfl) (HSL.out (yq _ _).drew) ?_
 refine ab 0 ?_
 refine ab 1 ?_
 refine ab 2 ?_
 refine ab 3 ?_
 refine ab 4 ?_
 refine ab 5 ?_
 refine ab 7 ?_
 refine ab 8 ?_
 refine ab 9 ?_
 refine ab 10 ?_
 refine ab 11 ?_
 refine ab 12 ?_
 refine ab 14 ?_
 refine ab 15 ?_
 refine ab 16 ?_
 refine ab 17 ?_
 generalize hD:World.drew w1=w2
 have HU:Hid (BelowD w1.heap.size w1 w2):=ym (hD▸(BelowD.refl w1.heap.size w1).drew)
 clear hD
 refine au (rs:=[6]) (by kernel_rfl) rfl ?_
 refine aj.cons rfl (fun K hK=>?_) aj.nil
 go_simp
 refine (fW x.b.names y.b.names An An' cn cn' B w2 (HN.out.keep (HU1.out.trans (HU.out.mono hsz)).b hB) (HN'.out.keep (HU1.out.trans (HU.out.mono hsz)).b hB) (yn hB1 HU.out.size) (by omega) (by omega)).mono ?_
 rintro e w' ⟨rfl,rfl⟩
 refine hK.out _ _ (HSL.out HU.out.b) ?_
 clear hK
 refine au (rs:=[13]) (by kernel_rfl) rfl ?_
 refine aj.cons rfl (fun K hK=>?_) aj.nil
 go_simp
 refine (fh 55 #[] (cH 3) d e x.b.terms y.b.terms At At' ct ct' B w2 gU (HT.out.keep (HU1.out.trans (HU.out.mono hsz)).b hB) (HT'.out.keep (HU1.out.trans (HU.out.mono hsz)).b hB) (yn hB1 HU.out.size) (by omega) (by omega) (fun x y vs ws w9 hb9 hx hy=>nX d e x y vs ws B w9 hx hy (yn (yn hB1 HU.out.size) hb9.size))).mono ?_
 rintro z w3 ⟨rfl,hb3⟩
 have HU3:Hid (BelowD w1.heap.size w1 w3):=ym (HU.out.trans (hb3.mono HU.out.size))
 clear hb3
 refine hK.out _ _ (HSL.out HU3.out.b) ?_
 clear hK
 refine au (rs:=[18]) (by kernel_rfl) rfl ?_
 refine aj.cons rfl (fun K hK=>?_) aj.nil
 go_simp
 refine (iT _ _ _).mono ?_
 rintro e w' ⟨rfl,rfl⟩
 refine hK.out _ _ (HSL.out HU3.out.b) ?_
 clear hK
 refine au (rs:=[19]) (by kernel_rfl) rfl ?_
 refine aj.cons rfl (fun K hK=>?_) aj.nil
 go_simp
 generalize hW:World.alloc _ _=w4
 have hb4:BelowD w3.heap.size w3 w4:=⟨(al1 hW).1,Nat.le_of_eq (dr1 hW).symm⟩
 have HL4:=ym (n11 hW)
 have HU4:Hid (BelowD w1.heap.size w1 w4):=ym (HU3.out.trans (hb4.mono HU3.out.size))
 clear hW hb4
 refine hK.out _ _ (HSL.out HU4.out.b) ?_
 clear hK
 refine au (rs:=[20]) (by kernel_rfl) rfl ?_
 refine aj.cons rfl (fun K hK=>?_) aj.nil
 go_simp
 refine (iB [dv x.b.names y.b.names,dG (cH 3) x.b.terms y.b.terms,eA x.o y.o] w3.heap.size w4 (fun i hi=>by
  rw [HL4.out.cell i]
  match i,hi with
  | 0,_=>rfl
  | 1,_=>rfl
  | 2,_=>rfl) (by simp)).mono ?_
 rintro e w' ⟨rfl,rfl⟩
 refine hK.out _ _ (HSL.out HU4.out.b) ?_
 clear hK
 refine ab 21 ?_
 refine bY (by kernel_rfl) ?_
 go_wp2_with fail
 go_ret
 exact ⟨az rfl,HU1.out.trans (HU4.out.mono hsz)⟩
theorem rX {w w':World} (h:BelowD w.heap.size w w'):∃q os,w'=Sort.grow (w.drewN q) os:=by
 obtain ⟨p,hp⟩:=regrown_of_below h.b
 refine ⟨w'.drawn-w.drawn,p.os,?_⟩
 have hd:=h.d
 have e1:w'.drawn=p.d:=by rw [hp];rfl
 rw [hp]
 unfold Sort.grow redrawn World.drewN
 simp only [World.mk.injEq,true_and,and_true]
 show p.d=w.drawn+(p.d-w.drawn)
 omega
structure Ins where
 kind:Int
 a:Int
 b:Int
 c:Int
 d:Int
 x:Int
 y:Int
def Ins.word (i:Ins) (j:Nat):Int:=if j=0 then i.a else if j=1 then i.b else if j=2 then i.c else i.d
def Ins.put (i:Ins) (j:Nat) (v:Int):Ins:=if j=0 then { i with a:=v } else if j=1 then { i with b:=v } else if j=2 then { i with c:=v } else { i with d:=v }
def lI (i:Ins) (c:Nat):Ins:=i.put (c / 64) (bits .or .u64 (i.word (c / 64)) (IntKind.u64.wrap (1*2 ^ (c % 64))))
def ch:Ins:=⟨1,0,0,0,0,0,0⟩
def mO:Int:=18446744073709551615
def anyI:Ins:=⟨1,mO,mO,mO,mO,0,0⟩
def gK (k:Int) (i:Ins):Ins:=if i.kind=2 then { i with x:=wrap64 (i.x+k),y:=wrap64 (i.y+k) } else if i.kind=3 then { i with x:=wrap64 (i.x+k) } else i
def bu (x y:Int):Ins:=⟨2,0,0,0,0,x,y⟩
def iv (x:Int):Ins:=⟨3,0,0,0,0,x,0⟩
def pM:Ins:=⟨6,0,0,0,0,0,0⟩
def aH (l:List Ins) (k:Int):List Ins:=l.map (gK k)
def gS (a b:List Ins):List Ins:=[bu 1 (a.length+2)]++aH a 1++[iv (a.length+2+b.length)]++aH b (a.length+2)
structure PS where
 at_:Nat
 deep:Nat
 e:Int
def cd (s:ByteArray) (k:Nat):Nat:=((bs s)[k]?.map UInt8.toNat).getD 0
def bK (s:ByteArray) (p:PS):Bool:=decide (p.e≠0)||decide (s.size≤p.at_)
def isP (s:ByteArray) (p:PS) (c:Nat):Bool:=!bK s p&&decide (cd s p.at_=c)
def be (p:PS) (e:Int):PS:=if p.e=0 then { p with e:=e } else p
def PS.step (p:PS):PS:={ p with at_:=p.at_+1 }
def aE (s:ByteArray) (p:PS):Nat × PS:=if bK s p then (0,be p 3) else (cd s p.at_,p.step)
def aO (s:ByteArray) (p:PS):Nat × PS:=
 let r:=aE s p
 if r.1=92 then aE s r.2 else r
def dU (i:Ins) (f t:Nat):Ins:=(List.range (t+1-f)).foldl (fun i k=>lI i (f+k)) i
def eJ (s:ByteArray) (p:PS):(Nat × Nat) × PS:=
 let r:=aO s p
 if isP s r.2 45&&(decide (r.2.at_+1<s.size)&&decide (cd s (r.2.at_+1)≠93)) then
  let q:=aO s r.2.step
  ((r.1,q.1),q.2)
 else ((r.1,r.1),r.2)
def bg (s:ByteArray):Nat→PS→Ins→Ins × PS
 | 0,p,i=>(i,p)
 | n+1,p,i=>
   if !bK s p&&!isP s p 93 then
    let r:=eJ s p
    bg s n (if r.1.2<r.1.1 then be r.2 3 else r.2) (dU i r.1.1 r.1.2)
   else (i,p)
def nW (v:Int):Int:=bits .xor .u64 (if IntKind.u64.signed=true then -1 else IntKind.u64.max) v
def qI (i:Ins):Ins:=⟨i.kind,nW i.a,nW i.b,nW i.c,nW i.d,i.x,i.y⟩
def dK (s:ByteArray) (p:PS):Ins × PS:=
 let not_:=isP s p 94
 let p1:=if not_ then p.step else p
 let p2:=if isP s p1 93 then be p1 3 else p1
 let r:=bg s (s.size+1-p2.at_) p2 ch
 let q:=aE s r.2
 (if not_ then qI r.1 else r.1,q.2)
def kr (c:Nat):Bool:=decide (c=41)||decide (c=42)||decide (c=43)||decide (c=63)||decide (c=124)
mutual
def qi (s:ByteArray):Nat→PS→List Ins × PS
 | 0,p=>([],p)
 | n+1,p=>
   let r:=jh s n p []
   if isP s r.2 124 then
    let q:=qi s n r.2.step
    (gS r.1 q.1,q.2)
   else r
def jh (s:ByteArray):Nat→PS→List Ins→List Ins × PS
 | 0,p,out=>(out,p)
 | n+1,p,out=>
   if !bK s p&&(!isP s p 124&&!isP s p 41) then
    let r:=eG s n p
    jh s n r.2 (out++aH r.1 out.length)
   else (out,p)
def eG (s:ByteArray):Nat→PS→List Ins × PS
 | 0,p=>([],p)
 | n+1,p=>
   let r:=fw s n p
   if isP s r.2 42 then ([bu 1 (r.1.length+2)]++aH r.1 1++[iv 0],r.2.step)
   else if isP s r.2 43 then (r.1++[bu 0 (r.1.length+1)],r.2.step)
   else if isP s r.2 63 then ([bu 1 (r.1.length+1)]++aH r.1 1,r.2.step)
   else r
def fw (s:ByteArray):Nat→PS→List Ins × PS
 | 0,p=>([],p)
 | n+1,p=>
   let r:=aE s p
   if r.1=40∧r.2.e=0 then
    if r.2.deep=20 then ([],be r.2 4)
    else
     let q:=qi s n ⟨r.2.at_,r.2.deep+1,r.2.e⟩
     let z:=aE s q.2
     let f:=if z.1≠41 then be z.2 3 else z.2
     (q.1,⟨f.at_,f.deep-1,f.e⟩)
   else if r.1=91 then
    let q:=dK s r.2
    ([q.1],q.2)
   else if r.1=46 then ([anyI],r.2)
   else if r.1=94 then ([⟨4,0,0,0,0,0,0⟩],r.2)
   else if r.1=36 then ([⟨5,0,0,0,0,0,0⟩],r.2)
   else if r.1=92 then
    let q:=aE s r.2
    ([lI ch q.1],q.2)
   else if kr r.1 then ([ch],be r.2 3)
   else ([lI ch r.1],r.2)
end
def fi (rem:Nat):Nat:=4*rem+4
def xN (s:ByteArray) (p:PS):PS:=if bK s p then p else be p 3
def dN (s:ByteArray):List Ins × Int:=
 if 256<s.size then ([],4)
 else
  let r:=qi s (fi s.size) ⟨0,0,0⟩
  if (xN s r.2).e=0 then (r.1++[pM],0) else ([],(xN s r.2).e)
def psA (s:ByteArray) (p:PS):Array Value:=#[.string s,.int .i64 p.at_,.int .i64 p.deep,.int .i64 p.e]
theorem jm {n:Int} (h0:-9223372036854775808≤n) (h1:n<9223372036854775808):wrap64 n=n:=by rw [lF];split<;>omega
theorem gg {s:ByteArray} {k:Nat} (h:k<s.size):cd s k=s[k].toNat:=by
 have hl:k<(bs s).length:=by rw [ie];exact h
 unfold cd
 rw [yy hl]
 rfl
theorem tx (s:ByteArray) (k:Nat):cd s k<256:=by
 unfold cd
 rcases (bs s)[k]? with _ | b
 ·simp
 ·simp;exact b.toNat_lt
theorem di {w:World} {P:Nat} {s:ByteArray} {p:PS} (hb:Blk w P (psA s p)) (hs:s.size≤1000000) (ha:p.at_≤1000000) :
 Calls Tryz.prog 222 #[.pointer (some ⟨P,0,none⟩)] w fun e w'=>e=.returned (.bool (bK s p))∧Below w.heap.size w w':=by
 obtain ⟨at_,deep,e⟩:=p
 have hb:Blk w P #[.string s,.int .i64 at_,.int .i64 deep,.int .i64 e]:=hb
 have q_p:=hb.regrown
 simp only at ha
 rcases Bool.eq_false_or_eq_true (e !=0) with he | he
 all_goals
  go_enter Tryz.func222,Tryz.ntmps222
  go_wp2_with fail
  refine wp_region_quiet_below (by kernel_rfl) (by kernel_rfl) ?_
  repeat (go_big_quiet_step (fail))
  refine wpQuiet_nil ?_
  intro w3 hw3
  have hb1:Below w.heap.size w w3:=by obtain ⟨p,rfl⟩:=hw3;exact below_regrown _ _ _
  clear hw3 q_p
  go_wp2_with fail
  go_ret
  refine ⟨ae ?_,hb1⟩
  simp only [bne_iff_ne,ne_eq,bne_eq_false_iff_eq] at he
  simp [bK,he]
theorem cF {w:World} {P:Nat} {s:ByteArray} {p:PS} {c:Nat} (hb:Blk w P (psA s p)) (hs:s.size≤1000000) (ha:p.at_≤1000000) :
 Calls Tryz.prog 230 #[.pointer (some ⟨P,0,none⟩),.int .u8 c] w fun e w'=>e=.returned (.bool (isP s p c))∧Below w.heap.size w w':=by
 have hb0:=hb
 have HB0:=ym hb
 rcases Bool.eq_false_or_eq_true (bK s p) with he | he
 ·have HE:=ym he
  clear he
  go_enter Tryz.func230,Tryz.ntmps230
  go_wp2_with fail
  refine wp_region_quiet_below (by kernel_rfl) (by kernel_rfl) ?_
  repeat (go_big_quiet_step ((go_at_call 222;exact Calls.regrown_of (cV HE.out (di (HB0.out.later (below_regrown _ _ _)) hs ha)))))
  refine wpQuiet_nil ?_
  intro w3 hw3
  have hb1:Below w.heap.size w w3:=by obtain ⟨p,rfl⟩:=hw3;exact below_regrown _ _ _
  clear hw3
  go_wp2_with fail
  go_ret
  exact ⟨ae (by unfold isP;rw [HE.out];rfl),hb1⟩
 ·have HE:=ym he
  have hlt:p.at_<s.size:=by
   unfold bK at he
   simp only [Bool.or_eq_false_iff,decide_eq_false_iff_not] at he
   omega
  have HX:Hid (cd s p.at_=s[p.at_].toNat):=ym (gg hlt)
  obtain ⟨at_,deep,e⟩:=p
  have hb:Blk w P #[.string s,.int .i64 at_,.int .i64 deep,.int .i64 e]:=hb
  have q_p:=hb.regrown
  simp only at ha hlt HX
  clear he hb0
  go_enter Tryz.func230,Tryz.ntmps230
  go_wp2_with fail
  refine wp_region_quiet_below (by kernel_rfl) (by kernel_rfl) ?_
  repeat (go_big_quiet_step ((go_at_call 222;exact Calls.regrown_of (cV HE.out (di (HB0.out.later (below_regrown _ _ _)) hs ha)))))
  refine wpQuiet_nil ?_
  intro w3 hw3
  have hb1:Below w.heap.size w w3:=by obtain ⟨p,rfl⟩:=hw3;exact below_regrown _ _ _
  clear hw3 q_p
  go_wp2_with fail
  go_ret
  refine ⟨ae ?_,hb1⟩
  unfold isP
  rw [HE.out]
  simp only [Bool.not_false,Bool.true_and]
  rw [HX.out,Bool.eq_iff_iff]
  simp
  try omega
theorem dP {w:World} {P:Nat} {s:ByteArray} {p:PS} {n:Int} (hb:Blk w P (psA s p)) :
 Calls Tryz.prog 223 #[.pointer (some ⟨P,0,none⟩),.int .i64 n] w fun e w'=>e=.returned (.tuple #[])∧Exc P w w'∧Blk w' P (psA s (be p n)):=by
 obtain ⟨at_,deep,e⟩:=p
 have hb:Blk w P #[.string s,.int .i64 at_,.int .i64 deep,.int .i64 e]:=hb
 have k_p:=hb.cell
 have f_p:=hb.free
 have HB:=ym hb
 clear hb
 by_cases he:e=0
 ·subst he
  go_enter Tryz.func223,Tryz.ntmps223
  go_wp2_with fail
  go_end0
  exact ⟨rfl,(Exc.refl P w).set 3 _,HB.out.set_ 3 _⟩
 ·have HE:=ym he
  go_enter Tryz.func223,Tryz.ntmps223
  go_wp2_with fail
  go_end0
  refine ⟨rfl,Exc.refl P w,?_⟩
  unfold be
  rw [if_neg HE.out]
  exact HB.out
theorem next_le {s:ByteArray} {p:PS}:(aE s p).2.at_≤p.at_+1:=by
 unfold aE be PS.step
 split<;>(try split)<;>simp
theorem qe {s:ByteArray} {p:PS} (h:bK s p=false):p.e=0∧p.at_<s.size:=by
 unfold bK at h
 simp only [Bool.or_eq_false_iff,decide_eq_false_iff_not,ne_eq,Classical.not_not] at h
 omega
theorem eX {w:World} {P:Nat} {s:ByteArray} {p:PS} (hb:Blk w P (psA s p)) (hs:s.size≤1000000) (ha:p.at_≤1000000) :
 Calls Tryz.prog 237 #[.pointer (some ⟨P,0,none⟩)] w fun e w'=>e=.returned (.int .u8 (aE s p).1)∧Exc P w w'∧Blk w' P (psA s (aE s p).2):=by
 have HB:=ym hb
 have hlt:=hb.lt
 clear hb
 rcases Bool.eq_false_or_eq_true (bK s p) with he | he
 ·have HN:Hid (aE s p=(0,be p 3)):=ym (by unfold aE;rw [if_pos he])
  have HE:=ym he
  clear he
  go_enter Tryz.func237,Tryz.ntmps237
  go_wp2_with fail
  refine (di HB.out hs ha).mono ?_
  rintro x w1 ⟨rfl,hb1⟩
  rw [HE.out]
  have HB1:=ym (HB.out.later hb1)
  have HX1:=ym (Exc.of (Nat.le_of_lt hlt) hb1)
  clear hb1
  go_wp2_with fail
  refine (dP HB1.out).mono ?_
  rintro x w2 ⟨rfl,hx,hb2⟩
  have HB2:=ym hb2
  have HX2:=ym (HX1.out.trans hx)
  clear hx hb2
  go_wp2_with fail
  go_ret
  rw [HN.out]
  exact ⟨rfl,HX2.out,HB2.out⟩
 ·have HN:Hid (aE s p=(cd s p.at_,p.step)):=ym (by unfold aE;rw [if_neg (by rw [he];simp)])
  have HE:=ym he
  obtain ⟨h0,h1⟩:=qe he
  have HG:Hid (cd s p.at_=s[p.at_].toNat):=ym (gg h1)
  clear he
  go_enter Tryz.func237,Tryz.ntmps237
  go_wp2_with fail
  refine (di HB.out hs ha).mono ?_
  rintro x w1 ⟨rfl,hb1⟩
  rw [HE.out]
  have hbb:Blk w1 P (psA s p):=HB.out.later hb1
  have HX1:=ym (Exc.of (Nat.le_of_lt hlt) hb1)
  obtain ⟨at_,deep,e⟩:=p
  have hbb:Blk w1 P #[.string s,.int .i64 at_,.int .i64 deep,.int .i64 e]:=hbb
  simp only at ha h0 h1 HG HN
  subst h0
  have hw1:wrap64 ((at_:Int)+1)=(at_:Int)+1:=jm (by omega) (by omega)
  have hw2:wrap64 ((at_:Int)+1-1)=(at_:Int):=(congrArg wrap64 (by omega)).trans (jm (n:=(at_:Int)) (by omega) (by omega))
  have k_p:=hbb.cell
  have f_p:=hbb.free
  have HBB:=ym (show Blk (w1.setCell ⟨P,1,none⟩ (.int .i64 ((at_:Int)+1))) P #[.string s,.int .i64 ((at_:Int)+1),.int .i64 deep,.int .i64 0] from hbb.set_ 1 _)
  have HX2:=ym (HX1.out.set 1 (.int .i64 ((at_:Int)+1)))
  clear hb1 hbb
  go_wp2_with fail
  generalize w1.setCell _ _=w2 at *
  have q_p:=HBB.out.regrown
  refine wp_region_quiet_below (by kernel_rfl) (by kernel_rfl) ?_
  repeat (go_big_quiet_step (fail))
  refine wpQuiet_nil ?_
  intro w3 hw3
  have hb3:Below w2.heap.size w2 w3:=by obtain ⟨p,rfl⟩:=hw3;exact below_regrown _ _ _
  clear hw3 q_p
  have HX3:=ym (HX2.out.then (Nat.le_of_lt hlt) hb3)
  have HB3:=ym (HBB.out.later hb3)
  clear hb3 k_p f_p
  go_wp2_with fail
  go_ret
  rw [HN.out]
  refine ⟨?_,HX3.out,?_⟩
  ·rw [HG.out];rfl
  ·have:=HB3.out
   unfold psA PS.step
   simpa using this
theorem mv {w:World} {P:Nat} {s:ByteArray} {p:PS} (hb:Blk w P (psA s p)) (hs:s.size≤1000000) (ha:p.at_<1000000) :
 Calls Tryz.prog 242 #[.pointer (some ⟨P,0,none⟩)] w fun e w'=>e=.returned (.int .u8 (aO s p).1)∧Exc P w w'∧Blk w' P (psA s (aO s p).2):=by
 have HB:=ym hb
 clear hb
 go_enter Tryz.func242,Tryz.ntmps242
 go_wp2_with fail
 refine (eX HB.out hs (by omega)).mono ?_
 rintro x w1 ⟨rfl,hx,hb1⟩
 have HB1:=ym hb1
 have HX1:=ym hx
 have hat:=next_le (s:=s) (p:=p)
 clear hx hb1
 by_cases h92:(aE s p).1=92
 ·have HM:Hid (aO s p=aE s (aE s p).2):=ym (by unfold aO;simp only;rw [if_pos h92])
  rw [h92]
  clear h92
  go_wp2_with fail
  refine (eX HB1.out hs (by omega)).mono ?_
  rintro x w2 ⟨rfl,hx,hb2⟩
  have HB2:=ym hb2
  have HX2:=ym (HX1.out.trans hx)
  clear hx hb2
  go_wp2_with fail
  go_ret
  rw [HM.out]
  exact ⟨rfl,HX2.out,HB2.out⟩
 ·have HM:Hid (aO s p=aE s p):=ym (by unfold aO;simp only;rw [if_neg h92])
  have h92':¬((aE s p).1:Int)=92:=by omega
  clear h92
  go_wp2_with fail
  go_ret
  rw [HM.out]
  exact ⟨rfl,HX1.out,HB1.out⟩
def inA (i:Ins):Array Value:=#[.int .i64 i.kind,.int .u64 i.a,.int .u64 i.b,.int .u64 i.c,.int .u64 i.d,.int .i64 i.x,.int .i64 i.y]
theorem iX {w:World} {G:Nat} {i:Ins} {c:Nat} (hb:Blk w G (inA i)) (hc:c<256) :
 Calls Tryz.prog 240 #[.pointer (some ⟨G,0,none⟩),.int .u8 c] w fun e w'=>e=.returned (.tuple #[])∧Exc G w w'∧Blk w' G (inA (lI i c)):=by
 obtain ⟨kind,a,b,c0,d,x,y⟩:=i
 have hb:Blk w G #[.int .i64 kind,.int .u64 a,.int .u64 b,.int .u64 c0,.int .u64 d,.int .i64 x,.int .i64 y]:=hb
 have k_p:=hb.cell
 have f_p:=hb.free
 have hj:c / 64=0∨c / 64=1∨c / 64=2∨c / 64=3:=by omega
 have hr:(c:Int).tmod 64=((c % 64:Nat):Int):=rfl
 have hr2:((c % 64:Nat):Int)<64:=by omega
 have hr3:(0:Int)≤((c % 64:Nat):Int):=by omega
 rcases hj with hj | hj | hj | hj
 ·have hq:(c:Int).tdiv 64=((c / 64:Nat):Int):=rfl
  rw [hj] at hq
  go_enter Tryz.func240,Tryz.ntmps240
  go_wp2_with fail
  go_region
  go_wp2_with fail
  go_end0
  refine ⟨rfl,((Exc.refl G w).set _ _).drew,?_⟩
  have h9:=(hb.set_ 1 (.int .u64 (bits BinOp.or IntKind.u64 a (IntKind.u64.wrap (2 ^ (c % 64)))))).drew
  have e9:inA (lI ⟨kind,a,b,c0,d,x,y⟩ c)=(#[.int .i64 kind,.int .u64 a,.int .u64 b,.int .u64 c0,.int .u64 d,.int .i64 x,.int .i64 y]:Array Value).setIfInBounds 1 (.int .u64 (bits BinOp.or IntKind.u64 a (IntKind.u64.wrap (2 ^ (c % 64))))):=by
   unfold inA lI Ins.put Ins.word
   rw [hj]
   simp
  rw [e9]
  exact h9
 ·have hq:(c:Int).tdiv 64=((c / 64:Nat):Int):=rfl
  rw [hj] at hq
  go_enter Tryz.func240,Tryz.ntmps240
  go_wp2_with fail
  go_region
  go_wp2_with fail
  go_end0
  refine ⟨rfl,((Exc.refl G w).set _ _).drew,?_⟩
  have h9:=(hb.set_ 2 (.int .u64 (bits BinOp.or IntKind.u64 b (IntKind.u64.wrap (2 ^ (c % 64)))))).drew
  have e9:inA (lI ⟨kind,a,b,c0,d,x,y⟩ c)=(#[.int .i64 kind,.int .u64 a,.int .u64 b,.int .u64 c0,.int .u64 d,.int .i64 x,.int .i64 y]:Array Value).setIfInBounds 2 (.int .u64 (bits BinOp.or IntKind.u64 b (IntKind.u64.wrap (2 ^ (c % 64))))):=by
   unfold inA lI Ins.put Ins.word
   rw [hj]
   simp
  rw [e9]
  exact h9
 ·have hq:(c:Int).tdiv 64=((c / 64:Nat):Int):=rfl
  rw [hj] at hq
  go_enter Tryz.func240,Tryz.ntmps240
  go_wp2_with fail
  go_region
  go_wp2_with fail
  go_end0
  refine ⟨rfl,((Exc.refl G w).set _ _).drew,?_⟩
  have h9:=(hb.set_ 3 (.int .u64 (bits BinOp.or IntKind.u64 c0 (IntKind.u64.wrap (2 ^ (c % 64)))))).drew
  have e9:inA (lI ⟨kind,a,b,c0,d,x,y⟩ c)=(#[.int .i64 kind,.int .u64 a,.int .u64 b,.int .u64 c0,.int .u64 d,.int .i64 x,.int .i64 y]:Array Value).setIfInBounds 3 (.int .u64 (bits BinOp.or IntKind.u64 c0 (IntKind.u64.wrap (2 ^ (c % 64))))):=by
   unfold inA lI Ins.put Ins.word
   rw [hj]
   simp
  rw [e9]
  exact h9
 ·have hq:(c:Int).tdiv 64=((c / 64:Nat):Int):=rfl
  rw [hj] at hq
  go_enter Tryz.func240,Tryz.ntmps240
  go_wp2_with fail
  go_region
  go_wp2_with fail
  go_end0
  refine ⟨rfl,((Exc.refl G w).set _ _).drew,?_⟩
  have h9:=(hb.set_ 4 (.int .u64 (bits BinOp.or IntKind.u64 d (IntKind.u64.wrap (2 ^ (c % 64)))))).drew
  have e9:inA (lI ⟨kind,a,b,c0,d,x,y⟩ c)=(#[.int .i64 kind,.int .u64 a,.int .u64 b,.int .u64 c0,.int .u64 d,.int .i64 x,.int .i64 y]:Array Value).setIfInBounds 4 (.int .u64 (bits BinOp.or IntKind.u64 d (IntKind.u64.wrap (2 ^ (c % 64))))):=by
   unfold inA lI Ins.put Ins.word
   rw [hj]
   simp
  rw [e9]
  exact h9
end Go.Proofs.YtjpndglegpcdnaaGreat
