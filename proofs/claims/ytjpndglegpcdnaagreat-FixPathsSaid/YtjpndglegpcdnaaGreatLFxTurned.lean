/- viaticumlaw21.FixTurned. Printed by mk_lfxturned.py. -/
import Derived.Test.YtjpndglegpcdnaaGreatFx1
import Derived.Test.YtjpndglegpcdnaaGreatLit
import Derived.Test.YtjpndglegpcdnaaGreatPosts2
set_option linter.unusedVariables false
set_option linter.unusedSimpArgs false
set_option maxRecDepth 100000
set_option maxHeartbeats 8000000
namespace Go.Proofs.YtjpndglegpcdnaaGreat
open Go.ChangeShapes Go.WideShapes Go.ChangeAt Go.RowKit
theorem ret_prd {fn:Func} {tmps:Array Value} {p:Tmp} {g:Nat} {w:World} {cs:Array Value} (h:fn.results=#[.cell p 26]) (hp:tmps.getD p undef=.pointer (some ⟨g,0,none⟩)) (hb:Blk w g cs) (hn:cs.size=2) :
 (results fn tmps).run Tryz.prog w=.ok (.agg cs) w:=by
 obtain ⟨T,hb⟩:=hb
 exact results_cell_row h tmps w g T cs (0,0) _ hp hb Tryz.underlying26 rfl (by rw [hn];kernel_rfl)
theorem Blk.rl2 {α:Type} {R:Reader α} {w:World} {B b:Nat} {x y:α} {us vs:List Value} {cells:Array Value} (h:Blk w b cells) (hc:cells.toList=us++vs) (hx:R.rd w B x us) (hy:R.rd w B y vs) (hb:b<B):RL R w B [x,y] (some ⟨b,0,none⟩):=fun _=>
 ⟨b,0,rfl,hb,fun i hi=>by
  have hi0:i=0∨i=1:=by simp at hi;omega
  have l1:=R.len hx
  rcases hi0 with rfl | rfl
  ·refine ⟨us,l1,⟨x,rfl,hx⟩,fun j v hj=>?_⟩
   have hl:=(List.getElem?_eq_some_iff.1 hj).1
   have e:0+0*R.k+j=j:=by omega
   rw [e,h.cell,←Array.getElem?_toList,hc,List.getElem?_append_left hl,hj]
  ·refine ⟨vs,R.len hy,⟨y,rfl,hy⟩,fun j v hj=>?_⟩
   have e:0+1*R.k+j=us.length+j:=by omega
   rw [e,h.cell,←Array.getElem?_toList,hc,List.getElem?_append_right (by omega),Nat.add_sub_cancel_left,hj]⟩
theorem RL.near {α:Type} {R:Reader α} {w w':World} {xs:List α} {A:Option Addr} (h:RL R w w.heap.size xs A) (hb:Below w.heap.size w w'):RL R w' w'.heap.size xs A:=(h.keep hb (yo _)).wide hb.size
def lH {α:Type} (R:Reader α) (xs:List α) (v:Value) (w:World):Prop:=∃A,v=.slice A xs.length xs.length∧RL R w w.heap.size xs A
theorem Stb.sl {α:Type} (R:Reader α) (xs:List α):Stb (lH R xs):=fun _ _ _ ⟨A,e,h⟩ hb=>⟨A,e,h.near hb⟩
def pn (p:Pr) (v:Value) (w:World):Prop:=∃A,v=.agg #[.string p.name,.slice A p.terms.length p.terms.length]∧RL (TmR 2) w w.heap.size p.terms A
theorem Stb.pr (p:Pr):Stb (pn p):=fun _ _ _ ⟨A,e,h⟩ hb=>⟨A,e,h.near hb⟩
def rB (r:Ru) (more:List Value) (v:Value) (w:World):Prop:=∃A0 A1,v=.agg (#[.string r.head.name,.slice A0 r.head.terms.length r.head.terms.length,.slice A1 r.body.length r.body.length,.slice none 0 0,.slice none 0 0]++more.toArray)∧RL (TmR 2) w w.heap.size r.head.terms A0∧RL (PrR 2) w w.heap.size r.body A1
theorem Stb.ru (r:Ru) (m:List Value):Stb (rB r m):=fun _ _ _ ⟨A0,A1,e,h,k⟩ hb=>⟨A0,A1,e,h.near hb,k.near hb⟩
def aP (base:Nat) (o:Int) (v:Value) (w:World):Prop:=∃b A0 A1 A2 A3,v=.slice (some ⟨b,0,none⟩) 2 2∧base≤b ∧
 Blk w b #[.string pwP,.slice A0 2 2,.slice A1 1 1,.slice none 0 0,.slice none 0 0,.int .i64 0,.int .u32 o,.string pwP,.slice A2 2 2,.slice A3 2 2,.slice none 0 0,.slice none 0 0,.int .i64 0,.int .u32 o] ∧
 (RuR 2).rd w b uM [.string pwP,.slice A0 2 2,.slice A1 1 1,.slice none 0 0,.slice none 0 0]∧(RuR 2).rd w b uN [.string pwP,.slice A2 2 2,.slice A3 2 2,.slice none 0 0,.slice none 0 0]
theorem Stb.paths (base:Nat) (o:Int):Stb (aP base o):=fun _ _ _ ⟨b,A0,A1,A2,A3,e,h0,h,k1,k2⟩ hb=>⟨b,A0,A1,A2,A3,e,h0,h.later hb,(RuR 2).keep hb (Nat.le_of_lt h.lt) k1,(RuR 2).keep hb (Nat.le_of_lt h.lt) k2⟩
theorem pw_ru {r:Ru} {w:World} {A0 A1:Option Addr} (hn:r.head.name.size≤140737488351232) (h2:r.head.terms.length=2) (h3:r.body.length≤2) (he:r.exprs=[]) (hs:r.scopes=[]) (h:RL (TmR 2) w w.heap.size r.head.terms A0) (k:RL (PrR 2) w w.heap.size r.body A1):(RuR 2).rd w w.heap.size r [.string r.head.name,.slice A0 r.head.terms.length r.head.terms.length,.slice A1 r.body.length r.body.length,.slice none 0 0,.slice none 0 0]:=by
 refine lit_ru hn (mq h (yo _) (by simp only [TmR];omega) (by omega)) (mq k (yo _) (by simp only [PrR];omega) (by omega)) ?_ ?_
 ·rw [he];exact uq
 ·rw [hs];exact uq
theorem aP.lower {base B:Nat} {o:Int} {v:Value} {w:World} (h:aP base o v w) (hB:B≤base):aP B o v w:=by
 obtain ⟨b,A0,A1,A2,A3,e,h0,h⟩:=h
 exact ⟨b,A0,A1,A2,A3,e,yn hB h0,h⟩
theorem aP.rl {base:Nat} {o:Int} {v:Value} {w:World} (h:aP base o v w) (ho:U32 o):∃A,v=.slice A 2 2∧RL (OwR 2) w w.heap.size (pwO o) A:=by
 obtain ⟨b,A0,A1,A2,A3,rfl,_,h,k1,k2⟩:=h
 have hlt:=h.lt
 exact ⟨_,rfl,h.rl2 (R:=OwR 2) (x:=⟨uM,0,o⟩) (y:=⟨uN,0,o⟩) (us:=[_,_,_,_,_,_,_]) (vs:=[_,_,_,_,_,_,_]) rfl ⟨_,rfl,(RuR 2).wide (by omega) k1,by unfold I64;simp,ho⟩ ⟨_,rfl,(RuR 2).wide (by omega) k2,by unfold I64;simp,ho⟩ hlt⟩
theorem lB {s:ByteArray} {w:World}:Calls Tryz.prog 25 #[.string s] w fun z w'=>z=.returned (.agg #[.int .i64 1,.int .i64 0,.string s,.slice none 0 0])∧Below w.heap.size w w':=by
 go_enter Tryz.func25,Tryz.ntmps25
 go_upto_region 1 with fail
 generalize hW:World.alloc _ _=w1
 obtain ⟨hb1,hz⟩:=al1 hW
 have HS1:=ym (n11 hW)
 have HB1:=ym hb1
 clear hW hb1 hz
 have f_s:=HS1.out.free
 have k_s:=HS1.out.cell
 have l_s:=HS1.out.lt
 go_wp2_with fail
 refine bodyPost_ret (mF rfl rfl (((((((HS1.out.set_ 0 (.int .i64 1))).set_ 1 (.int .i64 0))).set_ 2 (.string s))).set_ 3 (.slice none 0 0)) rfl) rfl ?_
 exact ⟨rfl,(((HB1.out.setCell (p:=⟨w.heap.size,0,none⟩) (yo _) _).setCell (p:=⟨w.heap.size,1,none⟩) (yo _) _).setCell (p:=⟨w.heap.size,2,none⟩) (yo _) _).setCell (p:=⟨w.heap.size,3,none⟩) (yo _) _⟩
theorem dn {n:Int} {w:World}:Calls Tryz.prog 9 #[.int .i64 n] w fun z w'=>z=.returned (.agg #[.int .i64 2,.int .i64 n,.string ⟨#[]⟩,.slice none 0 0])∧Below w.heap.size w w':=by
 go_enter Tryz.func9,Tryz.ntmps9
 go_upto_region 1 with fail
 generalize hW:World.alloc _ _=w1
 obtain ⟨hb1,hz⟩:=al1 hW
 have HS1:=ym (n11 hW)
 have HB1:=ym hb1
 clear hW hb1 hz
 have f_s:=HS1.out.free
 have k_s:=HS1.out.cell
 have l_s:=HS1.out.lt
 go_wp2_with fail
 refine bodyPost_ret (mF rfl rfl (((((((HS1.out.set_ 0 (.int .i64 2))).set_ 1 (.int .i64 n))).set_ 2 (.string ⟨#[]⟩))).set_ 3 (.slice none 0 0)) rfl) rfl ?_
 exact ⟨rfl,(((HB1.out.setCell (p:=⟨w.heap.size,0,none⟩) (yo _) _).setCell (p:=⟨w.heap.size,1,none⟩) (yo _) _).setCell (p:=⟨w.heap.size,2,none⟩) (yo _) _).setCell (p:=⟨w.heap.size,3,none⟩) (yo _) _⟩
theorem bW {s:ByteArray} {A:Option Addr} {m c:Nat} {w:World}:Calls Tryz.prog 8 #[.string s,.slice A m c] w fun z w'=>z=.returned (.agg #[.string s,.slice A m c])∧Below w.heap.size w w':=by
 go_enter Tryz.func8,Tryz.ntmps8
 go_upto_region 1 with fail
 generalize hW:World.alloc _ _=w1
 obtain ⟨hb1,hz⟩:=al1 hW
 have HS1:=ym (n11 hW)
 have HB1:=ym hb1
 clear hW hb1 hz
 have f_s:=HS1.out.free
 have k_s:=HS1.out.cell
 have l_s:=HS1.out.lt
 go_wp2_with fail
 refine bodyPost_ret (ret_prd rfl rfl (((HS1.out.set_ 0 (.string s))).set_ 1 (.slice A m c)) rfl) rfl ?_
 exact ⟨rfl,(HB1.out.setCell (p:=⟨w.heap.size,0,none⟩) (yo _) _).setCell (p:=⟨w.heap.size,1,none⟩) (yo _) _⟩
theorem cA {o:Int} {w:World} (ho:U32 o):Calls Tryz.prog 11 #[.int .u32 o] w fun z w'=>(∃v,z=.returned v∧aP w.heap.size o v w')∧Below w.heap.size w w':=by
 go_enter Tryz.func11,Tryz.ntmps11
 go_wp2_with fail
 refine lB.mono ?_
 rintro z wa ⟨rfl,hba⟩
 have HBa:=ym hba
 clear hba
 go_wp2_with fail
 refine lB.mono ?_
 rintro z wb ⟨rfl,hbb⟩
 have HBb:=ym (ac HBa.out hbb)
 clear hbb
 go_wp2_with fail
 refine lB.mono ?_
 rintro z wc ⟨rfl,hbc⟩
 have HBc:=ym (ac HBb.out hbc)
 clear hbc
 go_upto_region 2 with fail
 generalize hW:World.alloc _ _=w1
 obtain ⟨hb1,hz1⟩:=al3 hW
 have HX1:=ym (n31 hW)
 have HY1:=ym (n32 hW)
 have HZ1:=ym (n33 hW)
 have HB1:=ym (ac HBc.out hb1)
 clear hW hb1 hz1
 have HST:Hid (sX [fun v _=>v=.agg #[.int .i64 1,.int .i64 0,.string ⟨#[120]⟩,.slice none 0 0],fun v _=>v=.agg #[.int .i64 1,.int .i64 0,.string ⟨#[121]⟩,.slice none 0 0],lH (TmR 2) [pwV 120,pwV 121],pn (pwQ pwP (pwV 120) (pwV 121)),fun v _=>v=.agg #[.int .i64 1,.int .i64 0,.string ⟨#[120]⟩,.slice none 0 0],fun v _=>v=.agg #[.int .i64 1,.int .i64 0,.string ⟨#[121]⟩,.slice none 0 0],lH (TmR 2) [pwV 120,pwV 121],pn (pwQ pwE (pwV 120) (pwV 121)),lH (PrR 2) [pwQ pwE (pwV 120) (pwV 121)],rB uM [],fun v _=>v=.int .u32 o,rB uM [.int .i64 0,.int .u32 o],fun v _=>v=.agg #[.int .i64 1,.int .i64 0,.string ⟨#[120]⟩,.slice none 0 0],fun v _=>v=.agg #[.int .i64 1,.int .i64 0,.string ⟨#[122]⟩,.slice none 0 0],lH (TmR 2) [pwV 120,pwV 122],pn (pwQ pwP (pwV 120) (pwV 122)),fun v _=>v=.agg #[.int .i64 1,.int .i64 0,.string ⟨#[120]⟩,.slice none 0 0],fun v _=>v=.agg #[.int .i64 1,.int .i64 0,.string ⟨#[121]⟩,.slice none 0 0],lH (TmR 2) [pwV 120,pwV 121],pn (pwQ pwP (pwV 120) (pwV 121)),fun v _=>v=.agg #[.int .i64 1,.int .i64 0,.string ⟨#[121]⟩,.slice none 0 0],fun v _=>v=.agg #[.int .i64 1,.int .i64 0,.string ⟨#[122]⟩,.slice none 0 0],lH (TmR 2) [pwV 121,pwV 122],pn (pwQ pwE (pwV 121) (pwV 122)),lH (PrR 2) [pwQ pwP (pwV 120) (pwV 121),pwQ pwE (pwV 121) (pwV 122)],rB uN [],fun v _=>v=.int .u32 o,rB uN [.int .i64 0,.int .u32 o],aP w1.heap.size o]):=ym ⟨Stb.val _,⟨Stb.val _,⟨Stb.sl _ _,⟨Stb.pr _,⟨Stb.val _,⟨Stb.val _,⟨Stb.sl _ _,⟨Stb.pr _,⟨Stb.sl _ _,⟨Stb.ru _ _,⟨Stb.val _,⟨Stb.ru _ _,⟨Stb.val _,⟨Stb.val _,⟨Stb.sl _ _,⟨Stb.pr _,⟨Stb.val _,⟨Stb.val _,⟨Stb.sl _ _,⟨Stb.pr _,⟨Stb.val _,⟨Stb.val _,⟨Stb.sl _ _,⟨Stb.pr _,⟨Stb.sl _ _,⟨Stb.ru _ _,⟨Stb.val _,⟨Stb.ru _ _,⟨Stb.paths _ _,trivial⟩⟩⟩⟩⟩⟩⟩⟩⟩⟩⟩⟩⟩⟩⟩⟩⟩⟩⟩⟩⟩⟩⟩⟩⟩⟩⟩⟩⟩
 have HH0:Hid (w1.heap.size≤w1.drew.heap.size):=ym (yo _)
 have HDR:Hid (Below w1.heap.size w1 w1.drew):=ym (yq _ _).drew
 refine cQ 29 (je [fun v _=>v=.agg #[.int .i64 1,.int .i64 0,.string ⟨#[120]⟩,.slice none 0 0],fun v _=>v=.agg #[.int .i64 1,.int .i64 0,.string ⟨#[121]⟩,.slice none 0 0],lH (TmR 2) [pwV 120,pwV 121],pn (pwQ pwP (pwV 120) (pwV 121)),fun v _=>v=.agg #[.int .i64 1,.int .i64 0,.string ⟨#[120]⟩,.slice none 0 0],fun v _=>v=.agg #[.int .i64 1,.int .i64 0,.string ⟨#[121]⟩,.slice none 0 0],lH (TmR 2) [pwV 120,pwV 121],pn (pwQ pwE (pwV 120) (pwV 121)),lH (PrR 2) [pwQ pwE (pwV 120) (pwV 121)],rB uM [],fun v _=>v=.int .u32 o,rB uM [.int .i64 0,.int .u32 o],fun v _=>v=.agg #[.int .i64 1,.int .i64 0,.string ⟨#[120]⟩,.slice none 0 0],fun v _=>v=.agg #[.int .i64 1,.int .i64 0,.string ⟨#[122]⟩,.slice none 0 0],lH (TmR 2) [pwV 120,pwV 122],pn (pwQ pwP (pwV 120) (pwV 122)),fun v _=>v=.agg #[.int .i64 1,.int .i64 0,.string ⟨#[120]⟩,.slice none 0 0],fun v _=>v=.agg #[.int .i64 1,.int .i64 0,.string ⟨#[121]⟩,.slice none 0 0],lH (TmR 2) [pwV 120,pwV 121],pn (pwQ pwP (pwV 120) (pwV 121)),fun v _=>v=.agg #[.int .i64 1,.int .i64 0,.string ⟨#[121]⟩,.slice none 0 0],fun v _=>v=.agg #[.int .i64 1,.int .i64 0,.string ⟨#[122]⟩,.slice none 0 0],lH (TmR 2) [pwV 121,pwV 122],pn (pwQ pwE (pwV 121) (pwV 122)),lH (PrR 2) [pwQ pwP (pwV 120) (pwV 121),pwQ pwE (pwV 121) (pwV 122)],rB uN [],fun v _=>v=.int .u32 o,rB uN [.int .i64 0,.int .u32 o],aP w1.heap.size o]) [] (w1.heap.size) HH0.out (by kernel_rfl) (by kernel_rfl) (by kernel_rfl) (by kernel_rfl) (by kernel_rfl) rfl (aa (aa (aa (aa (aa (aa (aa (aa (aa (aa (aa (aa (aa (aa (aa (aa (aa (aa (aa (aa (aa (aa (aa (aa (aa (aa (aa (aa (aa dp ?op0_) ?op1_) ?op2_) ?op3_) ?op4_) ?op5_) ?op6_) ?op7_) ?op8_) ?op9_) ?op10_) ?op11_) ?op12_) ?op13_) ?op14_) ?op15_) ?op16_) ?op17_) ?op18_) ?op19_) ?op20_) ?op21_) ?op22_) ?op23_) ?op24_) ?op25_) ?op26_) ?op27_) ?op28_) ?last_
 case op0_=>
  refine mvA fun T w' hk hb hgr hd K hK=>?_
  have h_:T[3]?.getD undef=.pointer (some ⟨wc.heap.size,0,none⟩):=gqd (mvK hk 3)
  have k_:=(HX1.out.later (HDR.out.trans hb)).cell
  have l_:=(HX1.out.later (HDR.out.trans hb)).lt
  clear hk hd
  go_simp
  exact hK.out _ _ (mvM HST HH0 hb) rfl
 case op1_=>
  refine mvA fun T w' hk hb hgr hd K hK=>?_
  have h_:T[4]?.getD undef=.pointer (some ⟨wc.heap.size+1,0,none⟩):=gqd (mvK hk 4)
  have k_:=(HY1.out.later (HDR.out.trans hb)).cell
  have l_:=(HY1.out.later (HDR.out.trans hb)).lt
  clear hk hd
  go_simp
  exact hK.out _ _ (mvM HST HH0 hb) rfl
 case op2_=>
  refine mvA fun T w' hk hb hgr hd K hK=>?_
  have d0:T[9]?.getD undef=.agg #[.int .i64 1,.int .i64 0,.string ⟨#[120]⟩,.slice none 0 0]:=gqd (mvD hd 0)
  have d1:T[10]?.getD undef=.agg #[.int .i64 1,.int .i64 0,.string ⟨#[121]⟩,.slice none 0 0]:=gqd (mvD hd 1)
  clear hk hd
  go_simp
  generalize hW:World.alloc _ _=w4
  obtain ⟨hb4,hz4⟩:=al1 hW
  have hN4:=hW▸heap_alloc_new w' _
  clear hW
  exact hK.out _ _ (mvN HST HH0 hb hb4) ⟨_,rfl,(show Blk w4 w'.heap.size _ from ⟨_,hN4⟩).rl2 (R:=TmR 2) (us:=[_,_,_,_]) (vs:=[_,_,_,_]) rfl (fj (by unfold I64;omega) (by unfold I64;omega) (by decide)) (fj (by unfold I64;omega) (by unfold I64;omega) (by decide)) (Array.getElem?_eq_some_iff.1 hN4).1⟩
 case op3_=>
  refine mvA fun T w' hk hb hgr hd K hK=>?_
  have d2:=mvD hd 2
  obtain ⟨A,e,rr⟩:=(show lH (TmR 2) [pwV 120,pwV 121] (T.getD 11 undef) w' from d2)
  clear d2
  replace e:T.getD 11 undef=.slice A 2 2:=e
  rw [yu] at e
  clear hk hd
  go_simp
  refine bW.mono ?_
  rintro z w4 ⟨rfl,hb4⟩
  exact hK.out _ _ (mvN HST HH0 hb hb4) ⟨A,rfl,rr.near hb4⟩
 case op4_=>
  refine mvA fun T w' hk hb hgr hd K hK=>?_
  have h_:T[3]?.getD undef=.pointer (some ⟨wc.heap.size,0,none⟩):=gqd (mvK hk 3)
  have k_:=(HX1.out.later (HDR.out.trans hb)).cell
  have l_:=(HX1.out.later (HDR.out.trans hb)).lt
  clear hk hd
  go_simp
  exact hK.out _ _ (mvM HST HH0 hb) rfl
 case op5_=>
  refine mvA fun T w' hk hb hgr hd K hK=>?_
  have h_:T[4]?.getD undef=.pointer (some ⟨wc.heap.size+1,0,none⟩):=gqd (mvK hk 4)
  have k_:=(HY1.out.later (HDR.out.trans hb)).cell
  have l_:=(HY1.out.later (HDR.out.trans hb)).lt
  clear hk hd
  go_simp
  exact hK.out _ _ (mvM HST HH0 hb) rfl
 case op6_=>
  refine mvA fun T w' hk hb hgr hd K hK=>?_
  have d4:T[13]?.getD undef=.agg #[.int .i64 1,.int .i64 0,.string ⟨#[120]⟩,.slice none 0 0]:=gqd (mvD hd 4)
  have d5:T[14]?.getD undef=.agg #[.int .i64 1,.int .i64 0,.string ⟨#[121]⟩,.slice none 0 0]:=gqd (mvD hd 5)
  clear hk hd
  go_simp
  generalize hW:World.alloc _ _=w4
  obtain ⟨hb4,hz4⟩:=al1 hW
  have hN4:=hW▸heap_alloc_new w' _
  clear hW
  exact hK.out _ _ (mvN HST HH0 hb hb4) ⟨_,rfl,(show Blk w4 w'.heap.size _ from ⟨_,hN4⟩).rl2 (R:=TmR 2) (us:=[_,_,_,_]) (vs:=[_,_,_,_]) rfl (fj (by unfold I64;omega) (by unfold I64;omega) (by decide)) (fj (by unfold I64;omega) (by unfold I64;omega) (by decide)) (Array.getElem?_eq_some_iff.1 hN4).1⟩
 case op7_=>
  refine mvA fun T w' hk hb hgr hd K hK=>?_
  have d6:=mvD hd 6
  obtain ⟨A,e,rr⟩:=(show lH (TmR 2) [pwV 120,pwV 121] (T.getD 15 undef) w' from d6)
  clear d6
  replace e:T.getD 15 undef=.slice A 2 2:=e
  rw [yu] at e
  clear hk hd
  go_simp
  refine bW.mono ?_
  rintro z w4 ⟨rfl,hb4⟩
  exact hK.out _ _ (mvN HST HH0 hb hb4) ⟨A,rfl,rr.near hb4⟩
 case op8_=>
  refine mvA fun T w' hk hb hgr hd K hK=>?_
  have d7:=mvD hd 7
  obtain ⟨A1,e1,r1⟩:=(show pn (pwQ pwE (pwV 120) (pwV 121)) (T.getD 16 undef) w' from d7)
  clear d7
  replace e1:T.getD 16 undef=.agg #[.string pwE,.slice A1 2 2]:=e1
  rw [yu] at e1
  clear hk hd
  go_simp
  generalize hW:World.alloc _ _=w4
  obtain ⟨hb4,hz4⟩:=al1 hW
  have hN4:=hW▸heap_alloc_new w' _
  clear hW
  exact hK.out _ _ (mvN HST HH0 hb hb4) ⟨_,rfl,(show Blk w4 w'.heap.size _ from ⟨_,hN4⟩).rl (R:=PrR 2) (ra (by decide) (mq ((r1).near hb4) (yo _) (by simp [TmR,pwQ]) (by simp [pwQ]))) (Array.getElem?_eq_some_iff.1 hN4).1⟩
 case op9_=>
  refine mvA fun T w' hk hb hgr hd K hK=>?_
  have d3:=mvD hd 3
  have d8:=mvD hd 8
  obtain ⟨A1,e1,r1⟩:=(show pn (pwQ pwP (pwV 120) (pwV 121)) (T.getD 12 undef) w' from d3)
  clear d3
  replace e1:T.getD 12 undef=.agg #[.string pwP,.slice A1 2 2]:=e1
  rw [yu] at e1
  obtain ⟨B1,e2,r2⟩:=(show lH (PrR 2) [pwQ pwE (pwV 120) (pwV 121)] (T.getD 17 undef) w' from d8)
  clear d8
  replace e2:T.getD 17 undef=.slice B1 1 1:=e2
  rw [yu] at e2
  clear hk hd
  go_simp
  exact hK.out _ _ (mvM HST HH0 hb) ⟨A1,B1,rfl,r1,r2⟩
 case op10_=>
  refine mvA fun T w' hk hb hgr hd K hK=>?_
  have h_:T[0]?.getD undef=.int .u32 o:=gqd (mvK hk 0)
  clear hk hd
  go_simp
  exact hK.out _ _ (mvM HST HH0 hb) rfl
 case op11_=>
  refine mvA fun T w' hk hb hgr hd K hK=>?_
  have d9:=mvD hd 9
  obtain ⟨A1,B1,e1,r1,r2⟩:=(show rB uM [] (T.getD 18 undef) w' from d9)
  clear d9
  replace e1:T.getD 18 undef=.agg #[.string pwP,.slice A1 2 2,.slice B1 1 1,.slice none 0 0,.slice none 0 0]:=e1
  rw [yu] at e1
  have d10:T[19]?.getD undef=.int .u32 o:=gqd (mvD hd 10)
  clear hk hd
  go_simp
  exact hK.out _ _ (mvM HST HH0 hb) ⟨A1,B1,rfl,r1,r2⟩
 case op12_=>
  refine mvA fun T w' hk hb hgr hd K hK=>?_
  have h_:T[3]?.getD undef=.pointer (some ⟨wc.heap.size,0,none⟩):=gqd (mvK hk 3)
  have k_:=(HX1.out.later (HDR.out.trans hb)).cell
  have l_:=(HX1.out.later (HDR.out.trans hb)).lt
  clear hk hd
  go_simp
  exact hK.out _ _ (mvM HST HH0 hb) rfl
 case op13_=>
  refine mvA fun T w' hk hb hgr hd K hK=>?_
  have h_:T[5]?.getD undef=.pointer (some ⟨wc.heap.size+1+1,0,none⟩):=gqd (mvK hk 5)
  have k_:=(HZ1.out.later (HDR.out.trans hb)).cell
  have l_:=(HZ1.out.later (HDR.out.trans hb)).lt
  clear hk hd
  go_simp
  exact hK.out _ _ (mvM HST HH0 hb) rfl
 case op14_=>
  refine mvA fun T w' hk hb hgr hd K hK=>?_
  have d12:T[21]?.getD undef=.agg #[.int .i64 1,.int .i64 0,.string ⟨#[120]⟩,.slice none 0 0]:=gqd (mvD hd 12)
  have d13:T[22]?.getD undef=.agg #[.int .i64 1,.int .i64 0,.string ⟨#[122]⟩,.slice none 0 0]:=gqd (mvD hd 13)
  clear hk hd
  go_simp
  generalize hW:World.alloc _ _=w4
  obtain ⟨hb4,hz4⟩:=al1 hW
  have hN4:=hW▸heap_alloc_new w' _
  clear hW
  exact hK.out _ _ (mvN HST HH0 hb hb4) ⟨_,rfl,(show Blk w4 w'.heap.size _ from ⟨_,hN4⟩).rl2 (R:=TmR 2) (us:=[_,_,_,_]) (vs:=[_,_,_,_]) rfl (fj (by unfold I64;omega) (by unfold I64;omega) (by decide)) (fj (by unfold I64;omega) (by unfold I64;omega) (by decide)) (Array.getElem?_eq_some_iff.1 hN4).1⟩
 case op15_=>
  refine mvA fun T w' hk hb hgr hd K hK=>?_
  have d14:=mvD hd 14
  obtain ⟨A,e,rr⟩:=(show lH (TmR 2) [pwV 120,pwV 122] (T.getD 23 undef) w' from d14)
  clear d14
  replace e:T.getD 23 undef=.slice A 2 2:=e
  rw [yu] at e
  clear hk hd
  go_simp
  refine bW.mono ?_
  rintro z w4 ⟨rfl,hb4⟩
  exact hK.out _ _ (mvN HST HH0 hb hb4) ⟨A,rfl,rr.near hb4⟩
 case op16_=>
  refine mvA fun T w' hk hb hgr hd K hK=>?_
  have h_:T[3]?.getD undef=.pointer (some ⟨wc.heap.size,0,none⟩):=gqd (mvK hk 3)
  have k_:=(HX1.out.later (HDR.out.trans hb)).cell
  have l_:=(HX1.out.later (HDR.out.trans hb)).lt
  clear hk hd
  go_simp
  exact hK.out _ _ (mvM HST HH0 hb) rfl
 case op17_=>
  refine mvA fun T w' hk hb hgr hd K hK=>?_
  have h_:T[4]?.getD undef=.pointer (some ⟨wc.heap.size+1,0,none⟩):=gqd (mvK hk 4)
  have k_:=(HY1.out.later (HDR.out.trans hb)).cell
  have l_:=(HY1.out.later (HDR.out.trans hb)).lt
  clear hk hd
  go_simp
  exact hK.out _ _ (mvM HST HH0 hb) rfl
 case op18_=>
  refine mvA fun T w' hk hb hgr hd K hK=>?_
  have d16:T[25]?.getD undef=.agg #[.int .i64 1,.int .i64 0,.string ⟨#[120]⟩,.slice none 0 0]:=gqd (mvD hd 16)
  have d17:T[26]?.getD undef=.agg #[.int .i64 1,.int .i64 0,.string ⟨#[121]⟩,.slice none 0 0]:=gqd (mvD hd 17)
  clear hk hd
  go_simp
  generalize hW:World.alloc _ _=w4
  obtain ⟨hb4,hz4⟩:=al1 hW
  have hN4:=hW▸heap_alloc_new w' _
  clear hW
  exact hK.out _ _ (mvN HST HH0 hb hb4) ⟨_,rfl,(show Blk w4 w'.heap.size _ from ⟨_,hN4⟩).rl2 (R:=TmR 2) (us:=[_,_,_,_]) (vs:=[_,_,_,_]) rfl (fj (by unfold I64;omega) (by unfold I64;omega) (by decide)) (fj (by unfold I64;omega) (by unfold I64;omega) (by decide)) (Array.getElem?_eq_some_iff.1 hN4).1⟩
 case op19_=>
  refine mvA fun T w' hk hb hgr hd K hK=>?_
  have d18:=mvD hd 18
  obtain ⟨A,e,rr⟩:=(show lH (TmR 2) [pwV 120,pwV 121] (T.getD 27 undef) w' from d18)
  clear d18
  replace e:T.getD 27 undef=.slice A 2 2:=e
  rw [yu] at e
  clear hk hd
  go_simp
  refine bW.mono ?_
  rintro z w4 ⟨rfl,hb4⟩
  exact hK.out _ _ (mvN HST HH0 hb hb4) ⟨A,rfl,rr.near hb4⟩
 case op20_=>
  refine mvA fun T w' hk hb hgr hd K hK=>?_
  have h_:T[4]?.getD undef=.pointer (some ⟨wc.heap.size+1,0,none⟩):=gqd (mvK hk 4)
  have k_:=(HY1.out.later (HDR.out.trans hb)).cell
  have l_:=(HY1.out.later (HDR.out.trans hb)).lt
  clear hk hd
  go_simp
  exact hK.out _ _ (mvM HST HH0 hb) rfl
 case op21_=>
  refine mvA fun T w' hk hb hgr hd K hK=>?_
  have h_:T[5]?.getD undef=.pointer (some ⟨wc.heap.size+1+1,0,none⟩):=gqd (mvK hk 5)
  have k_:=(HZ1.out.later (HDR.out.trans hb)).cell
  have l_:=(HZ1.out.later (HDR.out.trans hb)).lt
  clear hk hd
  go_simp
  exact hK.out _ _ (mvM HST HH0 hb) rfl
 case op22_=>
  refine mvA fun T w' hk hb hgr hd K hK=>?_
  have d20:T[29]?.getD undef=.agg #[.int .i64 1,.int .i64 0,.string ⟨#[121]⟩,.slice none 0 0]:=gqd (mvD hd 20)
  have d21:T[30]?.getD undef=.agg #[.int .i64 1,.int .i64 0,.string ⟨#[122]⟩,.slice none 0 0]:=gqd (mvD hd 21)
  clear hk hd
  go_simp
  generalize hW:World.alloc _ _=w4
  obtain ⟨hb4,hz4⟩:=al1 hW
  have hN4:=hW▸heap_alloc_new w' _
  clear hW
  exact hK.out _ _ (mvN HST HH0 hb hb4) ⟨_,rfl,(show Blk w4 w'.heap.size _ from ⟨_,hN4⟩).rl2 (R:=TmR 2) (us:=[_,_,_,_]) (vs:=[_,_,_,_]) rfl (fj (by unfold I64;omega) (by unfold I64;omega) (by decide)) (fj (by unfold I64;omega) (by unfold I64;omega) (by decide)) (Array.getElem?_eq_some_iff.1 hN4).1⟩
 case op23_=>
  refine mvA fun T w' hk hb hgr hd K hK=>?_
  have d22:=mvD hd 22
  obtain ⟨A,e,rr⟩:=(show lH (TmR 2) [pwV 121,pwV 122] (T.getD 31 undef) w' from d22)
  clear d22
  replace e:T.getD 31 undef=.slice A 2 2:=e
  rw [yu] at e
  clear hk hd
  go_simp
  refine bW.mono ?_
  rintro z w4 ⟨rfl,hb4⟩
  exact hK.out _ _ (mvN HST HH0 hb hb4) ⟨A,rfl,rr.near hb4⟩
 case op24_=>
  refine mvA fun T w' hk hb hgr hd K hK=>?_
  have d19:=mvD hd 19
  have d23:=mvD hd 23
  obtain ⟨A1,e1,r1⟩:=(show pn (pwQ pwP (pwV 120) (pwV 121)) (T.getD 28 undef) w' from d19)
  clear d19
  replace e1:T.getD 28 undef=.agg #[.string pwP,.slice A1 2 2]:=e1
  rw [yu] at e1
  obtain ⟨A2,e2,r2⟩:=(show pn (pwQ pwE (pwV 121) (pwV 122)) (T.getD 32 undef) w' from d23)
  clear d23
  replace e2:T.getD 32 undef=.agg #[.string pwE,.slice A2 2 2]:=e2
  rw [yu] at e2
  clear hk hd
  go_simp
  generalize hW:World.alloc _ _=w4
  obtain ⟨hb4,hz4⟩:=al1 hW
  have hN4:=hW▸heap_alloc_new w' _
  clear hW
  exact hK.out _ _ (mvN HST HH0 hb hb4) ⟨_,rfl,(show Blk w4 w'.heap.size _ from ⟨_,hN4⟩).rl2 (R:=PrR 2) (us:=[_,_]) (vs:=[_,_]) rfl (ra (by decide) (mq ((r1).near hb4) (yo _) (by simp [TmR,pwQ]) (by simp [pwQ]))) (ra (by decide) (mq ((r2).near hb4) (yo _) (by simp [TmR,pwQ]) (by simp [pwQ]))) (Array.getElem?_eq_some_iff.1 hN4).1⟩
 case op25_=>
  refine mvA fun T w' hk hb hgr hd K hK=>?_
  have d15:=mvD hd 15
  have d24:=mvD hd 24
  obtain ⟨A1,e1,r1⟩:=(show pn (pwQ pwP (pwV 120) (pwV 122)) (T.getD 24 undef) w' from d15)
  clear d15
  replace e1:T.getD 24 undef=.agg #[.string pwP,.slice A1 2 2]:=e1
  rw [yu] at e1
  obtain ⟨B1,e2,r2⟩:=(show lH (PrR 2) [pwQ pwP (pwV 120) (pwV 121),pwQ pwE (pwV 121) (pwV 122)] (T.getD 33 undef) w' from d24)
  clear d24
  replace e2:T.getD 33 undef=.slice B1 2 2:=e2
  rw [yu] at e2
  clear hk hd
  go_simp
  exact hK.out _ _ (mvM HST HH0 hb) ⟨A1,B1,rfl,r1,r2⟩
 case op26_=>
  refine mvA fun T w' hk hb hgr hd K hK=>?_
  have h_:T[0]?.getD undef=.int .u32 o:=gqd (mvK hk 0)
  clear hk hd
  go_simp
  exact hK.out _ _ (mvM HST HH0 hb) rfl
 case op27_=>
  refine mvA fun T w' hk hb hgr hd K hK=>?_
  have d25:=mvD hd 25
  obtain ⟨A1,B1,e1,r1,r2⟩:=(show rB uN [] (T.getD 34 undef) w' from d25)
  clear d25
  replace e1:T.getD 34 undef=.agg #[.string pwP,.slice A1 2 2,.slice B1 2 2,.slice none 0 0,.slice none 0 0]:=e1
  rw [yu] at e1
  have d26:T[35]?.getD undef=.int .u32 o:=gqd (mvD hd 26)
  clear hk hd
  go_simp
  exact hK.out _ _ (mvM HST HH0 hb) ⟨A1,B1,rfl,r1,r2⟩
 case op28_=>
  refine mvA fun T w' hk hb hgr hd K hK=>?_
  have d11:=mvD hd 11
  have d27:=mvD hd 27
  obtain ⟨A1,B1,e1,r1,s1⟩:=(show rB uM [.int .i64 0,.int .u32 o] (T.getD 20 undef) w' from d11)
  clear d11
  replace e1:T.getD 20 undef=.agg #[.string pwP,.slice A1 2 2,.slice B1 1 1,.slice none 0 0,.slice none 0 0,.int .i64 0,.int .u32 o]:=e1
  rw [yu] at e1
  obtain ⟨A2,B2,e2,r2,s2⟩:=(show rB uN [.int .i64 0,.int .u32 o] (T.getD 36 undef) w' from d27)
  clear d27
  replace e2:T.getD 36 undef=.agg #[.string pwP,.slice A2 2 2,.slice B2 2 2,.slice none 0 0,.slice none 0 0,.int .i64 0,.int .u32 o]:=e2
  rw [yu] at e2
  clear hk hd
  go_simp
  generalize hW:World.alloc _ _=w4
  obtain ⟨hb4,hz4⟩:=al1 hW
  have hN4:=hW▸heap_alloc_new w' _
  clear hW
  exact hK.out _ _ (mvN HST HH0 hb hb4) ⟨w'.heap.size,A1,B1,A2,B2,rfl,hb.size,⟨_,hN4⟩,((RuR 2).keep hb4 (yo _) (pw_ru (r:=uM) (by decide) rfl (by decide) rfl rfl r1 s1)),((RuR 2).keep hb4 (yo _) (pw_ru (r:=uN) (by decide) rfl (by decide) rfl rfl r2 s2))⟩
 case last_=>
  refine mvL fun T w' hk hb hgr hd K hK=>?_
  have d28:=mvD hd 28
  replace d28:aP w1.heap.size o (T.getD 37 undef) w':=d28
  generalize hv:T.getD 37 undef=v at d28
  have HP:=ym d28
  clear d28
  have hT:=eq hk.1
  obtain ⟨f_,hf_⟩:∃f_:Nat→Value,(fun t=>T.getD t undef)=f_:=⟨_,rfl⟩
  rw [hf_] at hT
  replace hv:f_ 37=_:=(congrFun hf_ 37).symm.trans hv
  replace hT:T=#[f_ 0,f_ 1,f_ 2,f_ 3,f_ 4,f_ 5,f_ 6,f_ 7,f_ 8,f_ 9,f_ 10,f_ 11,f_ 12,f_ 13,f_ 14,f_ 15,f_ 16,f_ 17,f_ 18,f_ 19,f_ 20,f_ 21,f_ 22,f_ 23,f_ 24,f_ 25,f_ 26,f_ 27,f_ 28,f_ 29,f_ 30,f_ 31,f_ 32,f_ 33,f_ 34,f_ 35,f_ 36,f_ 37]:=hT
  clear hf_
  subst hT
  rw [hv]
  clear hd hk
  go_simp
  refine hK.out _ _ ?_
  clear hK
  have HB2:=ym (HB1.out.trans ((HDR.out.trans hb).mono HB1.out.size))
  go_wp2_with fail
  go_ret
  exact ⟨⟨v,rfl,HP.out.lower HB1.out.size⟩,HB2.out⟩
theorem xd {w:World} {T:Nat} {s:ByteArray} {m n:Int} (h:Blk w T #[.int .i64 2,.int .i64 m,.string ⟨#[]⟩,.slice none 0 0,.int .i64 2,.int .i64 n,.string ⟨#[]⟩,.slice none 0 0]) (hs:s.size≤140737488351232) (hm:I64 m) (hn:I64 n):(aC 2).rd w w.heap.size (pwF s m n) [.string s,.slice (some ⟨T,0,none⟩) 2 2,.int .u32 1]:=
 lit_fc (f:=pwF s m n) (ra hs (mq (R:=TmR 2) (c:=2) (h.rl2 (R:=TmR 2) (x:=pwN m) (y:=pwN n) (us:=[_,_,_,_]) (vs:=[_,_,_,_]) rfl (fj (by unfold I64;omega) hm (by decide)) (fj (by unfold I64;omega) hn (by decide)) h.lt) (by simp) (by simp [TmR]) (by omega))) (by unfold U32;simp [pwF])
theorem pw_has1 {xs:List FV} (h:some pw2=some (xs.map FV.f)):xs.length=5∧gI (xs.map FV.f) (pwF pwP 1 3)=true:=by
 have e:=Option.some.inj h
 have h1:(xs.map FV.f).length=5:=by rw [←e];rfl
 exact ⟨by rw [←h1,yw],by rw [←e];exact pw_has⟩
theorem px {w:World} {m:Int} (hm:w.cell? ⟨0,0,none⟩=some (.int .i64 m)) (hp:0<w.heap.size):Calls Tryz.prog 12 #[] w fun z w'=>z=.returned (.bool true)∧Below w.heap.size w w':=by
 have HM:=ym hm
 clear hm
 go_enter Tryz.func12,Tryz.ntmps12
 go_wp2_with fail
 refine dn.mono ?_
 rintro z w1 ⟨rfl,hb_⟩
 have HBw1:=ym (hb_)
 clear hb_
 go_wp2_with fail
 refine dn.mono ?_
 rintro z w2 ⟨rfl,hb_⟩
 have HBw2:=ym (ac HBw1.out hb_)
 clear hb_
 go_wp2_with fail
 generalize hW:World.alloc _ _=w3
 obtain ⟨hb_,hz_⟩:=al1 hW
 have HTw3:=ym (n11 hW)
 have HBw3:=ym (ac HBw2.out hb_)
 clear hW hb_
 try rw [show w2.heap.size+1=w3.heap.size from hz_.symm]
 refine bW.mono ?_
 rintro z w4 ⟨rfl,hb_⟩
 have HBw4:=ym (ac HBw3.out hb_)
 have HTw4:=ym (HTw3.out.later hb_)
 clear hb_
 go_wp2_with fail
 refine dn.mono ?_
 rintro z w5 ⟨rfl,hb_⟩
 have HBw5:=ym (ac HBw4.out hb_)
 have HTw5:=ym (HTw4.out.later hb_)
 clear hb_
 go_wp2_with fail
 refine dn.mono ?_
 rintro z w6 ⟨rfl,hb_⟩
 have HBw6:=ym (ac HBw5.out hb_)
 have HTw6:=ym (HTw5.out.later hb_)
 clear hb_
 go_wp2_with fail
 generalize hW:World.alloc _ _=w7
 obtain ⟨hb_,hz_⟩:=al1 hW
 have HUw7:=ym (n11 hW)
 have HBw7:=ym (ac HBw6.out hb_)
 have HTw7:=ym (HTw6.out.later hb_)
 clear hW hb_
 try rw [show w6.heap.size+1=w7.heap.size from hz_.symm]
 refine bW.mono ?_
 rintro z w8 ⟨rfl,hb_⟩
 have HBw8:=ym (ac HBw7.out hb_)
 have HTw8:=ym (HTw7.out.later hb_)
 have HUw8:=ym (HUw7.out.later hb_)
 clear hb_
 go_wp2_with fail
 generalize hW:World.alloc _ _=w9
 obtain ⟨hb_,hz_⟩:=al1 hW
 have HGw9:=ym (n11 hW)
 have HBw9:=ym (ac HBw8.out hb_)
 have HTw9:=ym (HTw8.out.later hb_)
 have HUw9:=ym (HUw8.out.later hb_)
 clear hW hb_
 try rw [show w8.heap.size+1=w9.heap.size from hz_.symm]
 refine (cA (o:=1) (by unfold U32;simp)).mono ?_
 rintro z w10 ⟨⟨v,rfl,hv⟩,hb_⟩
 obtain ⟨A,rfl,hr⟩:=hv.rl (by unfold U32;simp)
 have HR:=ym hr
 have HBw10:=ym (ac HBw9.out hb_)
 have HTw10:=ym (HTw9.out.later hb_)
 have HUw10:=ym (HUw9.out.later hb_)
 have HGw10:=ym (HGw9.out.later hb_)
 clear hb_ hv hr
 go_wp2_with fail
 have HL:Hid (RL (aC 2) w10 w10.heap.size pw0 (some ⟨w8.heap.size,0,none⟩)):=ym (HGw10.out.rl2 (R:=aC 2) (us:=[_,_,_]) (vs:=[_,_,_]) rfl (xd HTw10.out (by decide) (by unfold I64;omega) (by unfold I64;omega)) (xd HUw10.out (by decide) (by unfold I64;omega) (by unfold I64;omega)) HGw10.out.lt)
 have hrun:=uW (d:=1) (B:=w10.heap.size) (c:=2) (cr:=2) (lf:=10) (lr:=5) (rs:=pwO 1) HL.out HR.out (yo _) (by decide) (by decide) (fun f hf=>by
  simp only [pw0,List.mem_cons,List.not_mem_nil,or_false] at hf
  rcases hf with rfl | rfl<;>decide) (by unfold I64;omega) (by unfold I64;omega) ((HBw10.out.cell (p:=⟨0,0,none⟩) hp).trans HM.out) (by have:=HBw10.out.size;omega)
 rw [pw_fix] at hrun
 refine hrun.mono ?_
 rintro z w11 ⟨⟨S,base,xs,As,cs,rfl,hst,hx,_,_⟩ | ⟨_,h⟩,hb_⟩
 rotate_left
 ·cases h
 have HST:=ym hst
 obtain ⟨hl5,hhas⟩:=pw_has1 hx
 have HL5:=ym hl5
 have HHAS:=ym hhas
 have HBw11:=ym (ac HBw10.out hb_)
 clear hb_ hst hx hrun hl5 hhas
 go_wp2_with fail
 refine (dW HST.out).mono ?_
 rintro z w12 ⟨rfl,rfl⟩
 rw [show ((xs.length:Nat):Int)=5 by rw [HL5.out];rfl]
 go_wp2_with fail
 refine dn.mono ?_
 rintro z w13 ⟨rfl,hb_⟩
 have HBw13:=ym (ac HBw11.out hb_)
 have HSTw13:=ym (HST.out.later hb_)
 clear hb_
 go_wp2_with fail
 refine dn.mono ?_
 rintro z w14 ⟨rfl,hb_⟩
 have HBw14:=ym (ac HBw13.out hb_)
 have HSTw14:=ym (HSTw13.out.later hb_)
 clear hb_
 go_wp2_with fail
 generalize hW:World.alloc _ _=w15
 obtain ⟨hb_,hz_⟩:=al1 hW
 have HPw15:=ym (n11 hW)
 have HBw15:=ym (ac HBw14.out hb_)
 have HSTw15:=ym (HSTw14.out.later hb_)
 clear hW hb_
 try rw [show w14.heap.size+1=w15.heap.size from hz_.symm]
 refine bW.mono ?_
 rintro z w16 ⟨rfl,hb_⟩
 have HBw16:=ym (ac HBw15.out hb_)
 have HPw16:=ym (HPw15.out.later hb_)
 have HSTw16:=ym (HSTw15.out.later hb_)
 clear hb_
 go_wp2_with fail
 refine (ly (d:=1) (B:=w16.heap.size) (f:=pwF pwP 1 3) (vf:=[_,_,_]) HSTw16.out (xd HPw16.out (by decide) (by unfold I64;omega) (by unfold I64;omega)) (yo _) (by rw [HL5.out];decide) (by decide)).mono ?_
 rintro z w17 ⟨rfl,hb_⟩
 have HBw17:=ym (ac HBw16.out hb_)
 clear hb_
 rw [HHAS.out]
 go_wp2_with fail
 go_ret
 exact ⟨rfl,HBw17.out⟩
theorem rl_ownF {d:Nat} {w:World} {B n c:Nat} {xs:List Fc} {A:Option Addr} (h:RSl (aC d) w B xs (.slice A n c)):RL (aC d) w B xs A:=by
 obtain ⟨A',c',e',_,_,hr⟩:=h
 cases e'
 exact hr
def RunP (d:Nat) (w:World) (R:Option (List Fc) × Int × Int) (p:Option Addr):Prop:=R.2.2=0→∃S base xs As cs,p=some ⟨S,0,none⟩∧StA base d w S xs As cs∧R.1=some (xs.map FV.f)
theorem RunP.later {d:Nat} {w w':World} {R:Option (List Fc) × Int × Int} {p:Option Addr} (h:RunP d w R p) (hb:Below w.heap.size w w'):RunP d w' R p:=fun h0=>by
 obtain ⟨S,base,xs,As,cs,e,k,hx⟩:=h h0
 exact ⟨S,base,xs,As,cs,e,k.later hb,hx⟩
theorem nM.p {d:Nat} {w w':World} {l:List Fc} {rs:List OwD} {lf lr:Int} {z:Ending} (h:nM d w w' (gX l rs lf lr) z) (hl:∀f∈l,sZ f):(∃p,z=.returned (.tuple #[.pointer p,.int .i64 (gX l rs lf lr).2.1,.int .i64 (gX l rs lf lr).2.2])∧RunP d w' (gX l rs lf lr) p)∧Below w.heap.size w w':=by
 obtain ⟨⟨S,base,xs,As,cs,rfl,k,hx,_,_⟩ | ⟨rfl,hn⟩,hb⟩:=h
 ·exact ⟨⟨_,rfl,fun _=>⟨S,base,xs,As,cs,rfl,k,hx⟩⟩,hb⟩
 ·refine ⟨⟨_,rfl,fun h0=>?_⟩,hb⟩
  obtain ⟨gs,m,e,_⟩:=run_ok hl h0
  rw [e] at hn
  cases hn
theorem am.beside {α:Type} {R:Reader α} {e:TypeId} {w w':World} {base B:Nat} {v:Value} {xs:List α} {M:Nat→Prop} (h:am R e w base B v xs) (ha:ak M w w') (hb:Below B w w') (hm:∀k,v.ownBlock=some k→¬M k):am R e w' base B v xs:=by
 obtain ⟨cells,h,hf⟩:=h
 refine ⟨cells,⟨h.1,?_⟩,hf.keep hb (yo _)⟩
 rcases h.2 with h2 | ⟨g,cap,cur,hv,hg0,hh,r⟩
 ·exact .inl h2
 ·exact .inr ⟨g,cap,cur,hv,hg0,(ha.2 g (Array.getElem?_eq_some_iff.1 hh).1 (hm g (by rw [hv];rfl))).trans hh,r⟩
theorem am.apart {α β:Type} {R:Reader α} {R':Reader β} {e e':TypeId} {w:World} {base base' B B':Nat} {v v':Value} {xs:List α} {ys:List β} (h:am R e w base B v xs) (h':am R' e' w base' B' v' ys) (hT:e≠e'):∀k,v.ownBlock=some k→¬(some k=v'.ownBlock):=fun k hk hk'=>by
 obtain ⟨cells,h,_⟩:=h
 rcases h.2 with ⟨h1,_⟩ | ⟨g,cap,cur,hv,hg,hh,r⟩
 ·rw [h1] at hk;simp [Value.ownBlock] at hk
 ·rw [hv] at hk
  simp only [Value.ownBlock,yz] at hk
  subst hk
  exact h'.ne hh hT hk'.symm
def U64V (v:Value):Prop:=∃u:Nat,v=.int .u64 u∧(u:Int)<18446744073709551616
theorem xz (x:Int):U64V (.int .u64 (IntKind.u64.wrap x)):=by
 obtain ⟨h0,h1⟩:0≤IntKind.u64.wrap x∧IntKind.u64.wrap x<18446744073709551616:=by
  simp [IntKind.wrap,IntKind.bits,IntKind.signed];omega
 exact ⟨(IntKind.u64.wrap x).toNat,by rw [Int.toNat_of_nonneg h0],by rw [Int.toNat_of_nonneg h0];exact h1⟩
theorem wrap_i64 {x:Int} (h:-9223372036854775808≤x) (k:x≤9223372036854775807):IntKind.i64.wrap x=x:=by rw [IntKind.wrap_i64];omega
theorem wrap_u64 {x:Int} (h:0≤x) (k:x≤18446744073709551615):IntKind.u64.wrap x=x:=by simp [IntKind.wrap,IntKind.bits,IntKind.signed];omega
end Go.Proofs.YtjpndglegpcdnaaGreat
