/- A fact, rows of facts, rules, scopes, texts as arguments, opened to plain data. -/
import Derived.Test.YtjpndglegpcdnaaGreatJoFill
import Derived.Test.YtjpndglegpcdnaaGreatLit
import Derived.Test.YtjpndglegpcdnaaGreatFx3
import Derived.Test.YtjpndglegpcdnaaGreatRule1
set_option linter.unusedVariables false
set_option linter.unusedSimpArgs false
set_option maxRecDepth 100000
set_option maxHeartbeats 8000000
namespace Go.Proofs.YtjpndglegpcdnaaGreat
open Go.ChangeShapes Go.WideShapes Go.ChangeAt Go.RowKit
theorem ret_prd {fn:Func} {tmps:Array Value} {p:Tmp} {g:Nat} {w:World} {cs:Array Value} (h:fn.results=#[.cell p 26]) (hp:tmps.getD p undef=.pointer (some ⟨g,0,none⟩)) (hb:Blk w g cs) (hn:cs.size=2) :
 (results fn tmps).run Tryz.prog w=.ok (.agg cs) w:=by
 obtain ⟨T,hb⟩:=hb
 exact results_cell_row h tmps w g T cs (0,0) _ hp hb Tryz.underlying26 rfl (by rw [hn];kernel_rfl)
theorem Blk.rl2 {α:Type} {R:Reader α} {w:World} {B b:Nat} {x y:α} {us vs:List Value} {cells:Array Value} (h:Blk w b cells) (hc:cells.toList=us++vs) (hx:R.rd w B x us) (hy:R.rd w B y vs) (hb:b<B):RL R w B [x,y] (some ⟨b,0,none⟩):=fun _=>
 ⟨b,0,rfl,hb,fun i hi=>by
  have hi0:i=0∨i=1:=by simp at hi;omega
  have l1:=R.len hx
  rcases hi0 with rfl | rfl
  ·refine ⟨us,l1,⟨x,rfl,hx⟩,fun j v hj=>?_⟩
   have hl:=(List.getElem?_eq_some_iff.1 hj).1
   have e:0+0*R.k+j=j:=by omega
   rw [e,h.cell,←Array.getElem?_toList,hc,List.getElem?_append_left hl,hj]
  ·refine ⟨vs,R.len hy,⟨y,rfl,hy⟩,fun j v hj=>?_⟩
   have e:0+1*R.k+j=us.length+j:=by omega
   rw [e,h.cell,←Array.getElem?_toList,hc,List.getElem?_append_right (by omega),Nat.add_sub_cancel_left,hj]⟩
theorem RL.near {α:Type} {R:Reader α} {w w':World} {xs:List α} {A:Option Addr} (h:RL R w w.heap.size xs A) (hb:Below w.heap.size w w'):RL R w' w'.heap.size xs A:=(h.keep hb (AG _)).wide hb.size
def mu {α:Type} (R:Reader α) (xs:List α) (v:Value) (w:World):Prop:=∃A,v=.slice A xs.length xs.length∧RL R w w.heap.size xs A
theorem Stb.sl {α:Type} (R:Reader α) (xs:List α):Stb (mu R xs):=fun _ _ _ ⟨A,e,h⟩ hb=>⟨A,e,h.near hb⟩
def qt (p:Pr) (v:Value) (w:World):Prop:=∃A,v=.agg #[.string p.name,.slice A p.terms.length p.terms.length]∧RL (TmR 2) w w.heap.size p.terms A
theorem Stb.pr (p:Pr):Stb (qt p):=fun _ _ _ ⟨A,e,h⟩ hb=>⟨A,e,h.near hb⟩
def sZ (r:Ru) (more:List Value) (v:Value) (w:World):Prop:=∃A0 A1,v=.agg (#[.string r.head.name,.slice A0 r.head.terms.length r.head.terms.length,.slice A1 r.body.length r.body.length,.slice none 0 0,.slice none 0 0]++more.toArray)∧RL (TmR 2) w w.heap.size r.head.terms A0∧RL (PrR 2) w w.heap.size r.body A1
theorem Stb.ru (r:Ru) (m:List Value):Stb (sZ r m):=fun _ _ _ ⟨A0,A1,e,h,k⟩ hb=>⟨A0,A1,e,h.near hb,k.near hb⟩
def eI (base:Nat) (o:Int) (v:Value) (w:World):Prop:=∃b A0 A1 A2 A3,v=.slice (some ⟨b,0,none⟩) 2 2∧base≤b ∧
 Blk w b #[.string pwP,.slice A0 2 2,.slice A1 1 1,.slice none 0 0,.slice none 0 0,.int .i64 0,.int .u32 o,.string pwP,.slice A2 2 2,.slice A3 2 2,.slice none 0 0,.slice none 0 0,.int .i64 0,.int .u32 o] ∧
 (RuR 2).rd w b xe [.string pwP,.slice A0 2 2,.slice A1 1 1,.slice none 0 0,.slice none 0 0]∧(RuR 2).rd w b xf [.string pwP,.slice A2 2 2,.slice A3 2 2,.slice none 0 0,.slice none 0 0]
theorem Stb.paths (base:Nat) (o:Int):Stb (eI base o):=fun _ _ _ ⟨b,A0,A1,A2,A3,e,h0,h,k1,k2⟩ hb=>⟨b,A0,A1,A2,A3,e,h0,h.later hb,(RuR 2).keep hb (Nat.le_of_lt h.lt) k1,(RuR 2).keep hb (Nat.le_of_lt h.lt) k2⟩
theorem pw_ru {r:Ru} {w:World} {A0 A1:Option Addr} (hn:r.head.name.size≤140737488351232) (h2:r.head.terms.length=2) (h3:r.body.length≤2) (he:r.exprs=[]) (hs:r.scopes=[]) (h:RL (TmR 2) w w.heap.size r.head.terms A0) (k:RL (PrR 2) w w.heap.size r.body A1):(RuR 2).rd w w.heap.size r [.string r.head.name,.slice A0 r.head.terms.length r.head.terms.length,.slice A1 r.body.length r.body.length,.slice none 0 0,.slice none 0 0]:=by
 refine lit_ru hn (nd h (AG _) (by simp only [TmR];omega) (by omega)) (nd k (AG _) (by simp only [PrR];omega) (by omega)) ?_ ?_
 ·rw [he];exact wF
 ·rw [hs];exact wF
theorem eI.lower {base B:Nat} {o:Int} {v:Value} {w:World} (h:eI base o v w) (hB:B≤base):eI B o v w:=by
 obtain ⟨b,A0,A1,A2,A3,e,h0,h⟩:=h
 exact ⟨b,A0,A1,A2,A3,e,AF hB h0,h⟩
theorem eI.rl {base:Nat} {o:Int} {v:Value} {w:World} (h:eI base o v w) (ho:U32 o):∃A,v=.slice A 2 2∧RL (OwR 2) w w.heap.size (pwO o) A:=by
 obtain ⟨b,A0,A1,A2,A3,rfl,_,h,k1,k2⟩:=h
 have hlt:=h.lt
 exact ⟨_,rfl,h.rl2 (R:=OwR 2) (x:=⟨xe,0,o⟩) (y:=⟨xf,0,o⟩) (us:=[_,_,_,_,_,_,_]) (vs:=[_,_,_,_,_,_,_]) rfl ⟨_,rfl,(RuR 2).wide (by omega) k1,by unfold I64;simp,ho⟩ ⟨_,rfl,(RuR 2).wide (by omega) k2,by unfold I64;simp,ho⟩ hlt⟩
theorem mn {s:ByteArray} {w:World}:Calls Tryz.prog 25 #[.string s] w fun z w'=>z=.returned (.agg #[.int .i64 1,.int .i64 0,.string s,.slice none 0 0])∧Below w.heap.size w w':=by
 go_enter Tryz.func25,Tryz.ntmps25
 go_upto_region 1 with fail
 generalize hW:World.alloc _ _=w1
 obtain ⟨hb1,hz⟩:=al1 hW
 have HS1:=AE (n11 hW)
 have HB1:=AE hb1
 clear hW hb1 hz
 have f_s:=HS1.out.free
 have k_s:=HS1.out.cell
 have l_s:=HS1.out.lt
 go_wp2_with fail
 refine bodyPost_ret (nv rfl rfl (((((((HS1.out.set_ 0 (.int .i64 1))).set_ 1 (.int .i64 0))).set_ 2 (.string s))).set_ 3 (.slice none 0 0)) rfl) rfl ?_
 exact ⟨rfl,(((HB1.out.setCell (p:=⟨w.heap.size,0,none⟩) (AG _) _).setCell (p:=⟨w.heap.size,1,none⟩) (AG _) _).setCell (p:=⟨w.heap.size,2,none⟩) (AG _) _).setCell (p:=⟨w.heap.size,3,none⟩) (AG _) _⟩
theorem eS {n:Int} {w:World}:Calls Tryz.prog 9 #[.int .i64 n] w fun z w'=>z=.returned (.agg #[.int .i64 2,.int .i64 n,.string ⟨#[]⟩,.slice none 0 0])∧Below w.heap.size w w':=by
 go_enter Tryz.func9,Tryz.ntmps9
 go_upto_region 1 with fail
 generalize hW:World.alloc _ _=w1
 obtain ⟨hb1,hz⟩:=al1 hW
 have HS1:=AE (n11 hW)
 have HB1:=AE hb1
 clear hW hb1 hz
 have f_s:=HS1.out.free
 have k_s:=HS1.out.cell
 have l_s:=HS1.out.lt
 go_wp2_with fail
 refine bodyPost_ret (nv rfl rfl (((((((HS1.out.set_ 0 (.int .i64 2))).set_ 1 (.int .i64 n))).set_ 2 (.string ⟨#[]⟩))).set_ 3 (.slice none 0 0)) rfl) rfl ?_
 exact ⟨rfl,(((HB1.out.setCell (p:=⟨w.heap.size,0,none⟩) (AG _) _).setCell (p:=⟨w.heap.size,1,none⟩) (AG _) _).setCell (p:=⟨w.heap.size,2,none⟩) (AG _) _).setCell (p:=⟨w.heap.size,3,none⟩) (AG _) _⟩
theorem cH {s:ByteArray} {A:Option Addr} {m c:Nat} {w:World}:Calls Tryz.prog 8 #[.string s,.slice A m c] w fun z w'=>z=.returned (.agg #[.string s,.slice A m c])∧Below w.heap.size w w':=by
 go_enter Tryz.func8,Tryz.ntmps8
 go_upto_region 1 with fail
 generalize hW:World.alloc _ _=w1
 obtain ⟨hb1,hz⟩:=al1 hW
 have HS1:=AE (n11 hW)
 have HB1:=AE hb1
 clear hW hb1 hz
 have f_s:=HS1.out.free
 have k_s:=HS1.out.cell
 have l_s:=HS1.out.lt
 go_wp2_with fail
 refine bodyPost_ret (ret_prd rfl rfl (((HS1.out.set_ 0 (.string s))).set_ 1 (.slice A m c)) rfl) rfl ?_
 exact ⟨rfl,(HB1.out.setCell (p:=⟨w.heap.size,0,none⟩) (AG _) _).setCell (p:=⟨w.heap.size,1,none⟩) (AG _) _⟩
theorem ry {o:Int} {w:World} (ho:U32 o):Calls Tryz.prog 11 #[.int .u32 o] w fun z w'=>(∃v,z=.returned v∧eI w.heap.size o v w')∧Below w.heap.size w w':=by
 go_enter Tryz.func11,Tryz.ntmps11
 go_wp2_with fail
 refine mn.mono ?_
 rintro z wa ⟨rfl,hba⟩
 have HBa:=AE hba
 clear hba
 go_wp2_with fail
 refine mn.mono ?_
 rintro z wb ⟨rfl,hbb⟩
 have HBb:=AE (aa HBa.out hbb)
 clear hbb
 go_wp2_with fail
 refine mn.mono ?_
 rintro z wc ⟨rfl,hbc⟩
 have HBc:=AE (aa HBb.out hbc)
 clear hbc
 go_upto_region 2 with fail
 generalize hW:World.alloc _ _=w1
 obtain ⟨hb1,hz1⟩:=al3 hW
 have HX1:=AE (n31 hW)
 have HY1:=AE (n32 hW)
 have HZ1:=AE (n33 hW)
 have HB1:=AE (aa HBc.out hb1)
 clear hW hb1 hz1
 have HST:Hid (zF [fun v _=>v=.agg #[.int .i64 1,.int .i64 0,.string ⟨#[120]⟩,.slice none 0 0],fun v _=>v=.agg #[.int .i64 1,.int .i64 0,.string ⟨#[121]⟩,.slice none 0 0],mu (TmR 2) [pwV 120,pwV 121],qt (pwQ pwP (pwV 120) (pwV 121)),fun v _=>v=.agg #[.int .i64 1,.int .i64 0,.string ⟨#[120]⟩,.slice none 0 0],fun v _=>v=.agg #[.int .i64 1,.int .i64 0,.string ⟨#[121]⟩,.slice none 0 0],mu (TmR 2) [pwV 120,pwV 121],qt (pwQ pwE (pwV 120) (pwV 121)),mu (PrR 2) [pwQ pwE (pwV 120) (pwV 121)],sZ xe [],fun v _=>v=.int .u32 o,sZ xe [.int .i64 0,.int .u32 o],fun v _=>v=.agg #[.int .i64 1,.int .i64 0,.string ⟨#[120]⟩,.slice none 0 0],fun v _=>v=.agg #[.int .i64 1,.int .i64 0,.string ⟨#[122]⟩,.slice none 0 0],mu (TmR 2) [pwV 120,pwV 122],qt (pwQ pwP (pwV 120) (pwV 122)),fun v _=>v=.agg #[.int .i64 1,.int .i64 0,.string ⟨#[120]⟩,.slice none 0 0],fun v _=>v=.agg #[.int .i64 1,.int .i64 0,.string ⟨#[121]⟩,.slice none 0 0],mu (TmR 2) [pwV 120,pwV 121],qt (pwQ pwP (pwV 120) (pwV 121)),fun v _=>v=.agg #[.int .i64 1,.int .i64 0,.string ⟨#[121]⟩,.slice none 0 0],fun v _=>v=.agg #[.int .i64 1,.int .i64 0,.string ⟨#[122]⟩,.slice none 0 0],mu (TmR 2) [pwV 121,pwV 122],qt (pwQ pwE (pwV 121) (pwV 122)),mu (PrR 2) [pwQ pwP (pwV 120) (pwV 121),pwQ pwE (pwV 121) (pwV 122)],sZ xf [],fun v _=>v=.int .u32 o,sZ xf [.int .i64 0,.int .u32 o],eI w1.heap.size o]):=AE ⟨Stb.val _,⟨Stb.val _,⟨Stb.sl _ _,⟨Stb.pr _,⟨Stb.val _,⟨Stb.val _,⟨Stb.sl _ _,⟨Stb.pr _,⟨Stb.sl _ _,⟨Stb.ru _ _,⟨Stb.val _,⟨Stb.ru _ _,⟨Stb.val _,⟨Stb.val _,⟨Stb.sl _ _,⟨Stb.pr _,⟨Stb.val _,⟨Stb.val _,⟨Stb.sl _ _,⟨Stb.pr _,⟨Stb.val _,⟨Stb.val _,⟨Stb.sl _ _,⟨Stb.pr _,⟨Stb.sl _ _,⟨Stb.ru _ _,⟨Stb.val _,⟨Stb.ru _ _,⟨Stb.paths _ _,trivial⟩⟩⟩⟩⟩⟩⟩⟩⟩⟩⟩⟩⟩⟩⟩⟩⟩⟩⟩⟩⟩⟩⟩⟩⟩⟩⟩⟩⟩
 have HH0:Hid (w1.heap.size≤w1.drew.heap.size):=AE (AG _)
 have HDR:Hid (Below w1.heap.size w1 w1.drew):=AE (AI _ _).drew
 refine cV 29 (ol [fun v _=>v=.agg #[.int .i64 1,.int .i64 0,.string ⟨#[120]⟩,.slice none 0 0],fun v _=>v=.agg #[.int .i64 1,.int .i64 0,.string ⟨#[121]⟩,.slice none 0 0],mu (TmR 2) [pwV 120,pwV 121],qt (pwQ pwP (pwV 120) (pwV 121)),fun v _=>v=.agg #[.int .i64 1,.int .i64 0,.string ⟨#[120]⟩,.slice none 0 0],fun v _=>v=.agg #[.int .i64 1,.int .i64 0,.string ⟨#[121]⟩,.slice none 0 0],mu (TmR 2) [pwV 120,pwV 121],qt (pwQ pwE (pwV 120) (pwV 121)),mu (PrR 2) [pwQ pwE (pwV 120) (pwV 121)],sZ xe [],fun v _=>v=.int .u32 o,sZ xe [.int .i64 0,.int .u32 o],fun v _=>v=.agg #[.int .i64 1,.int .i64 0,.string ⟨#[120]⟩,.slice none 0 0],fun v _=>v=.agg #[.int .i64 1,.int .i64 0,.string ⟨#[122]⟩,.slice none 0 0],mu (TmR 2) [pwV 120,pwV 122],qt (pwQ pwP (pwV 120) (pwV 122)),fun v _=>v=.agg #[.int .i64 1,.int .i64 0,.string ⟨#[120]⟩,.slice none 0 0],fun v _=>v=.agg #[.int .i64 1,.int .i64 0,.string ⟨#[121]⟩,.slice none 0 0],mu (TmR 2) [pwV 120,pwV 121],qt (pwQ pwP (pwV 120) (pwV 121)),fun v _=>v=.agg #[.int .i64 1,.int .i64 0,.string ⟨#[121]⟩,.slice none 0 0],fun v _=>v=.agg #[.int .i64 1,.int .i64 0,.string ⟨#[122]⟩,.slice none 0 0],mu (TmR 2) [pwV 121,pwV 122],qt (pwQ pwE (pwV 121) (pwV 122)),mu (PrR 2) [pwQ pwP (pwV 120) (pwV 121),pwQ pwE (pwV 121) (pwV 122)],sZ xf [],fun v _=>v=.int .u32 o,sZ xf [.int .i64 0,.int .u32 o],eI w1.heap.size o]) [] (w1.heap.size) HH0.out (by kernel_rfl) (by kernel_rfl) (by kernel_rfl) (by kernel_rfl) (by kernel_rfl) rfl (ae (ae (ae (ae (ae (ae (ae (ae (ae (ae (ae (ae (ae (ae (ae (ae (ae (ae (ae (ae (ae (ae (ae (ae (ae (ae (ae (ae (ae jh ?op0_) ?op1_) ?op2_) ?op3_) ?op4_) ?op5_) ?op6_) ?op7_) ?op8_) ?op9_) ?op10_) ?op11_) ?op12_) ?op13_) ?op14_) ?op15_) ?op16_) ?op17_) ?op18_) ?op19_) ?op20_) ?op21_) ?op22_) ?op23_) ?op24_) ?op25_) ?op26_) ?op27_) ?op28_) ?last_
 case op0_=>
  refine mvA fun T w' hk hb hgr hd K hK=>?_
  have h_:T[3]?.getD undef=.pointer (some ⟨wc.heap.size,0,none⟩):=gqd (mvK hk 3)
  have k_:=(HX1.out.later (HDR.out.trans hb)).cell
  have l_:=(HX1.out.later (HDR.out.trans hb)).lt
  clear hk hd
  go_simp
  exact hK.out _ _ (mvM HST HH0 hb) rfl
 case op1_=>
  refine mvA fun T w' hk hb hgr hd K hK=>?_
  have h_:T[4]?.getD undef=.pointer (some ⟨wc.heap.size+1,0,none⟩):=gqd (mvK hk 4)
  have k_:=(HY1.out.later (HDR.out.trans hb)).cell
  have l_:=(HY1.out.later (HDR.out.trans hb)).lt
  clear hk hd
  go_simp
  exact hK.out _ _ (mvM HST HH0 hb) rfl
 case op2_=>
  refine mvA fun T w' hk hb hgr hd K hK=>?_
  have d0:T[9]?.getD undef=.agg #[.int .i64 1,.int .i64 0,.string ⟨#[120]⟩,.slice none 0 0]:=gqd (mvD hd 0)
  have d1:T[10]?.getD undef=.agg #[.int .i64 1,.int .i64 0,.string ⟨#[121]⟩,.slice none 0 0]:=gqd (mvD hd 1)
  clear hk hd
  go_simp
  generalize hW:World.alloc _ _=w4
  obtain ⟨hb4,hz4⟩:=al1 hW
  have hN4:=hW▸heap_alloc_new w' _
  clear hW
  exact hK.out _ _ (mvN HST HH0 hb hb4) ⟨_,rfl,(show Blk w4 w'.heap.size _ from ⟨_,hN4⟩).rl2 (R:=TmR 2) (us:=[_,_,_,_]) (vs:=[_,_,_,_]) rfl (fC (by unfold I64;omega) (by unfold I64;omega) (by decide)) (fC (by unfold I64;omega) (by unfold I64;omega) (by decide)) (Array.getElem?_eq_some_iff.1 hN4).1⟩
 case op3_=>
  refine mvA fun T w' hk hb hgr hd K hK=>?_
  have d2:=mvD hd 2
  obtain ⟨A,e,rr⟩:=(show mu (TmR 2) [pwV 120,pwV 121] (T.getD 11 undef) w' from d2)
  clear d2
  replace e:T.getD 11 undef=.slice A 2 2:=e
  rw [Array.getD_eq_getD_getElem?] at e
  clear hk hd
  go_simp
  refine cH.mono ?_
  rintro z w4 ⟨rfl,hb4⟩
  exact hK.out _ _ (mvN HST HH0 hb hb4) ⟨A,rfl,rr.near hb4⟩
 case op4_=>
  refine mvA fun T w' hk hb hgr hd K hK=>?_
  have h_:T[3]?.getD undef=.pointer (some ⟨wc.heap.size,0,none⟩):=gqd (mvK hk 3)
  have k_:=(HX1.out.later (HDR.out.trans hb)).cell
  have l_:=(HX1.out.later (HDR.out.trans hb)).lt
  clear hk hd
  go_simp
  exact hK.out _ _ (mvM HST HH0 hb) rfl
 case op5_=>
  refine mvA fun T w' hk hb hgr hd K hK=>?_
  have h_:T[4]?.getD undef=.pointer (some ⟨wc.heap.size+1,0,none⟩):=gqd (mvK hk 4)
  have k_:=(HY1.out.later (HDR.out.trans hb)).cell
  have l_:=(HY1.out.later (HDR.out.trans hb)).lt
  clear hk hd
  go_simp
  exact hK.out _ _ (mvM HST HH0 hb) rfl
 case op6_=>
  refine mvA fun T w' hk hb hgr hd K hK=>?_
  have d4:T[13]?.getD undef=.agg #[.int .i64 1,.int .i64 0,.string ⟨#[120]⟩,.slice none 0 0]:=gqd (mvD hd 4)
  have d5:T[14]?.getD undef=.agg #[.int .i64 1,.int .i64 0,.string ⟨#[121]⟩,.slice none 0 0]:=gqd (mvD hd 5)
  clear hk hd
  go_simp
  generalize hW:World.alloc _ _=w4
  obtain ⟨hb4,hz4⟩:=al1 hW
  have hN4:=hW▸heap_alloc_new w' _
  clear hW
  exact hK.out _ _ (mvN HST HH0 hb hb4) ⟨_,rfl,(show Blk w4 w'.heap.size _ from ⟨_,hN4⟩).rl2 (R:=TmR 2) (us:=[_,_,_,_]) (vs:=[_,_,_,_]) rfl (fC (by unfold I64;omega) (by unfold I64;omega) (by decide)) (fC (by unfold I64;omega) (by unfold I64;omega) (by decide)) (Array.getElem?_eq_some_iff.1 hN4).1⟩
 case op7_=>
  refine mvA fun T w' hk hb hgr hd K hK=>?_
  have d6:=mvD hd 6
  obtain ⟨A,e,rr⟩:=(show mu (TmR 2) [pwV 120,pwV 121] (T.getD 15 undef) w' from d6)
  clear d6
  replace e:T.getD 15 undef=.slice A 2 2:=e
  rw [Array.getD_eq_getD_getElem?] at e
  clear hk hd
  go_simp
  refine cH.mono ?_
  rintro z w4 ⟨rfl,hb4⟩
  exact hK.out _ _ (mvN HST HH0 hb hb4) ⟨A,rfl,rr.near hb4⟩
 case op8_=>
  refine mvA fun T w' hk hb hgr hd K hK=>?_
  have d7:=mvD hd 7
  obtain ⟨A1,e1,r1⟩:=(show qt (pwQ pwE (pwV 120) (pwV 121)) (T.getD 16 undef) w' from d7)
  clear d7
  replace e1:T.getD 16 undef=.agg #[.string pwE,.slice A1 2 2]:=e1
  rw [Array.getD_eq_getD_getElem?] at e1
  clear hk hd
  go_simp
  generalize hW:World.alloc _ _=w4
  obtain ⟨hb4,hz4⟩:=al1 hW
  have hN4:=hW▸heap_alloc_new w' _
  clear hW
  exact hK.out _ _ (mvN HST HH0 hb hb4) ⟨_,rfl,(show Blk w4 w'.heap.size _ from ⟨_,hN4⟩).rl (R:=PrR 2) (sz (by decide) (nd ((r1).near hb4) (AG _) (by simp [TmR,pwQ]) (by simp [pwQ]))) (Array.getElem?_eq_some_iff.1 hN4).1⟩
 case op9_=>
  refine mvA fun T w' hk hb hgr hd K hK=>?_
  have d3:=mvD hd 3
  have d8:=mvD hd 8
  obtain ⟨A1,e1,r1⟩:=(show qt (pwQ pwP (pwV 120) (pwV 121)) (T.getD 12 undef) w' from d3)
  clear d3
  replace e1:T.getD 12 undef=.agg #[.string pwP,.slice A1 2 2]:=e1
  rw [Array.getD_eq_getD_getElem?] at e1
  obtain ⟨B1,e2,r2⟩:=(show mu (PrR 2) [pwQ pwE (pwV 120) (pwV 121)] (T.getD 17 undef) w' from d8)
  clear d8
  replace e2:T.getD 17 undef=.slice B1 1 1:=e2
  rw [Array.getD_eq_getD_getElem?] at e2
  clear hk hd
  go_simp
  exact hK.out _ _ (mvM HST HH0 hb) ⟨A1,B1,rfl,r1,r2⟩
 case op10_=>
  refine mvA fun T w' hk hb hgr hd K hK=>?_
  have h_:T[0]?.getD undef=.int .u32 o:=gqd (mvK hk 0)
  clear hk hd
  go_simp
  exact hK.out _ _ (mvM HST HH0 hb) rfl
 case op11_=>
  refine mvA fun T w' hk hb hgr hd K hK=>?_
  have d9:=mvD hd 9
  obtain ⟨A1,B1,e1,r1,r2⟩:=(show sZ xe [] (T.getD 18 undef) w' from d9)
  clear d9
  replace e1:T.getD 18 undef=.agg #[.string pwP,.slice A1 2 2,.slice B1 1 1,.slice none 0 0,.slice none 0 0]:=e1
  rw [Array.getD_eq_getD_getElem?] at e1
  have d10:T[19]?.getD undef=.int .u32 o:=gqd (mvD hd 10)
  clear hk hd
  go_simp
  exact hK.out _ _ (mvM HST HH0 hb) ⟨A1,B1,rfl,r1,r2⟩
 case op12_=>
  refine mvA fun T w' hk hb hgr hd K hK=>?_
  have h_:T[3]?.getD undef=.pointer (some ⟨wc.heap.size,0,none⟩):=gqd (mvK hk 3)
  have k_:=(HX1.out.later (HDR.out.trans hb)).cell
  have l_:=(HX1.out.later (HDR.out.trans hb)).lt
  clear hk hd
  go_simp
  exact hK.out _ _ (mvM HST HH0 hb) rfl
 case op13_=>
  refine mvA fun T w' hk hb hgr hd K hK=>?_
  have h_:T[5]?.getD undef=.pointer (some ⟨wc.heap.size+1+1,0,none⟩):=gqd (mvK hk 5)
  have k_:=(HZ1.out.later (HDR.out.trans hb)).cell
  have l_:=(HZ1.out.later (HDR.out.trans hb)).lt
  clear hk hd
  go_simp
  exact hK.out _ _ (mvM HST HH0 hb) rfl
 case op14_=>
  refine mvA fun T w' hk hb hgr hd K hK=>?_
  have d12:T[21]?.getD undef=.agg #[.int .i64 1,.int .i64 0,.string ⟨#[120]⟩,.slice none 0 0]:=gqd (mvD hd 12)
  have d13:T[22]?.getD undef=.agg #[.int .i64 1,.int .i64 0,.string ⟨#[122]⟩,.slice none 0 0]:=gqd (mvD hd 13)
  clear hk hd
  go_simp
  generalize hW:World.alloc _ _=w4
  obtain ⟨hb4,hz4⟩:=al1 hW
  have hN4:=hW▸heap_alloc_new w' _
  clear hW
  exact hK.out _ _ (mvN HST HH0 hb hb4) ⟨_,rfl,(show Blk w4 w'.heap.size _ from ⟨_,hN4⟩).rl2 (R:=TmR 2) (us:=[_,_,_,_]) (vs:=[_,_,_,_]) rfl (fC (by unfold I64;omega) (by unfold I64;omega) (by decide)) (fC (by unfold I64;omega) (by unfold I64;omega) (by decide)) (Array.getElem?_eq_some_iff.1 hN4).1⟩
 case op15_=>
  refine mvA fun T w' hk hb hgr hd K hK=>?_
  have d14:=mvD hd 14
  obtain ⟨A,e,rr⟩:=(show mu (TmR 2) [pwV 120,pwV 122] (T.getD 23 undef) w' from d14)
  clear d14
  replace e:T.getD 23 undef=.slice A 2 2:=e
  rw [Array.getD_eq_getD_getElem?] at e
  clear hk hd
  go_simp
  refine cH.mono ?_
  rintro z w4 ⟨rfl,hb4⟩
  exact hK.out _ _ (mvN HST HH0 hb hb4) ⟨A,rfl,rr.near hb4⟩
 case op16_=>
  refine mvA fun T w' hk hb hgr hd K hK=>?_
  have h_:T[3]?.getD undef=.pointer (some ⟨wc.heap.size,0,none⟩):=gqd (mvK hk 3)
  have k_:=(HX1.out.later (HDR.out.trans hb)).cell
  have l_:=(HX1.out.later (HDR.out.trans hb)).lt
  clear hk hd
  go_simp
  exact hK.out _ _ (mvM HST HH0 hb) rfl
 case op17_=>
  refine mvA fun T w' hk hb hgr hd K hK=>?_
  have h_:T[4]?.getD undef=.pointer (some ⟨wc.heap.size+1,0,none⟩):=gqd (mvK hk 4)
  have k_:=(HY1.out.later (HDR.out.trans hb)).cell
  have l_:=(HY1.out.later (HDR.out.trans hb)).lt
  clear hk hd
  go_simp
  exact hK.out _ _ (mvM HST HH0 hb) rfl
 case op18_=>
  refine mvA fun T w' hk hb hgr hd K hK=>?_
  have d16:T[25]?.getD undef=.agg #[.int .i64 1,.int .i64 0,.string ⟨#[120]⟩,.slice none 0 0]:=gqd (mvD hd 16)
  have d17:T[26]?.getD undef=.agg #[.int .i64 1,.int .i64 0,.string ⟨#[121]⟩,.slice none 0 0]:=gqd (mvD hd 17)
  clear hk hd
  go_simp
  generalize hW:World.alloc _ _=w4
  obtain ⟨hb4,hz4⟩:=al1 hW
  have hN4:=hW▸heap_alloc_new w' _
  clear hW
  exact hK.out _ _ (mvN HST HH0 hb hb4) ⟨_,rfl,(show Blk w4 w'.heap.size _ from ⟨_,hN4⟩).rl2 (R:=TmR 2) (us:=[_,_,_,_]) (vs:=[_,_,_,_]) rfl (fC (by unfold I64;omega) (by unfold I64;omega) (by decide)) (fC (by unfold I64;omega) (by unfold I64;omega) (by decide)) (Array.getElem?_eq_some_iff.1 hN4).1⟩
 case op19_=>
  refine mvA fun T w' hk hb hgr hd K hK=>?_
  have d18:=mvD hd 18
  obtain ⟨A,e,rr⟩:=(show mu (TmR 2) [pwV 120,pwV 121] (T.getD 27 undef) w' from d18)
  clear d18
  replace e:T.getD 27 undef=.slice A 2 2:=e
  rw [Array.getD_eq_getD_getElem?] at e
  clear hk hd
  go_simp
  refine cH.mono ?_
  rintro z w4 ⟨rfl,hb4⟩
  exact hK.out _ _ (mvN HST HH0 hb hb4) ⟨A,rfl,rr.near hb4⟩
 case op20_=>
  refine mvA fun T w' hk hb hgr hd K hK=>?_
  have h_:T[4]?.getD undef=.pointer (some ⟨wc.heap.size+1,0,none⟩):=gqd (mvK hk 4)
  have k_:=(HY1.out.later (HDR.out.trans hb)).cell
  have l_:=(HY1.out.later (HDR.out.trans hb)).lt
  clear hk hd
  go_simp
  exact hK.out _ _ (mvM HST HH0 hb) rfl
 case op21_=>
  refine mvA fun T w' hk hb hgr hd K hK=>?_
  have h_:T[5]?.getD undef=.pointer (some ⟨wc.heap.size+1+1,0,none⟩):=gqd (mvK hk 5)
  have k_:=(HZ1.out.later (HDR.out.trans hb)).cell
  have l_:=(HZ1.out.later (HDR.out.trans hb)).lt
  clear hk hd
  go_simp
  exact hK.out _ _ (mvM HST HH0 hb) rfl
 case op22_=>
  refine mvA fun T w' hk hb hgr hd K hK=>?_
  have d20:T[29]?.getD undef=.agg #[.int .i64 1,.int .i64 0,.string ⟨#[121]⟩,.slice none 0 0]:=gqd (mvD hd 20)
  have d21:T[30]?.getD undef=.agg #[.int .i64 1,.int .i64 0,.string ⟨#[122]⟩,.slice none 0 0]:=gqd (mvD hd 21)
  clear hk hd
  go_simp
  generalize hW:World.alloc _ _=w4
  obtain ⟨hb4,hz4⟩:=al1 hW
  have hN4:=hW▸heap_alloc_new w' _
  clear hW
  exact hK.out _ _ (mvN HST HH0 hb hb4) ⟨_,rfl,(show Blk w4 w'.heap.size _ from ⟨_,hN4⟩).rl2 (R:=TmR 2) (us:=[_,_,_,_]) (vs:=[_,_,_,_]) rfl (fC (by unfold I64;omega) (by unfold I64;omega) (by decide)) (fC (by unfold I64;omega) (by unfold I64;omega) (by decide)) (Array.getElem?_eq_some_iff.1 hN4).1⟩
 case op23_=>
  refine mvA fun T w' hk hb hgr hd K hK=>?_
  have d22:=mvD hd 22
  obtain ⟨A,e,rr⟩:=(show mu (TmR 2) [pwV 121,pwV 122] (T.getD 31 undef) w' from d22)
  clear d22
  replace e:T.getD 31 undef=.slice A 2 2:=e
  rw [Array.getD_eq_getD_getElem?] at e
  clear hk hd
  go_simp
  refine cH.mono ?_
  rintro z w4 ⟨rfl,hb4⟩
  exact hK.out _ _ (mvN HST HH0 hb hb4) ⟨A,rfl,rr.near hb4⟩
 case op24_=>
  refine mvA fun T w' hk hb hgr hd K hK=>?_
  have d19:=mvD hd 19
  have d23:=mvD hd 23
  obtain ⟨A1,e1,r1⟩:=(show qt (pwQ pwP (pwV 120) (pwV 121)) (T.getD 28 undef) w' from d19)
  clear d19
  replace e1:T.getD 28 undef=.agg #[.string pwP,.slice A1 2 2]:=e1
  rw [Array.getD_eq_getD_getElem?] at e1
  obtain ⟨A2,e2,r2⟩:=(show qt (pwQ pwE (pwV 121) (pwV 122)) (T.getD 32 undef) w' from d23)
  clear d23
  replace e2:T.getD 32 undef=.agg #[.string pwE,.slice A2 2 2]:=e2
  rw [Array.getD_eq_getD_getElem?] at e2
  clear hk hd
  go_simp
  generalize hW:World.alloc _ _=w4
  obtain ⟨hb4,hz4⟩:=al1 hW
  have hN4:=hW▸heap_alloc_new w' _
  clear hW
  exact hK.out _ _ (mvN HST HH0 hb hb4) ⟨_,rfl,(show Blk w4 w'.heap.size _ from ⟨_,hN4⟩).rl2 (R:=PrR 2) (us:=[_,_]) (vs:=[_,_]) rfl (sz (by decide) (nd ((r1).near hb4) (AG _) (by simp [TmR,pwQ]) (by simp [pwQ]))) (sz (by decide) (nd ((r2).near hb4) (AG _) (by simp [TmR,pwQ]) (by simp [pwQ]))) (Array.getElem?_eq_some_iff.1 hN4).1⟩
 case op25_=>
  refine mvA fun T w' hk hb hgr hd K hK=>?_
  have d15:=mvD hd 15
  have d24:=mvD hd 24
  obtain ⟨A1,e1,r1⟩:=(show qt (pwQ pwP (pwV 120) (pwV 122)) (T.getD 24 undef) w' from d15)
  clear d15
  replace e1:T.getD 24 undef=.agg #[.string pwP,.slice A1 2 2]:=e1
  rw [Array.getD_eq_getD_getElem?] at e1
  obtain ⟨B1,e2,r2⟩:=(show mu (PrR 2) [pwQ pwP (pwV 120) (pwV 121),pwQ pwE (pwV 121) (pwV 122)] (T.getD 33 undef) w' from d24)
  clear d24
  replace e2:T.getD 33 undef=.slice B1 2 2:=e2
  rw [Array.getD_eq_getD_getElem?] at e2
  clear hk hd
  go_simp
  exact hK.out _ _ (mvM HST HH0 hb) ⟨A1,B1,rfl,r1,r2⟩
 case op26_=>
  refine mvA fun T w' hk hb hgr hd K hK=>?_
  have h_:T[0]?.getD undef=.int .u32 o:=gqd (mvK hk 0)
  clear hk hd
  go_simp
  exact hK.out _ _ (mvM HST HH0 hb) rfl
 case op27_=>
  refine mvA fun T w' hk hb hgr hd K hK=>?_
  have d25:=mvD hd 25
  obtain ⟨A1,B1,e1,r1,r2⟩:=(show sZ xf [] (T.getD 34 undef) w' from d25)
  clear d25
  replace e1:T.getD 34 undef=.agg #[.string pwP,.slice A1 2 2,.slice B1 2 2,.slice none 0 0,.slice none 0 0]:=e1
  rw [Array.getD_eq_getD_getElem?] at e1
  have d26:T[35]?.getD undef=.int .u32 o:=gqd (mvD hd 26)
  clear hk hd
  go_simp
  exact hK.out _ _ (mvM HST HH0 hb) ⟨A1,B1,rfl,r1,r2⟩
 case op28_=>
  refine mvA fun T w' hk hb hgr hd K hK=>?_
  have d11:=mvD hd 11
  have d27:=mvD hd 27
  obtain ⟨A1,B1,e1,r1,s1⟩:=(show sZ xe [.int .i64 0,.int .u32 o] (T.getD 20 undef) w' from d11)
  clear d11
  replace e1:T.getD 20 undef=.agg #[.string pwP,.slice A1 2 2,.slice B1 1 1,.slice none 0 0,.slice none 0 0,.int .i64 0,.int .u32 o]:=e1
  rw [Array.getD_eq_getD_getElem?] at e1
  obtain ⟨A2,B2,e2,r2,s2⟩:=(show sZ xf [.int .i64 0,.int .u32 o] (T.getD 36 undef) w' from d27)
  clear d27
  replace e2:T.getD 36 undef=.agg #[.string pwP,.slice A2 2 2,.slice B2 2 2,.slice none 0 0,.slice none 0 0,.int .i64 0,.int .u32 o]:=e2
  rw [Array.getD_eq_getD_getElem?] at e2
  clear hk hd
  go_simp
  generalize hW:World.alloc _ _=w4
  obtain ⟨hb4,hz4⟩:=al1 hW
  have hN4:=hW▸heap_alloc_new w' _
  clear hW
  exact hK.out _ _ (mvN HST HH0 hb hb4) ⟨w'.heap.size,A1,B1,A2,B2,rfl,hb.size,⟨_,hN4⟩,((RuR 2).keep hb4 (AG _) (pw_ru (r:=xe) (by decide) rfl (by decide) rfl rfl r1 s1)),((RuR 2).keep hb4 (AG _) (pw_ru (r:=xf) (by decide) rfl (by decide) rfl rfl r2 s2))⟩
 case last_=>
  refine mvL fun T w' hk hb hgr hd K hK=>?_
  have d28:=mvD hd 28
  replace d28:eI w1.heap.size o (T.getD 37 undef) w':=d28
  generalize hv:T.getD 37 undef=v at d28
  have HP:=AE d28
  clear d28
  have hT:=kU hk.1
  obtain ⟨f_,hf_⟩:∃f_:Nat→Value,(fun t=>T.getD t undef)=f_:=⟨_,rfl⟩
  rw [hf_] at hT
  replace hv:f_ 37=_:=(congrFun hf_ 37).symm.trans hv
  replace hT:T=#[f_ 0,f_ 1,f_ 2,f_ 3,f_ 4,f_ 5,f_ 6,f_ 7,f_ 8,f_ 9,f_ 10,f_ 11,f_ 12,f_ 13,f_ 14,f_ 15,f_ 16,f_ 17,f_ 18,f_ 19,f_ 20,f_ 21,f_ 22,f_ 23,f_ 24,f_ 25,f_ 26,f_ 27,f_ 28,f_ 29,f_ 30,f_ 31,f_ 32,f_ 33,f_ 34,f_ 35,f_ 36,f_ 37]:=hT
  clear hf_
  subst hT
  rw [hv]
  clear hd hk
  go_simp
  refine hK.out _ _ ?_
  clear hK
  have HB2:=AE (HB1.out.trans ((HDR.out.trans hb).mono HB1.out.size))
  go_wp2_with fail
  go_ret
  exact ⟨⟨v,rfl,HP.out.lower HB1.out.size⟩,HB2.out⟩
theorem Av {w:World} {T:Nat} {s:ByteArray} {m n:Int} (h:Blk w T #[.int .i64 2,.int .i64 m,.string ⟨#[]⟩,.slice none 0 0,.int .i64 2,.int .i64 n,.string ⟨#[]⟩,.slice none 0 0]) (hs:s.size≤140737488351232) (hm:I64 m) (hn:I64 n):(ay 2).rd w w.heap.size (pwF s m n) [.string s,.slice (some ⟨T,0,none⟩) 2 2,.int .u32 1]:=
 lit_fc (f:=pwF s m n) (sz hs (nd (R:=TmR 2) (c:=2) (h.rl2 (R:=TmR 2) (x:=pwN m) (y:=pwN n) (us:=[_,_,_,_]) (vs:=[_,_,_,_]) rfl (fC (by unfold I64;omega) hm (by decide)) (fC (by unfold I64;omega) hn (by decide)) h.lt) (by simp) (by simp [TmR]) (by omega))) (by unfold U32;simp [pwF])
theorem pw_has1 {xs:List FV} (h:some pw2=some (xs.map FV.f)):xs.length=5∧fe (xs.map FV.f) (pwF pwP 1 3)=true:=by
 have e:=Option.some.inj h
 have h1:(xs.map FV.f).length=5:=by rw [←e];rfl
 exact ⟨by rw [←h1,AM],by rw [←e];exact pw_has⟩
theorem qE {w:World} {m:Int} (hm:w.cell? ⟨0,0,none⟩=some (.int .i64 m)) (hp:0<w.heap.size):Calls Tryz.prog 12 #[] w fun z w'=>z=.returned (.bool true)∧Below w.heap.size w w':=by
 have HM:=AE hm
 clear hm
 go_enter Tryz.func12,Tryz.ntmps12
 go_wp2_with fail
 refine eS.mono ?_
 rintro z w1 ⟨rfl,hb_⟩
 have HBw1:=AE (hb_)
 clear hb_
 go_wp2_with fail
 refine eS.mono ?_
 rintro z w2 ⟨rfl,hb_⟩
 have HBw2:=AE (aa HBw1.out hb_)
 clear hb_
 go_wp2_with fail
 generalize hW:World.alloc _ _=w3
 obtain ⟨hb_,hz_⟩:=al1 hW
 have HTw3:=AE (n11 hW)
 have HBw3:=AE (aa HBw2.out hb_)
 clear hW hb_
 try rw [show w2.heap.size+1=w3.heap.size from hz_.symm]
 refine cH.mono ?_
 rintro z w4 ⟨rfl,hb_⟩
 have HBw4:=AE (aa HBw3.out hb_)
 have HTw4:=AE (HTw3.out.later hb_)
 clear hb_
 go_wp2_with fail
 refine eS.mono ?_
 rintro z w5 ⟨rfl,hb_⟩
 have HBw5:=AE (aa HBw4.out hb_)
 have HTw5:=AE (HTw4.out.later hb_)
 clear hb_
 go_wp2_with fail
 refine eS.mono ?_
 rintro z w6 ⟨rfl,hb_⟩
 have HBw6:=AE (aa HBw5.out hb_)
 have HTw6:=AE (HTw5.out.later hb_)
 clear hb_
 go_wp2_with fail
 generalize hW:World.alloc _ _=w7
 obtain ⟨hb_,hz_⟩:=al1 hW
 have HUw7:=AE (n11 hW)
 have HBw7:=AE (aa HBw6.out hb_)
 have HTw7:=AE (HTw6.out.later hb_)
 clear hW hb_
 try rw [show w6.heap.size+1=w7.heap.size from hz_.symm]
 refine cH.mono ?_
 rintro z w8 ⟨rfl,hb_⟩
 have HBw8:=AE (aa HBw7.out hb_)
 have HTw8:=AE (HTw7.out.later hb_)
 have HUw8:=AE (HUw7.out.later hb_)
 clear hb_
 go_wp2_with fail
 generalize hW:World.alloc _ _=w9
 obtain ⟨hb_,hz_⟩:=al1 hW
 have HGw9:=AE (n11 hW)
 have HBw9:=AE (aa HBw8.out hb_)
 have HTw9:=AE (HTw8.out.later hb_)
 have HUw9:=AE (HUw8.out.later hb_)
 clear hW hb_
 try rw [show w8.heap.size+1=w9.heap.size from hz_.symm]
 refine (ry (o:=1) (by unfold U32;simp)).mono ?_
 rintro z w10 ⟨⟨v,rfl,hv⟩,hb_⟩
 obtain ⟨A,rfl,hr⟩:=hv.rl (by unfold U32;simp)
 have HR:=AE hr
 have HBw10:=AE (aa HBw9.out hb_)
 have HTw10:=AE (HTw9.out.later hb_)
 have HUw10:=AE (HUw9.out.later hb_)
 have HGw10:=AE (HGw9.out.later hb_)
 clear hb_ hv hr
 go_wp2_with fail
 have HL:Hid (RL (ay 2) w10 w10.heap.size pw0 (some ⟨w8.heap.size,0,none⟩)):=AE (HGw10.out.rl2 (R:=ay 2) (us:=[_,_,_]) (vs:=[_,_,_]) rfl (Av HTw10.out (by decide) (by unfold I64;omega) (by unfold I64;omega)) (Av HUw10.out (by decide) (by unfold I64;omega) (by unfold I64;omega)) HGw10.out.lt)
 have hrun:=xn (d:=1) (B:=w10.heap.size) (c:=2) (cr:=2) (lf:=10) (lr:=5) (rs:=pwO 1) HL.out HR.out (AG _) (by decide) (by decide) (fun f hf=>by
  simp only [pw0,List.mem_cons,List.not_mem_nil,or_false] at hf
  rcases hf with rfl | rfl<;>decide) (by unfold I64;omega) (by unfold I64;omega) ((HBw10.out.cell (p:=⟨0,0,none⟩) hp).trans HM.out) (by have:=HBw10.out.size;omega)
 rw [pw_fix] at hrun
 refine hrun.mono ?_
 rintro z w11 ⟨⟨S,base,xs,As,cs,rfl,hst,hx,_,_⟩ | ⟨_,h⟩,hb_⟩
 rotate_left
 ·cases h
 have HST:=AE hst
 obtain ⟨hl5,hhas⟩:=pw_has1 hx
 have HL5:=AE hl5
 have HHAS:=AE hhas
 have HBw11:=AE (aa HBw10.out hb_)
 clear hb_ hst hx hrun hl5 hhas
 go_wp2_with fail
 refine (jo HST.out).mono ?_
 rintro z w12 ⟨rfl,rfl⟩
 rw [show ((xs.length:Nat):Int)=5 by rw [HL5.out];rfl]
 go_wp2_with fail
 refine eS.mono ?_
 rintro z w13 ⟨rfl,hb_⟩
 have HBw13:=AE (aa HBw11.out hb_)
 have HSTw13:=AE (HST.out.later hb_)
 clear hb_
 go_wp2_with fail
 refine eS.mono ?_
 rintro z w14 ⟨rfl,hb_⟩
 have HBw14:=AE (aa HBw13.out hb_)
 have HSTw14:=AE (HSTw13.out.later hb_)
 clear hb_
 go_wp2_with fail
 generalize hW:World.alloc _ _=w15
 obtain ⟨hb_,hz_⟩:=al1 hW
 have HPw15:=AE (n11 hW)
 have HBw15:=AE (aa HBw14.out hb_)
 have HSTw15:=AE (HSTw14.out.later hb_)
 clear hW hb_
 try rw [show w14.heap.size+1=w15.heap.size from hz_.symm]
 refine cH.mono ?_
 rintro z w16 ⟨rfl,hb_⟩
 have HBw16:=AE (aa HBw15.out hb_)
 have HPw16:=AE (HPw15.out.later hb_)
 have HSTw16:=AE (HSTw15.out.later hb_)
 clear hb_
 go_wp2_with fail
 refine (gu (d:=1) (B:=w16.heap.size) (f:=pwF pwP 1 3) (vf:=[_,_,_]) HSTw16.out (Av HPw16.out (by decide) (by unfold I64;omega) (by unfold I64;omega)) (AG _) (by rw [HL5.out];decide) (by decide)).mono ?_
 rintro z w17 ⟨rfl,hb_⟩
 have HBw17:=AE (aa HBw16.out hb_)
 clear hb_
 rw [HHAS.out]
 go_wp2_with fail
 go_ret
 exact ⟨rfl,HBw17.out⟩
theorem rl_ownF {d:Nat} {w:World} {B n c:Nat} {xs:List Fc} {A:Option Addr} (h:RSl (ay d) w B xs (.slice A n c)):RL (ay d) w B xs A:=by
 obtain ⟨A',c',e',_,_,hr⟩:=h
 cases e'
 exact hr
def RunP (d:Nat) (w:World) (R:Option (List Fc) × Int × Int) (p:Option Addr):Prop:=R.2.2=0→∃S base xs As cs,p=some ⟨S,0,none⟩∧StA base d w S xs As cs∧R.1=some (xs.map FV.f)
theorem RunP.later {d:Nat} {w w':World} {R:Option (List Fc) × Int × Int} {p:Option Addr} (h:RunP d w R p) (hb:Below w.heap.size w w'):RunP d w' R p:=fun h0=>by
 obtain ⟨S,base,xs,As,cs,e,k,hx⟩:=h h0
 exact ⟨S,base,xs,As,cs,e,k.later hb,hx⟩
theorem uD.p {d:Nat} {w w':World} {l:List Fc} {rs:List OwD} {lf lr:Int} {z:Ending} (h:uD d w w' (iv l rs lf lr) z) (hl:∀f∈l,uG f):(∃p,z=.returned (.tuple #[.pointer p,.int .i64 (iv l rs lf lr).2.1,.int .i64 (iv l rs lf lr).2.2])∧RunP d w' (iv l rs lf lr) p)∧Below w.heap.size w w':=by
 obtain ⟨⟨S,base,xs,As,cs,rfl,k,hx,_,_⟩ | ⟨rfl,hn⟩,hb⟩:=h
 ·exact ⟨⟨_,rfl,fun _=>⟨S,base,xs,As,cs,rfl,k,hx⟩⟩,hb⟩
 ·refine ⟨⟨_,rfl,fun h0=>?_⟩,hb⟩
  obtain ⟨gs,m,e,_⟩:=xo hl h0
  rw [e] at hn
  cases hn
def qw (rs:List OwD) (x:Fc) (j:Nat) (u:Value):Prop:=∃h:Bool,u=.bool h∧((∃o∈rs.take j,HeadOf o x)→h=true)
theorem qw.next {rs:List OwD} {x:Fc} {j:Nat} {o:OwD} (ho:rs[j]? = some o) {h b:Bool} (hh:(∃o∈rs.take j,HeadOf o x)→h=true) (k:h=true→b=true) (k2:HeadOf o x→b=true):qw rs x (j+1) (.bool b):=⟨b,rfl,fun ⟨o',ho',hd⟩=>by
 rw [List.take_add_one,ho] at ho'
 rcases List.mem_append.1 ho' with h1 | h1
 ·exact k (hh ⟨o',h1,hd⟩)
 ·obtain rfl:o'=o:=by simpa using h1
  exact k2 hd⟩
theorem bit_law {o:OwD} {x:Int} (h0:U32 x) (hb:iF o=true) (ht:x.toNat.testBit o.block.toNat=true):(bits BinOp.and IntKind.u32 (x / 2 ^ min (IntKind.u64.wrap o.block).toNat 32) 1==1)=true:=by
 obtain ⟨_,h1,h2⟩:=oc hb
 have hw:IntKind.u64.wrap o.block=o.block:=by simp [IntKind.wrap,IntKind.bits,IntKind.signed];omega
 obtain ⟨n,hn⟩:∃n:Nat,x=(n:Int):=⟨x.toNat,by unfold U32 at h0;omega⟩
 subst hn
 rw [hw,Nat.min_eq_left (by omega)]
 rw [Int.toNat_natCast] at ht
 have hn32:n<4294967296:=by unfold U32 at h0;omega
 generalize o.block.toNat=q at *
 have hq:n / 2 ^ q % 2=1:=by
  rw [Nat.testBit_eq_decide_div_mod_eq] at ht
  exact of_decide_eq_true ht
 have hlt:n / 2 ^ q<4294967296:=Nat.lt_of_le_of_lt (Nat.div_le_self _ _) hn32
 have e1:((n:Int) / 2 ^ q)=((n / 2 ^ q:Nat):Int):=by
  rw [Int.natCast_ediv];simp
 rw [e1]
 have e2:bits .and .u32 ((n / 2 ^ q:Nat):Int) 1=((BitVec.ofInt 32 ((n / 2 ^ q:Nat):Int) &&& BitVec.ofInt 32 1).toNat:Int) % 4294967296:=rfl
 rw [e2,BitVec.toNat_and,BitVec.ofInt_natCast,BitVec.toNat_ofNat,Nat.mod_eq_of_lt (by omega)]
 have e3:(BitVec.ofInt 32 1).toNat=1:=rfl
 rw [e3,Nat.and_one_is_mod,hq]
 rfl
theorem pn {d B c cr:Nat} {l:List Fc} {A:Option Addr} {rs:List OwD} {Ar:Option Addr} {lf lr:Int} {m:Int} {w:World} (HAW:∀w1:World,Below w.heap.size w w1→Calls Tryz.prog 12 #[] w1 fun z w'=>z=.returned (.bool true)∧Below w1.heap.size w1 w')
 (hl:RL (ay (d+1)) w B l A) (hn48:l.length*48≤140737488351232) (hr:RL (OwR (d+1)) w B rs Ar) (hrn:rs.length≤140737488351232) (hlf:I64 lf) (hlr:I64 lr) (h40:∀g∈l,g.pr.terms.length*40≤140737488351232) (hB:B≤w.heap.size) (hm:w.cell? ⟨0,0,none⟩=some (.int .i64 m)) (hp:0<w.heap.size) :
 Calls Tryz.prog 4 #[.slice A l.length c,.slice Ar rs.length cr,.agg #[.int .i64 lf,.int .i64 lr]] w fun z w'=>z=.returned (.bool true)∧Below w.heap.size w w':=by
 have HAWH:=AE HAW
 have HL:=AE hl
 have HR:=AE hr
 have HM:=AE hm
 have H40:=AE h40
 have HIN:Hid (∀g∈l,uG g):=AE (fun g h=>by
  obtain ⟨i,hi,rfl⟩:=List.getElem_of_mem h
  obtain ⟨b,off,_,_,hc⟩:=hl (by omega)
  obtain ⟨vs,_,⟨x,hx,hr⟩,_⟩:=hc i hi
  obtain ⟨_,rfl⟩:=List.getElem?_eq_some_iff.1 hx
  exact vF hr)
 clear HAW hl hm hr h40
 go_enter Tryz.func4,Tryz.ntmps4
 go_upto_region 1 with fail
 generalize hW:World.alloc _ _=w1
 obtain ⟨hb1,hz⟩:=al1 hW
 have HK1:=AE (n11 hW)
 have HB1:=AE hb1
 have hsz1:=hb1.size
 clear hW hb1 hz
 have k_m:=HK1.out.cell
 have l_m:=HK1.out.lt
 go_wp2_with fail
 refine (vJ (d:=d) (B:=B) (HL.out.keep HB1.out hB) (HR.out.keep HB1.out hB) (by omega) (by omega) hrn).mono ?_
 rintro z w2 ⟨⟨q,rfl,hq⟩,hb2⟩
 have HQ:=AE hq
 have HK2:=AE (HK1.out.later hb2)
 have HB2:=AE (aa HB1.out hb2)
 have hsz2:=HB2.out.size
 clear hq hb2 k_m l_m
 cases q
 ·clear HQ
  go_wp2_with fail
  refine (HAWH.out _ HB2.out).mono ?_
  rintro z w9 ⟨rfl,hb9⟩
  go_wp2_with fail
  go_ret
  exact ⟨rfl,aa HB2.out hb9⟩
 obtain ⟨hl6,hr4⟩:=HQ.out rfl
 clear HQ
 have k_m:=HK2.out.cell
 have l_m:=HK2.out.lt
 go_wp2_with fail
 refine (xn (d:=d) (B:=B) (l:=l) (A:=A) (c:=c) (rs:=rs) (Ar:=Ar) (cr:=cr) (HL.out.keep HB2.out hB) (HR.out.keep HB2.out hB) (by omega) (by omega) (by omega) H40.out hlf hlr ((HB2.out.cell (p:=⟨0,0,none⟩) hp).trans HM.out) (AJ hp hsz2)).mono ?_
 rintro z w3 ⟨⟨S,base,xs,As,cs,rfl,hst,hx,_,_⟩ | ⟨rfl,hnone⟩,hb3⟩
 rotate_left
 ·have hne:¬(iv l rs lf lr).2.2=0:=fun h=>by
   obtain ⟨gs,m1,e,_⟩:=xo HIN.out h
   rw [e] at hnone
   cases hnone
  have hz0:=(sK hne).2
  have q1:((iv l rs lf lr).2.2 !=0)=true:=by simpa using hne
  rw [hz0]
  have HB3:=AE (aa HB2.out hb3)
  clear hnone hne hz0 k_m l_m hb3
  generalize (iv l rs lf lr).2.2=e1 at *
  go_wp2_with fail
  refine (HAWH.out _ HB3.out).mono ?_
  rintro z w9 ⟨rfl,hb9⟩
  go_wp2_with fail
  go_ret
  exact ⟨rfl,aa HB3.out hb9⟩
 have he0:(iv l rs lf lr).2.2=0:=Classical.byContradiction fun h=>by
  have:=(sK h).1
  rw [hx] at this
  cases this
 obtain ⟨gs,m1,i1,i0,i2,i3,i4,i5,_⟩:=xo HIN.out he0
 have hg:gs=xs.map FV.f:=by rw [i1] at hx;exact Option.some.inj hx
 subst hg
 rw [i1]
 have HST3:=AE hst
 have HK3:=AE (HK2.out.later hb3)
 have HB3:=AE (aa HB2.out hb3)
 have hsz3:=HB3.out.size
 have hfew:(xs.length:Int)≤lf:=by have:=i2.few;rwa [AM] at this
 have hrd:m1≤lr:=i2.rounds
 have h1000:xs.length≤1000:=by
  have a1:=i5
  simp only [wE,AN,AT] at a1
  omega
 have HOK:=AE i2.st
 have HOWN:Hid (∀o∈rs,iF o=true):=AE (List.all_eq_true.1 i4)
 have HDONE:=AE i2.done
 have HHEADS:=AE i2.heads
 have HSTL:=AE (StF.of HIN.out)
 have HHAS:Hid (∀x∈l,fe (xs.map FV.f) x=true):=AE (fun x hx=>by
  have h1:x∈stL l:=(xy HIN.out).2 ⟨hx,List.all_eq_true.1 i3 x hx⟩
  exact (i2.st.has (i2.st.ok x (i2.sub x h1))).2 (i2.sub x h1))
 clear hst hx hb3 he0 i1 i2 i3 i4 i5 k_m l_m
 have HLEN:Hid (∀w9,Below w3.heap.size w3 w9→Calls Tryz.prog 13 #[.pointer (some ⟨S,0,none⟩)] w9 fun z w'=>z=.returned (.int .i64 xs.length)∧Below w9.heap.size w9 w'):=AE (fun w9 h=>(jo (HST3.out.later h)).mono fun z w' ⟨h1,h2⟩=>⟨h1,h2▸AI _ _⟩)
 have q_m:=HK3.out.regrown
 have g1:decide (lf<(xs.length:Int))=false:=decide_eq_false (by omega)
 have g2:decide (lr<m1)=false:=decide_eq_false (by omega)
 go_upto_region 6 with fail
 refine wp_region_quiet_below (by kernel_rfl) (by kernel_rfl) ?_
 repeat (go_big_quiet_step ((go_at_call 13;exact Calls.regrown_of (HLEN.out _ (below_regrown _ _ _)))))
 refine wpQuiet_nil ?_
 intro w4 hw_
 have hb:Below w3.heap.size w3 w4:=by obtain ⟨p_,rfl⟩:=hw_;exact below_regrown _ _ _
 clear hw_
 have HB4:=AE (aa HB3.out hb)
 have HST4:=AE (HST3.out.later hb)
 clear q_m hb HLEN
 go_upto_region 9 with fail
 go_loopw [59] (fun i wr=>∃k:Nat,k≤l.length∧i=.int .i64 k∧Hid (Below w4.heap.size w4 wr)) (fun i _=>l.length-(intOf i).toNat)
 case atStart=>exact ⟨0,AH _,rfl,AE (AI _ _)⟩
 case round=>
  obtain ⟨k,hk,rfl,HW⟩:=hrel
  have hszr:=HW.out.size
  have HBr:=AE (aa HB4.out HW.out)
  have hBr:B≤wr.heap.size:=AF hB HBr.out.size
  by_cases hlt:k<l.length
  ·obtain ⟨b,off,rfl,hob⟩:=(HL.out.keep HBr.out hB).base (AI _ _) hBr (by omega)
   obtain ⟨x,vs,hx,hlen,hcell,hr⟩:=(HL.out.keep HBr.out hB).at_ (AI _ _) hBr hlt
   have HRX:=AE hr
   have HHX:=AE (And.intro (HHAS.out x (List.mem_of_getElem? hx)) (H40.out x (List.mem_of_getElem? hx)))
   obtain ⟨Ax,cx,rfl,_⟩:=aG hr
   have p0:wr.cell? ⟨b,off+k*3,none⟩=some (.string x.pr.name):=hcell 0 _ rfl
   have p1:wr.cell? ⟨b,off+k*3+1,none⟩=some (.slice Ax x.pr.terms.length cx):=hcell 1 _ rfl
   have p2:wr.cell? ⟨b,off+k*3+2,none⟩=some (.int .u32 x.o):=hcell 2 _ rfl
   clear hcell hlen hx hr
   go_upto_region 11 with fail
   generalize hW:World.alloc _ _=w_8
   obtain ⟨hb8,hz8⟩:=al1 hW
   have HK8:=AE (n11 hW)
   have HW8:=AE (aa HW.out hb8)
   have HR8:=AE ((ay (d+1)).keep hb8 hBr HRX.out)
   have hsz8:=HW8.out.size
   have hB8:=hb8.size
   clear hW hb8 hz8 p0 p1 p2
   have k_r:=HK8.out.cell
   have l_r:=HK8.out.lt
   go_wp2_with fail
   refine (gu (d:=d) (B:=B) (f:=x) (vf:=[_,_,_]) (HST4.out.later HW8.out) HR8.out (AF hBr hB8) (by omega) HHX.out.2).mono ?_
   rintro z w_9 ⟨rfl,hb9⟩
   have HW9:=AE (aa HW8.out hb9)
   rw [HHX.out.1]
   clear hb9 k_r l_r
   go_wp2_with fail
   go_roundw
   case rel=>exact ⟨k+1,by omega,by go_num,HW9⟩
   case measure=>simp [intOf];omega
  ·generalize wr=w5 at *
   have HST5:=AE (HST4.out.later HW.out)
   go_wp2_with fail
   refine (qa (HR.out.keep HBr.out hB) (by omega) hBr HST5.out (by omega) ((HBr.out.cell (p:=⟨0,0,none⟩) hp).trans HM.out) (AJ hp HBr.out.size)).mono ?_
   rintro z w6 ⟨ys,Ay,cy,rfl,hys,_,hb6⟩
   rw [HDONE.out] at hys
   rw [HDONE.out]
   have hy0:ys.length=0:=by simpa using congrArg List.length hys
   rw [hy0]
   have HB6:=AE (aa HBr.out hb6)
   have HST6:=AE (HST5.out.later hb6)
   have hB6:B≤w6.heap.size:=AF hB HB6.out.size
   clear hys hb6 hy0
   dsimp only
   go_wp2_with fail
   refine (made_of (d:=d) (B:=B) (l:=l) (A:=A) (c:=c) (HL.out.keep HB6.out hB) hB6 (by omega)).mono ?_
   rintro z w7 ⟨S2,M2,zs,Az,cz,ys2,Am,cm,rfl,hT,hz,_,hb7⟩
   have HT7:=AE hT.s
   have HZ7:=AE hz
   have HST7:=AE (HST6.out.later hb7)
   have HB7:=AE (aa HB6.out hb7)
   have HZN:Hid (zs.length≤100000):=AE (by
    have h1:=mi l []
    have h3:=congrArg List.length hz
    rw [AM] at h3
    unfold stL at h3
    simp only [List.length_nil] at h1
    omega)
   clear hT hz hb7
   go_wp2_with fail
   refine (xx HST7.out (by omega)).mono ?_
   rintro z w8 ⟨⟨ys3,Ay3,cy3,hy3,rfl,hr3⟩,hb_⟩
   have hyl3:ys3.length=xs.length:=by simpa using congrArg List.length hy3
   have HRL3:Hid (RL (ay (d+1)) w8 w8.heap.size (xs.map FV.f) Ay3):=AE (hy3▸rl_ownF (hr3.rl (by omega)))
   have HLM:Hid ((xs.map FV.f).length=xs.length):=AE (AM _)
   have HB8:=AE (aa HB7.out hb_)
   have HT8:=AE (HT7.out.later hb_)
   rw [hyl3]
   clear hb_ hr3 hy3 hyl3
   go_upto_region 19 with fail
   go_loopw [89] (fun i wr=>∃k:Nat,k≤xs.length∧i=.int .i64 k∧Hid (Below w8.heap.size w8 wr)) (fun i _=>xs.length-(intOf i).toNat)
   case atStart=>exact ⟨0,AH _,rfl,AE (AI _ _)⟩
   case round=>
    obtain ⟨k,hk,rfl,HV⟩:=hrel
    have hszr:=HV.out.size
    generalize wr=wv at *
    by_cases hlt:k<xs.length
    ·obtain ⟨b,off,rfl,hob⟩:=(HRL3.out.keep HV.out (AG _)).base (AI _ _) hszr (by rw [HLM.out];omega)
     obtain ⟨x,vs,hx,hlen,hcell,hr⟩:=(HRL3.out.keep HV.out (AG _)).at_ (AI _ _) hszr (by rw [HLM.out];exact hlt)
     have HRX:=AE hr
     have hxm:=List.mem_of_getElem? hx
     have hxk:=HOK.out.ok x hxm
     have HXO:Hid (U32 x.o):=AE hxk.o
     have HX8:Hid (x.pr.terms.length*40≤140737488351232∧x.pr.terms.length≤140737488351232):=AE (by have:=hxk.few;omega)
     have HHD:Hid (fe (zs.map FV.f) x=false→∃o∈rs,HeadOf o x):=AE (fun h=>by
      rcases HHEADS.out x hxm with h1 | h1
      ·rw [HZ7.out,(HSTL.out.has hxk).2 h1] at h
       cases h
      ·exact h1)
     obtain ⟨Ax,cx,rfl,_⟩:=aG hr
     have p0:wv.cell? ⟨b,off+k*3,none⟩=some (.string x.pr.name):=hcell 0 _ rfl
     have p1:wv.cell? ⟨b,off+k*3+1,none⟩=some (.slice Ax x.pr.terms.length cx):=hcell 1 _ rfl
     have p2:wv.cell? ⟨b,off+k*3+2,none⟩=some (.int .u32 x.o):=hcell 2 _ rfl
     clear hcell hlen hx hr hxm hxk
     go_upto_region 21 with fail
     generalize hW:World.alloc _ _=wx
     obtain ⟨hbx,hzx⟩:=al1 hW
     have HKX:=AE (n11 hW)
     have HVX:=AE (aa HV.out hbx)
     have HRX2:=AE ((ay (d+1)).keep hbx hszr HRX.out)
     have hszx:=HVX.out.size
     clear hW hbx hzx p0 p1 p2
     have k_r:=HKX.out.cell
     have l_r:=HKX.out.lt
     go_wp2_with fail
     refine (gu (d:=d) (B:=w8.heap.size) (f:=x) (vf:=[_,_,_]) (HT8.out.later HVX.out) HRX2.out hszx HZN.out HX8.out.1).mono ?_
     rintro z wy ⟨rfl,hby⟩
     have HKY:=AE (HKX.out.later hby)
     have HVY:=AE (aa HVX.out hby)
     clear hby k_r l_r
     generalize fe (zs.map FV.f) x=hq at *
     cases hq
     rotate_left
     ·go_wp2_with fail
      go_roundw
      case rel=>exact ⟨k+1,by omega,by go_num,HVY⟩
      case measure=>simp [intOf];omega
     obtain ⟨o1,ho1,hd1⟩:=HHD.out rfl
     have HO1:=AE (And.intro ho1 hd1)
     clear ho1 hd1 HHD
     have HBY:=AE (aa HB8.out HVY.out)
     have hBY:B≤wy.heap.size:=AF hB HBY.out.size
     go_upto_region 24 with fail
     go_loopw [18,98] (fun u i wr=>∃j:Nat,j≤rs.length∧i=.int .i64 j∧Hid (qw rs x j u)∧Hid (Below wy.heap.size wy wr)) (fun _ i _=>rs.length-(intOf i).toNat)
     case atStart=>exact ⟨0,AH _,rfl,AE ⟨false,rfl,fun ⟨o,ho,_⟩=>by simp at ho⟩,AE (AI _ _)⟩
     case round=>
      obtain ⟨j,hj,rfl,HH,HQ⟩:=hrel
      obtain ⟨h,rfl,hh⟩:=HH.out
      have HHH:=AE hh
      clear hh HH
      have HBQ:=AE (aa HBY.out HQ.out)
      have hBQ:B≤wr.heap.size:=AF hB HBQ.out.size
      by_cases hjl:j<rs.length
      ·obtain ⟨b2,off2,rfl,hob2⟩:=(HR.out.keep HBQ.out hB).base (AI _ _) hBQ (by omega)
       obtain ⟨o,us,ho,hlen,hcell,hr⟩:=(HR.out.keep HBQ.out hB).at_ (AI _ _) hBQ hjl
       obtain ⟨A0,c0,A1,c1,A2,c2,A3,c3,rfl,_,_,_⟩:=iA hr
       have p0:wr.cell? ⟨b2,off2+j*7,none⟩=some (.string o.rule.head.name):=hcell 0 _ rfl
       have p1:wr.cell? ⟨b2,off2+j*7+1,none⟩=some (.slice A0 o.rule.head.terms.length c0):=hcell 1 _ rfl
       have p2:wr.cell? ⟨b2,off2+j*7+2,none⟩=some (.slice A1 o.rule.body.length c1):=hcell 2 _ rfl
       have p3:wr.cell? ⟨b2,off2+j*7+3,none⟩=some (.slice A2 o.rule.exprs.length c2):=hcell 3 _ rfl
       have p4:wr.cell? ⟨b2,off2+j*7+4,none⟩=some (.slice A3 o.rule.scopes.length c3):=hcell 4 _ rfl
       have p5:wr.cell? ⟨b2,off2+j*7+5,none⟩=some (.int .i64 o.block):=hcell 5 _ rfl
       have p6:wr.cell? ⟨b2,off2+j*7+6,none⟩=some (.int .u32 o.trusted):=hcell 6 _ rfl
       have HOJ:=AE ho
       clear hcell hlen ho hr
       go_upto_region 26 with fail
       generalize hW:World.alloc _ _=wz
       obtain ⟨hbz,hzz⟩:=al1 hW
       have HKZ:=AE (n11 hW)
       have HKX2:=AE ((HKY.out.later HQ.out).later hbz)
       have HQZ:=AE (aa HQ.out hbz)
       clear hW hbz hzz p0 p1 p2 p3 p4 p5 p6
       have k_o:=HKZ.out.cell
       have l_o:=HKZ.out.lt
       have k_x:=HKX2.out.cell
       have l_x:=HKX2.out.lt
       go_wp2_with fail
       ·rename_i h5
        exact ⟨⟨j+1,by omega,by go_num,AE (qw.next HOJ.out HHH.out (fun _=>rfl) (fun _=>rfl)),HQZ⟩,by simp [intOf];omega⟩
       ·rename_i h5 h6 h7
        exact ⟨⟨j+1,by omega,by go_num,AE (qw.next HOJ.out HHH.out (fun h8=>absurd h8 h5) (fun hd=>bit_law HXO.out (HOWN.out o (List.mem_of_getElem? HOJ.out)) hd.bit)),HQZ⟩,by simp [intOf];omega⟩
       ·rename_i h5 h6 h7
        exact ⟨⟨j+1,by omega,by go_num,AE (qw.next HOJ.out HHH.out (fun h8=>absurd h8 h5) (fun hd=>absurd (by rw [hd.len]) h7)),HQZ⟩,by simp [intOf];omega⟩
       ·rename_i h5 h6
        exact ⟨⟨j+1,by omega,by go_num,AE (qw.next HOJ.out HHH.out (fun h8=>absurd h8 h5) (fun hd=>absurd (by rw [hd.name]) h6)),HQZ⟩,by simp [intOf];omega⟩
      ·have hjr:j=rs.length:=by omega
       have hht:h=true:=HHH.out ⟨o1,by rw [hjr,List.take_length];exact HO1.out.1,HO1.out.2⟩
       subst hht
       generalize wr=wu at *
       have HVU:=AE (aa HVY.out HQ.out)
       go_wp2_with fail
       go_roundw
       case rel=>exact ⟨k+1,by omega,by go_num,HVU⟩
       case measure=>simp [intOf];omega
    ·have HB9:=AE (aa HB8.out HV.out)
     go_wp2_with fail
     refine (HAWH.out _ HB9.out).mono ?_
     rintro z w9 ⟨rfl,hb9⟩
     go_wp2_with fail
     go_ret
     exact ⟨rfl,aa HB9.out hb9⟩
theorem oS:Tryz.prog.cellsOf 31=1:=by kernel_rfl
theorem jA:Tryz.prog.cellsOf 33=3:=by kernel_rfl
theorem zX {n:Int} (hwf:(Lit.int .u32 n).wf=true):U32 n:=by
 simp only [Lit.wf] at hwf
 unfold U32
 revert hwf
 have e1:IntKind.u32.signed=false:=rfl
 have e2:IntKind.u32.bits=32:=rfl
 simp [IntKind.min,IntKind.max,e1,e2]
 omega
theorem rf {n:Int} (hwf:(Lit.int .i64 n).wf=true):I64 n:=by
 simp only [Lit.wf] at hwf
 unfold I64
 revert hwf
 have e1:IntKind.i64.signed=true:=rfl
 have e2:IntKind.i64.bits=64:=rfl
 simp [IntKind.min,IntKind.max,e1,e2]
section
variable {H:Type} {enc:TypeId × Value→H} {w:World} {base:Nat} {held:Bool}
theorem yv {n D:Nat} {cs:List Value} {x:DataW H × List MemPlace} (h:DataW.trod enc Tryz.prog w base (fun _=>true) held n 33 cs=some x) (ho:Ok Tryz.prog 33 x.1) (hD:n≤D):∃f,(ay D).rd w w.heap.size f cs:=by
 obtain ⟨hc,n',hn,hf⟩:=bi (Tryz.underlying33) h ho
 have hcl:=hc.trans jA
 match cs,hcl with
 | [c0,c1,c2],_=>
   obtain ⟨_,h0,o0⟩:=hf 0 _ _ _ _ rfl rfl rfl dR
   obtain ⟨_,h1,_⟩:=hf 1 _ _ _ _ rfl rfl rfl oS
   obtain ⟨p,hp⟩:=lY (D:=D) h0 o0 (by omega)
   obtain ⟨m,e1,_,hwf⟩:=DataW.trod_int (Tryz.underlying31) h1
   replace hp:(PrR D).rd w w.heap.size p [c0,c1]:=hp
   replace e1:[c2]=_:=e1
   have hp':=hp
   obtain ⟨v0,e0,gs,g0⟩:=hp
   simp only [List.cons.injEq,and_true] at e0 e1
   obtain ⟨rfl,rfl⟩:=e0
   subst e1
   exact ⟨⟨p,m⟩,_,rfl,hp',zX hwf⟩
end
end Go.Proofs.YtjpndglegpcdnaaGreat
