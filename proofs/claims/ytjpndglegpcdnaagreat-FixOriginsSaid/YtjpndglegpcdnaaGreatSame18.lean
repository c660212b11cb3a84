/- viaticumref18.SameFacts at equal rows. -/
import Derived.Test.YtjpndglegpcdnaaGreatFxAwL
import Derived.Test.YtjpndglegpcdnaaGreatLit
import Derived.Test.YtjpndglegpcdnaaGreatPosts2
import Derived.Test.YtjpndglegpcdnaaGreatFxD
import Derived.Test.YtjpndglegpcdnaaGreatRef3
set_option linter.unusedVariables false
set_option linter.unusedSimpArgs false
set_option maxRecDepth 100000
set_option maxHeartbeats 8000000
namespace Go.Proofs.YtjpndglegpcdnaaGreat
open Go.ChangeShapes Go.WideShapes Go.ChangeAt Go.RowKit
theorem ret_prd {fn:Func} {tmps:Array Value} {p:Tmp} {g:Nat} {w:World} {cs:Array Value} (h:fn.results=#[.cell p 26]) (hp:tmps.getD p undef=.pointer (some ⟨g,0,none⟩)) (hb:Blk w g cs) (hn:cs.size=2) :
 (results fn tmps).run Tryz.prog w=.ok (.agg cs) w:=by
 obtain ⟨T,hb⟩:=hb
 exact results_cell_row h tmps w g T cs (0,0) _ hp hb Tryz.underlying26 rfl (by rw [hn];kernel_rfl)
theorem Blk.rl2 {α:Type} {R:Reader α} {w:World} {B b:Nat} {x y:α} {us vs:List Value} {cells:Array Value} (h:Blk w b cells) (hc:cells.toList=us++vs) (hx:R.rd w B x us) (hy:R.rd w B y vs) (hb:b<B):RL R w B [x,y] (some ⟨b,0,none⟩):=fun _=>
 ⟨b,0,rfl,hb,fun i hi=>by
  have hi0:i=0∨i=1:=by simp at hi;omega
  have l1:=R.len hx
  rcases hi0 with rfl | rfl
  ·refine ⟨us,l1,⟨x,rfl,hx⟩,fun j v hj=>?_⟩
   have hl:=(List.getElem?_eq_some_iff.1 hj).1
   have e:0+0*R.k+j=j:=by omega
   rw [e,h.cell,←Array.getElem?_toList,hc,List.getElem?_append_left hl,hj]
  ·refine ⟨vs,R.len hy,⟨y,rfl,hy⟩,fun j v hj=>?_⟩
   have e:0+1*R.k+j=us.length+j:=by omega
   rw [e,h.cell,←Array.getElem?_toList,hc,List.getElem?_append_right (by omega),Nat.add_sub_cancel_left,hj]⟩
theorem RL.near {α:Type} {R:Reader α} {w w':World} {xs:List α} {A:Option Addr} (h:RL R w w.heap.size xs A) (hb:Below w.heap.size w w'):RL R w' w'.heap.size xs A:=(h.keep hb (zw _)).wide hb.size
def ma {α:Type} (R:Reader α) (xs:List α) (v:Value) (w:World):Prop:=∃A,v=.slice A xs.length xs.length∧RL R w w.heap.size xs A
theorem Stb.sl {α:Type} (R:Reader α) (xs:List α):Stb (ma R xs):=fun _ _ _ ⟨A,e,h⟩ hb=>⟨A,e,h.near hb⟩
def pV (p:Pr) (v:Value) (w:World):Prop:=∃A,v=.agg #[.string p.name,.slice A p.terms.length p.terms.length]∧RL (TmR 2) w w.heap.size p.terms A
theorem Stb.pr (p:Pr):Stb (pV p):=fun _ _ _ ⟨A,e,h⟩ hb=>⟨A,e,h.near hb⟩
def sv (r:Ru) (more:List Value) (v:Value) (w:World):Prop:=∃A0 A1,v=.agg (#[.string r.head.name,.slice A0 r.head.terms.length r.head.terms.length,.slice A1 r.body.length r.body.length,.slice none 0 0,.slice none 0 0]++more.toArray)∧RL (TmR 2) w w.heap.size r.head.terms A0∧RL (PrR 2) w w.heap.size r.body A1
theorem Stb.ru (r:Ru) (m:List Value):Stb (sv r m):=fun _ _ _ ⟨A0,A1,e,h,k⟩ hb=>⟨A0,A1,e,h.near hb,k.near hb⟩
def eG (base:Nat) (o:Int) (v:Value) (w:World):Prop:=∃b A0 A1 A2 A3,v=.slice (some ⟨b,0,none⟩) 2 2∧base≤b ∧
 Blk w b #[.string pwP,.slice A0 2 2,.slice A1 1 1,.slice none 0 0,.slice none 0 0,.int .i64 0,.int .u32 o,.string pwP,.slice A2 2 2,.slice A3 2 2,.slice none 0 0,.slice none 0 0,.int .i64 0,.int .u32 o] ∧
 (RuR 2).rd w b rY [.string pwP,.slice A0 2 2,.slice A1 1 1,.slice none 0 0,.slice none 0 0]∧(RuR 2).rd w b rZ [.string pwP,.slice A2 2 2,.slice A3 2 2,.slice none 0 0,.slice none 0 0]
theorem Stb.paths (base:Nat) (o:Int):Stb (eG base o):=fun _ _ _ ⟨b,A0,A1,A2,A3,e,h0,h,k1,k2⟩ hb=>⟨b,A0,A1,A2,A3,e,h0,h.later hb,(RuR 2).keep hb (Nat.le_of_lt h.lt) k1,(RuR 2).keep hb (Nat.le_of_lt h.lt) k2⟩
theorem pw_ru {r:Ru} {w:World} {A0 A1:Option Addr} (hn:r.head.name.size≤140737488351232) (h2:r.head.terms.length=2) (h3:r.body.length≤2) (he:r.exprs=[]) (hs:r.scopes=[]) (h:RL (TmR 2) w w.heap.size r.head.terms A0) (k:RL (PrR 2) w w.heap.size r.body A1):(RuR 2).rd w w.heap.size r [.string r.head.name,.slice A0 r.head.terms.length r.head.terms.length,.slice A1 r.body.length r.body.length,.slice none 0 0,.slice none 0 0]:=by
 refine lit_ru hn (ln h (zw _) (by simp only [TmR];omega) (by omega)) (ln k (zw _) (by simp only [PrR];omega) (by omega)) ?_ ?_
 ·rw [he];exact vA
 ·rw [hs];exact vA
theorem eG.lower {base B:Nat} {o:Int} {v:Value} {w:World} (h:eG base o v w) (hB:B≤base):eG B o v w:=by
 obtain ⟨b,A0,A1,A2,A3,e,h0,h⟩:=h
 exact ⟨b,A0,A1,A2,A3,e,zv hB h0,h⟩
theorem eG.rl {base:Nat} {o:Int} {v:Value} {w:World} (h:eG base o v w) (ho:U32 o):∃A,v=.slice A 2 2∧RL (OwR 2) w w.heap.size (pwO o) A:=by
 obtain ⟨b,A0,A1,A2,A3,rfl,_,h,k1,k2⟩:=h
 have hlt:=h.lt
 exact ⟨_,rfl,h.rl2 (R:=OwR 2) (x:=⟨rY,0,o⟩) (y:=⟨rZ,0,o⟩) (us:=[_,_,_,_,_,_,_]) (vs:=[_,_,_,_,_,_,_]) rfl ⟨_,rfl,(RuR 2).wide (by omega) k1,by unfold I64;simp,ho⟩ ⟨_,rfl,(RuR 2).wide (by omega) k2,by unfold I64;simp,ho⟩ hlt⟩
theorem lU {s:ByteArray} {w:World}:Calls Tryz.prog 25 #[.string s] w fun z w'=>z=.returned (.agg #[.int .i64 1,.int .i64 0,.string s,.slice none 0 0])∧Below w.heap.size w w':=by
 go_enter Tryz.func25,Tryz.ntmps25
 go_upto_region 1 with fail
 generalize hW:World.alloc _ _=w1
 obtain ⟨hb1,hz⟩:=al1 hW
 have HS1:=zu (n11 hW)
 have HB1:=zu hb1
 clear hW hb1 hz
 have f_s:=HS1.out.free
 have k_s:=HS1.out.cell
 have l_s:=HS1.out.lt
 go_wp2_with fail
 refine bodyPost_ret (mU rfl rfl (((((((HS1.out.set_ 0 (.int .i64 1))).set_ 1 (.int .i64 0))).set_ 2 (.string s))).set_ 3 (.slice none 0 0)) rfl) rfl ?_
 exact ⟨rfl,(((HB1.out.setCell (p:=⟨w.heap.size,0,none⟩) (zw _) _).setCell (p:=⟨w.heap.size,1,none⟩) (zw _) _).setCell (p:=⟨w.heap.size,2,none⟩) (zw _) _).setCell (p:=⟨w.heap.size,3,none⟩) (zw _) _⟩
theorem bl {n:Int} {w:World}:Calls Tryz.prog 9 #[.int .i64 n] w fun z w'=>z=.returned (.agg #[.int .i64 2,.int .i64 n,.string ⟨#[]⟩,.slice none 0 0])∧Below w.heap.size w w':=by
 go_enter Tryz.func9,Tryz.ntmps9
 go_upto_region 1 with fail
 generalize hW:World.alloc _ _=w1
 obtain ⟨hb1,hz⟩:=al1 hW
 have HS1:=zu (n11 hW)
 have HB1:=zu hb1
 clear hW hb1 hz
 have f_s:=HS1.out.free
 have k_s:=HS1.out.cell
 have l_s:=HS1.out.lt
 go_wp2_with fail
 refine bodyPost_ret (mU rfl rfl (((((((HS1.out.set_ 0 (.int .i64 2))).set_ 1 (.int .i64 n))).set_ 2 (.string ⟨#[]⟩))).set_ 3 (.slice none 0 0)) rfl) rfl ?_
 exact ⟨rfl,(((HB1.out.setCell (p:=⟨w.heap.size,0,none⟩) (zw _) _).setCell (p:=⟨w.heap.size,1,none⟩) (zw _) _).setCell (p:=⟨w.heap.size,2,none⟩) (zw _) _).setCell (p:=⟨w.heap.size,3,none⟩) (zw _) _⟩
theorem bi {s:ByteArray} {A:Option Addr} {m c:Nat} {w:World}:Calls Tryz.prog 8 #[.string s,.slice A m c] w fun z w'=>z=.returned (.agg #[.string s,.slice A m c])∧Below w.heap.size w w':=by
 go_enter Tryz.func8,Tryz.ntmps8
 go_upto_region 1 with fail
 generalize hW:World.alloc _ _=w1
 obtain ⟨hb1,hz⟩:=al1 hW
 have HS1:=zu (n11 hW)
 have HB1:=zu hb1
 clear hW hb1 hz
 have f_s:=HS1.out.free
 have k_s:=HS1.out.cell
 have l_s:=HS1.out.lt
 go_wp2_with fail
 refine bodyPost_ret (ret_prd rfl rfl (((HS1.out.set_ 0 (.string s))).set_ 1 (.slice A m c)) rfl) rfl ?_
 exact ⟨rfl,(HB1.out.setCell (p:=⟨w.heap.size,0,none⟩) (zw _) _).setCell (p:=⟨w.heap.size,1,none⟩) (zw _) _⟩
theorem lz {o:Int} {w:World} (ho:U32 o):Calls Tryz.prog 11 #[.int .u32 o] w fun z w'=>(∃v,z=.returned v∧eG w.heap.size o v w')∧Below w.heap.size w w':=by
 go_enter Tryz.func11,Tryz.ntmps11
 go_wp2_with fail
 refine lU.mono ?_
 rintro z wa ⟨rfl,hba⟩
 have HBa:=zu hba
 clear hba
 go_wp2_with fail
 refine lU.mono ?_
 rintro z wb ⟨rfl,hbb⟩
 have HBb:=zu (aa HBa.out hbb)
 clear hbb
 go_wp2_with fail
 refine lU.mono ?_
 rintro z wc ⟨rfl,hbc⟩
 have HBc:=zu (aa HBb.out hbc)
 clear hbc
 go_upto_region 2 with fail
 generalize hW:World.alloc _ _=w1
 obtain ⟨hb1,hz1⟩:=al3 hW
 have HX1:=zu (n31 hW)
 have HY1:=zu (n32 hW)
 have HZ1:=zu (n33 hW)
 have HB1:=zu (aa HBc.out hb1)
 clear hW hb1 hz1
 have HST:Hid (yJ [fun v _=>v=.agg #[.int .i64 1,.int .i64 0,.string ⟨#[120]⟩,.slice none 0 0],fun v _=>v=.agg #[.int .i64 1,.int .i64 0,.string ⟨#[121]⟩,.slice none 0 0],ma (TmR 2) [pwV 120,pwV 121],pV (pwQ pwP (pwV 120) (pwV 121)),fun v _=>v=.agg #[.int .i64 1,.int .i64 0,.string ⟨#[120]⟩,.slice none 0 0],fun v _=>v=.agg #[.int .i64 1,.int .i64 0,.string ⟨#[121]⟩,.slice none 0 0],ma (TmR 2) [pwV 120,pwV 121],pV (pwQ pwE (pwV 120) (pwV 121)),ma (PrR 2) [pwQ pwE (pwV 120) (pwV 121)],sv rY [],fun v _=>v=.int .u32 o,sv rY [.int .i64 0,.int .u32 o],fun v _=>v=.agg #[.int .i64 1,.int .i64 0,.string ⟨#[120]⟩,.slice none 0 0],fun v _=>v=.agg #[.int .i64 1,.int .i64 0,.string ⟨#[122]⟩,.slice none 0 0],ma (TmR 2) [pwV 120,pwV 122],pV (pwQ pwP (pwV 120) (pwV 122)),fun v _=>v=.agg #[.int .i64 1,.int .i64 0,.string ⟨#[120]⟩,.slice none 0 0],fun v _=>v=.agg #[.int .i64 1,.int .i64 0,.string ⟨#[121]⟩,.slice none 0 0],ma (TmR 2) [pwV 120,pwV 121],pV (pwQ pwP (pwV 120) (pwV 121)),fun v _=>v=.agg #[.int .i64 1,.int .i64 0,.string ⟨#[121]⟩,.slice none 0 0],fun v _=>v=.agg #[.int .i64 1,.int .i64 0,.string ⟨#[122]⟩,.slice none 0 0],ma (TmR 2) [pwV 121,pwV 122],pV (pwQ pwE (pwV 121) (pwV 122)),ma (PrR 2) [pwQ pwP (pwV 120) (pwV 121),pwQ pwE (pwV 121) (pwV 122)],sv rZ [],fun v _=>v=.int .u32 o,sv rZ [.int .i64 0,.int .u32 o],eG w1.heap.size o]):=zu ⟨Stb.val _,⟨Stb.val _,⟨Stb.sl _ _,⟨Stb.pr _,⟨Stb.val _,⟨Stb.val _,⟨Stb.sl _ _,⟨Stb.pr _,⟨Stb.sl _ _,⟨Stb.ru _ _,⟨Stb.val _,⟨Stb.ru _ _,⟨Stb.val _,⟨Stb.val _,⟨Stb.sl _ _,⟨Stb.pr _,⟨Stb.val _,⟨Stb.val _,⟨Stb.sl _ _,⟨Stb.pr _,⟨Stb.val _,⟨Stb.val _,⟨Stb.sl _ _,⟨Stb.pr _,⟨Stb.sl _ _,⟨Stb.ru _ _,⟨Stb.val _,⟨Stb.ru _ _,⟨Stb.paths _ _,trivial⟩⟩⟩⟩⟩⟩⟩⟩⟩⟩⟩⟩⟩⟩⟩⟩⟩⟩⟩⟩⟩⟩⟩⟩⟩⟩⟩⟩⟩
 have HH0:Hid (w1.heap.size≤w1.drew.heap.size):=zu (zw _)
 have HDR:Hid (Below w1.heap.size w1 w1.drew):=zu (zy _ _).drew
 refine cT 29 (nQ [fun v _=>v=.agg #[.int .i64 1,.int .i64 0,.string ⟨#[120]⟩,.slice none 0 0],fun v _=>v=.agg #[.int .i64 1,.int .i64 0,.string ⟨#[121]⟩,.slice none 0 0],ma (TmR 2) [pwV 120,pwV 121],pV (pwQ pwP (pwV 120) (pwV 121)),fun v _=>v=.agg #[.int .i64 1,.int .i64 0,.string ⟨#[120]⟩,.slice none 0 0],fun v _=>v=.agg #[.int .i64 1,.int .i64 0,.string ⟨#[121]⟩,.slice none 0 0],ma (TmR 2) [pwV 120,pwV 121],pV (pwQ pwE (pwV 120) (pwV 121)),ma (PrR 2) [pwQ pwE (pwV 120) (pwV 121)],sv rY [],fun v _=>v=.int .u32 o,sv rY [.int .i64 0,.int .u32 o],fun v _=>v=.agg #[.int .i64 1,.int .i64 0,.string ⟨#[120]⟩,.slice none 0 0],fun v _=>v=.agg #[.int .i64 1,.int .i64 0,.string ⟨#[122]⟩,.slice none 0 0],ma (TmR 2) [pwV 120,pwV 122],pV (pwQ pwP (pwV 120) (pwV 122)),fun v _=>v=.agg #[.int .i64 1,.int .i64 0,.string ⟨#[120]⟩,.slice none 0 0],fun v _=>v=.agg #[.int .i64 1,.int .i64 0,.string ⟨#[121]⟩,.slice none 0 0],ma (TmR 2) [pwV 120,pwV 121],pV (pwQ pwP (pwV 120) (pwV 121)),fun v _=>v=.agg #[.int .i64 1,.int .i64 0,.string ⟨#[121]⟩,.slice none 0 0],fun v _=>v=.agg #[.int .i64 1,.int .i64 0,.string ⟨#[122]⟩,.slice none 0 0],ma (TmR 2) [pwV 121,pwV 122],pV (pwQ pwE (pwV 121) (pwV 122)),ma (PrR 2) [pwQ pwP (pwV 120) (pwV 121),pwQ pwE (pwV 121) (pwV 122)],sv rZ [],fun v _=>v=.int .u32 o,sv rZ [.int .i64 0,.int .u32 o],eG w1.heap.size o]) [] (w1.heap.size) HH0.out (by kernel_rfl) (by kernel_rfl) (by kernel_rfl) (by kernel_rfl) (by kernel_rfl) rfl (ae (ae (ae (ae (ae (ae (ae (ae (ae (ae (ae (ae (ae (ae (ae (ae (ae (ae (ae (ae (ae (ae (ae (ae (ae (ae (ae (ae (ae iQ ?op0_) ?op1_) ?op2_) ?op3_) ?op4_) ?op5_) ?op6_) ?op7_) ?op8_) ?op9_) ?op10_) ?op11_) ?op12_) ?op13_) ?op14_) ?op15_) ?op16_) ?op17_) ?op18_) ?op19_) ?op20_) ?op21_) ?op22_) ?op23_) ?op24_) ?op25_) ?op26_) ?op27_) ?op28_) ?last_
 case op0_=>
  refine mvA fun T w' hk hb hgr hd K hK=>?_
  have h_:T[3]?.getD undef=.pointer (some ⟨wc.heap.size,0,none⟩):=gqd (mvK hk 3)
  have k_:=(HX1.out.later (HDR.out.trans hb)).cell
  have l_:=(HX1.out.later (HDR.out.trans hb)).lt
  clear hk hd
  go_simp
  exact hK.out _ _ (mvM HST HH0 hb) rfl
 case op1_=>
  refine mvA fun T w' hk hb hgr hd K hK=>?_
  have h_:T[4]?.getD undef=.pointer (some ⟨wc.heap.size+1,0,none⟩):=gqd (mvK hk 4)
  have k_:=(HY1.out.later (HDR.out.trans hb)).cell
  have l_:=(HY1.out.later (HDR.out.trans hb)).lt
  clear hk hd
  go_simp
  exact hK.out _ _ (mvM HST HH0 hb) rfl
 case op2_=>
  refine mvA fun T w' hk hb hgr hd K hK=>?_
  have d0:T[9]?.getD undef=.agg #[.int .i64 1,.int .i64 0,.string ⟨#[120]⟩,.slice none 0 0]:=gqd (mvD hd 0)
  have d1:T[10]?.getD undef=.agg #[.int .i64 1,.int .i64 0,.string ⟨#[121]⟩,.slice none 0 0]:=gqd (mvD hd 1)
  clear hk hd
  go_simp
  generalize hW:World.alloc _ _=w4
  obtain ⟨hb4,hz4⟩:=al1 hW
  have hN4:=hW▸heap_alloc_new w' _
  clear hW
  exact hK.out _ _ (mvN HST HH0 hb hb4) ⟨_,rfl,(show Blk w4 w'.heap.size _ from ⟨_,hN4⟩).rl2 (R:=TmR 2) (us:=[_,_,_,_]) (vs:=[_,_,_,_]) rfl (eD (by unfold I64;omega) (by unfold I64;omega) (by decide)) (eD (by unfold I64;omega) (by unfold I64;omega) (by decide)) (Array.getElem?_eq_some_iff.1 hN4).1⟩
 case op3_=>
  refine mvA fun T w' hk hb hgr hd K hK=>?_
  have d2:=mvD hd 2
  obtain ⟨A,e,rr⟩:=(show ma (TmR 2) [pwV 120,pwV 121] (T.getD 11 undef) w' from d2)
  clear d2
  replace e:T.getD 11 undef=.slice A 2 2:=e
  rw [Array.getD_eq_getD_getElem?] at e
  clear hk hd
  go_simp
  refine bi.mono ?_
  rintro z w4 ⟨rfl,hb4⟩
  exact hK.out _ _ (mvN HST HH0 hb hb4) ⟨A,rfl,rr.near hb4⟩
 case op4_=>
  refine mvA fun T w' hk hb hgr hd K hK=>?_
  have h_:T[3]?.getD undef=.pointer (some ⟨wc.heap.size,0,none⟩):=gqd (mvK hk 3)
  have k_:=(HX1.out.later (HDR.out.trans hb)).cell
  have l_:=(HX1.out.later (HDR.out.trans hb)).lt
  clear hk hd
  go_simp
  exact hK.out _ _ (mvM HST HH0 hb) rfl
 case op5_=>
  refine mvA fun T w' hk hb hgr hd K hK=>?_
  have h_:T[4]?.getD undef=.pointer (some ⟨wc.heap.size+1,0,none⟩):=gqd (mvK hk 4)
  have k_:=(HY1.out.later (HDR.out.trans hb)).cell
  have l_:=(HY1.out.later (HDR.out.trans hb)).lt
  clear hk hd
  go_simp
  exact hK.out _ _ (mvM HST HH0 hb) rfl
 case op6_=>
  refine mvA fun T w' hk hb hgr hd K hK=>?_
  have d4:T[13]?.getD undef=.agg #[.int .i64 1,.int .i64 0,.string ⟨#[120]⟩,.slice none 0 0]:=gqd (mvD hd 4)
  have d5:T[14]?.getD undef=.agg #[.int .i64 1,.int .i64 0,.string ⟨#[121]⟩,.slice none 0 0]:=gqd (mvD hd 5)
  clear hk hd
  go_simp
  generalize hW:World.alloc _ _=w4
  obtain ⟨hb4,hz4⟩:=al1 hW
  have hN4:=hW▸heap_alloc_new w' _
  clear hW
  exact hK.out _ _ (mvN HST HH0 hb hb4) ⟨_,rfl,(show Blk w4 w'.heap.size _ from ⟨_,hN4⟩).rl2 (R:=TmR 2) (us:=[_,_,_,_]) (vs:=[_,_,_,_]) rfl (eD (by unfold I64;omega) (by unfold I64;omega) (by decide)) (eD (by unfold I64;omega) (by unfold I64;omega) (by decide)) (Array.getElem?_eq_some_iff.1 hN4).1⟩
 case op7_=>
  refine mvA fun T w' hk hb hgr hd K hK=>?_
  have d6:=mvD hd 6
  obtain ⟨A,e,rr⟩:=(show ma (TmR 2) [pwV 120,pwV 121] (T.getD 15 undef) w' from d6)
  clear d6
  replace e:T.getD 15 undef=.slice A 2 2:=e
  rw [Array.getD_eq_getD_getElem?] at e
  clear hk hd
  go_simp
  refine bi.mono ?_
  rintro z w4 ⟨rfl,hb4⟩
  exact hK.out _ _ (mvN HST HH0 hb hb4) ⟨A,rfl,rr.near hb4⟩
 case op8_=>
  refine mvA fun T w' hk hb hgr hd K hK=>?_
  have d7:=mvD hd 7
  obtain ⟨A1,e1,r1⟩:=(show pV (pwQ pwE (pwV 120) (pwV 121)) (T.getD 16 undef) w' from d7)
  clear d7
  replace e1:T.getD 16 undef=.agg #[.string pwE,.slice A1 2 2]:=e1
  rw [Array.getD_eq_getD_getElem?] at e1
  clear hk hd
  go_simp
  generalize hW:World.alloc _ _=w4
  obtain ⟨hb4,hz4⟩:=al1 hW
  have hN4:=hW▸heap_alloc_new w' _
  clear hW
  exact hK.out _ _ (mvN HST HH0 hb hb4) ⟨_,rfl,(show Blk w4 w'.heap.size _ from ⟨_,hN4⟩).rl (R:=PrR 2) (pc (by decide) (ln ((r1).near hb4) (zw _) (by simp [TmR,pwQ]) (by simp [pwQ]))) (Array.getElem?_eq_some_iff.1 hN4).1⟩
 case op9_=>
  refine mvA fun T w' hk hb hgr hd K hK=>?_
  have d3:=mvD hd 3
  have d8:=mvD hd 8
  obtain ⟨A1,e1,r1⟩:=(show pV (pwQ pwP (pwV 120) (pwV 121)) (T.getD 12 undef) w' from d3)
  clear d3
  replace e1:T.getD 12 undef=.agg #[.string pwP,.slice A1 2 2]:=e1
  rw [Array.getD_eq_getD_getElem?] at e1
  obtain ⟨B1,e2,r2⟩:=(show ma (PrR 2) [pwQ pwE (pwV 120) (pwV 121)] (T.getD 17 undef) w' from d8)
  clear d8
  replace e2:T.getD 17 undef=.slice B1 1 1:=e2
  rw [Array.getD_eq_getD_getElem?] at e2
  clear hk hd
  go_simp
  exact hK.out _ _ (mvM HST HH0 hb) ⟨A1,B1,rfl,r1,r2⟩
 case op10_=>
  refine mvA fun T w' hk hb hgr hd K hK=>?_
  have h_:T[0]?.getD undef=.int .u32 o:=gqd (mvK hk 0)
  clear hk hd
  go_simp
  exact hK.out _ _ (mvM HST HH0 hb) rfl
 case op11_=>
  refine mvA fun T w' hk hb hgr hd K hK=>?_
  have d9:=mvD hd 9
  obtain ⟨A1,B1,e1,r1,r2⟩:=(show sv rY [] (T.getD 18 undef) w' from d9)
  clear d9
  replace e1:T.getD 18 undef=.agg #[.string pwP,.slice A1 2 2,.slice B1 1 1,.slice none 0 0,.slice none 0 0]:=e1
  rw [Array.getD_eq_getD_getElem?] at e1
  have d10:T[19]?.getD undef=.int .u32 o:=gqd (mvD hd 10)
  clear hk hd
  go_simp
  exact hK.out _ _ (mvM HST HH0 hb) ⟨A1,B1,rfl,r1,r2⟩
 case op12_=>
  refine mvA fun T w' hk hb hgr hd K hK=>?_
  have h_:T[3]?.getD undef=.pointer (some ⟨wc.heap.size,0,none⟩):=gqd (mvK hk 3)
  have k_:=(HX1.out.later (HDR.out.trans hb)).cell
  have l_:=(HX1.out.later (HDR.out.trans hb)).lt
  clear hk hd
  go_simp
  exact hK.out _ _ (mvM HST HH0 hb) rfl
 case op13_=>
  refine mvA fun T w' hk hb hgr hd K hK=>?_
  have h_:T[5]?.getD undef=.pointer (some ⟨wc.heap.size+1+1,0,none⟩):=gqd (mvK hk 5)
  have k_:=(HZ1.out.later (HDR.out.trans hb)).cell
  have l_:=(HZ1.out.later (HDR.out.trans hb)).lt
  clear hk hd
  go_simp
  exact hK.out _ _ (mvM HST HH0 hb) rfl
 case op14_=>
  refine mvA fun T w' hk hb hgr hd K hK=>?_
  have d12:T[21]?.getD undef=.agg #[.int .i64 1,.int .i64 0,.string ⟨#[120]⟩,.slice none 0 0]:=gqd (mvD hd 12)
  have d13:T[22]?.getD undef=.agg #[.int .i64 1,.int .i64 0,.string ⟨#[122]⟩,.slice none 0 0]:=gqd (mvD hd 13)
  clear hk hd
  go_simp
  generalize hW:World.alloc _ _=w4
  obtain ⟨hb4,hz4⟩:=al1 hW
  have hN4:=hW▸heap_alloc_new w' _
  clear hW
  exact hK.out _ _ (mvN HST HH0 hb hb4) ⟨_,rfl,(show Blk w4 w'.heap.size _ from ⟨_,hN4⟩).rl2 (R:=TmR 2) (us:=[_,_,_,_]) (vs:=[_,_,_,_]) rfl (eD (by unfold I64;omega) (by unfold I64;omega) (by decide)) (eD (by unfold I64;omega) (by unfold I64;omega) (by decide)) (Array.getElem?_eq_some_iff.1 hN4).1⟩
 case op15_=>
  refine mvA fun T w' hk hb hgr hd K hK=>?_
  have d14:=mvD hd 14
  obtain ⟨A,e,rr⟩:=(show ma (TmR 2) [pwV 120,pwV 122] (T.getD 23 undef) w' from d14)
  clear d14
  replace e:T.getD 23 undef=.slice A 2 2:=e
  rw [Array.getD_eq_getD_getElem?] at e
  clear hk hd
  go_simp
  refine bi.mono ?_
  rintro z w4 ⟨rfl,hb4⟩
  exact hK.out _ _ (mvN HST HH0 hb hb4) ⟨A,rfl,rr.near hb4⟩
 case op16_=>
  refine mvA fun T w' hk hb hgr hd K hK=>?_
  have h_:T[3]?.getD undef=.pointer (some ⟨wc.heap.size,0,none⟩):=gqd (mvK hk 3)
  have k_:=(HX1.out.later (HDR.out.trans hb)).cell
  have l_:=(HX1.out.later (HDR.out.trans hb)).lt
  clear hk hd
  go_simp
  exact hK.out _ _ (mvM HST HH0 hb) rfl
 case op17_=>
  refine mvA fun T w' hk hb hgr hd K hK=>?_
  have h_:T[4]?.getD undef=.pointer (some ⟨wc.heap.size+1,0,none⟩):=gqd (mvK hk 4)
  have k_:=(HY1.out.later (HDR.out.trans hb)).cell
  have l_:=(HY1.out.later (HDR.out.trans hb)).lt
  clear hk hd
  go_simp
  exact hK.out _ _ (mvM HST HH0 hb) rfl
 case op18_=>
  refine mvA fun T w' hk hb hgr hd K hK=>?_
  have d16:T[25]?.getD undef=.agg #[.int .i64 1,.int .i64 0,.string ⟨#[120]⟩,.slice none 0 0]:=gqd (mvD hd 16)
  have d17:T[26]?.getD undef=.agg #[.int .i64 1,.int .i64 0,.string ⟨#[121]⟩,.slice none 0 0]:=gqd (mvD hd 17)
  clear hk hd
  go_simp
  generalize hW:World.alloc _ _=w4
  obtain ⟨hb4,hz4⟩:=al1 hW
  have hN4:=hW▸heap_alloc_new w' _
  clear hW
  exact hK.out _ _ (mvN HST HH0 hb hb4) ⟨_,rfl,(show Blk w4 w'.heap.size _ from ⟨_,hN4⟩).rl2 (R:=TmR 2) (us:=[_,_,_,_]) (vs:=[_,_,_,_]) rfl (eD (by unfold I64;omega) (by unfold I64;omega) (by decide)) (eD (by unfold I64;omega) (by unfold I64;omega) (by decide)) (Array.getElem?_eq_some_iff.1 hN4).1⟩
 case op19_=>
  refine mvA fun T w' hk hb hgr hd K hK=>?_
  have d18:=mvD hd 18
  obtain ⟨A,e,rr⟩:=(show ma (TmR 2) [pwV 120,pwV 121] (T.getD 27 undef) w' from d18)
  clear d18
  replace e:T.getD 27 undef=.slice A 2 2:=e
  rw [Array.getD_eq_getD_getElem?] at e
  clear hk hd
  go_simp
  refine bi.mono ?_
  rintro z w4 ⟨rfl,hb4⟩
  exact hK.out _ _ (mvN HST HH0 hb hb4) ⟨A,rfl,rr.near hb4⟩
 case op20_=>
  refine mvA fun T w' hk hb hgr hd K hK=>?_
  have h_:T[4]?.getD undef=.pointer (some ⟨wc.heap.size+1,0,none⟩):=gqd (mvK hk 4)
  have k_:=(HY1.out.later (HDR.out.trans hb)).cell
  have l_:=(HY1.out.later (HDR.out.trans hb)).lt
  clear hk hd
  go_simp
  exact hK.out _ _ (mvM HST HH0 hb) rfl
 case op21_=>
  refine mvA fun T w' hk hb hgr hd K hK=>?_
  have h_:T[5]?.getD undef=.pointer (some ⟨wc.heap.size+1+1,0,none⟩):=gqd (mvK hk 5)
  have k_:=(HZ1.out.later (HDR.out.trans hb)).cell
  have l_:=(HZ1.out.later (HDR.out.trans hb)).lt
  clear hk hd
  go_simp
  exact hK.out _ _ (mvM HST HH0 hb) rfl
 case op22_=>
  refine mvA fun T w' hk hb hgr hd K hK=>?_
  have d20:T[29]?.getD undef=.agg #[.int .i64 1,.int .i64 0,.string ⟨#[121]⟩,.slice none 0 0]:=gqd (mvD hd 20)
  have d21:T[30]?.getD undef=.agg #[.int .i64 1,.int .i64 0,.string ⟨#[122]⟩,.slice none 0 0]:=gqd (mvD hd 21)
  clear hk hd
  go_simp
  generalize hW:World.alloc _ _=w4
  obtain ⟨hb4,hz4⟩:=al1 hW
  have hN4:=hW▸heap_alloc_new w' _
  clear hW
  exact hK.out _ _ (mvN HST HH0 hb hb4) ⟨_,rfl,(show Blk w4 w'.heap.size _ from ⟨_,hN4⟩).rl2 (R:=TmR 2) (us:=[_,_,_,_]) (vs:=[_,_,_,_]) rfl (eD (by unfold I64;omega) (by unfold I64;omega) (by decide)) (eD (by unfold I64;omega) (by unfold I64;omega) (by decide)) (Array.getElem?_eq_some_iff.1 hN4).1⟩
 case op23_=>
  refine mvA fun T w' hk hb hgr hd K hK=>?_
  have d22:=mvD hd 22
  obtain ⟨A,e,rr⟩:=(show ma (TmR 2) [pwV 121,pwV 122] (T.getD 31 undef) w' from d22)
  clear d22
  replace e:T.getD 31 undef=.slice A 2 2:=e
  rw [Array.getD_eq_getD_getElem?] at e
  clear hk hd
  go_simp
  refine bi.mono ?_
  rintro z w4 ⟨rfl,hb4⟩
  exact hK.out _ _ (mvN HST HH0 hb hb4) ⟨A,rfl,rr.near hb4⟩
 case op24_=>
  refine mvA fun T w' hk hb hgr hd K hK=>?_
  have d19:=mvD hd 19
  have d23:=mvD hd 23
  obtain ⟨A1,e1,r1⟩:=(show pV (pwQ pwP (pwV 120) (pwV 121)) (T.getD 28 undef) w' from d19)
  clear d19
  replace e1:T.getD 28 undef=.agg #[.string pwP,.slice A1 2 2]:=e1
  rw [Array.getD_eq_getD_getElem?] at e1
  obtain ⟨A2,e2,r2⟩:=(show pV (pwQ pwE (pwV 121) (pwV 122)) (T.getD 32 undef) w' from d23)
  clear d23
  replace e2:T.getD 32 undef=.agg #[.string pwE,.slice A2 2 2]:=e2
  rw [Array.getD_eq_getD_getElem?] at e2
  clear hk hd
  go_simp
  generalize hW:World.alloc _ _=w4
  obtain ⟨hb4,hz4⟩:=al1 hW
  have hN4:=hW▸heap_alloc_new w' _
  clear hW
  exact hK.out _ _ (mvN HST HH0 hb hb4) ⟨_,rfl,(show Blk w4 w'.heap.size _ from ⟨_,hN4⟩).rl2 (R:=PrR 2) (us:=[_,_]) (vs:=[_,_]) rfl (pc (by decide) (ln ((r1).near hb4) (zw _) (by simp [TmR,pwQ]) (by simp [pwQ]))) (pc (by decide) (ln ((r2).near hb4) (zw _) (by simp [TmR,pwQ]) (by simp [pwQ]))) (Array.getElem?_eq_some_iff.1 hN4).1⟩
 case op25_=>
  refine mvA fun T w' hk hb hgr hd K hK=>?_
  have d15:=mvD hd 15
  have d24:=mvD hd 24
  obtain ⟨A1,e1,r1⟩:=(show pV (pwQ pwP (pwV 120) (pwV 122)) (T.getD 24 undef) w' from d15)
  clear d15
  replace e1:T.getD 24 undef=.agg #[.string pwP,.slice A1 2 2]:=e1
  rw [Array.getD_eq_getD_getElem?] at e1
  obtain ⟨B1,e2,r2⟩:=(show ma (PrR 2) [pwQ pwP (pwV 120) (pwV 121),pwQ pwE (pwV 121) (pwV 122)] (T.getD 33 undef) w' from d24)
  clear d24
  replace e2:T.getD 33 undef=.slice B1 2 2:=e2
  rw [Array.getD_eq_getD_getElem?] at e2
  clear hk hd
  go_simp
  exact hK.out _ _ (mvM HST HH0 hb) ⟨A1,B1,rfl,r1,r2⟩
 case op26_=>
  refine mvA fun T w' hk hb hgr hd K hK=>?_
  have h_:T[0]?.getD undef=.int .u32 o:=gqd (mvK hk 0)
  clear hk hd
  go_simp
  exact hK.out _ _ (mvM HST HH0 hb) rfl
 case op27_=>
  refine mvA fun T w' hk hb hgr hd K hK=>?_
  have d25:=mvD hd 25
  obtain ⟨A1,B1,e1,r1,r2⟩:=(show sv rZ [] (T.getD 34 undef) w' from d25)
  clear d25
  replace e1:T.getD 34 undef=.agg #[.string pwP,.slice A1 2 2,.slice B1 2 2,.slice none 0 0,.slice none 0 0]:=e1
  rw [Array.getD_eq_getD_getElem?] at e1
  have d26:T[35]?.getD undef=.int .u32 o:=gqd (mvD hd 26)
  clear hk hd
  go_simp
  exact hK.out _ _ (mvM HST HH0 hb) ⟨A1,B1,rfl,r1,r2⟩
 case op28_=>
  refine mvA fun T w' hk hb hgr hd K hK=>?_
  have d11:=mvD hd 11
  have d27:=mvD hd 27
  obtain ⟨A1,B1,e1,r1,s1⟩:=(show sv rY [.int .i64 0,.int .u32 o] (T.getD 20 undef) w' from d11)
  clear d11
  replace e1:T.getD 20 undef=.agg #[.string pwP,.slice A1 2 2,.slice B1 1 1,.slice none 0 0,.slice none 0 0,.int .i64 0,.int .u32 o]:=e1
  rw [Array.getD_eq_getD_getElem?] at e1
  obtain ⟨A2,B2,e2,r2,s2⟩:=(show sv rZ [.int .i64 0,.int .u32 o] (T.getD 36 undef) w' from d27)
  clear d27
  replace e2:T.getD 36 undef=.agg #[.string pwP,.slice A2 2 2,.slice B2 2 2,.slice none 0 0,.slice none 0 0,.int .i64 0,.int .u32 o]:=e2
  rw [Array.getD_eq_getD_getElem?] at e2
  clear hk hd
  go_simp
  generalize hW:World.alloc _ _=w4
  obtain ⟨hb4,hz4⟩:=al1 hW
  have hN4:=hW▸heap_alloc_new w' _
  clear hW
  exact hK.out _ _ (mvN HST HH0 hb hb4) ⟨w'.heap.size,A1,B1,A2,B2,rfl,hb.size,⟨_,hN4⟩,((RuR 2).keep hb4 (zw _) (pw_ru (r:=rY) (by decide) rfl (by decide) rfl rfl r1 s1)),((RuR 2).keep hb4 (zw _) (pw_ru (r:=rZ) (by decide) rfl (by decide) rfl rfl r2 s2))⟩
 case last_=>
  refine mvL fun T w' hk hb hgr hd K hK=>?_
  have d28:=mvD hd 28
  replace d28:eG w1.heap.size o (T.getD 37 undef) w':=d28
  generalize hv:T.getD 37 undef=v at d28
  have HP:=zu d28
  clear d28
  have hT:=ku hk.1
  obtain ⟨f_,hf_⟩:∃f_:Nat→Value,(fun t=>T.getD t undef)=f_:=⟨_,rfl⟩
  rw [hf_] at hT
  replace hv:f_ 37=_:=(congrFun hf_ 37).symm.trans hv
  replace hT:T=#[f_ 0,f_ 1,f_ 2,f_ 3,f_ 4,f_ 5,f_ 6,f_ 7,f_ 8,f_ 9,f_ 10,f_ 11,f_ 12,f_ 13,f_ 14,f_ 15,f_ 16,f_ 17,f_ 18,f_ 19,f_ 20,f_ 21,f_ 22,f_ 23,f_ 24,f_ 25,f_ 26,f_ 27,f_ 28,f_ 29,f_ 30,f_ 31,f_ 32,f_ 33,f_ 34,f_ 35,f_ 36,f_ 37]:=hT
  clear hf_
  subst hT
  rw [hv]
  clear hd hk
  go_simp
  refine hK.out _ _ ?_
  clear hK
  have HB2:=zu (HB1.out.trans ((HDR.out.trans hb).mono HB1.out.size))
  go_wp2_with fail
  go_ret
  exact ⟨⟨v,rfl,HP.out.lower HB1.out.size⟩,HB2.out⟩
theorem pL {d B c:Nat} {l:List Fc} {A:Option Addr} {w:World} (hl:RL (ax (d+1)) w B l A) (hB:B≤w.heap.size) (hn:l.length≤1000) :
 Calls Tryz.prog 21 #[.slice A l.length c] w fun z w'=>(∃A' c',z=.returned (.slice A' (stL l).length c')∧RL (ax (d+1)) w' w'.heap.size (stL l) A')∧Below w.heap.size w w':=by
 have HL:=zu hl
 clear hl
 go_enter Tryz.func21,Tryz.ntmps21
 go_upto_region 3 with fail
 generalize hW:World.alloc _ _=w2
 obtain ⟨hb2,hz2⟩:=al1 hW
 have HM2:=zu (n11 hW)
 have HB2:=zu hb2
 have hsz2:=hb2.size
 have hml:=HM2.out.lt
 have HT2:Hid (DSt (w.heap.size+1) d B w2 w.heap.size [] none 0):=zu ⟨HM2.out,by omega,by omega,am.nil _ _ _ _ _,by simp,by simp,List.Pairwise.nil,by omega⟩
 clear hW hb2
 generalize hMM:w.heap.size=M at *
 go_loopw [10] (fun i wr=>∃(k:Nat) (ys:List FV) (A2:Option Addr) (c2:Nat),k≤l.length∧i=.int .i64 k∧Hid (DSt (M+1) d B wr M ys A2 c2)∧Hid (ys.map FV.f=stL (l.take k))∧Hid (Below M w wr)) (fun i _=>l.length-(intOf i).toNat)
 case atStart=>exact ⟨0,[],none,0,zx _,rfl,HT2,zu rfl,HB2⟩
 case round=>
  obtain ⟨k,ys,A2,c2,hk,rfl,HT,HY1,HW⟩:=hrel
  have hszr:=HW.out.size
  have hBr:B≤wr.heap.size:=by omega
  by_cases hlt:k<l.length
  ·obtain ⟨b,off,rfl,hob⟩:=(HL.out.keep HW.out hB).base (zy _ _) hBr (by omega)
   obtain ⟨x,vs,hx,hlen,hcell,hr⟩:=(HL.out.keep HW.out hB).at_ (zy _ _) hBr hlt
   obtain ⟨Ax,cx,rfl,_⟩:=aF hr
   have c0:wr.cell? ⟨b,off+k*3,none⟩=some (.string x.pr.name):=hcell 0 _ rfl
   have c1:wr.cell? ⟨b,off+k*3+1,none⟩=some (.slice Ax x.pr.terms.length cx):=hcell 1 _ rfl
   have c2:wr.cell? ⟨b,off+k*3+2,none⟩=some (.int .u32 x.o):=hcell 2 _ rfl
   have HXK:=zu hx
   have HR:=zu hr
   clear hx hr hcell hlen
   have HXL:Hid (ys.length≤100000):=zu (by
    have h1:=lQ (l.take k) []
    have h3:=congrArg List.length HY1.out
    rw [zB] at h3
    rw [zK] at h1
    unfold stL at h3
    simp only [List.length_nil] at h1
    omega)
   go_upto_region 5 with fail
   generalize hW3:World.alloc _ _=w3
   obtain ⟨hb3,hz3⟩:=al1 hW3
   have HF3:=zu (n11 hW3)
   have HT3:=zu (HT.out.later hb3)
   have HR3:=zu ((ax (d+1)).keep hb3 hBr HR.out)
   have HB3M:Hid (Below M w w3):=zu (HW.out.trans (hb3.mono (by have:=HT.out.lt;have:=HT.out.bw;omega)))
   have hsz3:=hb3.size
   clear hW3 hb3 hz3 c0 c1 c2
   have k_f:=HF3.out.cell
   have l_f:=HF3.out.lt
   go_wp2_with fail
   refine (tz (y:=⟨x,Ax,cx⟩) (B:=B) HT3.out HR3.out HXL.out).mono ?_
   rintro z w5 ⟨ys2,A5,c5,rfl,hy5,hs5,ha5,hf5⟩
   have HT5:=zu hs5
   have HY5:Hid (ys2.map FV.f=stL (l.take (k+1))):=zu (by rw [hy5,HY1.out,yn HXK.out])
   have HB5:Hid (Below M w w5):=zu (HB3M.out.trans (ha5.below (fun q hq hm=>by omega) (by omega)))
   clear hy5 hs5 ha5 hf5 k_f l_f
   go_wp2_with fail
   go_roundw
   case rel=>exact ⟨k+1,ys2,A5,c5,by omega,by go_num,HT5,HY5,HB5⟩
   case measure=>simp [intOf];omega
  ·have HY:Hid (ys.map FV.f=stL l):=zu (by rw [HY1.out,List.take_of_length_le (by omega)])
   have HYL:Hid ((stL l).length=ys.length∧ys.length≤100000):=zu (by
    have h1:=lQ l []
    have h3:=congrArg List.length HY.out
    rw [zB] at h3
    unfold stL at h3 ⊢
    simp only [List.length_nil] at h1
    omega)
   have k_m:=HT.out.hd.cell
   have l_m:=HT.out.hd.lt
   go_wp2_with fail
   go_ret
   refine ⟨⟨A2,c2,by rw [HYL.out.1];rfl,?_⟩,by rw [hMM];exact HW.out⟩
   rw [←HY.out]
   exact HT.out.rl (by have:=HYL.out;omega)
theorem zm {w:World} {T:Nat} {s:ByteArray} {m n:Int} (h:Blk w T #[.int .i64 2,.int .i64 m,.string ⟨#[]⟩,.slice none 0 0,.int .i64 2,.int .i64 n,.string ⟨#[]⟩,.slice none 0 0]) (hs:s.size≤140737488351232) (hm:I64 m) (hn:I64 n):(ax 2).rd w w.heap.size (pwF s m n) [.string s,.slice (some ⟨T,0,none⟩) 2 2,.int .u32 1]:=
 yU (f:=pwF s m n) (pc hs (ln (R:=TmR 2) (c:=2) (h.rl2 (R:=TmR 2) (x:=pwN m) (y:=pwN n) (us:=[_,_,_,_]) (vs:=[_,_,_,_]) rfl (eD (by unfold I64;omega) hm (by decide)) (eD (by unfold I64;omega) hn (by decide)) h.lt) (by simp) (by simp [TmR]) (by omega))) (by unfold U32;simp [pwF])
theorem pw_has1 {xs:List FV} (h:some pw2=some (xs.map FV.f)):xs.length=5∧eK (xs.map FV.f) (pwF pwP 1 3)=true:=by
 have e:=Option.some.inj h
 have h1:(xs.map FV.f).length=5:=by rw [←e];rfl
 exact ⟨by rw [←h1,zB],by rw [←e];exact pw_has⟩
theorem qe {w:World} {m:Int} (hm:w.cell? ⟨0,0,none⟩=some (.int .i64 m)) (hp:0<w.heap.size):Calls Tryz.prog 12 #[] w fun z w'=>z=.returned (.bool true)∧Below w.heap.size w w':=by
 have HM:=zu hm
 clear hm
 go_enter Tryz.func12,Tryz.ntmps12
 go_wp2_with fail
 refine bl.mono ?_
 rintro z w1 ⟨rfl,hb_⟩
 have HBw1:=zu (hb_)
 clear hb_
 go_wp2_with fail
 refine bl.mono ?_
 rintro z w2 ⟨rfl,hb_⟩
 have HBw2:=zu (aa HBw1.out hb_)
 clear hb_
 go_wp2_with fail
 generalize hW:World.alloc _ _=w3
 obtain ⟨hb_,hz_⟩:=al1 hW
 have HTw3:=zu (n11 hW)
 have HBw3:=zu (aa HBw2.out hb_)
 clear hW hb_
 try rw [show w2.heap.size+1=w3.heap.size from hz_.symm]
 refine bi.mono ?_
 rintro z w4 ⟨rfl,hb_⟩
 have HBw4:=zu (aa HBw3.out hb_)
 have HTw4:=zu (HTw3.out.later hb_)
 clear hb_
 go_wp2_with fail
 refine bl.mono ?_
 rintro z w5 ⟨rfl,hb_⟩
 have HBw5:=zu (aa HBw4.out hb_)
 have HTw5:=zu (HTw4.out.later hb_)
 clear hb_
 go_wp2_with fail
 refine bl.mono ?_
 rintro z w6 ⟨rfl,hb_⟩
 have HBw6:=zu (aa HBw5.out hb_)
 have HTw6:=zu (HTw5.out.later hb_)
 clear hb_
 go_wp2_with fail
 generalize hW:World.alloc _ _=w7
 obtain ⟨hb_,hz_⟩:=al1 hW
 have HUw7:=zu (n11 hW)
 have HBw7:=zu (aa HBw6.out hb_)
 have HTw7:=zu (HTw6.out.later hb_)
 clear hW hb_
 try rw [show w6.heap.size+1=w7.heap.size from hz_.symm]
 refine bi.mono ?_
 rintro z w8 ⟨rfl,hb_⟩
 have HBw8:=zu (aa HBw7.out hb_)
 have HTw8:=zu (HTw7.out.later hb_)
 have HUw8:=zu (HUw7.out.later hb_)
 clear hb_
 go_wp2_with fail
 generalize hW:World.alloc _ _=w9
 obtain ⟨hb_,hz_⟩:=al1 hW
 have HGw9:=zu (n11 hW)
 have HBw9:=zu (aa HBw8.out hb_)
 have HTw9:=zu (HTw8.out.later hb_)
 have HUw9:=zu (HUw8.out.later hb_)
 clear hW hb_
 try rw [show w8.heap.size+1=w9.heap.size from hz_.symm]
 refine (lz (o:=1) (by unfold U32;simp)).mono ?_
 rintro z w10 ⟨⟨v,rfl,hv⟩,hb_⟩
 obtain ⟨A,rfl,hr⟩:=hv.rl (by unfold U32;simp)
 have HR:=zu hr
 have HBw10:=zu (aa HBw9.out hb_)
 have HTw10:=zu (HTw9.out.later hb_)
 have HUw10:=zu (HUw9.out.later hb_)
 have HGw10:=zu (HGw9.out.later hb_)
 clear hb_ hv hr
 go_wp2_with fail
 have HL:Hid (RL (ax 2) w10 w10.heap.size pw0 (some ⟨w8.heap.size,0,none⟩)):=zu (HGw10.out.rl2 (R:=ax 2) (us:=[_,_,_]) (vs:=[_,_,_]) rfl (zm HTw10.out (by decide) (by unfold I64;omega) (by unfold I64;omega)) (zm HUw10.out (by decide) (by unfold I64;omega) (by unfold I64;omega)) HGw10.out.lt)
 have hrun:=re (d:=1) (B:=w10.heap.size) (c:=2) (cr:=2) (lf:=10) (lr:=5) (rs:=pwO 1) HL.out HR.out (zw _) (by decide) (by decide) (fun f hf=>by
  simp only [pw0,List.mem_cons,List.not_mem_nil,or_false] at hf
  rcases hf with rfl | rfl<;>decide) (by unfold I64;omega) (by unfold I64;omega) ((HBw10.out.cell (p:=⟨0,0,none⟩) hp).trans HM.out) (by have:=HBw10.out.size;omega)
 rw [pw_fix] at hrun
 refine hrun.mono ?_
 rintro z w11 ⟨⟨S,base,xs,As,cs,rfl,hst,hx,_,_⟩ | ⟨_,h⟩,hb_⟩
 rotate_left
 ·cases h
 have HST:=zu hst
 obtain ⟨hl5,hhas⟩:=pw_has1 hx
 have HL5:=zu hl5
 have HHAS:=zu hhas
 have HBw11:=zu (aa HBw10.out hb_)
 clear hb_ hst hx hrun hl5 hhas
 go_wp2_with fail
 refine (lR HST.out).mono ?_
 rintro z w12 ⟨rfl,rfl⟩
 rw [show ((xs.length:Nat):Int)=5 by rw [HL5.out];rfl]
 go_wp2_with fail
 refine bl.mono ?_
 rintro z w13 ⟨rfl,hb_⟩
 have HBw13:=zu (aa HBw11.out hb_)
 have HSTw13:=zu (HST.out.later hb_)
 clear hb_
 go_wp2_with fail
 refine bl.mono ?_
 rintro z w14 ⟨rfl,hb_⟩
 have HBw14:=zu (aa HBw13.out hb_)
 have HSTw14:=zu (HSTw13.out.later hb_)
 clear hb_
 go_wp2_with fail
 generalize hW:World.alloc _ _=w15
 obtain ⟨hb_,hz_⟩:=al1 hW
 have HPw15:=zu (n11 hW)
 have HBw15:=zu (aa HBw14.out hb_)
 have HSTw15:=zu (HSTw14.out.later hb_)
 clear hW hb_
 try rw [show w14.heap.size+1=w15.heap.size from hz_.symm]
 refine bi.mono ?_
 rintro z w16 ⟨rfl,hb_⟩
 have HBw16:=zu (aa HBw15.out hb_)
 have HPw16:=zu (HPw15.out.later hb_)
 have HSTw16:=zu (HSTw15.out.later hb_)
 clear hb_
 go_wp2_with fail
 refine (gj (d:=1) (B:=w16.heap.size) (f:=pwF pwP 1 3) (vf:=[_,_,_]) HSTw16.out (zm HPw16.out (by decide) (by unfold I64;omega) (by unfold I64;omega)) (zw _) (by rw [HL5.out];decide) (by decide)).mono ?_
 rintro z w17 ⟨rfl,hb_⟩
 have HBw17:=zu (aa HBw16.out hb_)
 clear hb_
 rw [HHAS.out]
 go_wp2_with fail
 go_ret
 exact ⟨rfl,HBw17.out⟩
theorem rl_ownF {d:Nat} {w:World} {B n c:Nat} {xs:List Fc} {A:Option Addr} (h:RSl (ax d) w B xs (.slice A n c)):RL (ax d) w B xs A:=by
 obtain ⟨A',c',e',_,_,hr⟩:=h
 cases e'
 exact hr
def RunP (d:Nat) (w:World) (R:Option (List Fc) × Int × Int) (p:Option Addr):Prop:=R.2.2=0→∃S base xs As cs,p=some ⟨S,0,none⟩∧StA base d w S xs As cs∧R.1=some (xs.map FV.f)
theorem RunP.later {d:Nat} {w w':World} {R:Option (List Fc) × Int × Int} {p:Option Addr} (h:RunP d w R p) (hb:Below w.heap.size w w'):RunP d w' R p:=fun h0=>by
 obtain ⟨S,base,xs,As,cs,e,k,hx⟩:=h h0
 exact ⟨S,base,xs,As,cs,e,k.later hb,hx⟩
theorem tU.p {d:Nat} {w w':World} {l:List Fc} {rs:List OwD} {lf lr:Int} {z:Ending} (h:tU d w w' (jl l rs lf lr) z) (hl:∀f∈l,tX f):(∃p,z=.returned (.tuple #[.pointer p,.int .i64 (jl l rs lf lr).2.1,.int .i64 (jl l rs lf lr).2.2])∧RunP d w' (jl l rs lf lr) p)∧Below w.heap.size w w':=by
 obtain ⟨⟨S,base,xs,As,cs,rfl,k,hx,_,_⟩ | ⟨rfl,hn⟩,hb⟩:=h
 ·exact ⟨⟨_,rfl,fun _=>⟨S,base,xs,As,cs,rfl,k,hx⟩⟩,hb⟩
 ·refine ⟨⟨_,rfl,fun h0=>?_⟩,hb⟩
  obtain ⟨gs,m,e,_⟩:=run_ok hl h0
  rw [e] at hn
  cases hn
theorem am.beside {α:Type} {R:Reader α} {e:TypeId} {w w':World} {base B:Nat} {v:Value} {xs:List α} {M:Nat→Prop} (h:am R e w base B v xs) (ha:ak M w w') (hb:Below B w w') (hm:∀k,v.ownBlock=some k→¬M k):am R e w' base B v xs:=by
 obtain ⟨cells,h,hf⟩:=h
 refine ⟨cells,⟨h.1,?_⟩,hf.keep hb (zw _)⟩
 rcases h.2 with h2 | ⟨g,cap,cur,hv,hg0,hh,r⟩
 ·exact .inl h2
 ·exact .inr ⟨g,cap,cur,hv,hg0,(ha.2 g (Array.getElem?_eq_some_iff.1 hh).1 (hm g (by rw [hv];rfl))).trans hh,r⟩
theorem am.apart {α β:Type} {R:Reader α} {R':Reader β} {e e':TypeId} {w:World} {base base' B B':Nat} {v v':Value} {xs:List α} {ys:List β} (h:am R e w base B v xs) (h':am R' e' w base' B' v' ys) (hT:e≠e'):∀k,v.ownBlock=some k→¬(some k=v'.ownBlock):=fun k hk hk'=>by
 obtain ⟨cells,h,_⟩:=h
 rcases h.2 with ⟨h1,_⟩ | ⟨g,cap,cur,hv,hg,hh,r⟩
 ·rw [h1] at hk;simp [Value.ownBlock] at hk
 ·rw [hv] at hk
  simp only [Value.ownBlock,zE] at hk
  subst hk
  exact h'.ne hh hT hk'.symm
def U64V (v:Value):Prop:=∃u:Nat,v=.int .u64 u∧(u:Int)<18446744073709551616
theorem yA (x:Int):U64V (.int .u64 (IntKind.u64.wrap x)):=by
 obtain ⟨h0,h1⟩:0≤IntKind.u64.wrap x∧IntKind.u64.wrap x<18446744073709551616:=by
  simp [IntKind.wrap,IntKind.bits,IntKind.signed];omega
 exact ⟨(IntKind.u64.wrap x).toNat,by rw [Int.toNat_of_nonneg h0],by rw [Int.toNat_of_nonneg h0];exact h1⟩
theorem wrap_i64 {x:Int} (h:-9223372036854775808≤x) (k:x≤9223372036854775807):IntKind.i64.wrap x=x:=by rw [IntKind.wrap_i64];omega
theorem wrap_u64 {x:Int} (h:0≤x) (k:x≤18446744073709551615):IntKind.u64.wrap x=x:=by simp [IntKind.wrap,IntKind.bits,IntKind.signed];omega
theorem lK {d c1 c2:Nat} {fs:List Fc} {A1 A2:Option Addr} {w:World} (h1:RL (ax (d+1)) w w.heap.size fs A1) (h2:RL (ax (d+1)) w w.heap.size fs A2) (hok:∀f∈fs,FcOk f) (hn:fs.length≤1000) :
 Calls Tryz.prog 20 #[.slice A1 fs.length c1,.slice A2 fs.length c2] w fun z w'=>z=.returned (.bool true)∧Below w.heap.size w w':=by
 have H1:=zu h1
 have H2:=zu h2
 have HOK:=zu hok
 clear h1 h2 hok
 go_enter Tryz.func20,Tryz.ntmps20
 go_upto_region 4 with fail
 go_loopw [5,13] (fun _ i wr=>∃k:Nat,k≤fs.length∧i=.int .i64 k∧Hid (Below w.heap.size w wr)) (fun _ i _=>fs.length-(intOf i).toNat)
 case atStart=>exact ⟨0,zx _,rfl,zu (zy _ _)⟩
 case round=>
  obtain ⟨k,hk,rfl,HW⟩:=hrel
  have hszr:=HW.out.size
  by_cases hlt:k<fs.length
  ·obtain ⟨b1,off1,rfl,hob1⟩:=(H1.out.keep HW.out (zw _)).base (zy _ _) hszr (by omega)
   obtain ⟨b2,off2,rfl,hob2⟩:=(H2.out.keep HW.out (zw _)).base (zy _ _) hszr (by omega)
   obtain ⟨x,vs,hx,hlen,hcell,hr⟩:=(H1.out.keep HW.out (zw _)).at_ (zy _ _) hszr hlt
   obtain ⟨y,us,hy,hlen2,hcell2,hr2⟩:=(H2.out.keep HW.out (zw _)).at_ (zy _ _) hszr hlt
   obtain rfl:y=x:=Option.some.inj (hy.symm.trans hx)
   have HX:=zu (HOK.out y (List.mem_of_getElem? hy))
   have HR1:=zu hr
   have HR2:=zu hr2
   obtain ⟨Ax,cx,rfl,_⟩:=aF hr
   obtain ⟨Ay,cy,rfl,_⟩:=aF hr2
   have p0:wr.cell? ⟨b1,off1+k*3,none⟩=some (.string y.pr.name):=hcell 0 _ rfl
   have p1:wr.cell? ⟨b1,off1+k*3+1,none⟩=some (.slice Ax y.pr.terms.length cx):=hcell 1 _ rfl
   have p2:wr.cell? ⟨b1,off1+k*3+2,none⟩=some (.int .u32 y.o):=hcell 2 _ rfl
   have r0:wr.cell? ⟨b2,off2+k*3,none⟩=some (.string y.pr.name):=hcell2 0 _ rfl
   have r1:wr.cell? ⟨b2,off2+k*3+1,none⟩=some (.slice Ay y.pr.terms.length cy):=hcell2 1 _ rfl
   have r2:wr.cell? ⟨b2,off2+k*3+2,none⟩=some (.int .u32 y.o):=hcell2 2 _ rfl
   have HC:Hid (∀w9,Below wr.heap.size wr w9→Calls Tryz.prog 42 #[.agg #[.string y.pr.name,.slice Ax y.pr.terms.length cx,.int .u32 y.o],.agg #[.string y.pr.name,.slice Ay y.pr.terms.length cy,.int .u32 y.o]] w9 fun z w'=>z=.returned (.int .i64 0)∧Below w9.heap.size w9 w'):=zu (fun w9 hb9=>by
    have h:=lI (d:=d) (B:=w.heap.size) (a:=y) (b:=y) (va:=[_,_,_]) (vb:=[_,_,_]) (w:=w9) (by have:=HX.out.few;omega) ((ax (d+1)).keep hb9 hszr HR1.out) ((ax (d+1)).keep hb9 hszr HR2.out) (zv hszr hb9.size)
    rw [aR.self] at h
    exact h)
   clear hcell hcell2 hlen hlen2 hx hy hr hr2
   have q0:=cell_regrown p0
   have q1:=cell_regrown p1
   have q2:=cell_regrown p2
   have s0:=cell_regrown r0
   have s1:=cell_regrown r1
   have s2:=cell_regrown r2
   go_upto_region 6 with fail
   refine wp_region_quiet_below (by kernel_rfl) (by kernel_rfl) ?_
   repeat (go_big_quiet_step ((go_at_call 42;exact Calls.regrown_of (HC.out _ (below_regrown _ _ _)))))
   refine wpQuiet_nil ?_
   intro w3 hw_
   have hb:Below wr.heap.size wr w3:=by obtain ⟨p_,rfl⟩:=hw_;exact below_regrown _ _ _
   have HW3:=zu (aa HW.out hb)
   clear hw_ q0 q1 q2 s0 s1 s2 p0 p1 p2 r0 r1 r2 hb
   go_wp2_with fail
   go_roundw
   case rel=>exact ⟨k+1,by omega,by go_num,HW3⟩
   case measure=>simp [intOf];omega
  ·go_wp2_with fail
   go_ret
   exact ⟨rfl,HW.out⟩
end Go.Proofs.YtjpndglegpcdnaaGreat
