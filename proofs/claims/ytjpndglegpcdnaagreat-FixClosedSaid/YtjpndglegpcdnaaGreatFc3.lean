/- Rows of facts; store.all. -/
import Derived.Test.YtjpndglegpcdnaaGreatJoLaw
import Derived.RegionTactic
import Derived.Deep.RegionHeld3
import Derived.Deep.RegionLaw
import Derived.Deep.DeepCutAuto
import Derived.Test.YtjpndglegpcdnaaGreatData
import Derived.Test.YtjpndglegpcdnaaGreatRule1
import Derived.Test.YtjpndglegpcdnaaGreatBind
import Derived.Laws.OwnMore
set_option linter.unusedVariables false
set_option linter.unusedSimpArgs false
set_option maxRecDepth 100000
set_option maxHeartbeats 8000000
namespace Go.Proofs.YtjpndglegpcdnaaGreat
open Go.ChangeShapes Go.WideShapes Go.ChangeAt Go.RowKit
theorem kK:(Tryz.prog.info? 9).map (fun i=>(i.zero,i.size,i.bytes))=some (some (.string ⟨#[]⟩),1,16):=by kernel_rfl
theorem cD:dL cX:=fun h u hu=>by
 obtain ⟨rfl,_⟩:=h
 simp only [List.mem_cons,List.not_mem_nil,or_false] at hu
 subst hu;rfl
theorem oU {B c:Nat} {xs:List ByteArray} {A:Option Addr} {w:World} (hl:RL cX w B xs A) (hB:B≤w.heap.size) (hn:xs.length*16≤140737488351232) :
 Calls Tryz.prog 152 #[.slice A xs.length c] w fun e w'=>(∃v,e=.returned v∧aq cX 9 w' w.heap.size B v xs)∧Below w.heap.size w w':=by
 obtain ⟨i0,hi0,hz0,hz1,hz2⟩:=info_parts kK
 have hsrc:=AE (hl.keep ((AI w.heap.size w).alloc (AG _) (.cells #[] 9)) hB).src
 have hown:=AE (aq.empty (base:=w.heap.size) cX 9 (w:=w.alloc (.cells #[] 9)) (b:=w.heap.size) (heap_alloc_new w _) (AG _) B)
 have HA:=AE ((AI w.heap.size w).alloc (AG _) (.cells #[] 9))
 rcases A with _ | a
 ·have h0:xs=[]:=by
   rcases xs with _ | ⟨x,xs⟩
   ·rfl
   ·obtain ⟨_,_,e,_⟩:=hl (by simp)
    cases e
  subst h0
  clear hl
  have he:∀wx:World,(binOp BinOp.eql 112 (.slice none 0 c) (.slice none 0 0)).run Tryz.prog wx=.ok (.bool true) wx:=fun wx=>kf 112 9 0 c Tryz.underlying112 wx
  go_enter Tryz.func152,Tryz.ntmps152
  go_wp2_with fail
  go_ret
  exact ⟨⟨_,rfl,aq.nil _ _ _ _ _⟩,AI _ _⟩
 ·clear hl
  have he:∀wx:World,(binOp BinOp.eql 112 (.slice (some a) xs.length c) (.slice none 0 0)).run Tryz.prog wx=.ok (.bool false) wx:=fun wx=>iQ 112 9 a xs.length c Tryz.underlying112 wx
  go_enter Tryz.func152,Tryz.ntmps152
  go_wp2_with ((
   at_builtin
   refine ar (R:=cX) (e:=9) rfl (.tmp 5) (.tmp 6) 112 rfl (bytes:=16) Tryz.underlying112 hi0 hz0 hz1 hz2 rfl (show 0<1 by omega) cD rfl hown.out rfl hsrc.out rfl hB (by simp only [List.length_nil];omega) (by omega) HA.out.size ?_
   intro v1 w1 hown1 hb1
   have HO:=AE hown1
   have HB1:=AE (HA.out.trans hb1)
   clear hown1 hb1))
  go_ret
  exact ⟨⟨_,rfl,HO.out⟩,HB1.out⟩
theorem ret_bd {fn:Func} {tmps:Array Value} {p:Tmp} {g:Nat} {w:World} {cs:Array Value} (h:fn.results=#[.cell p 114]) (hp:tmps.getD p undef=.pointer (some ⟨g,0,none⟩)) (hb:Blk w g cs) (hn:cs.size=2) :
 (results fn tmps).run Tryz.prog w=.ok (.agg cs) w:=by
 obtain ⟨T,hb⟩:=hb
 exact results_cell_row h tmps w g T cs (0,0) _ hp hb Tryz.underlying114 rfl (by rw [hn];kernel_rfl)
theorem jN {fn:Func} {tmps:Array Value} {p u:Tmp} {g:Nat} {w:World} {cs:Array Value} (h:fn.results=#[.cell p 114,.tmp u]) (hp:tmps.getD p undef=.pointer (some ⟨g,0,none⟩)) (hb:Blk w g cs) (hn:cs.size=2) :
 (results fn tmps).run Tryz.prog w=.ok (.tuple #[.agg cs,tmps.getD u undef]) w:=by
 obtain ⟨T,hb⟩:=hb
 rw [results_cell_tmp h]
 have e:tmps[p]?.getD undef=.pointer (some ⟨g,0,none⟩):=by simpa using hp
 have e1:((asAddr (tmps.getD p undef)).run Tryz.prog w)=.ok ⟨g,0,none⟩ w:=by simp [e,asAddr]
 rw [e1,Result.andThen_ok,run_loadVar_row w g T 114 cs (0,0) _ hb Tryz.underlying114 rfl (by rw [hn];kernel_rfl),Result.andThen_ok]
theorem kB {w:World} {g:Nat} {a b:Value} (h:Blk w g #[a,b]) (v0 v1:Value):Blk ((w.setCell ⟨g,0,none⟩ v0).setCell ⟨g,1,none⟩ v1) g #[v0,v1]:=(h.set_ 0 v0).set_ 1 v1
theorem kC {w w2:World} {B g:Nat} (h:Below B w w2) (hg:B≤g) (v0 v1:Value):Below B w ((w2.setCell ⟨g,0,none⟩ v0).setCell ⟨g,1,none⟩ v1):=(h.setCell (p:=⟨g,0,none⟩) hg v0).setCell (p:=⟨g,1,none⟩) hg v1
theorem gK {d B:Nat} {t:Tm} {vs:List Value} {w:World} (ht:RTm w B (d+1) t vs) (hB:B≤w.heap.size) (hlf:∀x∈t.l,jv x) (hn:t.l.length≤16) :
 Calls Tryz.prog 84 #[.agg vs.toArray] w fun e w'=>(∃A c,e=.returned (.agg #[.int .i64 t.kind,.int .i64 t.n,.string t.s,.slice A t.l.length c])∧TmOwn d w.heap.size w' t A c)∧Below w.heap.size w w':=by
 obtain ⟨At,ct,rfl,q1,q2,q3,q4,q5,hl⟩:=ht
 have HL:Hid (RL (TmR d) w B t.l At):=AE hl
 have HQ:=AE (And.intro q3 (And.intro q4 q5))
 clear hl
 go_enter Tryz.func84,Tryz.ntmps84
 go_upto_region 1 with fail
 generalize hW:World.alloc _ _=w1
 obtain ⟨hb,hz⟩:=al2 hW
 have b_a:=n21 hW
 have b_r:=n22 hW
 have HB1:=AE hb
 have hsz1:=hb.size
 have hlr:=b_r.lt
 clear hW hz hb
 have hB1:=AF hB hsz1
 have HSR:=AE (HL.out.keep HB1.out hB)
 have k_a:=b_a.cell
 have l_a:=b_a.lt
 go_upto_region 2 with ((
  go_at_call 71
  refine (bU HSR.out hB1 (by omega)).mono ?_
  rintro e wn_ ⟨⟨v,rfl,hown⟩,hb⟩
  obtain ⟨An,cn,hv⟩:∃A c,v=.slice A t.l.length c:=hown.form
  subst hv
  have HON:=AE (hown.leaves hlf)
  have HBN:=AE hb
  have hszn:=hb.size
  clear k_a l_a
  have k_a:=(b_a.keep HBN.out (by omega)).cell
  have l_a:=(b_a.keep HBN.out (by omega)).lt
  have f_a:=(b_a.keep HBN.out (by omega)).free
  clear hown hb))
 have BA:=AE ((b_a.keep HBN.out (by omega)).set_ 3 (.slice An t.l.length cn))
 have BR:=AE ((b_r.keep HBN.out hlr).far (c:=w.heap.size) (by omega) 3 (.slice An t.l.length cn))
 have HO2:=AE (HON.out.far (c:=w.heap.size) (i:=3) (by omega) (AH _) (.slice An t.l.length cn))
 have HB2:Hid (Below w.heap.size w (wn_.setCell ⟨w.heap.size,3,none⟩ (.slice An t.l.length cn))):=AE ((HB1.out.trans (HBN.out.mono hsz1)).setCell (AG _) _)
 clear k_a l_a f_a
 generalize wn_.setCell ⟨w.heap.size,3,none⟩ (.slice An t.l.length cn)=w2 at *
 have k_a:=BA.out.cell
 have l_a:=BA.out.lt
 have k_r:=BR.out.cell
 have l_r:=BR.out.lt
 have f_r:=BR.out.free
 go_wp2_with fail
 have hbr:=dA BR.out (.int .i64 t.kind) (.int .i64 t.n) (.string t.s) (.slice An t.l.length cn)
 refine bodyPost_ret (nv rfl rfl hbr rfl) rfl ?_
 have hto:TmOwn d w1.heap.size w2 t An cn:=⟨HO2.out,HQ.out.2.1,HQ.out.2.2,HQ.out.1,by omega⟩
 exact ⟨⟨An,cn,rfl,(hto.put4 (by omega) _ _ _ _).lower (by omega)⟩,cC HB2.out (by omega) _ _ _ _⟩
structure BdQ (base D:Nat) (w:World) (b:Bd) (xs:List SV) (An:Option Addr) (cn:Nat) (At:Option Addr) (ct:Nat):Prop where
 tms:xs.map SV.t=b.terms
 nm:aq cX 9 w base 0 (.slice An b.names.length cn) (b.names.map mkS)
 st:StkQ base D w xs At ct
 sep:∀x∈xs,∀a,x.a=some a→∀g,An=some g→a.block≠g.block
theorem StkQ.lower {base b0 D c:Nat} {w:World} {xs:List SV} {A:Option Addr} (h:StkQ base D w xs A c) (hb:b0≤base):StkQ b0 D w xs A c:=
 ⟨h.own.lower hb,h.tms,h.sep,fun x hx a ha=>⟨AF hb (h.lt x hx a ha).1,(h.lt x hx a ha).2⟩⟩
theorem StkQ.own_ge {base D c g:Nat} {w:World} {xs:List SV} {A:Option Addr} (h:StkQ base D w xs A c) (hg:g<base):(Value.slice A xs.length c).ownBlock≠some g:=by
 intro e
 rcases A with _ | a
 ·cases e
 ·simp only [Value.ownBlock,AP] at e
  have:=(h.row a rfl).1
  omega
theorem aq.row_lt {α:Type} {R:Reader α} {e:TypeId} {w:World} {base B n c:Nat} {A:Option Addr} {xs:List α} (h:aq R e w base B (.slice A n c) xs):∀g,A=some g→base≤g.block∧g.block<w.heap.size:=by
 intro g hg
 subst hg
 obtain ⟨cells,how,_⟩:=h
 exact how.lt g.block rfl
theorem aq.grownN {α:Type} {R:Reader α} {e:TypeId} {w w':World} {base:Nat} {v:Value} {xs:List α} {row:Option Nat} (h:aq R e w base 0 v xs) (hg:w.grownBy w' row) (hne:∀g,v.ownBlock=some g→some g≠row):aq R e w' base 0 v xs:=by
 obtain ⟨cells,h,hf⟩:=h
 have hb:Below 0 w w':=(AI 0 w).grown hg (AH _) (fun k hk=>AH _)
 refine ⟨cells,⟨h.1,?_⟩,hf.keep hb (AG _)⟩
 rcases h.2 with h2 | ⟨g,cap,cur,hv,hg0,hh,r⟩
 ·exact .inl h2
 ·refine .inr ⟨g,cap,cur,hv,hg0,?_,r⟩
  have hlt:g<w.heap.size:=by
   rcases Nat.lt_or_ge g w.heap.size with h' | h'
   ·exact h'
   ·rw [Array.getElem?_eq_none h'] at hh;cases hh
  exact (hg.block g hlt (hne g (by rw [hv];rfl))).trans hh
theorem pN {α β:Type} {R:Reader α} {R':Reader β} {e e':TypeId} {w:World} {base base' B B':Nat} {v v':Value} {xs:List α} {ys:List β} (h:aq R e w base B v xs) (h':aq R' e' w base' B' v' ys) (hT:e≠e'):∀g,v.ownBlock=some g→some g≠v'.ownBlock:=by
 intro g hg he
 obtain ⟨cells,h,_⟩:=h
 obtain ⟨cells',h',_⟩:=h'
 rcases h.2 with ⟨h1,_⟩ | ⟨g1,cap,cur,hv,_,hh,_⟩
 ·rw [h1] at hg;cases hg
 ·rw [hv] at hg
  simp only [Value.ownBlock,AP] at hg
  rcases h'.2 with ⟨h1,_⟩ | ⟨g2,cap',cur',hv',_,hh',_⟩
  ·rw [h1] at he;cases he
  ·rw [hv'] at he
   simp only [Value.ownBlock,AP] at he
   subst hg;subst he
   rw [hh] at hh'
   simp only [AP,Obj.cells.injEq] at hh'
   exact hT hh'.2.1
theorem StkQ.grownN {base D c:Nat} {w w':World} {xs:List SV} {A:Option Addr} {row:Option Nat} (h:StkQ base D w xs A c) (hg:w.grownBy w' row) (h1:∀x∈xs,∀a,x.a=some a→some a.block≠row) (h2:∀g,(Value.slice A xs.length c).ownBlock=some g→some g≠row):StkQ base D w' xs A c:=
 ⟨h.own.grownN hg h2,fun x hx=>(h.tms x hx).keep ((AI 0 w).grown hg (AH _) (fun k hk=>AH _)) fun a ha=>hg.block _ (h.lt x hx a ha).2 (h1 x hx a ha),h.sep,fun x hx a ha=>⟨(h.lt x hx a ha).1,AJ (h.lt x hx a ha).2 hg.size⟩⟩
theorem StkQ.put {base D c:Nat} {w w2:World} {xs zs:List SV} {x:SV} {A:Option Addr} (h:StkQ base D w xs A c) (hx:dt D w x) (hap:∀a,x.a=some a→∀b,A=some b→a.block≠b.block) (hlt:∀a,x.a=some a→base≤a.block∧a.block<w.heap.size) (hbase:base≤w.heap.size)
 (hz:∀y∈zs,y=x∨y∈xs) {A2:Option Addr} {c2:Nat} (ho:aq SvR 29 w2 base 0 (.slice A2 zs.length c2) zs) (hg:w.grownBy w2 (Value.slice A xs.length c).ownBlock) (hf:bk w (.slice A xs.length c) (.slice A2 zs.length c2)) :
 StkQ base D w2 zs A2 c2∧Below base w w2:=by
 have hb:Below base w w2:=(AI base w).grown hg hbase (fun k hk=>by
  obtain ⟨cells,how,_⟩:=h.own
  exact (how.lt k hk).1)
 have hb0:Below 0 w w2:=hb.mono (AH _)
 have key:∀y,dt D w y→(∀a,y.a=some a→∀b,A=some b→a.block≠b.block)→(∀a,y.a=some a→base≤a.block∧a.block<w.heap.size)→dt D w2 y∧∀a,y.a=some a→(base≤a.block∧a.block<w2.heap.size)∧∀b,A2=some b→a.block≠b.block:=by
  intro y hy hs hl
  refine ⟨hy.keep hb0 fun a ha=>hg.block _ (hl a ha).2 ?_,fun a ha=>⟨⟨(hl a ha).1,AJ (hl a ha).2 hb.size⟩,fun b hb2 e=>?_⟩⟩
  ·intro e
   rcases hA:A with _ | b
   ·rw [hA] at e;cases e
   ·rw [hA] at e
    simp only [Value.ownBlock,AP] at e
    exact hs a ha b hA e
  ·subst hb2
   rcases hf with hf | ⟨k,hk,hk2⟩
   ·rcases hA:A with _ | a2
    ·rw [hA] at hf;simp [Value.ownBlock] at hf
    ·rw [hA] at hf
     simp only [Value.ownBlock,AP] at hf
     exact hs a ha a2 hA (e.trans hf)
   ·simp only [Value.ownBlock,AP] at hk
    have:=(hl a ha).2
    omega
 have hall:∀y∈zs,dt D w2 y∧∀a,y.a=some a→(base≤a.block∧a.block<w2.heap.size)∧∀b,A2=some b→a.block≠b.block:=by
  intro y hy
  rcases hz y hy with h1 | h1
  ·subst h1
   exact key y hx hap hlt
  ·exact key y (h.tms y h1) (h.sep y h1) (h.lt y h1)
 exact ⟨⟨ho,fun y hy=>(hall y hy).1,fun y hy a ha=>((hall y hy).2 a ha).2,fun y hy a ha=>((hall y hy).2 a ha).1⟩,hb⟩
theorem BdQ.later {base D:Nat} {w w':World} {b:Bd} {xs:List SV} {An At:Option Addr} {cn ct:Nat} (h:BdQ base D w b xs An cn At ct) (hb:Below w.heap.size w w'):BdQ base D w' b xs An cn At ct:=
 ⟨h.tms,h.nm.later hb (AH _),h.st.later hb,h.sep⟩
theorem StkQ.rl {base D c:Nat} {w:World} {xs:List SV} {A:Option Addr} (h:StkQ base D w xs A c) (hn:xs.length≤1000000):RL (TmR (D+1)) w w.heap.size (xs.map SV.t) A:=by
 obtain ⟨A3,c3,e3,_,_,r3⟩:=h.own.reads (AH _) (by show xs.length*(8*4)≤_;omega)
 simp only [AR] at e3
 obtain ⟨rfl,_,rfl⟩:=e3
 intro h0
 rw [AM] at h0
 obtain ⟨b,off,e,hb,hc⟩:=r3 h0
 refine ⟨b,off,e,hb,fun i hi=>?_⟩
 rw [AM] at hi
 obtain ⟨vs,hl,⟨x,hx,hr⟩,hv⟩:=hc i hi
 obtain rfl:vs=x.cs:=hr
 exact ⟨x.cs,hl,⟨x.t,by rw [List.getElem?_map,hx];rfl,(h.tms x (List.mem_of_getElem? hx)).1⟩,hv⟩
theorem uZ {d B cn ct:Nat} {b:Bd} {An At:Option Addr} {w:World} (hn:RL cX w B (b.names.map mkS) An) (ht:RL (TmR (d+1)) w B b.terms At) (hfix:∀t∈b.terms,af t=true) (hn1:b.names.length≤1000) (ht1:b.terms.length≤1000) (hB:B≤w.heap.size) :
 Calls Tryz.prog 123 #[.agg (bdV An b.names.length cn At b.terms.length ct)] w fun z w'=>(∃An' cn' At' ct' xs,z=.returned (.agg #[.slice An' b.names.length cn',.slice At' b.terms.length ct'])∧BdQ w.heap.size d w' b xs An' cn' At' ct')∧Below w.heap.size w w':=by
 have HN:=AE hn
 have HT:=AE ht
 have HFX:=AE hfix
 clear hn ht hfix
 obtain ⟨i0,hi0,hz0,hz1,hz2⟩:=info_parts hJ
 unfold bdV
 go_enter Tryz.func123,Tryz.ntmps123
 go_upto_region 1 with fail
 generalize hW:World.alloc _ _=w1
 obtain ⟨hb,hz⟩:=al2 hW
 have b_a:=n21 hW
 have b_r:=n22 hW
 have HB1:=AE hb
 have hsz1:=hb.size
 clear hW hb
 have hB1:=AF hB hsz1
 have HCL:=AE (oU (c:=cn) (xs:=b.names.map mkS) (HN.out.keep HB1.out hB) hB1 (by rw [AM];omega))
 rw [AM] at HCL
 have k_a:=b_a.cell
 have l_a:=b_a.lt
 go_upto_region 2 with ((
  go_at_call 152
  refine HCL.out.mono ?_
  rintro e w2 ⟨⟨v,rfl,hown⟩,hb⟩
  obtain ⟨A2,c2,hv⟩:∃A c,v=.slice A b.names.length c:=by have:=hown.form;rwa [AM] at this
  subst hv
  have HON:=AE (show aq cX 9 w2 w1.heap.size 0 (.slice A2 b.names.length c2) (b.names.map mkS) from (by
   obtain ⟨cells,h1,h2⟩:=hown
   exact ⟨cells,h1,h2.1,h2.2⟩))
  have HB2:=AE hb
  have BA2:=AE (b_a.later hb)
  have BR2:=AE (b_r.later hb)
  have hsz2:=hb.size
  clear k_a l_a hown hb))
 generalize hW:World.alloc _ _=w3
 obtain ⟨hb3,hz3⟩:=al1 hW
 have HBO3:=AE (n11 hW)
 have HB3:=AE hb3
 have BA3:=AE (BA2.out.later hb3)
 have BR3:=AE (BR2.out.later hb3)
 have HN3:=AE (HON.out.later hb3 (AH _))
 have hsz3:=hb3.size
 clear hW hb3 HCL
 have k_a:=BA3.out.cell
 have l_a:=BA3.out.lt
 have HOL:=AE (HBO3.out.lt)
 clear b_a b_r
 go_upto_region 3 with fail
 go_loopw [13] (fun i wr=>∃(k:Nat) (xs:List SV) (A:Option Addr) (c:Nat),k≤b.terms.length∧i=.int .i64 k∧xs.length=k∧Hid (xs.map SV.t=b.terms.take k)∧Hid (Below w2.heap.size w2 wr)∧Hid (Blk wr w2.heap.size #[.slice A2 b.names.length c2,.slice A k c])∧Hid (StkQ w3.heap.size d wr xs A c)) (fun i _=>b.terms.length-(intOf i).toNat)
 case atStart=>exact ⟨0,[],none,0,AH _,rfl,rfl,AE rfl,HB3,HBO3,AE (StkQ.nil _ _ _)⟩
 case round=>
  obtain ⟨k,xs,A,c,hk,rfl,hxl,HXT,HWR,HBO,HST⟩:=hrel
  subst hxl
  have hszr:=HWR.out.size
  have HBw:Hid (Below w.heap.size w wr):=AE (HB1.out.trans ((HB2.out.mono hsz1).trans (HWR.out.mono (by omega))))
  have hBr:B≤wr.heap.size:=by omega
  by_cases hlt:xs.length<b.terms.length
  ·obtain ⟨b_,off,rfl,hob⟩:=(HT.out.keep HBw.out hB).base (AI _ _) hBr (by omega)
   obtain ⟨x,vs,hx,hlen,hcell,hr⟩:=(HT.out.keep HBw.out hB).at_ (AI _ _) hBr hlt
   have HX:=AE hr
   obtain ⟨Ax,cx,rfl,g1,g2,g3,g4,g5,_⟩:=RTm.cells (show RTm wr B (d+1) x vs from hr)
   have c0:wr.cell? ⟨b_,off+xs.length*4,none⟩=some (.int .i64 x.kind):=hcell 0 _ rfl
   have c1:wr.cell? ⟨b_,off+xs.length*4+1,none⟩=some (.int .i64 x.n):=hcell 1 _ rfl
   have c2:wr.cell? ⟨b_,off+xs.length*4+2,none⟩=some (.string x.s):=hcell 2 _ rfl
   have c3:wr.cell? ⟨b_,off+xs.length*4+3,none⟩=some (.slice Ax x.l.length cx):=hcell 3 _ rfl
   have HXE:Hid (b.terms[xs.length]=x):=AE (by rw [AO hlt] at hx;simpa using hx)
   have HF:Hid (af x=true):=AE (HFX.out x (List.mem_of_getElem? hx))
   obtain ⟨hle,hl16⟩:=aO HF.out
   have HLE:=AE hle
   clear hcell hlen hx hr hle k_a l_a
   go_upto_region 5 with fail
   generalize hW:World.alloc _ _=w4
   obtain ⟨hb4,hz4⟩:=al1 hW
   have HBQ:=AE (n11 hW)
   have HW4:=AE hb4
   have HBO4:=AE (HBO.out.later hb4)
   have HST4:=AE (HST.out.later hb4)
   have HX4:=AE (RTm.below hb4 hBr HX.out)
   have hB4:B≤w4.heap.size:=by omega
   have hsz4:=hb4.size
   clear hW hb4 c0 c1 c2 c3
   have HLO:=AE (HBO4.out.lt)
   have hlo:=HLO.out
   have HLQ:=AE (HBQ.out.lt)
   have hlq:=HLQ.out
   have hI0:(0:Int)≤(xs.length:Int):=Int.natCast_nonneg _
   have hk1:xs.length≤1000:=by omega
   have tok9:True:=trivial
   have HSL:Hid (∀{w':World},Below w4.heap.size w4 w'→(w'.cell? ⟨w2.heap.size,1,none⟩=some (.slice A xs.length c)∧w'.cell? ⟨wr.heap.size,0,none⟩=some (.int .i64 x.kind)∧w'.cell? ⟨wr.heap.size,1,none⟩=some (.int .i64 x.n)∧w'.cell? ⟨wr.heap.size,2,none⟩=some (.string x.s)∧w'.cell? ⟨wr.heap.size,3,none⟩=some (.slice Ax x.l.length cx))):=AE (fun hb=>have h:=(HBQ.out.later hb).cell;⟨(HBO4.out.later hb).cell 1,h 0,h 1,h 2,h 3⟩)
   go_upto_region 5 with fail
   refine bv (S:=fun w'=>w'.cell? ⟨w2.heap.size,1,none⟩=some (.slice A xs.length c)∧w'.cell? ⟨wr.heap.size,0,none⟩=some (.int .i64 x.kind)∧w'.cell? ⟨wr.heap.size,1,none⟩=some (.int .i64 x.n)∧w'.cell? ⟨wr.heap.size,2,none⟩=some (.string x.s)∧w'.cell? ⟨wr.heap.size,3,none⟩=some (.slice Ax x.l.length cx)) 7 (by kernel_rfl) (by kernel_rfl) (by kernel_rfl) (by kernel_rfl) (HSL.out (AI _ _).drew) ?_
   refine ax 0 ?_ (by simp only [List.getElem?_toArray,List.getElem?_cons_succ,AU];rfl)
   (try simp only [Act.put,List.setIfInBounds_toArray,List.set_cons_zero,List.set_cons_succ])
   refine ax 1 ?_ (by simp only [List.getElem?_toArray,List.getElem?_cons_succ,AU];rfl)
   (try simp only [Act.put,List.setIfInBounds_toArray,List.set_cons_zero,List.set_cons_succ])
   refine ax 2 ?_ (by simp only [List.getElem?_toArray,List.getElem?_cons_succ,AU];rfl)
   (try simp only [Act.put,List.setIfInBounds_toArray,List.set_cons_zero,List.set_cons_succ])
   refine aJ (rs:=[3]) (by kernel_rfl) rfl (by kernel_rfl) ?_
   refine aB.cons (by simp only [List.getElem?_toArray,List.getElem?_cons_succ,AU];rfl) (fun K hK=>?_) aB.nil
   go_simp
   refine (gK (B:=B) (t:=x) (vs:=[_,_,_,_]) (RTm.below (AI _ _).drew hB4 HX4.out) hB4 HLE.out hl16).mono ?_
   rintro e w5 ⟨⟨A5,c5,rfl,hown⟩,hb5⟩
   have HOWN:Hid (TmOwn d w4.heap.size w5 x A5 c5):=AE hown
   have HB5:Hid (Below w4.heap.size w4 w5):=AE ((AI w4.heap.size w4).drew.trans hb5)
   have hsz5:=HB5.out.size
   clear hown hb5
   refine hK.out _ _ (HSL.out HB5.out) ?_
   clear hK
   (try simp only [Act.put,List.setIfInBounds_toArray,List.set_cons_zero,List.set_cons_succ])
   refine aJ (rs:=[4]) (by kernel_rfl) rfl (by kernel_rfl) ?_
   refine aB.cons (by simp only [List.getElem?_toArray,List.getElem?_cons_succ,AU];rfl) (fun K hK=>?_) aB.nil
   go_simp
   refine hK.out _ _ (HSL.out (HB5.out.alloc hsz5 _)) ?_
   clear hK
   (try simp only [Act.put,List.setIfInBounds_toArray,List.set_cons_zero,List.set_cons_succ])
   refine aJ (rs:=[5]) (by kernel_rfl) rfl (by kernel_rfl) ?_
   refine aB.cons (by simp only [List.getElem?_toArray,List.getElem?_cons_succ,AU];rfl) (fun K hK=>?_) aB.nil
   refine cT (R:=SvR) (e:=29) rfl (.tmp 18) (.tmp 21) 24 rfl (bytes:=56) Tryz.underlying24 hi0 hz0 hz1 hz2 rfl (show 0<4 by omega) ck rfl (base:=w3.heap.size) (xs:=xs) (ys:=[⟨x,A5,c5⟩]) (HST4.out.own.later (HB5.out.alloc hsz5 _) (AH _)) rfl (xz (x:=⟨x,A5,c5⟩) Ac) rfl (by simp only [AV,List.length_nil];omega) (by omega) (by rw [World.size_alloc];omega) ?_
   intro v wn_ hown hg hf
   obtain ⟨An2,cn2,hv⟩:∃A c,v=.slice A (xs.length+1) c:=by have:=hown.form;rwa [AK,List.length_singleton] at this
   subst hv
   have happ:=(HST4.out.later (HB5.out.alloc hsz5 _)).app (x:=⟨x,A5,c5⟩) (HOWN.out.at_.later ((AI _ _).alloc (AG _) _)) (HST4.out.apart (AG _) fun a ha=>(HOWN.out.blk a ha).1) (fun a ha=>⟨by have:=(HOWN.out.blk a ha).1;omega,by have:=(HOWN.out.blk a ha).2;rw [World.size_alloc];omega⟩) (by rw [World.size_alloc];omega) hown hg hf
   have HQB:=AE (((HBQ.out.later (HB5.out.alloc hsz5 _)).grown hg (HST.out.own.own_lt (AG _)).symm).cell)
   have HBO9:=AE ((HBO4.out.later (HB5.out.alloc hsz5 _)).grown hg (HST.out.own_ge (by omega)).symm)
   have f_o:=HBO9.out.free
   have k_o9:=HBO9.out.cell
   have HAP:=AE happ.1
   have HWR9:Hid (Below w2.heap.size w2 wn_):=AE ((HWR.out.trans (HW4.out.mono (by omega))).trans (((HB5.out.alloc hsz5 _).mono (by omega)).trans (happ.2.mono (by omega))))
   clear hown hg hf happ
   refine hK.out _ _ (⟨HBO9.out.cell 1,HQB.out 0,HQB.out 1,HQB.out 2,HQB.out 3⟩) ?_
   clear hK
   (try simp only [Act.put,List.setIfInBounds_toArray,List.set_cons_zero,List.set_cons_succ])
   refine ax 6 ?_ (by simp only [List.getElem?_toArray,List.getElem?_cons_succ,AU];rfl)
   (try simp only [Act.put,List.setIfInBounds_toArray,List.set_cons_zero,List.set_cons_succ])
   refine eu (by kernel_rfl) (by kernel_rfl) (by simp only [List.getElem?_toArray,List.getElem?_cons_succ,AU];rfl) (fun K hK=>?_)
   go_simp
   refine hK.out _ _ ?_
   (try simp only [Act.put,List.setIfInBounds_toArray,List.set_cons_zero,List.set_cons_succ])
   go_wp2_with fail
   go_roundw
   case rel=>exact ⟨xs.length+1,xs++[⟨x,A5,c5⟩],An2,cn2,by omega,by go_num,by rw [AK,List.length_singleton],AE (by rw [List.map_append,HXT.out,←HXE.out,List.map_singleton];exact (List.take_append_getElem hlt)),AE (HWR9.out.setCell (p:=⟨w2.heap.size,1,none⟩) (AG _) _),AE (HBO9.out.set_ 1 _),AE (HAP.out.under (by omega) 1 _)⟩
   case measure=>simp [intOf];omega
  ·have HXL:Hid (xs.length=b.terms.length):=AE (by omega)
   have HXT2:Hid (xs.map SV.t=b.terms):=AE (by rw [HXT.out,HXL.out,List.take_length])
   have BRr:=AE (BR2.out.keep HWR.out (by omega))
   have k_o:=HBO.out.cell
   have k_r:=BRr.out.cell
   have f_r:=BRr.out.free
   have l_r:=BRr.out.lt
   clear k_a l_a
   go_wp2_with fail
   rw [HXL.out]
   refine bodyPost_ret (ret_bd rfl rfl (kB BRr.out (.slice A2 b.names.length c2) (.slice A b.terms.length c)) rfl) rfl ?_
   refine ⟨⟨A2,c2,A,c,xs,rfl,HXT2.out,?_,?_,fun x hx a ha g hg=>by have h1:=(HST.out.lt x hx a ha).1;have h2:=(HON.out.row_lt g hg).2;omega⟩,kC HBw.out (by omega) _ _⟩
   ·exact (((HON.out.later HWR.out (AH _)).far (by omega) (AH _) _).far (by omega) (AH _) _).lower (by omega)
   ·exact ((HST.out.under (by omega) 0 _).under (by omega) 1 _).lower (by omega)
def bT (base d:Nat) (w:World) (f:Fc) (A:Option Addr) (c:Nat):Prop:=∃xs:List SV,xs.map SV.t=f.pr.terms∧StkB base 0 d w xs A c
def fcV (f:Fc) (A:Option Addr) (c:Nat):List Value:=[.string f.pr.name,.slice A f.pr.terms.length c,.int .u32 f.o]
structure FcOk (f:Fc):Prop where
 name:f.pr.name.size≤140737488351232
 o:U32 f.o
 few:f.pr.terms.length≤8
 fix:∀t∈f.pr.terms,af t=true
section
variable {base d c:Nat} {w w':World} {f:Fc} {A:Option Addr} {M:Nat→Prop}
theorem bT.agree (h:bT base d w f A c) (ha:al M w w') (hM:∀k,base≤k→¬M k):bT base d w' f A c:=by
 obtain ⟨xs,e,h⟩:=h
 exact ⟨xs,e,h.agree ha hM (fun k hk=>absurd hk (Nat.not_lt_zero k))⟩
theorem bT.later (h:bT base d w f A c) (hb:Below w.heap.size w w'):bT base d w' f A c:=h.agree (M:=fun _=>False) (al.of_below hb) (fun _ _ h=>h)
theorem bT.lower {b0:Nat} (h:bT base d w f A c) (hb:b0≤base):bT b0 d w f A c:=by
 obtain ⟨xs,e,h⟩:=h
 exact ⟨xs,e,h.lower hb⟩
theorem bT.rd (h:bT base d w f A c) (hok:FcOk f):(ay (d+1)).rd w w.heap.size f (fcV f A c):=by
 obtain ⟨xs,e,h⟩:=h
 have hl:xs.length=f.pr.terms.length:=by rw [←e,AM]
 have hr:=h.reads (by have:=hok.few;omega)
 rw [e,hl] at hr
 exact ⟨_,rfl,⟨_,rfl,hok.name,hr⟩,hok.o⟩
theorem bT.stab (h:bT base d w f A c) (hok:FcOk f) (hM:∀k,base≤k→¬M k):fJ M w (fun w'=>(ay (d+1)).rd w' w'.heap.size f (fcV f A c)):=fun w' ha=>(h.agree ha hM).rd hok
end
theorem ret_fc {fn:Func} {tmps:Array Value} {p:Tmp} {g:Nat} {w:World} {cs:Array Value} (h:fn.results=#[.cell p 33]) (hp:tmps.getD p undef=.pointer (some ⟨g,0,none⟩)) (hb:Blk w g cs) (hn:cs.size=3) :
 (results fn tmps).run Tryz.prog w=.ok (.agg cs) w:=by
 obtain ⟨T,hb⟩:=hb
 exact results_cell_row h tmps w g T cs (0,0) _ hp hb Tryz.underlying33 rfl (by rw [hn];kernel_rfl)
theorem put3b {w:World} {g:Nat} {a b c:Value} (h:Blk w g #[a,b,c]) (v0 v1 v2:Value):Blk (((w.setCell ⟨g,0,none⟩ v0).setCell ⟨g,1,none⟩ v1).setCell ⟨g,2,none⟩ v2) g #[v0,v1,v2]:=((h.set_ 0 v0).set_ 1 v1).set_ 2 v2
theorem put3u {w w2:World} {B g:Nat} (h:Below B w w2) (hg:B≤g) (v0 v1 v2:Value):Below B w (((w2.setCell ⟨g,0,none⟩ v0).setCell ⟨g,1,none⟩ v1).setCell ⟨g,2,none⟩ v2):=((h.setCell (p:=⟨g,0,none⟩) hg v0).setCell (p:=⟨g,1,none⟩) hg v1).setCell (p:=⟨g,2,none⟩) hg v2
theorem zt {d:Nat} {w:World} {x:SV} (h:dt d w x):RL (TmR d) w w.heap.size x.t.l x.a:=by
 obtain ⟨⟨A,c,e,h1,h2,h3,h4,h5,h6⟩,_⟩:=h
 simp only [SV.cs,List.cons.injEq,AR,and_true,true_and] at e
 rw [e.1];exact h6
theorem xD {d base:Nat} {w w':World} {x:SV} {A:Option Addr} {c:Nat} (h:dt d w x) (ho:aq (TmR d) 29 w' base 0 (.slice A x.t.l.length c) x.t.l) (hl:x.t.l.length≤1000000):TmOwn d base w' x.t A c:=by
 obtain ⟨⟨A,c,e,h1,h2,h3,h4,h5,h6⟩,_⟩:=h
 exact ⟨ho,h4,h5,h3,hl⟩
theorem StkB.far' {base B B2 D c g:Nat} {w:World} {xs:List SV} {A:Option Addr} (h:StkB base B D w xs A c) (hg:g<base) (hB:B≤g) (hB2:B≤B2) (i:Nat) (u:Value):StkB base B2 D (w.setCell ⟨g,i,none⟩ u) xs A c:=by
 have h2:=h.far hB hg i u
 exact ⟨h2.own,h2.tms,h2.sep,fun x hx hn a ha=>⟨(h2.lt x hx hn a ha).1.imp (fun h=>AJ h hB2) id,(h2.lt x hx hn a ha).2⟩⟩
theorem kg {d B:Nat} {f:Fc} {vf:List Value} {w:World} (hf:(ay (d+1)).rd w B f vf) (hok:FcOk f) (hB:B≤w.heap.size) :
 Calls Tryz.prog 49 #[.agg vf.toArray] w fun z w'=>(∃A c,z=.returned (.agg (fcV f A c).toArray)∧bT w.heap.size d w' f A c)∧Below w.heap.size w w':=by
 obtain ⟨A,c,rfl,hs,h1,h2,h3,hl,ho⟩:=aG hf
 have HL:=AE hl
 have HOK:=AE hok
 have hn8:=hok.few
 clear hf hl ho hok
 go_enter Tryz.func49,Tryz.ntmps49
 go_upto_region 1 with fail
 generalize hW:World.alloc _ _=w1
 obtain ⟨hb,hz⟩:=al2 hW
 have b_a:=n21 hW
 have b_r:=n22 hW
 have HB1:=AE hb
 have hsz1:=hb.size
 have hlr:=b_r.lt
 clear hW hz hb
 have hB1:=AF hB hsz1
 have HSR:=AE (HL.out.keep HB1.out hB)
 have k_a:=b_a.cell
 have l_a:=b_a.lt
 go_upto_region 2 with ((
  go_at_call 71
  refine (bU HSR.out hB1 (by omega)).mono ?_
  rintro e w2 ⟨⟨v,rfl,hown⟩,hb⟩
  obtain ⟨xs0,An,cn,hmap,rfl,hst⟩:=StkB.of_clone hown hB1 (AF hB1 hb.size) (fun t ht=>(aO (HOK.out.fix t ht)).1)
  have HST0:=AE hst
  have HMAP:=AE hmap
  have HBN:=AE hb
  have hszn:=hb.size
  clear k_a l_a
  have k_a:=(b_a.later HBN.out).cell
  have l_a:=(b_a.later HBN.out).lt
  have f_a:=(b_a.later HBN.out).free
  clear hown hb hst hmap))
 have BA:=AE ((b_a.later HBN.out).set_ 1 (.slice An f.pr.terms.length cn))
 have BR:=AE ((b_r.later HBN.out).far (c:=w.heap.size) (by omega) 1 (.slice An f.pr.terms.length cn))
 have hx0:xs0.length=f.pr.terms.length:=by rw [←HMAP.out,AM]
 have HST:Hid (StkB w1.heap.size w.heap.size d (w2.setCell ⟨w.heap.size,1,none⟩ (.slice An f.pr.terms.length cn)) xs0 An cn):=AE (HST0.out.far' (by omega) hB (by omega) 1 _)
 have HB2:Hid (Below w.heap.size w (w2.setCell ⟨w.heap.size,1,none⟩ (.slice An f.pr.terms.length cn))):=AE ((HB1.out.trans (HBN.out.mono hsz1)).setCell (AG _) _)
 have hs2:w1.heap.size≤(w2.setCell ⟨w.heap.size,1,none⟩ (.slice An f.pr.terms.length cn)).heap.size:=by rw [World.size_setCell];exact hszn
 clear k_a l_a f_a
 generalize w2.setCell ⟨w.heap.size,1,none⟩ (.slice An f.pr.terms.length cn)=w3 at *
 have k_a:=BA.out.cell
 have l_a:=BA.out.lt
 go_upto_region 3 with fail
 clear k_a l_a
 go_loopw [14] (fun i wr=>∃(k:Nat) (xs:List SV),k≤f.pr.terms.length∧i=.int .i64 k∧xs.length=f.pr.terms.length∧Hid (xs.map SV.t=f.pr.terms)∧Hid (Below w.heap.size w wr)∧Hid (w1.heap.size≤wr.heap.size)∧Hid (Blk wr w.heap.size #[.string f.pr.name,.slice An f.pr.terms.length cn,.int .u32 f.o])∧Hid (Blk wr (w.heap.size+1) #[.string ⟨#[]⟩,.slice none 0 0,.int .u32 0])∧Hid (StkB w1.heap.size w.heap.size d wr xs An cn)∧Hid (∀i (hi:i<xs.length),i<k→xs[i].t.l≠[]→∀a,xs[i].a=some a→w1.heap.size≤a.block)) (fun i _=>f.pr.terms.length-(intOf i).toNat)
 case atStart=>exact ⟨0,xs0,AH _,rfl,hx0,HMAP,HB2,AE hs2,BA,BR,HST,AE fun i _ h=>absurd h (by omega)⟩
 case round=>
  clear HST HST0 HMAP HB2 BA BR
  obtain ⟨k,xs,hk,rfl,hxl,HMAP,HWR,HSZ,BA,BR,HST,HNEW⟩:=hrel
  have hszr:=HWR.out.size
  have hszw:=HSZ.out
  by_cases hlt:k<f.pr.terms.length
  ·have hkx:k<xs.length:=by omega
   obtain ⟨g,rfl,hg1,hg2,hg3,hg4,hcell,hfr,hback⟩:=HST.out.setL hkx
   have hx:∃x,x=xs[k]:=⟨_,rfl⟩
   obtain ⟨x,hx⟩:=hx
   have hcx:wr.cell? ⟨g,k*4+3,none⟩=some (.slice x.a x.t.l.length x.c):=by rw [hx];exact hcell k hkx 3 _ rfl
   have HX:=AE hx
   have HTA:Hid (dt d wr x):=AE (hx▸HST.out.tms _ (List.getElem_mem hkx))
   have HXF:Hid (af x.t=true):=AE (by
    refine HOK.out.fix _ ?_
    rw [←HMAP.out,hx]
    exact List.mem_map_of_mem (List.getElem_mem hkx))
   obtain ⟨hle,hl16⟩:=aO HXF.out
   have HLE:=AE hle
   have HBK:=AE hback
   have HFR:=AE hfr
   have HCX:=AE hcx
   clear hcell hback hfr hx hle hcx
   have k_a:=BA.out.cell
   have l_a:=BA.out.lt
   have hI0:(0:Int)≤(k:Int):=Int.natCast_nonneg _
   have hI1:(k:Int)<(f.pr.terms.length:Int):=by omega
   go_upto_region 5 with fail
   clear k_a l_a
   have HSL:Hid (∀{w':World},Below wr.heap.size wr w'→(w'.cell? ⟨w.heap.size,1,none⟩=some (.slice (some ⟨g,0,none⟩) f.pr.terms.length cn)∧w'.cell? ⟨g,k*4+3,none⟩=some (.slice x.a x.t.l.length x.c))):=AE (fun hb=>⟨(BA.out.later hb).cell 1,(hb.cell (p:=⟨g,k*4+3,none⟩) hg2).trans HCX.out⟩)
   refine bv (S:=fun w'=>w'.cell? ⟨w.heap.size,1,none⟩=some (.slice (some ⟨g,0,none⟩) f.pr.terms.length cn)∧w'.cell? ⟨g,k*4+3,none⟩=some (.slice x.a x.t.l.length x.c)) 14 (by kernel_rfl) (by kernel_rfl) (by kernel_rfl) (by kernel_rfl) (HSL.out (AI _ _).drew) ?_
   refine ax 0 ?_
   refine ax 1 ?_
   refine ax 2 ?_
   refine ax 3 ?_
   refine ax 4 ?_
   refine ax 5 ?_
   refine ax 6 ?_
   refine ax 7 ?_
   refine ax 8 ?_
   refine ax 9 ?_
   refine ax 10 ?_
   refine aJ (rs:=[11]) (by kernel_rfl) rfl (by kernel_rfl) ?_
   refine aB.cons rfl (fun K hK=>?_) aB.nil
   go_simp
   refine (bU (d:=d) (B:=wr.heap.size) (xs:=x.t.l) (A:=x.a) (c:=x.c) ((zt HTA.out).keep (AI wr.heap.size wr).drew (AG _)) (AG _) (by omega)).mono ?_
   rintro e w7 ⟨⟨v,rfl,hown⟩,hb7⟩
   obtain ⟨A5,c5,hv⟩:∃A c,v=.slice A x.t.l.length c:=hown.form
   subst hv
   have HON:Hid (aq (TmR d) 29 w7 wr.heap.size 0 (.slice A5 x.t.l.length c5) x.t.l):=AE (hown.leaves HLE.out)
   have HB7:Hid (Below wr.heap.size wr w7):=AE ((AI wr.heap.size wr).drew.trans hb7)
   have hsz7:=HB7.out.size
   have hfz:∀o,w7.frozen? ⟨g,o,none⟩=false:=fun o=>(World.frozen?_of_block (HB7.out.block g hg2)).trans (HFR.out o)
   have hcx7:=(HB7.out.cell (p:=⟨g,k*4+3,none⟩) hg2).trans HCX.out
   clear hown hb7
   refine hK.out _ _ (HSL.out HB7.out) ?_
   clear hK
   refine ax 12 ?_
   refine ax 13 ?_
   refine eu (by kernel_rfl) (by kernel_rfl) rfl (fun K hK=>?_)
   go_simp
   refine hK.out _ _ ?_
   clear hfz hcx7
   have HTO:Hid (TmOwn d wr.heap.size w7 x.t A5 c5):=AE (xD HTA.out HON.out (by omega))
   have HST7:=AE (HST.out.later HB7.out)
   obtain ⟨g',e,_,_,_,_,_,_,hback⟩:=HST7.out.setL hkx
   simp only [AP,Addr.mk.injEq,and_true] at e
   subst e
   have HS8:=AE (hback ⟨x.t,A5,c5⟩ HTO.out.at_ (by rw [←HX.out]) (fun _ a ha=>⟨.inr (by have:=(HTO.out.blk a ha).1;omega),(HTO.out.blk a ha).2⟩) (fun _ a ha=>by have:=(HTO.out.blk a ha).1;omega))
   clear hback
   go_wp2_with fail
   go_roundw
   case rel=>exact ⟨k+1,xs.set k ⟨x.t,A5,c5⟩,by omega,by go_num,by rw [List.length_set];exact hxl,AE (by
    rw [List.map_set,HMAP.out]
    show f.pr.terms.set k x.t=_
    have e:x.t=f.pr.terms[k]:=by
     have h1:(xs.map SV.t)[k]'(by simpa using hkx)=f.pr.terms[k]:=List.getElem_of_eq HMAP.out _
     rw [HX.out,←h1,List.getElem_map]
    rw [e,List.set_getElem_self]),AE ((HWR.out.trans (HB7.out.mono hszr)).setCell (p:=⟨g,k*4+3,none⟩) (show w.heap.size≤g by omega) _),AE (by rw [World.size_setCell];omega),AE ((BA.out.later HB7.out).far (c:=g) (by omega) _ _),AE ((BR.out.later HB7.out).far (c:=g) (by omega) _ _),HS8,AE (fun i hi hik hn a ha=>by
    rw [List.length_set] at hi
    by_cases hii:i=k
    ·subst hii
     rw [List.getElem_set_self] at ha
     have:=(HTO.out.blk a ha).1
     omega
    ·rw [List.getElem_set_ne (Ne.symm hii)] at hn ha
     exact HNEW.out i hi (by omega) hn a ha)⟩
   case measure=>simp [intOf];omega
  ·have HNW:Hid (StkB w1.heap.size 0 d wr xs An cn):=AE (HST.out.new fun x hx hn a ha=>by
    obtain ⟨i,hi,rfl⟩:=List.getElem_of_mem hx
    exact HNEW.out i hi (by omega) hn a ha)
   have k_a:=BA.out.cell
   have l_a:=BA.out.lt
   have k_r:=BR.out.cell
   have l_r:=BR.out.lt
   have f_r:=BR.out.free
   go_wp2_with fail
   refine bodyPost_ret (ret_fc rfl rfl (put3b BR.out (.string f.pr.name) (.slice An f.pr.terms.length cn) (.int .u32 f.o)) rfl) rfl ?_
   refine ⟨⟨An,cn,rfl,bT.lower ⟨xs,HMAP.out,?_⟩ hsz1⟩,put3u HWR.out (by omega) _ _ _⟩
   exact ((HNW.out.far (by omega) (by omega) 0 _).far (by omega) (by omega) 1 _).far (by omega) (by omega) 2 _
structure FV where
 f:Fc
 a:Option Addr
 c:Nat
def FV.cs (x:FV):List Value:=fcV x.f x.a x.c
def FvR:Reader FV where
 k:=3
 rd:=fun _ _ x vs=>vs=x.cs
 keep:=fun _ _ h=>h
 wide:=fun _ h=>h
 len:=fun h=>by rw [h];rfl
theorem bC:dL FvR:=fun {w B x vs} h u hu=>by
 have h:vs=x.cs:=h
 subst h
 simp only [FV.cs,fcV,List.mem_cons,List.not_mem_nil,or_false] at hu
 rcases hu with rfl | rfl | rfl<;>rfl
theorem aU:Shallow FvR FV.cs:=⟨Iff.rfl,fun _=>rfl⟩
theorem fh:(Tryz.prog.info? 33).map (fun i=>(i.zero,i.size,i.bytes))=some (some (.agg #[.string ⟨#[]⟩,.slice none 0 0,.int .u32 0]),3,48):=by kernel_rfl
def de:FV:=⟨⟨⟨⟨#[]⟩,[]⟩,0⟩,none,0⟩
theorem yL {cs:Array Value} {n q:Nat} (h:q<n):(madeCells cs n).toList[q]? = some (cs[q % cs.size]!):=by
 have hs:q<(madeCells cs n).toList.length:=by rw [AQ,size_madeCells];exact h
 rw [AO hs]
 simp [madeCells]
theorem tM {cs:Array Value} {k n i:Nat} (hk:cs.size=k) (h0:0<k) (hi:i<n):((madeCells cs (n*k)).toList.drop (i*k)).take k=cs.toList:=by
 have hle:(i+1)*k≤n*k:=Nat.mul_le_mul_right _ hi
 rw [Nat.add_mul] at hle
 apply List.ext_getElem?
 intro j
 rw [List.getElem?_take]
 split
 ·rename_i hj
  have e:(i*k+j) % cs.size=j:=by rw [hk,Nat.mul_comm,Nat.mul_add_mod,Nat.mod_eq_of_lt hj]
  rw [List.getElem?_drop,yL (by omega),e,AO (by rw [AQ];omega),getElem!_pos cs j (by omega)]
  simp
 ·rename_i hj
  rw [List.getElem?_eq_none (by rw [AQ];omega)]
theorem aq.made {α:Type} {R:Reader α} {enc:α→List Value} (hs:Shallow R enc) {cs:Array Value} {x0:α} {w:World} {b base n:Nat} {T:TypeId} (hx:enc x0=cs.toList) (h0:0<R.k) (h:bS w b (madeCells cs (n*R.k)) T) (hb:base≤b) (hn:n≤maxLen):aq R T w base 0 (.slice (some ⟨b,0,none⟩) n n) (List.replicate n x0):=by
 have hk:cs.size=R.k:=by rw [←AQ,←hx,hs.len]
 refine bS.own (cells:=(madeCells cs (n*R.k)).toList) h ⟨by rw [AQ,size_madeCells,List.length_replicate],fun i hi=>?_⟩ hb (List.length_replicate ..) hn
 rw [List.length_replicate] at hi
 rw [hs.iff,tM hk h0 hi,List.getElem_replicate,hx]
theorem yN (n:Nat) (hn:n≤1000000) (w:World):(Instr.makeSlice 23 (.int .i64 (n:Int)) (.int .i64 (n:Int))).run Tryz.prog w=.ok (.slice (some ⟨w.heap.size,0,none⟩) n n) (w.alloc (.cells (madeCells #[.string ⟨#[]⟩,.slice none 0 0,.int .u32 0] (n*3)) 33)):=by
 obtain ⟨i0,hi0,hz0,hz1,hz2⟩:=info_parts fh
 have hr:=run_make (P:=Tryz.prog) w 23 33 i0 _ Tryz.underlying23 hi0 hz0 .i64 .i64 n n (by omega) (Int.le_refl _) (by rw [hz2];omega) (by omega)
 simp only [Int.toNat_natCast] at hr
 rw [hz1] at hr
 rw [hr]
 rfl
theorem below3 {w w2:World} {B g:Nat} (h:Below B w w2) (hg:B≤g) {i0 i1 i2:Nat} (v0 v1 v2:Value):Below B w (((w2.setCell ⟨g,i0,none⟩ v0).setCell ⟨g,i1,none⟩ v1).setCell ⟨g,i2,none⟩ v2):=((h.setCell (p:=⟨g,i0,none⟩) hg v0).setCell (p:=⟨g,i1,none⟩) hg v1).setCell (p:=⟨g,i2,none⟩) hg v2
theorem agree3 {w:World} {g i0 i1 i2:Nat} {v0 v1 v2:Value}:al (fun q=>q=g) w (((w.setCell ⟨g,i0,none⟩ v0).setCell ⟨g,i1,none⟩ v1).setCell ⟨g,i2,none⟩ v2):=
 al.set_ (al.set_ (al.set_ (al.refl (fun q=>q=g) w) (fun _=>(rfl:g=g)) i0 v0) (fun _=>(rfl:g=g)) i1 v1) (fun _=>(rfl:g=g)) i2 v2
theorem fv_put {w:World} {base n c g i:Nat} {xs:List FV} (h:aq FvR 33 w base 0 (.slice (some ⟨g,0,none⟩) n c) xs) (hi:i<xs.length) (y:FV) :
 aq FvR 33 (((w.setCell ⟨g,i*3,none⟩ (.string y.f.pr.name)).setCell ⟨g,i*3+1,none⟩ (.slice y.a y.f.pr.terms.length y.c)).setCell ⟨g,i*3+2,none⟩ (.int .u32 y.f.o)) base 0 (.slice (some ⟨g,0,none⟩) n c) (xs.set i y):=by
 have hx:0<xs.length:=by omega
 obtain ⟨g1,c1,e1,_,_,_,_,_,_,p1⟩:=h.sh aU hx
 simp only [AR,AP,Addr.mk.injEq,and_true] at e1
 obtain ⟨rfl,rfl,rfl⟩:=e1
 have h1:=p1 i hi 0 (.string y.f.pr.name) ⟨⟨⟨y.f.pr.name,xs[i].f.pr.terms⟩,xs[i].f.o⟩,xs[i].a,xs[i].c⟩ (by show 0<3;omega) rfl
 have hl1:i<(xs.set i ⟨⟨⟨y.f.pr.name,xs[i].f.pr.terms⟩,xs[i].f.o⟩,xs[i].a,xs[i].c⟩).length:=by rw [List.length_set];exact hi
 obtain ⟨g2,c2,e2,_,_,_,_,_,_,p2⟩:=h1.sh aU (by omega)
 simp only [AR,AP,Addr.mk.injEq,and_true] at e2
 obtain ⟨rfl,_,rfl⟩:=e2
 have h2:=p2 i hl1 1 (.slice y.a y.f.pr.terms.length y.c) ⟨⟨⟨y.f.pr.name,y.f.pr.terms⟩,xs[i].f.o⟩,y.a,y.c⟩ (by show 1<3;omega) (by rw [List.getElem_set_self];rfl)
 rw [List.set_set] at h2
 have hl2:i<(xs.set i ⟨⟨⟨y.f.pr.name,y.f.pr.terms⟩,xs[i].f.o⟩,y.a,y.c⟩).length:=by rw [List.length_set];exact hi
 obtain ⟨g3,c3,e3,_,_,_,_,_,_,p3⟩:=h2.sh aU (by omega)
 simp only [AR,AP,Addr.mk.injEq,and_true] at e3
 obtain ⟨rfl,_,rfl⟩:=e3
 have h3:=p3 i hl2 2 (.int .u32 y.f.o) y (by show 2<3;omega) (by rw [List.getElem_set_self];rfl)
 rw [List.set_set] at h3
 exact h3
structure FRow (base d:Nat) (w:World) (xs:List FV) (A:Option Addr) (c:Nat):Prop where
 own:aq FvR 33 w base 0 (.slice A xs.length c) xs
 deep:∀x∈xs,FcOk x.f∧fJ (fun k=>k<base∨(Value.slice A xs.length c).ownBlock=some k) w (fun w'=>(ay (d+1)).rd w' w'.heap.size x.f x.cs)
theorem FRow.agree {base d c:Nat} {w w':World} {xs:List FV} {A:Option Addr} {M:Nat→Prop} (h:FRow base d w xs A c) (ha:al M w w') (hM:∀k,k<w.heap.size→M k→k<base):FRow base d w' xs A c:=
 ⟨h.own.agree ha (fun k hk hm=>by have h1:=(h.own.lt k hk);have h2:=hM k h1.2 hm;omega),fun x hx=>⟨(h.deep x hx).1,(h.deep x hx).2.next (M:=_) ha (fun k hk hm=>.inl (hM k hk hm)) (fun k hk hm=>hm)⟩⟩
theorem FRow.rl {base d c:Nat} {w:World} {xs:List FV} {A:Option Addr} (h:FRow base d w xs A c) (hn:xs.length≤1000000):RSl (ay (d+1)) w w.heap.size (xs.map FV.f) (.slice A xs.length c):=by
 obtain ⟨A3,c3,e3,h1,h2,r3⟩:=h.own.reads (AH _) (by show xs.length*(8*3)≤_;omega)
 simp only [AR] at e3
 obtain ⟨rfl,_,rfl⟩:=e3
 refine ⟨A,c,by rw [AM],by rw [AM];exact h1,⟨by rw [AM];show xs.length*(8*3)≤_;omega,h2.2⟩,?_⟩
 intro h0
 rw [AM] at h0
 obtain ⟨b,off,e,hb,hc⟩:=r3 h0
 refine ⟨b,off,e,hb,fun i hi=>?_⟩
 rw [AM] at hi
 obtain ⟨vs,hl,⟨x,hx,hr⟩,hv⟩:=hc i hi
 obtain rfl:vs=x.cs:=hr
 exact ⟨x.cs,hl,⟨x.f,by rw [List.getElem?_map,hx];rfl,(h.deep x (List.mem_of_getElem? hx)).2.here⟩,hv⟩
theorem FRow.stab {base d c:Nat} {w:World} {xs:List FV} {A:Option Addr} (h:FRow base d w xs A c) (hn:xs.length≤1000000):fJ (fun k=>k<base) w (fun w'=>RSl (ay (d+1)) w' w'.heap.size (xs.map FV.f) (.slice A xs.length c)):=fun w' ha=>(h.agree ha (fun _ _ h=>h)).rl hn
theorem fV {d B c:Nat} {fs:List Fc} {A:Option Addr} {w:World} (hl:RL (ay (d+1)) w B fs A) (hok:∀f∈fs,FcOk f) (hn:fs.length≤1000000) (hB:B≤w.heap.size) :
 Calls Tryz.prog 31 #[.slice A fs.length c] w fun z w'=>(∃xs A' c',xs.map FV.f=fs∧z=.returned (.slice A' fs.length c')∧FRow w.heap.size d w' xs A' c')∧Below w.heap.size w w':=by
 have HL:=AE hl
 have HOK:=AE hok
 have hmk:=yN fs.length hn w
 clear hl hok
 go_enter Tryz.func31,Tryz.ntmps31
 go_upto_region 3 with fail
 generalize hW:World.alloc _ _=w1
 obtain ⟨hb1,hz⟩:=al1 hW
 have HBT:Hid (bS w1 w.heap.size (madeCells #[.string ⟨#[]⟩,.slice none 0 0,.int .u32 0] (fs.length*3)) 33):=AE (hW▸heap_alloc_new w _)
 have HO1:Hid (aq FvR 33 w1 w.heap.size 0 (.slice (some ⟨w.heap.size,0,none⟩) fs.length fs.length) (List.replicate fs.length de)):=AE (aq.made aU rfl (by decide) HBT.out (AG _) (by unfold maxLen;omega))
 have HB1:=AE hb1
 have hsz1:=hb1.size
 have hlt1:w.heap.size<w1.heap.size:=by rw [←hW,World.size_alloc];omega
 clear hW hb1 hmk
 go_loopw [11] (fun i wr=>∃(k:Nat) (xs:List FV),k≤fs.length∧i=.int .i64 k∧xs.length=fs.length∧Hid (Below w.heap.size w wr)∧Hid (w1.heap.size≤wr.heap.size)∧Hid (aq FvR 33 wr w.heap.size 0 (.slice (some ⟨w.heap.size,0,none⟩) fs.length fs.length) xs)∧Hid (∀i (hi:i<xs.length) (hi':i<fs.length),i<k→xs[i].f=fs[i]∧fJ (fun q=>q<w1.heap.size) wr (fun w'=>(ay (d+1)).rd w' w'.heap.size xs[i].f xs[i].cs))) (fun i _=>fs.length-(intOf i).toNat)
 case atStart=>exact ⟨0,_,AH _,rfl,List.length_replicate ..,HB1,AE (AG _),HO1,AE fun i _ _ h=>absurd h (by omega)⟩
 case round=>
  clear HO1 HBT
  obtain ⟨k,xs,hk,rfl,hxl,HWR,HSZ,HO,HD⟩:=hrel
  have hszr:=HWR.out.size
  have hszw:=HSZ.out
  have hBr:B≤wr.heap.size:=by omega
  by_cases hlt:k<fs.length
  ·have hkx:k<xs.length:=by omega
   obtain ⟨bp_,offp,rfl,hobp⟩:=(HL.out.keep HWR.out hB).base (AI _ _) hBr (by omega)
   obtain ⟨f,vs,hx,hlen,hcell,hr⟩:=(HL.out.keep HWR.out hB).at_ (AI _ _) hBr hlt
   have HF:=AE hr
   have HFE:Hid (fs[k]=f):=AE (by rw [AO hlt] at hx;simpa using hx)
   have HFO:Hid (FcOk f):=AE (HOK.out f (List.mem_of_getElem? hx))
   obtain ⟨Af,cf,rfl,g1,g2,g3,g4,_⟩:=aG (show (ay (d+1)).rd wr B f vs from hr)
   have c0:wr.cell? ⟨bp_,offp+k*3,none⟩=some (.string f.pr.name):=hcell 0 _ rfl
   have c1:wr.cell? ⟨bp_,offp+k*3+1,none⟩=some (.slice Af f.pr.terms.length cf):=hcell 1 _ rfl
   have c2:wr.cell? ⟨bp_,offp+k*3+2,none⟩=some (.int .u32 f.o):=hcell 2 _ rfl
   clear hcell hlen hx hr g1 g2 g3 g4
   go_upto_region 5 with fail
   generalize hW:World.alloc _ _=w4
   obtain ⟨hb4,hz4⟩:=al1 hW
   have HBT4:=AE (n11 hW)
   have HW4:=AE hb4
   have hsz4:=hb4.size
   have hB4:B≤w4.heap.size:=by omega
   have HF4:=AE ((ay (d+1)).keep hb4 hBr HF.out)
   clear hW hb4 c0 c1 c2
   have hI0:(0:Int)≤(k:Int):=Int.natCast_nonneg _
   have hI1:(k:Int)<(fs.length:Int):=by omega
   have k_t:=HBT4.out.cell
   have l_t:=HBT4.out.lt
   go_wp2_with fail
   refine (kg (d:=d) (B:=B) (vf:=[_,_,_]) HF4.out HFO.out hB4).mono ?_
   rintro e w5 ⟨⟨A5,c5,rfl,how⟩,hb5⟩
   have HOW:=AE how
   have HB5:=AE hb5
   have HO5:=AE ((HO.out.later HW4.out (AH _)).later hb5 (AH _))
   obtain ⟨g9,c9,e9,h91,h92,h93,h94,h95,h96,h97⟩:=HO5.out.sh aU (by omega)
   simp only [AR,AP,Addr.mk.injEq,and_true] at e9
   obtain ⟨rfl,-,-⟩:=e9
   obtain ⟨u0,q0⟩:∃u,w5.cell? ⟨w.heap.size,k*3,none⟩=some u:=⟨_,h95 k hkx 0 _ rfl⟩
   obtain ⟨u1,q1⟩:∃u,w5.cell? ⟨w.heap.size,k*3+1,none⟩=some u:=⟨_,h95 k hkx 1 _ rfl⟩
   obtain ⟨u2,q2⟩:∃u,w5.cell? ⟨w.heap.size,k*3+2,none⟩=some u:=⟨_,h95 k hkx 2 _ rfl⟩
   clear how hb5 h95 h97
   have hsz5:=HB5.out.size
   unfold fcV
   go_wp2_with fail
   clear q0 q1 q2 k_t l_t
   have hput:=AE (fv_put HO5.out hkx ⟨f,A5,c5⟩)
   go_roundw
   case rel=>exact ⟨k+1,xs.set k ⟨f,A5,c5⟩,by omega,by go_num,by rw [List.length_set];exact hxl,AE (below3 (aa (aa HWR.out HW4.out) HB5.out) (AG _) _ _ _),AE (by simp only [World.size_setCell];omega),hput,AE (fun i hi hi' hik=>by
    rw [List.length_set] at hi
    have hag:al (fun q=>q=w.heap.size) w5 (((w5.setCell ⟨w.heap.size,k*3,none⟩ (.string f.pr.name)).setCell ⟨w.heap.size,k*3+1,none⟩ (.slice A5 f.pr.terms.length c5)).setCell ⟨w.heap.size,k*3+2,none⟩ (.int .u32 f.o)):=agree3
    by_cases hii:i=k
    ·subst hii
     rw [List.getElem_set_self]
     exact ⟨HFE.out.symm,(HOW.out.stab (M:=fun q=>q<w4.heap.size) HFO.out (fun q h1 h2=>by omega)).next hag (fun q _ e=>by omega) (fun q _ h=>by omega)⟩
    ·rw [List.getElem_set_ne (Ne.symm hii)]
     obtain ⟨e1,e2⟩:=HD.out i hi hi' (by omega)
     exact ⟨e1,((e2.later HW4.out).later HB5.out).next hag (fun q _ e=>by omega) (fun q _ h=>h)⟩)⟩
   case measure=>simp [intOf];omega
  ·have hmap:Hid (xs.map FV.f=fs):=AE (List.ext_getElem (by simp [hxl]) fun i h1 h2=>by
    rw [List.getElem_map]
    exact (HD.out i (by simpa using h1) h2 (by omega)).1)
   go_wp2_with fail
   go_ret
   refine ⟨⟨xs,some ⟨w.heap.size,0,none⟩,fs.length,hmap.out,rfl,⟨by rw [hxl];exact HO.out,fun x hx=>?_⟩⟩,HWR.out⟩
   obtain ⟨i,hi,rfl⟩:=List.getElem_of_mem hx
   obtain ⟨e1,e2⟩:=HD.out i hi (by omega) (by omega)
   refine ⟨by rw [e1];exact HOK.out _ (List.getElem_mem _),e2.less fun q hq hm=>?_⟩
   rcases hm with hm | hm
   ·omega
   ·simp only [Value.ownBlock,AP] at hm
    omega
end Go.Proofs.YtjpndglegpcdnaaGreat
