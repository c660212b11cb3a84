/- store.copied. -/
import Derived.Test.YtjpndglegpcdnaaGreatJoClone
import Derived.Test.YtjpndglegpcdnaaGreatStab
import Derived.RegionTactic
import Derived.Deep.RegionHeld3
import Derived.Deep.RegionLaw
import Derived.Deep.DeepCutAuto
import Derived.Test.YtjpndglegpcdnaaGreatHeldA
import Derived.Test.YtjpndglegpcdnaaGreatRule1
import Derived.Test.YtjpndglegpcdnaaGreatAn1
set_option linter.unusedVariables false
set_option linter.unusedSimpArgs false
set_option maxRecDepth 100000
set_option maxHeartbeats 8000000
namespace Go.Proofs.YtjpndglegpcdnaaGreat
open Go.ChangeShapes Go.WideShapes Go.ChangeAt Go.RowKit
theorem ret_bd {fn:Func} {tmps:Array Value} {p:Tmp} {g:Nat} {w:World} {cs:Array Value} (h:fn.results=#[.cell p 114]) (hp:tmps.getD p undef=.pointer (some ⟨g,0,none⟩)) (hb:Blk w g cs) (hn:cs.size=2) :
 (results fn tmps).run Tryz.prog w=.ok (.agg cs) w:=by
 obtain ⟨T,hb⟩:=hb
 exact results_cell_row h tmps w g T cs (0,0) _ hp hb Tryz.underlying114 rfl (by rw [hn];kernel_rfl)
theorem jg {fn:Func} {tmps:Array Value} {p u:Tmp} {g:Nat} {w:World} {cs:Array Value} (h:fn.results=#[.cell p 114,.tmp u]) (hp:tmps.getD p undef=.pointer (some ⟨g,0,none⟩)) (hb:Blk w g cs) (hn:cs.size=2) :
 (results fn tmps).run Tryz.prog w=.ok (.tuple #[.agg cs,tmps.getD u undef]) w:=by
 obtain ⟨T,hb⟩:=hb
 rw [results_cell_tmp h]
 have e:tmps[p]?.getD undef=.pointer (some ⟨g,0,none⟩):=by simpa using hp
 have e1:((asAddr (tmps.getD p undef)).run Tryz.prog w)=.ok ⟨g,0,none⟩ w:=by simp [e,asAddr]
 rw [e1,Result.andThen_ok,run_loadVar_row w g T 114 cs (0,0) _ hb Tryz.underlying114 rfl (by rw [hn];kernel_rfl),Result.andThen_ok]
theorem jO {w:World} {g:Nat} {a b:Value} (h:Blk w g #[a,b]) (v0 v1:Value):Blk ((w.setCell ⟨g,0,none⟩ v0).setCell ⟨g,1,none⟩ v1) g #[v0,v1]:=(h.set_ 0 v0).set_ 1 v1
theorem jP {w w2:World} {B g:Nat} (h:Below B w w2) (hg:B≤g) (v0 v1:Value):Below B w ((w2.setCell ⟨g,0,none⟩ v0).setCell ⟨g,1,none⟩ v1):=(h.setCell (p:=⟨g,0,none⟩) hg v0).setCell (p:=⟨g,1,none⟩) hg v1
theorem gj {d B:Nat} {t:Tm} {vs:List Value} {w:World} (ht:RTm w B (d+1) t vs) (hB:B≤w.heap.size) (hlf:∀x∈t.l,iP x) (hn:t.l.length≤16) :
 Calls Tryz.prog 84 #[.agg vs.toArray] w fun e w'=>(∃A c,e=.returned (.agg #[.int .i64 t.kind,.int .i64 t.n,.string t.s,.slice A t.l.length c])∧TmOwn d w.heap.size w' t A c)∧Below w.heap.size w w':=by
 obtain ⟨At,ct,rfl,q1,q2,q3,q4,q5,hl⟩:=ht
 have HL:Hid (RL (TmR d) w B t.l At):=ym hl
 have HQ:=ym (And.intro q3 (And.intro q4 q5))
 clear hl
 go_enter Tryz.func84,Tryz.ntmps84
 go_upto_region 1 with fail
 generalize hW:World.alloc _ _=w1
 obtain ⟨hb,hz⟩:=al2 hW
 have b_a:=n21 hW
 have b_r:=n22 hW
 have HB1:=ym hb
 have hsz1:=hb.size
 have hlr:=b_r.lt
 clear hW hz hb
 have hB1:=yn hB hsz1
 have HSR:=ym (HL.out.keep HB1.out hB)
 have k_a:=b_a.cell
 have l_a:=b_a.lt
 go_upto_region 2 with ((
  go_at_call 71
  refine (bP HSR.out hB1 (by omega)).mono ?_
  rintro e wn_ ⟨⟨v,rfl,hown⟩,hb⟩
  obtain ⟨An,cn,hv⟩:∃A c,v=.slice A t.l.length c:=hown.form
  subst hv
  have HON:=ym (hown.leaves hlf)
  have HBN:=ym hb
  have hszn:=hb.size
  clear k_a l_a
  have k_a:=(b_a.keep HBN.out (by omega)).cell
  have l_a:=(b_a.keep HBN.out (by omega)).lt
  have f_a:=(b_a.keep HBN.out (by omega)).free
  clear hown hb))
 have BA:=ym ((b_a.keep HBN.out (by omega)).set_ 3 (.slice An t.l.length cn))
 have BR:=ym ((b_r.keep HBN.out hlr).far (c:=w.heap.size) (by omega) 3 (.slice An t.l.length cn))
 have HO2:=ym (HON.out.far (c:=w.heap.size) (i:=3) (by omega) (yp _) (.slice An t.l.length cn))
 have HB2:Hid (Below w.heap.size w (wn_.setCell ⟨w.heap.size,3,none⟩ (.slice An t.l.length cn))):=ym ((HB1.out.trans (HBN.out.mono hsz1)).setCell (yo _) _)
 clear k_a l_a f_a
 generalize wn_.setCell ⟨w.heap.size,3,none⟩ (.slice An t.l.length cn)=w2 at *
 have k_a:=BA.out.cell
 have l_a:=BA.out.lt
 have k_r:=BR.out.cell
 have l_r:=BR.out.lt
 have f_r:=BR.out.free
 go_wp2_with fail
 have hbr:=dq BR.out (.int .i64 t.kind) (.int .i64 t.n) (.string t.s) (.slice An t.l.length cn)
 refine bodyPost_ret (mF rfl rfl hbr rfl) rfl ?_
 have hto:TmOwn d w1.heap.size w2 t An cn:=⟨HO2.out,HQ.out.2.1,HQ.out.2.2,HQ.out.1,by omega⟩
 exact ⟨⟨An,cn,rfl,(hto.put4 (by omega) _ _ _ _).lower (by omega)⟩,cB HB2.out (by omega) _ _ _ _⟩
structure BdQ (base D:Nat) (w:World) (b:Bd) (xs:List SV) (An:Option Addr) (cn:Nat) (At:Option Addr) (ct:Nat):Prop where
 tms:xs.map SV.t=b.terms
 nm:am cR 9 w base 0 (.slice An b.names.length cn) (b.names.map mkS)
 st:StkQ base D w xs At ct
 sep:∀x∈xs,∀a,x.a=some a→∀g,An=some g→a.block≠g.block
theorem StkQ.lower {base b0 D c:Nat} {w:World} {xs:List SV} {A:Option Addr} (h:StkQ base D w xs A c) (hb:b0≤base):StkQ b0 D w xs A c:=
 ⟨h.own.lower hb,h.tms,h.sep,fun x hx a ha=>⟨yn hb (h.lt x hx a ha).1,(h.lt x hx a ha).2⟩⟩
theorem StkQ.own_ge {base D c g:Nat} {w:World} {xs:List SV} {A:Option Addr} (h:StkQ base D w xs A c) (hg:g<base):(Value.slice A xs.length c).ownBlock≠some g:=by
 intro e
 rcases A with _ | a
 ·cases e
 ·simp only [Value.ownBlock,yz] at e
  have:=(h.row a rfl).1
  omega
theorem am.row_lt {α:Type} {R:Reader α} {e:TypeId} {w:World} {base B n c:Nat} {A:Option Addr} {xs:List α} (h:am R e w base B (.slice A n c) xs):∀g,A=some g→base≤g.block∧g.block<w.heap.size:=by
 intro g hg
 subst hg
 obtain ⟨cells,how,_⟩:=h
 exact how.lt g.block rfl
theorem am.grownN {α:Type} {R:Reader α} {e:TypeId} {w w':World} {base:Nat} {v:Value} {xs:List α} {row:Option Nat} (h:am R e w base 0 v xs) (hg:w.grownBy w' row) (hne:∀g,v.ownBlock=some g→some g≠row):am R e w' base 0 v xs:=by
 obtain ⟨cells,h,hf⟩:=h
 have hb:Below 0 w w':=(yq 0 w).grown hg (yp _) (fun k hk=>yp _)
 refine ⟨cells,⟨h.1,?_⟩,hf.keep hb (yo _)⟩
 rcases h.2 with h2 | ⟨g,cap,cur,hv,hg0,hh,r⟩
 ·exact .inl h2
 ·refine .inr ⟨g,cap,cur,hv,hg0,?_,r⟩
  have hlt:g<w.heap.size:=by
   rcases Nat.lt_or_ge g w.heap.size with h' | h'
   ·exact h'
   ·rw [Array.getElem?_eq_none h'] at hh;cases hh
  exact (hg.block g hlt (hne g (by rw [hv];rfl))).trans hh
theorem oN {α β:Type} {R:Reader α} {R':Reader β} {e e':TypeId} {w:World} {base base' B B':Nat} {v v':Value} {xs:List α} {ys:List β} (h:am R e w base B v xs) (h':am R' e' w base' B' v' ys) (hT:e≠e'):∀g,v.ownBlock=some g→some g≠v'.ownBlock:=by
 intro g hg he
 obtain ⟨cells,h,_⟩:=h
 obtain ⟨cells',h',_⟩:=h'
 rcases h.2 with ⟨h1,_⟩ | ⟨g1,cap,cur,hv,_,hh,_⟩
 ·rw [h1] at hg;cases hg
 ·rw [hv] at hg
  simp only [Value.ownBlock,yz] at hg
  rcases h'.2 with ⟨h1,_⟩ | ⟨g2,cap',cur',hv',_,hh',_⟩
  ·rw [h1] at he;cases he
  ·rw [hv'] at he
   simp only [Value.ownBlock,yz] at he
   subst hg;subst he
   rw [hh] at hh'
   simp only [yz,Obj.cells.injEq] at hh'
   exact hT hh'.2.1
theorem StkQ.grownN {base D c:Nat} {w w':World} {xs:List SV} {A:Option Addr} {row:Option Nat} (h:StkQ base D w xs A c) (hg:w.grownBy w' row) (h1:∀x∈xs,∀a,x.a=some a→some a.block≠row) (h2:∀g,(Value.slice A xs.length c).ownBlock=some g→some g≠row):StkQ base D w' xs A c:=
 ⟨h.own.grownN hg h2,fun x hx=>(h.tms x hx).keep ((yq 0 w).grown hg (yp _) (fun k hk=>yp _)) fun a ha=>hg.block _ (h.lt x hx a ha).2 (h1 x hx a ha),h.sep,fun x hx a ha=>⟨(h.lt x hx a ha).1,yr (h.lt x hx a ha).2 hg.size⟩⟩
theorem StkQ.put {base D c:Nat} {w w2:World} {xs zs:List SV} {x:SV} {A:Option Addr} (h:StkQ base D w xs A c) (hx:dh D w x) (hap:∀a,x.a=some a→∀b,A=some b→a.block≠b.block) (hlt:∀a,x.a=some a→base≤a.block∧a.block<w.heap.size) (hbase:base≤w.heap.size)
 (hz:∀y∈zs,y=x∨y∈xs) {A2:Option Addr} {c2:Nat} (ho:am SvR 29 w2 base 0 (.slice A2 zs.length c2) zs) (hg:w.grownBy w2 (Value.slice A xs.length c).ownBlock) (hf:bC w (.slice A xs.length c) (.slice A2 zs.length c2)) :
 StkQ base D w2 zs A2 c2∧Below base w w2:=by
 have hb:Below base w w2:=(yq base w).grown hg hbase (fun k hk=>by
  obtain ⟨cells,how,_⟩:=h.own
  exact (how.lt k hk).1)
 have hb0:Below 0 w w2:=hb.mono (yp _)
 have key:∀y,dh D w y→(∀a,y.a=some a→∀b,A=some b→a.block≠b.block)→(∀a,y.a=some a→base≤a.block∧a.block<w.heap.size)→dh D w2 y∧∀a,y.a=some a→(base≤a.block∧a.block<w2.heap.size)∧∀b,A2=some b→a.block≠b.block:=by
  intro y hy hs hl
  refine ⟨hy.keep hb0 fun a ha=>hg.block _ (hl a ha).2 ?_,fun a ha=>⟨⟨(hl a ha).1,yr (hl a ha).2 hb.size⟩,fun b hb2 e=>?_⟩⟩
  ·intro e
   rcases hA:A with _ | b
   ·rw [hA] at e;cases e
   ·rw [hA] at e
    simp only [Value.ownBlock,yz] at e
    exact hs a ha b hA e
  ·subst hb2
   rcases hf with hf | ⟨k,hk,hk2⟩
   ·rcases hA:A with _ | a2
    ·rw [hA] at hf;simp [Value.ownBlock] at hf
    ·rw [hA] at hf
     simp only [Value.ownBlock,yz] at hf
     exact hs a ha a2 hA (e.trans hf)
   ·simp only [Value.ownBlock,yz] at hk
    have:=(hl a ha).2
    omega
 have hall:∀y∈zs,dh D w2 y∧∀a,y.a=some a→(base≤a.block∧a.block<w2.heap.size)∧∀b,A2=some b→a.block≠b.block:=by
  intro y hy
  rcases hz y hy with h1 | h1
  ·subst h1
   exact key y hx hap hlt
  ·exact key y (h.tms y h1) (h.sep y h1) (h.lt y h1)
 exact ⟨⟨ho,fun y hy=>(hall y hy).1,fun y hy a ha=>((hall y hy).2 a ha).2,fun y hy a ha=>((hall y hy).2 a ha).1⟩,hb⟩
theorem BdQ.later {base D:Nat} {w w':World} {b:Bd} {xs:List SV} {An At:Option Addr} {cn ct:Nat} (h:BdQ base D w b xs An cn At ct) (hb:Below w.heap.size w w'):BdQ base D w' b xs An cn At ct:=
 ⟨h.tms,h.nm.later hb (yp _),h.st.later hb,h.sep⟩
theorem StkQ.rl {base D c:Nat} {w:World} {xs:List SV} {A:Option Addr} (h:StkQ base D w xs A c) (hn:xs.length≤1000000):RL (TmR (D+1)) w w.heap.size (xs.map SV.t) A:=by
 obtain ⟨A3,c3,e3,_,_,r3⟩:=h.own.reads (yp _) (by show xs.length*(8*4)≤_;omega)
 simp only [yB] at e3
 obtain ⟨rfl,_,rfl⟩:=e3
 intro h0
 rw [yw] at h0
 obtain ⟨b,off,e,hb,hc⟩:=r3 h0
 refine ⟨b,off,e,hb,fun i hi=>?_⟩
 rw [yw] at hi
 obtain ⟨vs,hl,⟨x,hx,hr⟩,hv⟩:=hc i hi
 obtain rfl:vs=x.cs:=hr
 exact ⟨x.cs,hl,⟨x.t,by rw [List.getElem?_map,hx];rfl,(h.tms x (List.mem_of_getElem? hx)).1⟩,hv⟩
theorem tv {d B cn ct:Nat} {b:Bd} {An At:Option Addr} {w:World} (hn:RL cR w B (b.names.map mkS) An) (ht:RL (TmR (d+1)) w B b.terms At) (hfix:∀t∈b.terms,af t=true) (hn1:b.names.length≤1000) (ht1:b.terms.length≤1000) (hB:B≤w.heap.size) :
 Calls Tryz.prog 123 #[.agg (bdV An b.names.length cn At b.terms.length ct)] w fun z w'=>(∃An' cn' At' ct' xs,z=.returned (.agg #[.slice An' b.names.length cn',.slice At' b.terms.length ct'])∧BdQ w.heap.size d w' b xs An' cn' At' ct')∧Below w.heap.size w w':=by
 have HN:=ym hn
 have HT:=ym ht
 have HFX:=ym hfix
 clear hn ht hfix
 obtain ⟨i0,hi0,hz0,hz1,hz2⟩:=info_parts gJ
 unfold bdV
 go_enter Tryz.func123,Tryz.ntmps123
 go_upto_region 1 with fail
 generalize hW:World.alloc _ _=w1
 obtain ⟨hb,hz⟩:=al2 hW
 have b_a:=n21 hW
 have b_r:=n22 hW
 have HB1:=ym hb
 have hsz1:=hb.size
 clear hW hb
 have hB1:=yn hB hsz1
 have HCL:=ym (nT (c:=cn) (xs:=b.names.map mkS) (HN.out.keep HB1.out hB) hB1 (by rw [yw];omega))
 rw [yw] at HCL
 have k_a:=b_a.cell
 have l_a:=b_a.lt
 go_upto_region 2 with ((
  go_at_call 152
  refine HCL.out.mono ?_
  rintro e w2 ⟨⟨v,rfl,hown⟩,hb⟩
  obtain ⟨A2,c2,hv⟩:∃A c,v=.slice A b.names.length c:=by have:=hown.form;rwa [yw] at this
  subst hv
  have HON:=ym (show am cR 9 w2 w1.heap.size 0 (.slice A2 b.names.length c2) (b.names.map mkS) from (by
   obtain ⟨cells,h1,h2⟩:=hown
   exact ⟨cells,h1,h2.1,h2.2⟩))
  have HB2:=ym hb
  have BA2:=ym (b_a.later hb)
  have BR2:=ym (b_r.later hb)
  have hsz2:=hb.size
  clear k_a l_a hown hb))
 generalize hW:World.alloc _ _=w3
 obtain ⟨hb3,hz3⟩:=al1 hW
 have HBO3:=ym (n11 hW)
 have HB3:=ym hb3
 have BA3:=ym (BA2.out.later hb3)
 have BR3:=ym (BR2.out.later hb3)
 have HN3:=ym (HON.out.later hb3 (yp _))
 have hsz3:=hb3.size
 clear hW hb3 HCL
 have k_a:=BA3.out.cell
 have l_a:=BA3.out.lt
 have HOL:=ym (HBO3.out.lt)
 clear b_a b_r
 go_upto_region 3 with fail
 go_loopw [13] (fun i wr=>∃(k:Nat) (xs:List SV) (A:Option Addr) (c:Nat),k≤b.terms.length∧i=.int .i64 k∧xs.length=k∧Hid (xs.map SV.t=b.terms.take k)∧Hid (Below w2.heap.size w2 wr)∧Hid (Blk wr w2.heap.size #[.slice A2 b.names.length c2,.slice A k c])∧Hid (StkQ w3.heap.size d wr xs A c)) (fun i _=>b.terms.length-(intOf i).toNat)
 case atStart=>exact ⟨0,[],none,0,yp _,rfl,rfl,ym rfl,HB3,HBO3,ym (StkQ.nil _ _ _)⟩
 case round=>
  obtain ⟨k,xs,A,c,hk,rfl,hxl,HXT,HWR,HBO,HST⟩:=hrel
  subst hxl
  have hszr:=HWR.out.size
  have HBw:Hid (Below w.heap.size w wr):=ym (HB1.out.trans ((HB2.out.mono hsz1).trans (HWR.out.mono (by omega))))
  have hBr:B≤wr.heap.size:=by omega
  by_cases hlt:xs.length<b.terms.length
  ·obtain ⟨b_,off,rfl,hob⟩:=(HT.out.keep HBw.out hB).base (yq _ _) hBr (by omega)
   obtain ⟨x,vs,hx,hlen,hcell,hr⟩:=(HT.out.keep HBw.out hB).at_ (yq _ _) hBr hlt
   have HX:=ym hr
   obtain ⟨Ax,cx,rfl,g1,g2,g3,g4,g5,_⟩:=RTm.cells (show RTm wr B (d+1) x vs from hr)
   have c0:wr.cell? ⟨b_,off+xs.length*4,none⟩=some (.int .i64 x.kind):=hcell 0 _ rfl
   have c1:wr.cell? ⟨b_,off+xs.length*4+1,none⟩=some (.int .i64 x.n):=hcell 1 _ rfl
   have c2:wr.cell? ⟨b_,off+xs.length*4+2,none⟩=some (.string x.s):=hcell 2 _ rfl
   have c3:wr.cell? ⟨b_,off+xs.length*4+3,none⟩=some (.slice Ax x.l.length cx):=hcell 3 _ rfl
   have HXE:Hid (b.terms[xs.length]=x):=ym (by rw [yy hlt] at hx;simpa using hx)
   have HF:Hid (af x=true):=ym (HFX.out x (List.mem_of_getElem? hx))
   obtain ⟨hle,hl16⟩:=aJ HF.out
   have HLE:=ym hle
   clear hcell hlen hx hr hle k_a l_a
   go_upto_region 5 with fail
   generalize hW:World.alloc _ _=w4
   obtain ⟨hb4,hz4⟩:=al1 hW
   have HBQ:=ym (n11 hW)
   have HW4:=ym hb4
   have HBO4:=ym (HBO.out.later hb4)
   have HST4:=ym (HST.out.later hb4)
   have HX4:=ym (RTm.below hb4 hBr HX.out)
   have hB4:B≤w4.heap.size:=by omega
   have hsz4:=hb4.size
   clear hW hb4 c0 c1 c2 c3
   have HLO:=ym (HBO4.out.lt)
   have hlo:=HLO.out
   have HLQ:=ym (HBQ.out.lt)
   have hlq:=HLQ.out
   have hI0:(0:Int)≤(xs.length:Int):=Int.natCast_nonneg _
   have hk1:xs.length≤1000:=by omega
   have tok9:True:=trivial
   have HSL:Hid (∀{w':World},Below w4.heap.size w4 w'→(w'.cell? ⟨w2.heap.size,1,none⟩=some (.slice A xs.length c)∧w'.cell? ⟨wr.heap.size,0,none⟩=some (.int .i64 x.kind)∧w'.cell? ⟨wr.heap.size,1,none⟩=some (.int .i64 x.n)∧w'.cell? ⟨wr.heap.size,2,none⟩=some (.string x.s)∧w'.cell? ⟨wr.heap.size,3,none⟩=some (.slice Ax x.l.length cx))):=ym (fun hb=>have h:=(HBQ.out.later hb).cell;⟨(HBO4.out.later hb).cell 1,h 0,h 1,h 2,h 3⟩)
   go_upto_region 5 with fail
   refine bj (S:=fun w'=>w'.cell? ⟨w2.heap.size,1,none⟩=some (.slice A xs.length c)∧w'.cell? ⟨wr.heap.size,0,none⟩=some (.int .i64 x.kind)∧w'.cell? ⟨wr.heap.size,1,none⟩=some (.int .i64 x.n)∧w'.cell? ⟨wr.heap.size,2,none⟩=some (.string x.s)∧w'.cell? ⟨wr.heap.size,3,none⟩=some (.slice Ax x.l.length cx)) 7 (by kernel_rfl) (by kernel_rfl) (by kernel_rfl) (by kernel_rfl) (HSL.out (yq _ _).drew) ?_
   refine av 0 ?_ (by simp only [List.getElem?_toArray,List.getElem?_cons_succ,yD];rfl)
   (try simp only [Act.put,List.setIfInBounds_toArray,List.set_cons_zero,List.set_cons_succ])
   refine av 1 ?_ (by simp only [List.getElem?_toArray,List.getElem?_cons_succ,yD];rfl)
   (try simp only [Act.put,List.setIfInBounds_toArray,List.set_cons_zero,List.set_cons_succ])
   refine av 2 ?_ (by simp only [List.getElem?_toArray,List.getElem?_cons_succ,yD];rfl)
   (try simp only [Act.put,List.setIfInBounds_toArray,List.set_cons_zero,List.set_cons_succ])
   refine aF (rs:=[3]) (by kernel_rfl) rfl (by kernel_rfl) ?_
   refine ay.cons (by simp only [List.getElem?_toArray,List.getElem?_cons_succ,yD];rfl) (fun K hK=>?_) ay.nil
   go_simp
   refine (gj (B:=B) (t:=x) (vs:=[_,_,_,_]) (RTm.below (yq _ _).drew hB4 HX4.out) hB4 HLE.out hl16).mono ?_
   rintro e w5 ⟨⟨A5,c5,rfl,hown⟩,hb5⟩
   have HOWN:Hid (TmOwn d w4.heap.size w5 x A5 c5):=ym hown
   have HB5:Hid (Below w4.heap.size w4 w5):=ym ((yq w4.heap.size w4).drew.trans hb5)
   have hsz5:=HB5.out.size
   clear hown hb5
   refine hK.out _ _ (HSL.out HB5.out) ?_
   clear hK
   (try simp only [Act.put,List.setIfInBounds_toArray,List.set_cons_zero,List.set_cons_succ])
   refine aF (rs:=[4]) (by kernel_rfl) rfl (by kernel_rfl) ?_
   refine ay.cons (by simp only [List.getElem?_toArray,List.getElem?_cons_succ,yD];rfl) (fun K hK=>?_) ay.nil
   go_simp
   refine hK.out _ _ (HSL.out (HB5.out.alloc hsz5 _)) ?_
   clear hK
   (try simp only [Act.put,List.setIfInBounds_toArray,List.set_cons_zero,List.set_cons_succ])
   refine aF (rs:=[5]) (by kernel_rfl) rfl (by kernel_rfl) ?_
   refine ay.cons (by simp only [List.getElem?_toArray,List.getElem?_cons_succ,yD];rfl) (fun K hK=>?_) ay.nil
   refine cO (R:=SvR) (e:=29) rfl (.tmp 18) (.tmp 21) 24 rfl (bytes:=56) Tryz.underlying24 hi0 hz0 hz1 hz2 rfl (show 0<4 by omega) cj rfl (base:=w3.heap.size) (xs:=xs) (ys:=[⟨x,A5,c5⟩]) (HST4.out.own.later (HB5.out.alloc hsz5 _) (yp _)) rfl (vg (x:=⟨x,A5,c5⟩) xY) rfl (by simp only [yE,List.length_nil];omega) (by omega) (by rw [World.size_alloc];omega) ?_
   intro v wn_ hown hg hf
   obtain ⟨An2,cn2,hv⟩:∃A c,v=.slice A (xs.length+1) c:=by have:=hown.form;rwa [yv,List.length_singleton] at this
   subst hv
   have happ:=(HST4.out.later (HB5.out.alloc hsz5 _)).app (x:=⟨x,A5,c5⟩) (HOWN.out.at_.later ((yq _ _).alloc (yo _) _)) (HST4.out.apart (yo _) fun a ha=>(HOWN.out.blk a ha).1) (fun a ha=>⟨by have:=(HOWN.out.blk a ha).1;omega,by have:=(HOWN.out.blk a ha).2;rw [World.size_alloc];omega⟩) (by rw [World.size_alloc];omega) hown hg hf
   have HQB:=ym (((HBQ.out.later (HB5.out.alloc hsz5 _)).grown hg (HST.out.own.own_lt (yo _)).symm).cell)
   have HBO9:=ym ((HBO4.out.later (HB5.out.alloc hsz5 _)).grown hg (HST.out.own_ge (by omega)).symm)
   have f_o:=HBO9.out.free
   have k_o9:=HBO9.out.cell
   have HAP:=ym happ.1
   have HWR9:Hid (Below w2.heap.size w2 wn_):=ym ((HWR.out.trans (HW4.out.mono (by omega))).trans (((HB5.out.alloc hsz5 _).mono (by omega)).trans (happ.2.mono (by omega))))
   clear hown hg hf happ
   refine hK.out _ _ (⟨HBO9.out.cell 1,HQB.out 0,HQB.out 1,HQB.out 2,HQB.out 3⟩) ?_
   clear hK
   (try simp only [Act.put,List.setIfInBounds_toArray,List.set_cons_zero,List.set_cons_succ])
   refine av 6 ?_ (by simp only [List.getElem?_toArray,List.getElem?_cons_succ,yD];rfl)
   (try simp only [Act.put,List.setIfInBounds_toArray,List.set_cons_zero,List.set_cons_succ])
   refine dZ (by kernel_rfl) (by kernel_rfl) (by simp only [List.getElem?_toArray,List.getElem?_cons_succ,yD];rfl) (fun K hK=>?_)
   go_simp
   refine hK.out _ _ ?_
   (try simp only [Act.put,List.setIfInBounds_toArray,List.set_cons_zero,List.set_cons_succ])
   go_wp2_with fail
   go_roundw
   case rel=>exact ⟨xs.length+1,xs++[⟨x,A5,c5⟩],An2,cn2,by omega,by go_num,by rw [yv,List.length_singleton],ym (by rw [List.map_append,HXT.out,←HXE.out,List.map_singleton];exact (List.take_append_getElem hlt)),ym (HWR9.out.setCell (p:=⟨w2.heap.size,1,none⟩) (yo _) _),ym (HBO9.out.set_ 1 _),ym (HAP.out.under (by omega) 1 _)⟩
   case measure=>simp [intOf];omega
  ·have HXL:Hid (xs.length=b.terms.length):=ym (by omega)
   have HXT2:Hid (xs.map SV.t=b.terms):=ym (by rw [HXT.out,HXL.out,List.take_length])
   have BRr:=ym (BR2.out.keep HWR.out (by omega))
   have k_o:=HBO.out.cell
   have k_r:=BRr.out.cell
   have f_r:=BRr.out.free
   have l_r:=BRr.out.lt
   clear k_a l_a
   go_wp2_with fail
   rw [HXL.out]
   refine bodyPost_ret (ret_bd rfl rfl (jO BRr.out (.slice A2 b.names.length c2) (.slice A b.terms.length c)) rfl) rfl ?_
   refine ⟨⟨A2,c2,A,c,xs,rfl,HXT2.out,?_,?_,fun x hx a ha g hg=>by have h1:=(HST.out.lt x hx a ha).1;have h2:=(HON.out.row_lt g hg).2;omega⟩,jP HBw.out (by omega) _ _⟩
   ·exact (((HON.out.later HWR.out (yp _)).far (by omega) (yp _) _).far (by omega) (yp _) _).lower (by omega)
   ·exact ((HST.out.under (by omega) 0 _).under (by omega) 1 _).lower (by omega)
def bO (base d:Nat) (w:World) (f:Fc) (A:Option Addr) (c:Nat):Prop:=∃xs:List SV,xs.map SV.t=f.pr.terms∧StkB base 0 d w xs A c
def fcV (f:Fc) (A:Option Addr) (c:Nat):List Value:=[.string f.pr.name,.slice A f.pr.terms.length c,.int .u32 f.o]
structure FcOk (f:Fc):Prop where
 name:f.pr.name.size≤140737488351232
 o:U32 f.o
 few:f.pr.terms.length≤8
 fix:∀t∈f.pr.terms,af t=true
section
variable {base d c:Nat} {w w':World} {f:Fc} {A:Option Addr} {M:Nat→Prop}
theorem bO.agree (h:bO base d w f A c) (ha:ak M w w') (hM:∀k,base≤k→¬M k):bO base d w' f A c:=by
 obtain ⟨xs,e,h⟩:=h
 exact ⟨xs,e,h.agree ha hM (fun k hk=>absurd hk (Nat.not_lt_zero k))⟩
theorem bO.later (h:bO base d w f A c) (hb:Below w.heap.size w w'):bO base d w' f A c:=h.agree (M:=fun _=>False) (ak.of_below hb) (fun _ _ h=>h)
theorem bO.lower {b0:Nat} (h:bO base d w f A c) (hb:b0≤base):bO b0 d w f A c:=by
 obtain ⟨xs,e,h⟩:=h
 exact ⟨xs,e,h.lower hb⟩
theorem bO.rd (h:bO base d w f A c) (hok:FcOk f):(aC (d+1)).rd w w.heap.size f (fcV f A c):=by
 obtain ⟨xs,e,h⟩:=h
 have hl:xs.length=f.pr.terms.length:=by rw [←e,yw]
 have hr:=h.reads (by have:=hok.few;omega)
 rw [e,hl] at hr
 exact ⟨_,rfl,⟨_,rfl,hok.name,hr⟩,hok.o⟩
theorem bO.stab (h:bO base d w f A c) (hok:FcOk f) (hM:∀k,base≤k→¬M k):fl M w (fun w'=>(aC (d+1)).rd w' w'.heap.size f (fcV f A c)):=fun w' ha=>(h.agree ha hM).rd hok
end
theorem ret_fc {fn:Func} {tmps:Array Value} {p:Tmp} {g:Nat} {w:World} {cs:Array Value} (h:fn.results=#[.cell p 33]) (hp:tmps.getD p undef=.pointer (some ⟨g,0,none⟩)) (hb:Blk w g cs) (hn:cs.size=3) :
 (results fn tmps).run Tryz.prog w=.ok (.agg cs) w:=by
 obtain ⟨T,hb⟩:=hb
 exact results_cell_row h tmps w g T cs (0,0) _ hp hb Tryz.underlying33 rfl (by rw [hn];kernel_rfl)
theorem put3b {w:World} {g:Nat} {a b c:Value} (h:Blk w g #[a,b,c]) (v0 v1 v2:Value):Blk (((w.setCell ⟨g,0,none⟩ v0).setCell ⟨g,1,none⟩ v1).setCell ⟨g,2,none⟩ v2) g #[v0,v1,v2]:=((h.set_ 0 v0).set_ 1 v1).set_ 2 v2
theorem put3u {w w2:World} {B g:Nat} (h:Below B w w2) (hg:B≤g) (v0 v1 v2:Value):Below B w (((w2.setCell ⟨g,0,none⟩ v0).setCell ⟨g,1,none⟩ v1).setCell ⟨g,2,none⟩ v2):=((h.setCell (p:=⟨g,0,none⟩) hg v0).setCell (p:=⟨g,1,none⟩) hg v1).setCell (p:=⟨g,2,none⟩) hg v2
theorem xu {d:Nat} {w:World} {x:SV} (h:dh d w x):RL (TmR d) w w.heap.size x.t.l x.a:=by
 obtain ⟨⟨A,c,e,h1,h2,h3,h4,h5,h6⟩,_⟩:=h
 simp only [SV.cs,List.cons.injEq,yB,and_true,true_and] at e
 rw [e.1];exact h6
theorem vk {d base:Nat} {w w':World} {x:SV} {A:Option Addr} {c:Nat} (h:dh d w x) (ho:am (TmR d) 29 w' base 0 (.slice A x.t.l.length c) x.t.l) (hl:x.t.l.length≤1000000):TmOwn d base w' x.t A c:=by
 obtain ⟨⟨A,c,e,h1,h2,h3,h4,h5,h6⟩,_⟩:=h
 exact ⟨ho,h4,h5,h3,hl⟩
theorem StkB.far' {base B B2 D c g:Nat} {w:World} {xs:List SV} {A:Option Addr} (h:StkB base B D w xs A c) (hg:g<base) (hB:B≤g) (hB2:B≤B2) (i:Nat) (u:Value):StkB base B2 D (w.setCell ⟨g,i,none⟩ u) xs A c:=by
 have h2:=h.far hB hg i u
 exact ⟨h2.own,h2.tms,h2.sep,fun x hx hn a ha=>⟨(h2.lt x hx hn a ha).1.imp (fun h=>yr h hB2) id,(h2.lt x hx hn a ha).2⟩⟩
theorem jw {d B:Nat} {f:Fc} {vf:List Value} {w:World} (hf:(aC (d+1)).rd w B f vf) (hok:FcOk f) (hB:B≤w.heap.size) :
 Calls Tryz.prog 49 #[.agg vf.toArray] w fun z w'=>(∃A c,z=.returned (.agg (fcV f A c).toArray)∧bO w.heap.size d w' f A c)∧Below w.heap.size w w':=by
 obtain ⟨A,c,rfl,hs,h1,h2,h3,hl,ho⟩:=bh hf
 have HL:=ym hl
 have HOK:=ym hok
 have hn8:=hok.few
 clear hf hl ho hok
 go_enter Tryz.func49,Tryz.ntmps49
 go_upto_region 1 with fail
 generalize hW:World.alloc _ _=w1
 obtain ⟨hb,hz⟩:=al2 hW
 have b_a:=n21 hW
 have b_r:=n22 hW
 have HB1:=ym hb
 have hsz1:=hb.size
 have hlr:=b_r.lt
 clear hW hz hb
 have hB1:=yn hB hsz1
 have HSR:=ym (HL.out.keep HB1.out hB)
 have k_a:=b_a.cell
 have l_a:=b_a.lt
 go_upto_region 2 with ((
  go_at_call 71
  refine (bP HSR.out hB1 (by omega)).mono ?_
  rintro e w2 ⟨⟨v,rfl,hown⟩,hb⟩
  obtain ⟨xs0,An,cn,hmap,rfl,hst⟩:=StkB.of_clone hown hB1 (yn hB1 hb.size) (fun t ht=>(aJ (HOK.out.fix t ht)).1)
  have HST0:=ym hst
  have HMAP:=ym hmap
  have HBN:=ym hb
  have hszn:=hb.size
  clear k_a l_a
  have k_a:=(b_a.later HBN.out).cell
  have l_a:=(b_a.later HBN.out).lt
  have f_a:=(b_a.later HBN.out).free
  clear hown hb hst hmap))
 have BA:=ym ((b_a.later HBN.out).set_ 1 (.slice An f.pr.terms.length cn))
 have BR:=ym ((b_r.later HBN.out).far (c:=w.heap.size) (by omega) 1 (.slice An f.pr.terms.length cn))
 have hx0:xs0.length=f.pr.terms.length:=by rw [←HMAP.out,yw]
 have HST:Hid (StkB w1.heap.size w.heap.size d (w2.setCell ⟨w.heap.size,1,none⟩ (.slice An f.pr.terms.length cn)) xs0 An cn):=ym (HST0.out.far' (by omega) hB (by omega) 1 _)
 have HB2:Hid (Below w.heap.size w (w2.setCell ⟨w.heap.size,1,none⟩ (.slice An f.pr.terms.length cn))):=ym ((HB1.out.trans (HBN.out.mono hsz1)).setCell (yo _) _)
 have hs2:w1.heap.size≤(w2.setCell ⟨w.heap.size,1,none⟩ (.slice An f.pr.terms.length cn)).heap.size:=by rw [World.size_setCell];exact hszn
 clear k_a l_a f_a
 generalize w2.setCell ⟨w.heap.size,1,none⟩ (.slice An f.pr.terms.length cn)=w3 at *
 have k_a:=BA.out.cell
 have l_a:=BA.out.lt
 go_upto_region 3 with fail
 clear k_a l_a
 go_loopw [14] (fun i wr=>∃(k:Nat) (xs:List SV),k≤f.pr.terms.length∧i=.int .i64 k∧xs.length=f.pr.terms.length∧Hid (xs.map SV.t=f.pr.terms)∧Hid (Below w.heap.size w wr)∧Hid (w1.heap.size≤wr.heap.size)∧Hid (Blk wr w.heap.size #[.string f.pr.name,.slice An f.pr.terms.length cn,.int .u32 f.o])∧Hid (Blk wr (w.heap.size+1) #[.string ⟨#[]⟩,.slice none 0 0,.int .u32 0])∧Hid (StkB w1.heap.size w.heap.size d wr xs An cn)∧Hid (∀i (hi:i<xs.length),i<k→xs[i].t.l≠[]→∀a,xs[i].a=some a→w1.heap.size≤a.block)) (fun i _=>f.pr.terms.length-(intOf i).toNat)
 case atStart=>exact ⟨0,xs0,yp _,rfl,hx0,HMAP,HB2,ym hs2,BA,BR,HST,ym fun i _ h=>absurd h (by omega)⟩
 case round=>
  clear HST HST0 HMAP HB2 BA BR
  obtain ⟨k,xs,hk,rfl,hxl,HMAP,HWR,HSZ,BA,BR,HST,HNEW⟩:=hrel
  have hszr:=HWR.out.size
  have hszw:=HSZ.out
  by_cases hlt:k<f.pr.terms.length
  ·have hkx:k<xs.length:=by omega
   obtain ⟨g,rfl,hg1,hg2,hg3,hg4,hcell,hfr,hback⟩:=HST.out.setL hkx
   have hx:∃x,x=xs[k]:=⟨_,rfl⟩
   obtain ⟨x,hx⟩:=hx
   have hcx:wr.cell? ⟨g,k*4+3,none⟩=some (.slice x.a x.t.l.length x.c):=by rw [hx];exact hcell k hkx 3 _ rfl
   have HX:=ym hx
   have HTA:Hid (dh d wr x):=ym (hx▸HST.out.tms _ (List.getElem_mem hkx))
   have HXF:Hid (af x.t=true):=ym (by
    refine HOK.out.fix _ ?_
    rw [←HMAP.out,hx]
    exact List.mem_map_of_mem (List.getElem_mem hkx))
   obtain ⟨hle,hl16⟩:=aJ HXF.out
   have HLE:=ym hle
   have HBK:=ym hback
   have HFR:=ym hfr
   have HCX:=ym hcx
   clear hcell hback hfr hx hle hcx
   have k_a:=BA.out.cell
   have l_a:=BA.out.lt
   have hI0:(0:Int)≤(k:Int):=Int.natCast_nonneg _
   have hI1:(k:Int)<(f.pr.terms.length:Int):=by omega
   go_upto_region 5 with fail
   clear k_a l_a
   have HSL:Hid (∀{w':World},Below wr.heap.size wr w'→(w'.cell? ⟨w.heap.size,1,none⟩=some (.slice (some ⟨g,0,none⟩) f.pr.terms.length cn)∧w'.cell? ⟨g,k*4+3,none⟩=some (.slice x.a x.t.l.length x.c))):=ym (fun hb=>⟨(BA.out.later hb).cell 1,(hb.cell (p:=⟨g,k*4+3,none⟩) hg2).trans HCX.out⟩)
   refine bj (S:=fun w'=>w'.cell? ⟨w.heap.size,1,none⟩=some (.slice (some ⟨g,0,none⟩) f.pr.terms.length cn)∧w'.cell? ⟨g,k*4+3,none⟩=some (.slice x.a x.t.l.length x.c)) 14 (by kernel_rfl) (by kernel_rfl) (by kernel_rfl) (by kernel_rfl) (HSL.out (yq _ _).drew) ?_
   refine av 0 ?_
   refine av 1 ?_
   refine av 2 ?_
   refine av 3 ?_
   refine av 4 ?_
   refine av 5 ?_
   refine av 6 ?_
   refine av 7 ?_
   refine av 8 ?_
   refine av 9 ?_
   refine av 10 ?_
   refine aF (rs:=[11]) (by kernel_rfl) rfl (by kernel_rfl) ?_
   refine ay.cons rfl (fun K hK=>?_) ay.nil
   go_simp
   refine (bP (d:=d) (B:=wr.heap.size) (xs:=x.t.l) (A:=x.a) (c:=x.c) ((xu HTA.out).keep (yq wr.heap.size wr).drew (yo _)) (yo _) (by omega)).mono ?_
   rintro e w7 ⟨⟨v,rfl,hown⟩,hb7⟩
   obtain ⟨A5,c5,hv⟩:∃A c,v=.slice A x.t.l.length c:=hown.form
   subst hv
   have HON:Hid (am (TmR d) 29 w7 wr.heap.size 0 (.slice A5 x.t.l.length c5) x.t.l):=ym (hown.leaves HLE.out)
   have HB7:Hid (Below wr.heap.size wr w7):=ym ((yq wr.heap.size wr).drew.trans hb7)
   have hsz7:=HB7.out.size
   have hfz:∀o,w7.frozen? ⟨g,o,none⟩=false:=fun o=>(World.frozen?_of_block (HB7.out.block g hg2)).trans (HFR.out o)
   have hcx7:=(HB7.out.cell (p:=⟨g,k*4+3,none⟩) hg2).trans HCX.out
   clear hown hb7
   refine hK.out _ _ (HSL.out HB7.out) ?_
   clear hK
   refine av 12 ?_
   refine av 13 ?_
   refine dZ (by kernel_rfl) (by kernel_rfl) rfl (fun K hK=>?_)
   go_simp
   refine hK.out _ _ ?_
   clear hfz hcx7
   have HTO:Hid (TmOwn d wr.heap.size w7 x.t A5 c5):=ym (vk HTA.out HON.out (by omega))
   have HST7:=ym (HST.out.later HB7.out)
   obtain ⟨g',e,_,_,_,_,_,_,hback⟩:=HST7.out.setL hkx
   simp only [yz,Addr.mk.injEq,and_true] at e
   subst e
   have HS8:=ym (hback ⟨x.t,A5,c5⟩ HTO.out.at_ (by rw [←HX.out]) (fun _ a ha=>⟨.inr (by have:=(HTO.out.blk a ha).1;omega),(HTO.out.blk a ha).2⟩) (fun _ a ha=>by have:=(HTO.out.blk a ha).1;omega))
   clear hback
   go_wp2_with fail
   go_roundw
   case rel=>exact ⟨k+1,xs.set k ⟨x.t,A5,c5⟩,by omega,by go_num,by rw [List.length_set];exact hxl,ym (by
    rw [List.map_set,HMAP.out]
    show f.pr.terms.set k x.t=_
    have e:x.t=f.pr.terms[k]:=by
     have h1:(xs.map SV.t)[k]'(by simpa using hkx)=f.pr.terms[k]:=List.getElem_of_eq HMAP.out _
     rw [HX.out,←h1,List.getElem_map]
    rw [e,List.set_getElem_self]),ym ((HWR.out.trans (HB7.out.mono hszr)).setCell (p:=⟨g,k*4+3,none⟩) (show w.heap.size≤g by omega) _),ym (by rw [World.size_setCell];omega),ym ((BA.out.later HB7.out).far (c:=g) (by omega) _ _),ym ((BR.out.later HB7.out).far (c:=g) (by omega) _ _),HS8,ym (fun i hi hik hn a ha=>by
    rw [List.length_set] at hi
    by_cases hii:i=k
    ·subst hii
     rw [List.getElem_set_self] at ha
     have:=(HTO.out.blk a ha).1
     omega
    ·rw [List.getElem_set_ne (Ne.symm hii)] at hn ha
     exact HNEW.out i hi (by omega) hn a ha)⟩
   case measure=>simp [intOf];omega
  ·have HNW:Hid (StkB w1.heap.size 0 d wr xs An cn):=ym (HST.out.new fun x hx hn a ha=>by
    obtain ⟨i,hi,rfl⟩:=List.getElem_of_mem hx
    exact HNEW.out i hi (by omega) hn a ha)
   have k_a:=BA.out.cell
   have l_a:=BA.out.lt
   have k_r:=BR.out.cell
   have l_r:=BR.out.lt
   have f_r:=BR.out.free
   go_wp2_with fail
   refine bodyPost_ret (ret_fc rfl rfl (put3b BR.out (.string f.pr.name) (.slice An f.pr.terms.length cn) (.int .u32 f.o)) rfl) rfl ?_
   refine ⟨⟨An,cn,rfl,bO.lower ⟨xs,HMAP.out,?_⟩ hsz1⟩,put3u HWR.out (by omega) _ _ _⟩
   exact ((HNW.out.far (by omega) (by omega) 0 _).far (by omega) (by omega) 1 _).far (by omega) (by omega) 2 _
end Go.Proofs.YtjpndglegpcdnaaGreat
