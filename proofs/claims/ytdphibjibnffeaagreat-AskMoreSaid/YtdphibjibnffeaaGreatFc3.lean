/- Rows of facts; store.all. -/
import Derived.Test.YtdphibjibnffeaaGreatShelf
import Derived.Test.YtdphibjibnffeaaGreatRule1
import Derived.Test.YtdphibjibnffeaaGreatJoBound
import Derived.Test.YtdphibjibnffeaaGreatBind
import Derived.Laws.OwnMore
set_option linter.unusedVariables false
set_option linter.unusedSimpArgs false
set_option maxRecDepth 100000
set_option maxHeartbeats 8000000
namespace Go.Proofs.YtdphibjibnffeaaGreat
open Go.ChangeShapes Go.WideShapes Go.ChangeAt Go.RowKit
def bX (base d:Nat) (w:World) (f:Fc) (A:Option Addr) (c:Nat):Prop:=∃xs:List SV,xs.map SV.t=f.pr.terms∧StkB base 0 d w xs A c
def fcV (f:Fc) (A:Option Addr) (c:Nat):List Value:=[.string f.pr.name,.slice A f.pr.terms.length c,.int .u32 f.o]
structure FcOk (f:Fc):Prop where
 name:f.pr.name.size≤140737488351232
 o:U32 f.o
 few:f.pr.terms.length≤8
 fix:∀t∈f.pr.terms,af t=true
section
variable {base d c:Nat} {w w':World} {f:Fc} {A:Option Addr} {M:Nat→Prop}
theorem bX.agree (h:bX base d w f A c) (ha:aw M w w') (hM:∀k,base≤k→¬M k):bX base d w' f A c:=by
 obtain ⟨xs,e,h⟩:=h
 exact ⟨xs,e,h.agree ha hM (fun k hk=>absurd hk (Nat.not_lt_zero k))⟩
theorem bX.later (h:bX base d w f A c) (hb:Below w.heap.size w w'):bX base d w' f A c:=h.agree (M:=fun _=>False) (aw.of_below hb) (fun _ _ h=>h)
theorem bX.lower {b0:Nat} (h:bX base d w f A c) (hb:b0≤base):bX b0 d w f A c:=by
 obtain ⟨xs,e,h⟩:=h
 exact ⟨xs,e,h.lower hb⟩
theorem bX.rd (h:bX base d w f A c) (hok:FcOk f):(ax (d+1)).rd w w.heap.size f (fcV f A c):=by
 obtain ⟨xs,e,h⟩:=h
 have hl:xs.length=f.pr.terms.length:=by rw [←e,List.length_map]
 have hr:=h.reads (by have:=hok.few;omega)
 rw [e,hl] at hr
 exact ⟨_,rfl,⟨_,rfl,hok.name,hr⟩,hok.o⟩
theorem bX.stab (h:bX base d w f A c) (hok:FcOk f) (hM:∀k,base≤k→¬M k):ie M w (fun w'=>(ax (d+1)).rd w' w'.heap.size f (fcV f A c)):=fun w' ha=>(h.agree ha hM).rd hok
end
theorem ret_fc {fn:Func} {tmps:Array Value} {p:Tmp} {g:Nat} {w:World} {cs:Array Value} (h:fn.results=#[.cell p 33]) (hp:tmps.getD p undef=.pointer (some ⟨g,0,none⟩)) (hb:Blk w g cs) (hn:cs.size=3) :
 (results fn tmps).run Tryz.prog w=.ok (.agg cs) w:=by
 obtain ⟨T,hb⟩:=hb
 exact results_cell_row h tmps w g T cs (0,0) _ hp hb Tryz.underlying33 rfl (by rw [hn];kernel_rfl)
theorem put3b {w:World} {g:Nat} {a b c:Value} (h:Blk w g #[a,b,c]) (v0 v1 v2:Value):Blk (((w.setCell ⟨g,0,none⟩ v0).setCell ⟨g,1,none⟩ v1).setCell ⟨g,2,none⟩ v2) g #[v0,v1,v2]:=((h.set_ 0 v0).set_ 1 v1).set_ 2 v2
theorem put3u {w w2:World} {B g:Nat} (h:Below B w w2) (hg:B≤g) (v0 v1 v2:Value):Below B w (((w2.setCell ⟨g,0,none⟩ v0).setCell ⟨g,1,none⟩ v1).setCell ⟨g,2,none⟩ v2):=((h.setCell (p:=⟨g,0,none⟩) hg v0).setCell (p:=⟨g,1,none⟩) hg v1).setCell (p:=⟨g,2,none⟩) hg v2
theorem xW {d:Nat} {w:World} {x:SV} (h:dl d w x):RL (TmR d) w w.heap.size x.t.l x.a:=by
 obtain ⟨⟨A,c,e,h1,h2,h3,h4,h5,h6⟩,_⟩:=h
 simp only [SV.cs,List.cons.injEq,Value.slice.injEq,and_true,true_and] at e
 rw [e.1];exact h6
theorem vU {d base:Nat} {w w':World} {x:SV} {A:Option Addr} {c:Nat} (h:dl d w x) (ho:am (TmR d) 79 w' base 0 (.slice A x.t.l.length c) x.t.l) (hl:x.t.l.length≤1000000):TmOwn d base w' x.t A c:=by
 obtain ⟨⟨A,c,e,h1,h2,h3,h4,h5,h6⟩,_⟩:=h
 exact ⟨ho,h4,h5,h3,hl⟩
theorem StkB.far' {base B B2 D c g:Nat} {w:World} {xs:List SV} {A:Option Addr} (h:StkB base B D w xs A c) (hg:g<base) (hB:B≤g) (hB2:B≤B2) (i:Nat) (u:Value):StkB base B2 D (w.setCell ⟨g,i,none⟩ u) xs A c:=by
 have h2:=h.far hB hg i u
 exact ⟨h2.own,h2.tms,h2.sep,fun x hx hn a ha=>⟨(h2.lt x hx hn a ha).1.imp (fun h=>zb h hB2) id,(h2.lt x hx hn a ha).2⟩⟩
theorem jA {d B:Nat} {f:Fc} {vf:List Value} {w:World} (hf:(ax (d+1)).rd w B f vf) (hok:FcOk f) (hB:B≤w.heap.size) :
 Calls Tryz.prog 108 #[.agg vf.toArray] w fun z w'=>(∃A c,z=.returned (.agg (fcV f A c).toArray)∧bX w.heap.size d w' f A c)∧Below w.heap.size w w':=by
 obtain ⟨A,c,rfl,hs,h1,h2,h3,hl,ho⟩:=aI hf
 have HL:=yW hl
 have HOK:=yW hok
 have hn8:=hok.few
 clear hf hl ho hok
 go_enter Tryz.func108,Tryz.ntmps108
 go_upto_region 1 with fail
 generalize hW:World.alloc _ _=w1
 obtain ⟨hb,hz⟩:=al2 hW
 have b_a:=n21 hW
 have b_r:=n22 hW
 have HB1:=yW hb
 have hsz1:=hb.size
 have hlr:=b_r.lt
 clear hW hz hb
 have hB1:=yX hB hsz1
 have HSR:=yW (HL.out.keep HB1.out hB)
 have k_a:=b_a.cell
 have l_a:=b_a.lt
 go_upto_region 2 with ((
  go_at_call 126
  refine (bM HSR.out hB1 (by omega)).mono ?_
  rintro e w2 ⟨⟨v,rfl,hown⟩,hb⟩
  obtain ⟨xs0,An,cn,hmap,rfl,hst⟩:=StkB.of_clone hown hB1 (yX hB1 hb.size) (fun t ht=>(cB (HOK.out.fix t ht)).1)
  have HST0:=yW hst
  have HMAP:=yW hmap
  have HBN:=yW hb
  have hszn:=hb.size
  clear k_a l_a
  have k_a:=(b_a.later HBN.out).cell
  have l_a:=(b_a.later HBN.out).lt
  have f_a:=(b_a.later HBN.out).free
  clear hown hb hst hmap))
 have BA:=yW ((b_a.later HBN.out).set_ 1 (.slice An f.pr.terms.length cn))
 have BR:=yW ((b_r.later HBN.out).far (c:=w.heap.size) (by omega) 1 (.slice An f.pr.terms.length cn))
 have hx0:xs0.length=f.pr.terms.length:=by rw [←HMAP.out,List.length_map]
 have HST:Hid (StkB w1.heap.size w.heap.size d (w2.setCell ⟨w.heap.size,1,none⟩ (.slice An f.pr.terms.length cn)) xs0 An cn):=yW (HST0.out.far' (by omega) hB (by omega) 1 _)
 have HB2:Hid (Below w.heap.size w (w2.setCell ⟨w.heap.size,1,none⟩ (.slice An f.pr.terms.length cn))):=yW ((HB1.out.trans (HBN.out.mono hsz1)).setCell (yY _) _)
 have hs2:w1.heap.size≤(w2.setCell ⟨w.heap.size,1,none⟩ (.slice An f.pr.terms.length cn)).heap.size:=by rw [World.size_setCell];exact hszn
 clear k_a l_a f_a
 generalize w2.setCell ⟨w.heap.size,1,none⟩ (.slice An f.pr.terms.length cn)=w3 at *
 have k_a:=BA.out.cell
 have l_a:=BA.out.lt
 go_upto_region 3 with fail
 clear k_a l_a
 go_loopw [14] (fun i wr=>∃(k:Nat) (xs:List SV),k≤f.pr.terms.length∧i=.int .i64 k∧xs.length=f.pr.terms.length∧Hid (xs.map SV.t=f.pr.terms)∧Hid (Below w.heap.size w wr)∧Hid (w1.heap.size≤wr.heap.size)∧Hid (Blk wr w.heap.size #[.string f.pr.name,.slice An f.pr.terms.length cn,.int .u32 f.o])∧Hid (Blk wr (w.heap.size+1) #[.string ⟨#[]⟩,.slice none 0 0,.int .u32 0])∧Hid (StkB w1.heap.size w.heap.size d wr xs An cn)∧Hid (∀i (hi:i<xs.length),i<k→xs[i].t.l≠[]→∀a,xs[i].a=some a→w1.heap.size≤a.block)) (fun i _=>f.pr.terms.length-(intOf i).toNat)
 case atStart=>exact ⟨0,xs0,yZ _,rfl,hx0,HMAP,HB2,yW hs2,BA,BR,HST,yW fun i _ h=>absurd h (by omega)⟩
 case round=>
  clear HST HST0 HMAP HB2 BA BR
  obtain ⟨k,xs,hk,rfl,hxl,HMAP,HWR,HSZ,BA,BR,HST,HNEW⟩:=hrel
  have hszr:=HWR.out.size
  have hszw:=HSZ.out
  by_cases hlt:k<f.pr.terms.length
  ·have hkx:k<xs.length:=by omega
   obtain ⟨g,rfl,hg1,hg2,hg3,hg4,hcell,hfr,hback⟩:=HST.out.setL hkx
   have hx:∃x,x=xs[k]:=⟨_,rfl⟩
   obtain ⟨x,hx⟩:=hx
   have hcx:wr.cell? ⟨g,k*4+3,none⟩=some (.slice x.a x.t.l.length x.c):=by rw [hx];exact hcell k hkx 3 _ rfl
   have HX:=yW hx
   have HTA:Hid (dl d wr x):=yW (hx▸HST.out.tms _ (List.getElem_mem hkx))
   have HXF:Hid (af x.t=true):=yW (by
    refine HOK.out.fix _ ?_
    rw [←HMAP.out,hx]
    exact List.mem_map_of_mem (List.getElem_mem hkx))
   obtain ⟨hle,hl16⟩:=cB HXF.out
   have HLE:=yW hle
   have HBK:=yW hback
   have HFR:=yW hfr
   have HCX:=yW hcx
   clear hcell hback hfr hx hle hcx
   have k_a:=BA.out.cell
   have l_a:=BA.out.lt
   have hI0:(0:Int)≤(k:Int):=Int.natCast_nonneg _
   have hI1:(k:Int)<(f.pr.terms.length:Int):=by omega
   go_upto_region 5 with fail
   clear k_a l_a
   have HSL:Hid (∀{w':World},Below wr.heap.size wr w'→(w'.cell? ⟨w.heap.size,1,none⟩=some (.slice (some ⟨g,0,none⟩) f.pr.terms.length cn)∧w'.cell? ⟨g,k*4+3,none⟩=some (.slice x.a x.t.l.length x.c))):=yW (fun hb=>⟨(BA.out.later hb).cell 1,(hb.cell (p:=⟨g,k*4+3,none⟩) hg2).trans HCX.out⟩)
   refine ci (S:=fun w'=>w'.cell? ⟨w.heap.size,1,none⟩=some (.slice (some ⟨g,0,none⟩) f.pr.terms.length cn)∧w'.cell? ⟨g,k*4+3,none⟩=some (.slice x.a x.t.l.length x.c)) 14 (by kernel_rfl) (by kernel_rfl) (by kernel_rfl) (by kernel_rfl) (HSL.out (za _ _).drew) ?_
   refine al (i:=0) (v:=?v1_) rfl (by kernel_rfl) (by kernel_rfl) (by kernel_rfl) (by kernel_rfl) ?hq1_ ?hw1_ ?hy1_ ?rest1_
   case hq1_=>exact fun _ _ _ h=>h
   case hw1_=>rfl
   case hy1_=>(intro w' hS';(try dsimp only at hS');go_simp;(try with_reducible rfl))
   refine al (i:=1) (v:=?v2_) rfl (by kernel_rfl) (by kernel_rfl) (by kernel_rfl) (by kernel_rfl) ?hq2_ ?hw2_ ?hy2_ ?rest2_
   case hq2_=>exact fun _ _ _ h=>h
   case hw2_=>rfl
   case hy2_=>(intro w' hS';(try dsimp only at hS');go_simp;(try with_reducible rfl))
   refine al (i:=2) (v:=?v3_) rfl (by kernel_rfl) (by kernel_rfl) (by kernel_rfl) (by kernel_rfl) ?hq3_ ?hw3_ ?hy3_ ?rest3_
   case hq3_=>exact fun _ _ _ h=>h
   case hw3_=>rfl
   case hy3_=>(intro w' hS';(try dsimp only at hS');go_simp;(try with_reducible rfl))
   refine al (i:=3) (v:=?v4_) rfl (by kernel_rfl) (by kernel_rfl) (by kernel_rfl) (by kernel_rfl) ?hq4_ ?hw4_ ?hy4_ ?rest4_
   case hq4_=>exact fun _ _ _ h=>h
   case hw4_=>rfl
   case hy4_=>(intro w' hS';(try dsimp only at hS');go_simp;(try with_reducible rfl))
   refine al (i:=4) (v:=?v5_) rfl (by kernel_rfl) (by kernel_rfl) (by kernel_rfl) (by kernel_rfl) ?hq5_ ?hw5_ ?hy5_ ?rest5_
   case hq5_=>exact fun _ _ _ h=>h
   case hw5_=>rfl
   case hy5_=>(intro w' hS';(try dsimp only at hS');go_simp;(try with_reducible rfl))
   refine al (i:=5) (v:=?v6_) rfl (by kernel_rfl) (by kernel_rfl) (by kernel_rfl) (by kernel_rfl) ?hq6_ ?hw6_ ?hy6_ ?rest6_
   case hq6_=>exact fun _ _ _ h=>h
   case hw6_=>rfl
   case hy6_=>(intro w' hS';(try dsimp only at hS');go_simp;(try with_reducible rfl))
   refine al (i:=6) (v:=?v7_) rfl (by kernel_rfl) (by kernel_rfl) (by kernel_rfl) (by kernel_rfl) ?hq7_ ?hw7_ ?hy7_ ?rest7_
   case hq7_=>exact fun _ _ _ h=>h
   case hw7_=>rfl
   case hy7_=>(intro w' hS';(try dsimp only at hS');go_simp;(try with_reducible rfl))
   refine al (i:=7) (v:=?v8_) rfl (by kernel_rfl) (by kernel_rfl) (by kernel_rfl) (by kernel_rfl) ?hq8_ ?hw8_ ?hy8_ ?rest8_
   case hq8_=>exact fun _ _ _ h=>h
   case hw8_=>rfl
   case hy8_=>(intro w' hS';(try dsimp only at hS');go_simp;(try with_reducible rfl))
   refine al (i:=8) (v:=?v9_) rfl (by kernel_rfl) (by kernel_rfl) (by kernel_rfl) (by kernel_rfl) ?hq9_ ?hw9_ ?hy9_ ?rest9_
   case hq9_=>exact fun _ _ _ h=>h
   case hw9_=>rfl
   case hy9_=>(intro w' hS';(try dsimp only at hS');go_simp;(try with_reducible rfl))
   refine al (i:=9) (v:=?v10_) rfl (by kernel_rfl) (by kernel_rfl) (by kernel_rfl) (by kernel_rfl) ?hq10_ ?hw10_ ?hy10_ ?rest10_
   case hq10_=>exact fun _ _ _ h=>h
   case hw10_=>rfl
   case hy10_=>(intro w' hS';(try dsimp only at hS');go_simp;(try with_reducible rfl))
   refine al (i:=10) (v:=?v11_) rfl (by kernel_rfl) (by kernel_rfl) (by kernel_rfl) (by kernel_rfl) ?hq11_ ?hw11_ ?hy11_ ?rest11_
   case hq11_=>exact fun _ _ _ h=>h
   case hw11_=>rfl
   case hy11_=>(intro w' hS';(try dsimp only at hS');go_simp;(try with_reducible rfl))
   refine aY (rs:=[11]) (by kernel_rfl) rfl (by kernel_rfl) ?_
   refine aL.cons rfl (fun K hK=>?_) aL.nil
   go_simp
   refine (bM (d:=d) (B:=wr.heap.size) (xs:=x.t.l) (A:=x.a) (c:=x.c) ((xW HTA.out).keep (za wr.heap.size wr).drew (yY _)) (yY _) (by omega)).mono ?_
   rintro e w7 ⟨⟨v,rfl,hown⟩,hb7⟩
   obtain ⟨A5,c5,hv⟩:∃A c,v=.slice A x.t.l.length c:=hown.form
   subst hv
   have HON:Hid (am (TmR d) 79 w7 wr.heap.size 0 (.slice A5 x.t.l.length c5) x.t.l):=yW (hown.leaves HLE.out)
   have HB7:Hid (Below wr.heap.size wr w7):=yW ((za wr.heap.size wr).drew.trans hb7)
   have hsz7:=HB7.out.size
   have hfz:∀o,w7.frozen? ⟨g,o,none⟩=false:=fun o=>(World.frozen?_of_block (HB7.out.block g hg2)).trans (HFR.out o)
   have hcx7:=(HB7.out.cell (p:=⟨g,k*4+3,none⟩) hg2).trans HCX.out
   clear hown hb7
   refine hK.out _ _ (HSL.out HB7.out) ?_
   clear hK
   refine al (i:=12) (v:=?v12_) rfl (by kernel_rfl) (by kernel_rfl) (by kernel_rfl) (by kernel_rfl) ?hq12_ ?hw12_ ?hy12_ ?rest12_
   case hq12_=>exact fun _ _ _ h=>h
   case hw12_=>rfl
   case hy12_=>(intro w' hS';(try dsimp only at hS');go_simp;(try with_reducible rfl))
   refine al (i:=13) (v:=?v13_) rfl (by kernel_rfl) (by kernel_rfl) (by kernel_rfl) (by kernel_rfl) ?hq13_ ?hw13_ ?hy13_ ?rest13_
   case hq13_=>exact fun _ _ _ h=>h
   case hw13_=>rfl
   case hy13_=>(intro w' hS';(try dsimp only at hS');go_simp;(try with_reducible rfl))
   refine gg (by kernel_rfl) (by kernel_rfl) rfl (fun K hK=>?_)
   go_simp
   refine hK.out _ _ ?_
   clear hfz hcx7
   have HTO:Hid (TmOwn d wr.heap.size w7 x.t A5 c5):=yW (vU HTA.out HON.out (by omega))
   have HST7:=yW (HST.out.later HB7.out)
   obtain ⟨g',e,_,_,_,_,_,_,hback⟩:=HST7.out.setL hkx
   simp only [Option.some.injEq,Addr.mk.injEq,and_true] at e
   subst e
   have HS8:=yW (hback ⟨x.t,A5,c5⟩ HTO.out.at_ (by rw [←HX.out]) (fun _ a ha=>⟨.inr (by have:=(HTO.out.blk a ha).1;omega),(HTO.out.blk a ha).2⟩) (fun _ a ha=>by have:=(HTO.out.blk a ha).1;omega))
   clear hback
   go_wp2_with fail
   go_roundw
   case rel=>exact ⟨k+1,xs.set k ⟨x.t,A5,c5⟩,by omega,by go_num,by rw [List.length_set];exact hxl,yW (by
    rw [List.map_set,HMAP.out]
    show f.pr.terms.set k x.t=_
    have e:x.t=f.pr.terms[k]:=by
     have h1:(xs.map SV.t)[k]'(by simpa using hkx)=f.pr.terms[k]:=List.getElem_of_eq HMAP.out _
     rw [HX.out,←h1,List.getElem_map]
    rw [e,List.set_getElem_self]),yW ((HWR.out.trans (HB7.out.mono hszr)).setCell (p:=⟨g,k*4+3,none⟩) (show w.heap.size≤g by omega) _),yW (by rw [World.size_setCell];omega),yW ((BA.out.later HB7.out).far (c:=g) (by omega) _ _),yW ((BR.out.later HB7.out).far (c:=g) (by omega) _ _),HS8,yW (fun i hi hik hn a ha=>by
    rw [List.length_set] at hi
    by_cases hii:i=k
    ·subst hii
     rw [List.getElem_set_self] at ha
     have:=(HTO.out.blk a ha).1
     omega
    ·rw [List.getElem_set_ne (Ne.symm hii)] at hn ha
     exact HNEW.out i hi (by omega) hn a ha)⟩
   case measure=>simp [intOf];omega
  ·have HNW:Hid (StkB w1.heap.size 0 d wr xs An cn):=yW (HST.out.new fun x hx hn a ha=>by
    obtain ⟨i,hi,rfl⟩:=List.getElem_of_mem hx
    exact HNEW.out i hi (by omega) hn a ha)
   have k_a:=BA.out.cell
   have l_a:=BA.out.lt
   have k_r:=BR.out.cell
   have l_r:=BR.out.lt
   have f_r:=BR.out.free
   go_wp2_with fail
   refine bodyPost_ret (ret_fc rfl rfl (put3b BR.out (.string f.pr.name) (.slice An f.pr.terms.length cn) (.int .u32 f.o)) rfl) rfl ?_
   refine ⟨⟨An,cn,rfl,bX.lower ⟨xs,HMAP.out,?_⟩ hsz1⟩,put3u HWR.out (by omega) _ _ _⟩
   exact ((HNW.out.far (by omega) (by omega) 0 _).far (by omega) (by omega) 1 _).far (by omega) (by omega) 2 _
structure FV where
 f:Fc
 a:Option Addr
 c:Nat
def FV.cs (x:FV):List Value:=fcV x.f x.a x.c
def FvR:Reader FV where
 k:=3
 rd:=fun _ _ x vs=>vs=x.cs
 keep:=fun _ _ h=>h
 wide:=fun _ h=>h
 len:=fun h=>by rw [h];rfl
theorem cO:dq FvR:=fun {w B x vs} h u hu=>by
 have h:vs=x.cs:=h
 subst h
 simp only [FV.cs,fcV,List.mem_cons,List.not_mem_nil,or_false] at hu
 rcases hu with rfl | rfl | rfl<;>rfl
theorem bF:Shallow FvR FV.cs:=⟨Iff.rfl,fun _=>rfl⟩
theorem gB:(Tryz.prog.info? 33).map (fun i=>(i.zero,i.size,i.bytes))=some (some (.agg #[.string ⟨#[]⟩,.slice none 0 0,.int .u32 0]),3,48):=by kernel_rfl
def zeroF:FV:=⟨⟨⟨⟨#[]⟩,[]⟩,0⟩,none,0⟩
theorem xo {cs:Array Value} {n q:Nat} (h:q<n):(madeCells cs n).toList[q]? = some (cs[q % cs.size]!):=by
 have hs:q<(madeCells cs n).toList.length:=by rw [Array.length_toList,size_madeCells];exact h
 rw [List.getElem?_eq_getElem hs]
 simp [madeCells]
theorem sz {cs:Array Value} {k n i:Nat} (hk:cs.size=k) (h0:0<k) (hi:i<n):((madeCells cs (n*k)).toList.drop (i*k)).take k=cs.toList:=by
 have hle:(i+1)*k≤n*k:=Nat.mul_le_mul_right _ hi
 rw [Nat.add_mul] at hle
 apply List.ext_getElem?
 intro j
 rw [List.getElem?_take]
 split
 ·rename_i hj
  have e:(i*k+j) % cs.size=j:=by rw [hk,Nat.mul_comm,Nat.mul_add_mod,Nat.mod_eq_of_lt hj]
  rw [List.getElem?_drop,xo (by omega),e,List.getElem?_eq_getElem (by rw [Array.length_toList];omega),getElem!_pos cs j (by omega)]
  simp
 ·rename_i hj
  rw [List.getElem?_eq_none (by rw [Array.length_toList];omega)]
theorem am.made {α:Type} {R:Reader α} {enc:α→List Value} (hs:Shallow R enc) {cs:Array Value} {x0:α} {w:World} {b base n:Nat} {T:TypeId} (hx:enc x0=cs.toList) (h0:0<R.k) (h:bV w b (madeCells cs (n*R.k)) T) (hb:base≤b) (hn:n≤maxLen):am R T w base 0 (.slice (some ⟨b,0,none⟩) n n) (List.replicate n x0):=by
 have hk:cs.size=R.k:=by rw [←Array.length_toList,←hx,hs.len]
 refine bV.own (cells:=(madeCells cs (n*R.k)).toList) h ⟨by rw [Array.length_toList,size_madeCells,List.length_replicate],fun i hi=>?_⟩ hb (List.length_replicate ..) hn
 rw [List.length_replicate] at hi
 rw [hs.iff,sz hk h0 hi,List.getElem_replicate,hx]
theorem xq (n:Nat) (hn:n≤1000000) (w:World):(Instr.makeSlice 22 (.int .i64 (n:Int)) (.int .i64 (n:Int))).run Tryz.prog w=.ok (.slice (some ⟨w.heap.size,0,none⟩) n n) (w.alloc (.cells (madeCells #[.string ⟨#[]⟩,.slice none 0 0,.int .u32 0] (n*3)) 33)):=by
 obtain ⟨i0,hi0,hz0,hz1,hz2⟩:=info_parts gB
 have hr:=run_make (P:=Tryz.prog) w 22 33 i0 _ Tryz.underlying22 hi0 hz0 .i64 .i64 n n (by omega) (Int.le_refl _) (by rw [hz2];omega) (by omega)
 simp only [Int.toNat_natCast] at hr
 rw [hz1] at hr
 rw [hr]
 rfl
theorem below3 {w w2:World} {B g:Nat} (h:Below B w w2) (hg:B≤g) {i0 i1 i2:Nat} (v0 v1 v2:Value):Below B w (((w2.setCell ⟨g,i0,none⟩ v0).setCell ⟨g,i1,none⟩ v1).setCell ⟨g,i2,none⟩ v2):=((h.setCell (p:=⟨g,i0,none⟩) hg v0).setCell (p:=⟨g,i1,none⟩) hg v1).setCell (p:=⟨g,i2,none⟩) hg v2
theorem agree3 {w:World} {g i0 i1 i2:Nat} {v0 v1 v2:Value}:aw (fun q=>q=g) w (((w.setCell ⟨g,i0,none⟩ v0).setCell ⟨g,i1,none⟩ v1).setCell ⟨g,i2,none⟩ v2):=
 aw.set_ (aw.set_ (aw.set_ (aw.refl (fun q=>q=g) w) (fun _=>(rfl:g=g)) i0 v0) (fun _=>(rfl:g=g)) i1 v1) (fun _=>(rfl:g=g)) i2 v2
theorem fv_put {w:World} {base n c g i:Nat} {xs:List FV} (h:am FvR 33 w base 0 (.slice (some ⟨g,0,none⟩) n c) xs) (hi:i<xs.length) (y:FV) :
 am FvR 33 (((w.setCell ⟨g,i*3,none⟩ (.string y.f.pr.name)).setCell ⟨g,i*3+1,none⟩ (.slice y.a y.f.pr.terms.length y.c)).setCell ⟨g,i*3+2,none⟩ (.int .u32 y.f.o)) base 0 (.slice (some ⟨g,0,none⟩) n c) (xs.set i y):=by
 have hx:0<xs.length:=by omega
 obtain ⟨g1,c1,e1,_,_,_,_,_,_,p1⟩:=h.sh bF hx
 simp only [Value.slice.injEq,Option.some.injEq,Addr.mk.injEq,and_true] at e1
 obtain ⟨rfl,rfl,rfl⟩:=e1
 have h1:=p1 i hi 0 (.string y.f.pr.name) ⟨⟨⟨y.f.pr.name,xs[i].f.pr.terms⟩,xs[i].f.o⟩,xs[i].a,xs[i].c⟩ (by show 0<3;omega) rfl
 have hl1:i<(xs.set i ⟨⟨⟨y.f.pr.name,xs[i].f.pr.terms⟩,xs[i].f.o⟩,xs[i].a,xs[i].c⟩).length:=by rw [List.length_set];exact hi
 obtain ⟨g2,c2,e2,_,_,_,_,_,_,p2⟩:=h1.sh bF (by omega)
 simp only [Value.slice.injEq,Option.some.injEq,Addr.mk.injEq,and_true] at e2
 obtain ⟨rfl,_,rfl⟩:=e2
 have h2:=p2 i hl1 1 (.slice y.a y.f.pr.terms.length y.c) ⟨⟨⟨y.f.pr.name,y.f.pr.terms⟩,xs[i].f.o⟩,y.a,y.c⟩ (by show 1<3;omega) (by rw [List.getElem_set_self];rfl)
 rw [List.set_set] at h2
 have hl2:i<(xs.set i ⟨⟨⟨y.f.pr.name,y.f.pr.terms⟩,xs[i].f.o⟩,y.a,y.c⟩).length:=by rw [List.length_set];exact hi
 obtain ⟨g3,c3,e3,_,_,_,_,_,_,p3⟩:=h2.sh bF (by omega)
 simp only [Value.slice.injEq,Option.some.injEq,Addr.mk.injEq,and_true] at e3
 obtain ⟨rfl,_,rfl⟩:=e3
 have h3:=p3 i hl2 2 (.int .u32 y.f.o) y (by show 2<3;omega) (by rw [List.getElem_set_self];rfl)
 rw [List.set_set] at h3
 exact h3
structure FRow (base d:Nat) (w:World) (xs:List FV) (A:Option Addr) (c:Nat):Prop where
 own:am FvR 33 w base 0 (.slice A xs.length c) xs
 deep:∀x∈xs,FcOk x.f∧ie (fun k=>k<base∨(Value.slice A xs.length c).ownBlock=some k) w (fun w'=>(ax (d+1)).rd w' w'.heap.size x.f x.cs)
theorem FRow.agree {base d c:Nat} {w w':World} {xs:List FV} {A:Option Addr} {M:Nat→Prop} (h:FRow base d w xs A c) (ha:aw M w w') (hM:∀k,k<w.heap.size→M k→k<base):FRow base d w' xs A c:=
 ⟨h.own.agree ha (fun k hk hm=>by have h1:=(h.own.lt k hk);have h2:=hM k h1.2 hm;omega),fun x hx=>⟨(h.deep x hx).1,(h.deep x hx).2.next (M:=_) ha (fun k hk hm=>.inl (hM k hk hm)) (fun k hk hm=>hm)⟩⟩
theorem FRow.rl {base d c:Nat} {w:World} {xs:List FV} {A:Option Addr} (h:FRow base d w xs A c) (hn:xs.length≤1000000):RSl (ax (d+1)) w w.heap.size (xs.map FV.f) (.slice A xs.length c):=by
 obtain ⟨A3,c3,e3,h1,h2,r3⟩:=h.own.reads (yZ _) (by show xs.length*(8*3)≤_;omega)
 simp only [Value.slice.injEq] at e3
 obtain ⟨rfl,_,rfl⟩:=e3
 refine ⟨A,c,by rw [List.length_map],by rw [List.length_map];exact h1,⟨by rw [List.length_map];show xs.length*(8*3)≤_;omega,h2.2⟩,?_⟩
 intro h0
 rw [List.length_map] at h0
 obtain ⟨b,off,e,hb,hc⟩:=r3 h0
 refine ⟨b,off,e,hb,fun i hi=>?_⟩
 rw [List.length_map] at hi
 obtain ⟨vs,hl,⟨x,hx,hr⟩,hv⟩:=hc i hi
 obtain rfl:vs=x.cs:=hr
 exact ⟨x.cs,hl,⟨x.f,by rw [List.getElem?_map,hx];rfl,(h.deep x (List.mem_of_getElem? hx)).2.here⟩,hv⟩
theorem FRow.stab {base d c:Nat} {w:World} {xs:List FV} {A:Option Addr} (h:FRow base d w xs A c) (hn:xs.length≤1000000):ie (fun k=>k<base) w (fun w'=>RSl (ax (d+1)) w' w'.heap.size (xs.map FV.f) (.slice A xs.length c)):=fun w' ha=>(h.agree ha (fun _ _ h=>h)).rl hn
theorem ir {d B c:Nat} {fs:List Fc} {A:Option Addr} {w:World} (hl:RL (ax (d+1)) w B fs A) (hok:∀f∈fs,FcOk f) (hn:fs.length≤1000000) (hB:B≤w.heap.size) :
 Calls Tryz.prog 70 #[.slice A fs.length c] w fun z w'=>(∃xs A' c',xs.map FV.f=fs∧z=.returned (.slice A' fs.length c')∧FRow w.heap.size d w' xs A' c')∧Below w.heap.size w w':=by
 have HL:=yW hl
 have HOK:=yW hok
 have hmk:=xq fs.length hn w
 clear hl hok
 go_enter Tryz.func70,Tryz.ntmps70
 go_upto_region 3 with fail
 generalize hW:World.alloc _ _=w1
 obtain ⟨hb1,hz⟩:=al1 hW
 have HBT:Hid (bV w1 w.heap.size (madeCells #[.string ⟨#[]⟩,.slice none 0 0,.int .u32 0] (fs.length*3)) 33):=yW (hW▸heap_alloc_new w _)
 have HO1:Hid (am FvR 33 w1 w.heap.size 0 (.slice (some ⟨w.heap.size,0,none⟩) fs.length fs.length) (List.replicate fs.length zeroF)):=yW (am.made bF rfl (by decide) HBT.out (yY _) (by unfold maxLen;omega))
 have HB1:=yW hb1
 have hsz1:=hb1.size
 have hlt1:w.heap.size<w1.heap.size:=by rw [←hW,World.size_alloc];omega
 clear hW hb1 hmk
 go_loopw [11] (fun i wr=>∃(k:Nat) (xs:List FV),k≤fs.length∧i=.int .i64 k∧xs.length=fs.length∧Hid (Below w.heap.size w wr)∧Hid (w1.heap.size≤wr.heap.size)∧Hid (am FvR 33 wr w.heap.size 0 (.slice (some ⟨w.heap.size,0,none⟩) fs.length fs.length) xs)∧Hid (∀i (hi:i<xs.length) (hi':i<fs.length),i<k→xs[i].f=fs[i]∧ie (fun q=>q<w1.heap.size) wr (fun w'=>(ax (d+1)).rd w' w'.heap.size xs[i].f xs[i].cs))) (fun i _=>fs.length-(intOf i).toNat)
 case atStart=>exact ⟨0,_,yZ _,rfl,List.length_replicate ..,HB1,yW (yY _),HO1,yW fun i _ _ h=>absurd h (by omega)⟩
 case round=>
  clear HO1 HBT
  obtain ⟨k,xs,hk,rfl,hxl,HWR,HSZ,HO,HD⟩:=hrel
  have hszr:=HWR.out.size
  have hszw:=HSZ.out
  have hBr:B≤wr.heap.size:=by omega
  by_cases hlt:k<fs.length
  ·have hkx:k<xs.length:=by omega
   obtain ⟨bp_,offp,rfl,hobp⟩:=(HL.out.keep HWR.out hB).base (za _ _) hBr (by omega)
   obtain ⟨f,vs,hx,hlen,hcell,hr⟩:=(HL.out.keep HWR.out hB).at_ (za _ _) hBr hlt
   have HF:=yW hr
   have HFE:Hid (fs[k]=f):=yW (by rw [List.getElem?_eq_getElem hlt] at hx;simpa using hx)
   have HFO:Hid (FcOk f):=yW (HOK.out f (List.mem_of_getElem? hx))
   obtain ⟨Af,cf,rfl,g1,g2,g3,g4,_⟩:=aI (show (ax (d+1)).rd wr B f vs from hr)
   have c0:wr.cell? ⟨bp_,offp+k*3,none⟩=some (.string f.pr.name):=hcell 0 _ rfl
   have c1:wr.cell? ⟨bp_,offp+k*3+1,none⟩=some (.slice Af f.pr.terms.length cf):=hcell 1 _ rfl
   have c2:wr.cell? ⟨bp_,offp+k*3+2,none⟩=some (.int .u32 f.o):=hcell 2 _ rfl
   clear hcell hlen hx hr g1 g2 g3 g4
   go_upto_region 5 with fail
   generalize hW:World.alloc _ _=w4
   obtain ⟨hb4,hz4⟩:=al1 hW
   have HBT4:=yW (n11 hW)
   have HW4:=yW hb4
   have hsz4:=hb4.size
   have hB4:B≤w4.heap.size:=by omega
   have HF4:=yW ((ax (d+1)).keep hb4 hBr HF.out)
   clear hW hb4 c0 c1 c2
   have hI0:(0:Int)≤(k:Int):=Int.natCast_nonneg _
   have hI1:(k:Int)<(fs.length:Int):=by omega
   have k_t:=HBT4.out.cell
   have l_t:=HBT4.out.lt
   go_wp2_with fail
   refine (jA (d:=d) (B:=B) (vf:=[_,_,_]) HF4.out HFO.out hB4).mono ?_
   rintro e w5 ⟨⟨A5,c5,rfl,how⟩,hb5⟩
   have HOW:=yW how
   have HB5:=yW hb5
   have HO5:=yW ((HO.out.later HW4.out (yZ _)).later hb5 (yZ _))
   obtain ⟨g9,c9,e9,h91,h92,h93,h94,h95,h96,h97⟩:=HO5.out.sh bF (by omega)
   simp only [Value.slice.injEq,Option.some.injEq,Addr.mk.injEq,and_true] at e9
   obtain ⟨rfl,-,-⟩:=e9
   obtain ⟨u0,q0⟩:∃u,w5.cell? ⟨w.heap.size,k*3,none⟩=some u:=⟨_,h95 k hkx 0 _ rfl⟩
   obtain ⟨u1,q1⟩:∃u,w5.cell? ⟨w.heap.size,k*3+1,none⟩=some u:=⟨_,h95 k hkx 1 _ rfl⟩
   obtain ⟨u2,q2⟩:∃u,w5.cell? ⟨w.heap.size,k*3+2,none⟩=some u:=⟨_,h95 k hkx 2 _ rfl⟩
   clear how hb5 h95 h97
   have hsz5:=HB5.out.size
   unfold fcV
   go_wp2_with fail
   clear q0 q1 q2 k_t l_t
   have hput:=yW (fv_put HO5.out hkx ⟨f,A5,c5⟩)
   go_roundw
   case rel=>exact ⟨k+1,xs.set k ⟨f,A5,c5⟩,by omega,by go_num,by rw [List.length_set];exact hxl,yW (below3 (ab (ab HWR.out HW4.out) HB5.out) (yY _) _ _ _),yW (by simp only [World.size_setCell];omega),hput,yW (fun i hi hi' hik=>by
    rw [List.length_set] at hi
    have hag:aw (fun q=>q=w.heap.size) w5 (((w5.setCell ⟨w.heap.size,k*3,none⟩ (.string f.pr.name)).setCell ⟨w.heap.size,k*3+1,none⟩ (.slice A5 f.pr.terms.length c5)).setCell ⟨w.heap.size,k*3+2,none⟩ (.int .u32 f.o)):=agree3
    by_cases hii:i=k
    ·subst hii
     rw [List.getElem_set_self]
     exact ⟨HFE.out.symm,(HOW.out.stab (M:=fun q=>q<w4.heap.size) HFO.out (fun q h1 h2=>by omega)).next hag (fun q _ e=>by omega) (fun q _ h=>by omega)⟩
    ·rw [List.getElem_set_ne (Ne.symm hii)]
     obtain ⟨e1,e2⟩:=HD.out i hi hi' (by omega)
     exact ⟨e1,((e2.later HW4.out).later HB5.out).next hag (fun q _ e=>by omega) (fun q _ h=>h)⟩)⟩
   case measure=>simp [intOf];omega
  ·have hmap:Hid (xs.map FV.f=fs):=yW (List.ext_getElem (by simp [hxl]) fun i h1 h2=>by
    rw [List.getElem_map]
    exact (HD.out i (by simpa using h1) h2 (by omega)).1)
   go_wp2_with fail
   go_ret
   refine ⟨⟨xs,some ⟨w.heap.size,0,none⟩,fs.length,hmap.out,rfl,⟨by rw [hxl];exact HO.out,fun x hx=>?_⟩⟩,HWR.out⟩
   obtain ⟨i,hi,rfl⟩:=List.getElem_of_mem hx
   obtain ⟨e1,e2⟩:=HD.out i hi (by omega) (by omega)
   refine ⟨by rw [e1];exact HOK.out _ (List.getElem_mem _),e2.less fun q hq hm=>?_⟩
   rcases hm with hm | hm
   ·omega
   ·simp only [Value.ownBlock,Option.some.injEq] at hm
    omega
end Go.Proofs.YtdphibjibnffeaaGreat
