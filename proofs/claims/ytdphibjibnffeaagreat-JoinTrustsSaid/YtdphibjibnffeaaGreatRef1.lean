/- The document's own answers on names (viaticumref6): as the program's. -/
import Derived.Test.YtdphibjibnffeaaGreatCpt0
import Derived.Test.YtdphibjibnffeaaGreatGo2
import Derived.Test.YtdphibjibnffeaaGreatRule4
import Derived.Test.YtdphibjibnffeaaGreatPush
import Derived.Test.YtdphibjibnffeaaGreatRead2
set_option linter.unusedVariables false
set_option linter.unusedSimpArgs false
set_option maxRecDepth 100000
set_option maxHeartbeats 8000000
namespace Go.Proofs.YtdphibjibnffeaaGreat
open Go.ChangeShapes Go.WideShapes Go.ChangeAt Go.RowKit
def aT (fs:List Fc) (tr:Int) (r:Ru):List Ans × Int:=
 if (bi r||aR r)=true then
  if (dB fs tr r.exprs r.body jz ⟨0,[],0⟩).e=0 then (cpt (fun a b=>bY a b==0) (mj (dB fs tr r.exprs r.body jz ⟨0,[],0⟩).out),0) else ([],(dB fs tr r.exprs r.body jz ⟨0,[],0⟩).e)
 else ([],1)
def AnsE (d:Nat) (w w':World) (R:List Ans × Int) (z:Ending):Prop:=
 ∃(L:List AnV) (A:Option Addr) (c:Nat),z=.returned (.tuple #[.slice A L.length c,.int .i64 R.2])∧L.map AnV.x=R.1∧aq jh 48 w' w.heap.size 0 (.slice A L.length c) L∧(∀y∈L,ci y.x.b=true∧U32 y.x.o)∧(∀y∈L,gF (fun k=>(Value.slice A L.length c).ownBlock=some k) w' (fun w'=>(kX (d+1)).rd w' w'.heap.size y.x y.cs))∧Below w.heap.size w w'
theorem tR:ci jK.x.b=true∧U32 jK.x.o:=⟨rfl,by unfold U32;simp [jK]⟩
theorem mH:∀(ys:List AnV) (p:AnV),(gL qAn p ys).map AnV.x=gL (fun a b=>bY a b==0) p.x (ys.map AnV.x)
 | [],p=>rfl
 | y::ys,p=>by
   rw [List.map_cons,gL,gL,←mH ys y]
   show List.map AnV.x (if (bY y.x p.x==0)=true then _ else _)=_
   split<;>rfl
theorem tl:∀(ys:List AnV),(cpt qAn ys).map AnV.x=cpt (fun a b=>bY a b==0) (ys.map AnV.x)
 | []=>rfl
 | y::ys=>by rw [List.map_cons,cpt,cpt,List.map_cons,mH]
theorem uf (xs:List AnV):((gX (xs.map AnV.x)).map (xs.getD · jK)).length=xs.length:=by rw [List.length_map,mW,List.length_map]
theorem sx (xs:List AnV):((gX (xs.map AnV.x)).map (xs.getD · jK)).map AnV.x=mj (xs.map AnV.x):=by
 rw [mj,List.map_map]
 refine List.map_congr_left fun i hi=>?_
 have h:=pL hi
 rw [List.length_map] at h
 simp [h]
theorem un (xs:List AnV):∀y∈(gX (xs.map AnV.x)).map (xs.getD · jK),y∈xs:=fun y hy=>by
 obtain ⟨i,hi,rfl⟩:=List.mem_map.1 hy
 have h:=pL hi
 rw [List.length_map] at h
 have e:xs.getD i jK=xs[i]:=by simp [h]
 rw [e];exact List.getElem_mem h
theorem mw {r:Ru} (h:(bi r||aR r)=true):(∀p∈r.body,aK p=true)∧r.body.length≤4∧r.exprs.length≤4:=by
 have hb:gd r=true:=by
  rcases Bool.or_eq_true_iff.1 h with h | h
  ·simp only [bi,Bool.and_eq_true] at h;exact h.1.2
  ·simp only [aR,Bool.and_eq_true] at h;exact h.2
 simp only [gd,Bool.and_eq_true,decide_eq_true_eq,List.all_eq_true] at hb
 exact ⟨hb.1.1.1.2,hb.1.1.1.1,hb.1.1.2.1⟩
theorem eo {d baseS B S cs:Nat} {r:Ru} {vr:List Value} {w:World} {fs:List FV} {As:Option Addr} {tr m:Int} (hr:(RuR (d+1)).rd w B r vr) (hB:B≤w.heap.size) (hS:StA baseS d w S fs As cs) (hfew:fs.length≤100000) (hm:w.cell? ⟨0,0,none⟩=some (.int .i64 m)) (hp:0<w.heap.size) :
 Calls Tryz.prog 18 #[.agg vr.toArray,.pointer (some ⟨S,0,none⟩),.int .u32 tr] w fun z w'=>AnsE d w w' (aT (fs.map FV.f) tr r) z:=by
 have HRD:=Lib.hid hr
 obtain ⟨_,_,_,_,rfl,hs,⟨A0,c0,rfl,h01,h02,hl0⟩,⟨A1,c1,rfl,h11,h12,hl1⟩,⟨A2,c2,rfl,h21,h22,hl2⟩,⟨A3,c3,rfl,h31,h32,hl3⟩⟩:=hr
 have HST0:Hid ((bi r||aR r)=true→WkS d w baseS B ⟨.string r.head.name,.slice A0 r.head.terms.length c0,.slice A1 r.body.length c1,.slice A2 r.exprs.length c2,.slice A3 r.scopes.length c3,S,tr⟩ fs As cs r.body A1 c1 r.exprs A2 c2 m):=Lib.hid (fun h=>⟨hS,hfew,hB,rfl,hl1,by have:=(mw h).2.1;omega,(mw h).1,rfl,hl2,by have:=(mw h).2.2;omega,hm,hp⟩)
 clear hS hfew hm hl0 hl1 hl2 hl3
 go_enter Tryz.func18,Tryz.ntmps18
 go_upto_region 1 with fail
 generalize hWW:World.alloc _ _=w1
 obtain ⟨hb1,hz⟩:=al1 hWW
 have HR1:=Lib.hid (n11 hWW)
 have HB1:=Lib.hid hb1
 have hsz1:=hb1.size
 clear hWW hb1 hz
 have k_r:=HR1.out.cell
 have l_r:=HR1.out.lt
 go_wp2_with fail
 refine (oX (vs:=[_,_,_,_,_]) ((RuR (d+1)).keep HB1.out hB HRD.out) (Nat.le_trans hB hsz1)).mono ?_
 rintro e w2 ⟨rfl,hb2⟩
 have HR2:=Lib.hid (HR1.out.later hb2)
 have HB2:=Lib.hid (ae HB1.out hb2)
 have hsz2:=HB2.out.size
 clear hb2 k_r l_r
 have k_r:=HR2.out.cell
 have l_r:=HR2.out.lt
 by_cases h1:bi r=true
 ·have hmm:(bi r||aR r)=true:=by rw [h1];rfl
  have HST:=Lib.hid (HST0.out hmm)
  have HBx:=HB2
  rw [h1]
  go_upto_region 4 with fail
  generalize hWW:World.alloc _ _=w4
  obtain ⟨hb4,hz⟩:=al1 hWW
  have HW4:=Lib.hid (n11 hWW)
  have HB4:=Lib.hid (ae HBx.out hb4)
  have hsz4:=HB4.out.size
  have hl4:=HW4.out.lt
  clear hWW hb4 hz k_r l_r
  have HWK:Hid (WkAt w4.heap.size d w4 w2.heap.size ⟨.string r.head.name,.slice A0 r.head.terms.length c0,.slice A1 r.body.length c1,.slice A2 r.exprs.length c2,.slice A3 r.scopes.length c3,S,tr⟩ 0 [] none 0 0):=Lib.hid ⟨HW4.out,hl4,Nat.le_refl _,aq.nil _ _ _ _ _,fun y hy=>absurd hy (by simp),fun y hy=>absurd hy (by simp)⟩
  have HGO2:Hid (Calls Tryz.prog 55 #[.pointer (some ⟨w2.heap.size,0,none⟩),.int .i64 0,.agg #[.slice none 0 0,.slice none 0 0,.int .u32 0]] w4 fun z w'=>WkE w4.heap.size d w2.heap.size ⟨.string r.head.name,.slice A0 r.head.terms.length c0,.slice A1 r.body.length c1,.slice A2 r.exprs.length c2,.slice A3 r.scopes.length c3,S,tr⟩ w4 w' none 0 0 (dB (fs.map FV.f) tr r.exprs r.body jz ⟨0,[],0⟩) z):=Lib.hid (qb HST.out (show w.heap.size≤w2.heap.size from HBx.out.size) r.body 0 rfl (Nat.zero_le _) w4 0 [] none 0 jK HB4.out HWK.out (fun w' _=>pF _ _ _) tR (by simp) (by decide))
  have l_w4:=hl4
  have HBw:Hid (w.heap.size≤w2.heap.size):=Lib.hid HBx.out.size
  generalize hWn:w2.heap.size=W at *
  have HR:Hid (aT (fs.map FV.f) tr r=if (dB (fs.map FV.f) tr r.exprs r.body jz ⟨0,[],0⟩).e=0 then (cpt (fun a b=>bY a b==0) (mj (dB (fs.map FV.f) tr r.exprs r.body jz ⟨0,[],0⟩).out),0) else ([],(dB (fs.map FV.f) tr r.exprs r.body jz ⟨0,[],0⟩).e)):=Lib.hid (if_pos hmm)
  clear hmm
  go_wp2_with fail
  refine HGO2.out.mono ?_
  rintro z w5 ⟨xs,A,c,rfl,hout,hwk,hag,_⟩
  have hfew:=im (fs:=fs.map FV.f) (tr:=tr) (es:=r.exprs) (ps:=r.body) (x:=jz) (s:=⟨0,[],0⟩)
  clear HGO2
  generalize dB (fs.map FV.f) tr r.exprs r.body jz ⟨0,[],0⟩=s at *
  have hn:xs.length≤1000000:=by
   have h1:=hfew.2.1 (by decide)
   have h2:=hfew.2.2
   rw [←hout,List.length_map] at h2
   simp at h2
   omega
  have HB5:Hid (Below w.heap.size w w5):=Lib.hid (HB4.out.trans ((hag.below (base:=W) (fun k hk hm=>by rcases hm with h | h<;>first | omega | cases h) (Nat.le_of_lt hl4)).mono HBw.out))
  have HWK5:=Lib.hid hwk
  have HOUT:=Lib.hid hout
  have HW5:Hid (Blk w5 W #[.string r.head.name,.slice A0 r.head.terms.length c0,.slice A1 r.body.length c1,.slice A2 r.exprs.length c2,.slice A3 r.scopes.length c3,.pointer (some ⟨S,0,none⟩),.int .u32 tr,.int .i64 s.held,.slice A xs.length c,.int .i64 s.e]):=Lib.hid hwk.hd
  clear hag hwk hout hfew HW4 HWK
  have k_w:=HW5.out.cell
  have l_w:=HW5.out.lt
  by_cases he:s.e=0
  ·have HRE:Hid (aT (fs.map FV.f) tr r=(cpt (fun a b=>bY a b==0) (mj s.out),0)):=Lib.hid (by rw [HR.out,if_pos he])
   have he':(s.e !=0)=false:=by rw [he];rfl
   clear HR
   by_cases hx0:xs.length=0
   ·rw [hx0] at k_w
    go_wp2_with fail
    refine nq.mono ?_
    rintro z w6 ⟨rfl,rfl⟩
    go_wp2_with fail
    refine jg.mono ?_
    rintro z w6 ⟨rfl,rfl⟩
    go_wp2_with fail
    go_ret2
    have hx1:xs=[]:=List.length_eq_zero_iff.1 hx0
    have ho:s.out=[]:=by rw [←HOUT.out,hx1];rfl
    exact ⟨[],A,c,by rw [HRE.out];rfl,by rw [HRE.out,ho,(iN []).eq_nil];rfl,by have h:=HWK5.out.row;rw [hx1] at h;exact h.lower (by omega),fun y hy=>absurd hy (by simp),fun y hy=>absurd hy (by simp),HB5.out⟩
   ·have hx:0<xs.length:=by omega
    obtain ⟨g,c1_,e1,hg1,hg2,_⟩:=HWK5.out.row.sh aN hx
    simp only [Value.slice.injEq,true_and] at e1
    obtain ⟨rfl,rfl⟩:=e1
    have hgW:g≠W:=by omega
    go_wp2_with fail
    refine (jW (d:=d+1) HWK5.out.row hx (fun y hy=>qZ (HWK5.out.ok y hy).1) (fun y hy=>(HWK5.out.deep y hy).less (fun k _ hk=>.inr (by rw [hk];rfl))) hn).mono ?_
    rintro z w6 ⟨rfl,hrow6,hag6⟩
    have hlen6:=uf xs
    have hmap6:=sx xs
    have hmem6:=un xs
    generalize (gX (xs.map AnV.x)).map (xs.getD · jK)=ys at *
    have HW6:=Lib.hid (hag6.blk HW5.out (fun h=>hgW h.symm))
    have HB6:Hid (Below w.heap.size w w6):=Lib.hid (HB5.out.trans (hag6.below (fun k hk hm=>by have:=HBw.out;omega) HB5.out.size))
    have hrow7:aq jh 48 w6 w4.heap.size 0 (.slice (some ⟨g,0,none⟩) ys.length c) ys:=by rw [hlen6];exact hrow6
    have HCP:=Lib.hid (lC (d:=d+1) hrow7 (by omega) (fun y hy=>qZ (HWK5.out.ok y (hmem6 y hy)).1) (fun y hy=>(HWK5.out.deep y (hmem6 y hy)).next (N:=fun k=>k=g) hag6 (fun k _ hk=>.inr (by rw [hk];rfl)) (fun k _ hk=>.inr (by rw [hk];rfl))) (by omega))
    rw [hlen6] at HCP
    have HM6:=Lib.hid (And.intro hmap6 hmem6)
    have HAG6:=Lib.hid hag6
    clear hag6 hrow6 hrow7 hlen6 hmap6 hmem6 k_w l_w
    have k_w:=HW6.out.cell
    have l_w:=HW6.out.lt
    go_wp2_with fail
    refine HCP.out.mono ?_
    rintro z w7 ⟨L,hL,rfl,hrow,hag7⟩
    have HROW:=Lib.hid hrow
    have HAG7:=Lib.hid hag7
    have HL:=Lib.hid hL
    clear hrow hag7 hL HCP
    go_wp2_with fail
    go_ret2
    have hsub:∀y∈L,y∈xs:=fun y hy=>HM6.out.2 y (tA qAn (by rw [←HL.out];exact hy))
    exact ⟨L,some ⟨g,0,none⟩,c,by rw [HRE.out];rfl,by rw [HRE.out,HL.out,tl,HM6.out.1,HOUT.out],HROW.out.lower (by omega),fun y hy=>HWK5.out.ok y (hsub y hy),fun y hy=>(HWK5.out.deep y (hsub y hy)).next (N:=fun k=>k=g) (HAG6.out.trans HAG7.out (fun _ _ h=>h)) (fun k _ hk=>.inr (by rw [hk];rfl)) (fun k _ hk=>.inr hk),HB6.out.trans (HAG7.out.below (fun k hk hm=>by have:=HBw.out;omega) HB6.out.size)⟩
  ·have he':(s.e !=0)=true:=by simpa using he
   have HRE:Hid (aT (fs.map FV.f) tr r=([],s.e)):=Lib.hid (by rw [HR.out,if_neg he])
   clear HR
   go_upto_region 6 with fail
   go_region
   go_wp2_with fail
   go_ret2
   exact ⟨[],none,0,by rw [HRE.out];rfl,by rw [HRE.out];rfl,aq.nil _ _ _ _ _,fun y hy=>absurd hy (by simp),fun y hy=>absurd hy (by simp),HB5.out.drew⟩
 ·have h1':bi r=false:=by simpa using h1
  rw [h1']
  go_wp2_with fail
  refine (mK (vs:=[_,_,_,_,_]) ((RuR (d+1)).keep HB2.out hB HRD.out) (Nat.le_trans hB hsz2)).mono ?_
  rintro e w3 ⟨rfl,hb3⟩
  have HR3:=Lib.hid (HR2.out.later hb3)
  have HB3:=Lib.hid (ae HB2.out hb3)
  have hsz3:=HB3.out.size
  clear hb3 k_r l_r
  have k_r:=HR3.out.cell
  have l_r:=HR3.out.lt
  by_cases h2:aR r=true
  ·have hmm:(bi r||aR r)=true:=by rw [h1',h2];rfl
   have HST:=Lib.hid (HST0.out hmm)
   have HBx:=HB3
   rw [h2]
   go_upto_region 4 with fail
   generalize hWW:World.alloc _ _=w4
   obtain ⟨hb4,hz⟩:=al1 hWW
   have HW4:=Lib.hid (n11 hWW)
   have HB4:=Lib.hid (ae HBx.out hb4)
   have hsz4:=HB4.out.size
   have hl4:=HW4.out.lt
   clear hWW hb4 hz k_r l_r
   have HWK:Hid (WkAt w4.heap.size d w4 w3.heap.size ⟨.string r.head.name,.slice A0 r.head.terms.length c0,.slice A1 r.body.length c1,.slice A2 r.exprs.length c2,.slice A3 r.scopes.length c3,S,tr⟩ 0 [] none 0 0):=Lib.hid ⟨HW4.out,hl4,Nat.le_refl _,aq.nil _ _ _ _ _,fun y hy=>absurd hy (by simp),fun y hy=>absurd hy (by simp)⟩
   have HGO2:Hid (Calls Tryz.prog 55 #[.pointer (some ⟨w3.heap.size,0,none⟩),.int .i64 0,.agg #[.slice none 0 0,.slice none 0 0,.int .u32 0]] w4 fun z w'=>WkE w4.heap.size d w3.heap.size ⟨.string r.head.name,.slice A0 r.head.terms.length c0,.slice A1 r.body.length c1,.slice A2 r.exprs.length c2,.slice A3 r.scopes.length c3,S,tr⟩ w4 w' none 0 0 (dB (fs.map FV.f) tr r.exprs r.body jz ⟨0,[],0⟩) z):=Lib.hid (qb HST.out (show w.heap.size≤w3.heap.size from HBx.out.size) r.body 0 rfl (Nat.zero_le _) w4 0 [] none 0 jK HB4.out HWK.out (fun w' _=>pF _ _ _) tR (by simp) (by decide))
   have l_w4:=hl4
   have HBw:Hid (w.heap.size≤w3.heap.size):=Lib.hid HBx.out.size
   generalize hWn:w3.heap.size=W at *
   have HR:Hid (aT (fs.map FV.f) tr r=if (dB (fs.map FV.f) tr r.exprs r.body jz ⟨0,[],0⟩).e=0 then (cpt (fun a b=>bY a b==0) (mj (dB (fs.map FV.f) tr r.exprs r.body jz ⟨0,[],0⟩).out),0) else ([],(dB (fs.map FV.f) tr r.exprs r.body jz ⟨0,[],0⟩).e)):=Lib.hid (if_pos hmm)
   clear hmm
   go_wp2_with fail
   refine HGO2.out.mono ?_
   rintro z w5 ⟨xs,A,c,rfl,hout,hwk,hag,_⟩
   have hfew:=im (fs:=fs.map FV.f) (tr:=tr) (es:=r.exprs) (ps:=r.body) (x:=jz) (s:=⟨0,[],0⟩)
   clear HGO2
   generalize dB (fs.map FV.f) tr r.exprs r.body jz ⟨0,[],0⟩=s at *
   have hn:xs.length≤1000000:=by
    have h1:=hfew.2.1 (by decide)
    have h2:=hfew.2.2
    rw [←hout,List.length_map] at h2
    simp at h2
    omega
   have HB5:Hid (Below w.heap.size w w5):=Lib.hid (HB4.out.trans ((hag.below (base:=W) (fun k hk hm=>by rcases hm with h | h<;>first | omega | cases h) (Nat.le_of_lt hl4)).mono HBw.out))
   have HWK5:=Lib.hid hwk
   have HOUT:=Lib.hid hout
   have HW5:Hid (Blk w5 W #[.string r.head.name,.slice A0 r.head.terms.length c0,.slice A1 r.body.length c1,.slice A2 r.exprs.length c2,.slice A3 r.scopes.length c3,.pointer (some ⟨S,0,none⟩),.int .u32 tr,.int .i64 s.held,.slice A xs.length c,.int .i64 s.e]):=Lib.hid hwk.hd
   clear hag hwk hout hfew HW4 HWK
   have k_w:=HW5.out.cell
   have l_w:=HW5.out.lt
   by_cases he:s.e=0
   ·have HRE:Hid (aT (fs.map FV.f) tr r=(cpt (fun a b=>bY a b==0) (mj s.out),0)):=Lib.hid (by rw [HR.out,if_pos he])
    have he':(s.e !=0)=false:=by rw [he];rfl
    clear HR
    by_cases hx0:xs.length=0
    ·rw [hx0] at k_w
     go_wp2_with fail
     refine nq.mono ?_
     rintro z w6 ⟨rfl,rfl⟩
     go_wp2_with fail
     refine jg.mono ?_
     rintro z w6 ⟨rfl,rfl⟩
     go_wp2_with fail
     go_ret2
     have hx1:xs=[]:=List.length_eq_zero_iff.1 hx0
     have ho:s.out=[]:=by rw [←HOUT.out,hx1];rfl
     exact ⟨[],A,c,by rw [HRE.out];rfl,by rw [HRE.out,ho,(iN []).eq_nil];rfl,by have h:=HWK5.out.row;rw [hx1] at h;exact h.lower (by omega),fun y hy=>absurd hy (by simp),fun y hy=>absurd hy (by simp),HB5.out⟩
    ·have hx:0<xs.length:=by omega
     obtain ⟨g,c1_,e1,hg1,hg2,_⟩:=HWK5.out.row.sh aN hx
     simp only [Value.slice.injEq,true_and] at e1
     obtain ⟨rfl,rfl⟩:=e1
     have hgW:g≠W:=by omega
     go_wp2_with fail
     refine (jW (d:=d+1) HWK5.out.row hx (fun y hy=>qZ (HWK5.out.ok y hy).1) (fun y hy=>(HWK5.out.deep y hy).less (fun k _ hk=>.inr (by rw [hk];rfl))) hn).mono ?_
     rintro z w6 ⟨rfl,hrow6,hag6⟩
     have hlen6:=uf xs
     have hmap6:=sx xs
     have hmem6:=un xs
     generalize (gX (xs.map AnV.x)).map (xs.getD · jK)=ys at *
     have HW6:=Lib.hid (hag6.blk HW5.out (fun h=>hgW h.symm))
     have HB6:Hid (Below w.heap.size w w6):=Lib.hid (HB5.out.trans (hag6.below (fun k hk hm=>by have:=HBw.out;omega) HB5.out.size))
     have hrow7:aq jh 48 w6 w4.heap.size 0 (.slice (some ⟨g,0,none⟩) ys.length c) ys:=by rw [hlen6];exact hrow6
     have HCP:=Lib.hid (lC (d:=d+1) hrow7 (by omega) (fun y hy=>qZ (HWK5.out.ok y (hmem6 y hy)).1) (fun y hy=>(HWK5.out.deep y (hmem6 y hy)).next (N:=fun k=>k=g) hag6 (fun k _ hk=>.inr (by rw [hk];rfl)) (fun k _ hk=>.inr (by rw [hk];rfl))) (by omega))
     rw [hlen6] at HCP
     have HM6:=Lib.hid (And.intro hmap6 hmem6)
     have HAG6:=Lib.hid hag6
     clear hag6 hrow6 hrow7 hlen6 hmap6 hmem6 k_w l_w
     have k_w:=HW6.out.cell
     have l_w:=HW6.out.lt
     go_wp2_with fail
     refine HCP.out.mono ?_
     rintro z w7 ⟨L,hL,rfl,hrow,hag7⟩
     have HROW:=Lib.hid hrow
     have HAG7:=Lib.hid hag7
     have HL:=Lib.hid hL
     clear hrow hag7 hL HCP
     go_wp2_with fail
     go_ret2
     have hsub:∀y∈L,y∈xs:=fun y hy=>HM6.out.2 y (tA qAn (by rw [←HL.out];exact hy))
     exact ⟨L,some ⟨g,0,none⟩,c,by rw [HRE.out];rfl,by rw [HRE.out,HL.out,tl,HM6.out.1,HOUT.out],HROW.out.lower (by omega),fun y hy=>HWK5.out.ok y (hsub y hy),fun y hy=>(HWK5.out.deep y (hsub y hy)).next (N:=fun k=>k=g) (HAG6.out.trans HAG7.out (fun _ _ h=>h)) (fun k _ hk=>.inr (by rw [hk];rfl)) (fun k _ hk=>.inr hk),HB6.out.trans (HAG7.out.below (fun k hk hm=>by have:=HBw.out;omega) HB6.out.size)⟩
   ·have he':(s.e !=0)=true:=by simpa using he
    have HRE:Hid (aT (fs.map FV.f) tr r=([],s.e)):=Lib.hid (by rw [HR.out,if_neg he])
    clear HR
    go_upto_region 6 with fail
    go_region
    go_wp2_with fail
    go_ret2
    exact ⟨[],none,0,by rw [HRE.out];rfl,by rw [HRE.out];rfl,aq.nil _ _ _ _ _,fun y hy=>absurd hy (by simp),fun y hy=>absurd hy (by simp),HB5.out.drew⟩
  ·have h2':aR r=false:=by simpa using h2
   have hmm:(bi r||aR r)=false:=by rw [h1',h2'];rfl
   have HR:Hid (aT (fs.map FV.f) tr r=([],1)):=Lib.hid (by unfold aT;rw [if_neg (by rw [hmm];decide)])
   rw [h2']
   clear hmm h1 h2
   go_wp2_with fail
   go_ret2
   exact ⟨[],none,0,by rw [HR.out];rfl,by rw [HR.out];rfl,aq.nil _ _ _ _ _,fun y hy=>absurd hy (by simp),fun y hy=>absurd hy (by simp),HB3.out⟩
theorem lv:∀{a b:List Fc},bM a→bM b→(∀x,x∈a↔x∈b)→a=b
 | [],[],_,_,_=>rfl
 | [],y::b,_,_,h=>absurd ((h y).2 (by simp)) (by simp)
 | x::a,[],_,_,h=>absurd ((h x).1 (by simp)) (by simp)
 | x::a,y::b,ha,hb,h=>by
   unfold bM at ha hb
   rw [List.pairwise_cons] at ha hb
   have e:x=y:=by
    rcases List.mem_cons.1 ((h x).1 (by simp)) with e | e
    ·exact e
    ·rcases List.mem_cons.1 ((h y).2 (by simp)) with e' | e'
     ·exact e'.symm
     ·have h1:=hb.1 x e
      have h2:=ha.1 y e'
      have:=cH.anti x y
      omega
   subst e
   have hna:x∉a:=fun hx=>by have:=ha.1 x hx;rw [cH.self] at this;omega
   have hnb:x∉b:=fun hx=>by have:=hb.1 x hx;rw [cH.self] at this;omega
   rw [lv ha.2 hb.2 fun z=>?_]
   constructor
   ·intro hz
    rcases List.mem_cons.1 ((h z).1 (by simp [hz])) with e | e
    ·subst e;exact absurd hz hna
    ·exact e
   ·intro hz
    rcases List.mem_cons.1 ((h z).2 (by simp [hz])) with e | e
    ·subst e;exact absurd hz hnb
    ·exact e
def wo (f:Fc):Prop:=f.pr.name.size≤140737488351232∧U32 f.o
theorem fact_in {d B:Nat} {w:World} {f:Fc} {vs:List Value} (h:(aB d).rd w B f vs):wo f:=by
 obtain ⟨A,c,_,h1,_,_,_,_,h2⟩:=aJ h
 exact ⟨h1,h2⟩
def stL (l:List Fc):List Fc:=l.foldl jJ []
section
variable {fs:List Fc} {f x:Fc}
theorem uI (hs:bM fs) (ho:∀x∈fs,FcOk x) (hf:wo f):x∈jJ fs f↔x∈fs∨(x=f∧bE f=true):=by
 unfold jJ ms
 by_cases h1:bE f=true
 ·by_cases h2:ov fs f=true
  ·simp only [h1,h2,Bool.not_true,Bool.and_false,Bool.false_eq_true,if_false,and_true]
   constructor
   ·exact .inl
   ·rintro (h | rfl)
    ·exact h
    ·exact (vm hs ho (jB h1 hf.1 hf.2)).1 h2
  ·simp only [h1,Bool.eq_false_iff.2 h2,Bool.not_false,Bool.and_true,if_true,de,and_true]
   exact or_comm
 ·simp [h1]
theorem addL_ok (ho:∀x∈fs,FcOk x) (hf:wo f):∀x∈jJ fs f,FcOk x:=by
 unfold jJ ms
 split
 ·rename_i h
  rw [Bool.and_eq_true] at h
  intro x hx
  rcases de.1 hx with rfl | h1
  ·exact jB h.1 hf.1 hf.2
  ·exact ho x h1
 ·exact ho
theorem vO (fs:List Fc) (f:Fc):(jJ fs f).length≤fs.length+1:=by
 unfold jJ
 split
 ·rw [bD jE];exact Nat.le_refl _
 ·omega
end
theorem mo:∀(l fs:List Fc),bM fs→(∀x∈fs,FcOk x)→(∀f∈l,wo f)→bM (l.foldl jJ fs)∧(∀x∈l.foldl jJ fs,FcOk x)∧∀x,x∈l.foldl jJ fs↔x∈fs∨(x∈l∧bE x=true)
 | [],fs,h1,h2,_=>⟨h1,h2,fun x=>by simp⟩
 | f::l,fs,h1,h2,h3=>by
   obtain ⟨k1,k2,k3⟩:=mo l (jJ fs f) (pE h1) (addL_ok h2 (h3 f (by simp))) (fun g hg=>h3 g (by simp [hg]))
   refine ⟨k1,k2,fun x=>?_⟩
   rw [List.foldl_cons,k3,uI h1 h2 (h3 f (by simp)),List.mem_cons]
   constructor
   ·rintro ((h | ⟨rfl,h⟩) | ⟨h,h'⟩)
    ·exact .inl h
    ·exact .inr ⟨.inl rfl,h⟩
    ·exact .inr ⟨.inr h,h'⟩
   ·rintro (h | ⟨rfl | h,h'⟩)
    ·exact .inl (.inl h)
    ·exact .inl (.inr ⟨rfl,h'⟩)
    ·exact .inr ⟨h,h'⟩
section
variable {l l':List Fc} (hl:∀f∈l,wo f)
include hl
theorem ly:bM (stL l):=(mo l [] List.Pairwise.nil (by simp) hl).1
theorem sG {x:Fc}:x∈stL l↔x∈l∧bE x=true:=by
 have:=(mo l [] List.Pairwise.nil (by simp) hl).2.2 x
 unfold stL
 simpa using this
theorem rj (p:Fc→Bool):stL (l.filter p)=(stL l).filter p:=by
 have hl':∀f∈l.filter p,wo f:=fun f hf=>hl f (List.mem_filter.1 hf).1
 refine lv (ly hl') ((ly hl).filter _) fun x=>?_
 rw [sG hl',List.mem_filter,List.mem_filter,sG hl]
 constructor
 ·rintro ⟨⟨a,b⟩,c⟩;exact ⟨⟨a,c⟩,b⟩
 ·rintro ⟨⟨a,b⟩,c⟩;exact ⟨⟨a,c⟩,b⟩
end
theorem lX:∀(l fs:List Fc),(l.foldl jJ fs).length≤fs.length+l.length
 | [],fs=>by simp
 | f::l,fs=>by
   have h1:=lX l (jJ fs f)
   have h2:=vO fs f
   rw [List.foldl_cons,List.length_cons];omega
theorem wi (l:List Fc) (f:Fc):stL (l++[f])=jJ (stL l) f:=by unfold stL;rw [List.foldl_append];rfl
/-! Whom is trusted. -/
theorem jX {tr:Int} {step:Fc→Wst→Wst}:∀(fs:List Fc) (s:Wst),(∀f∈fs,dw 4294967295 f=false)→dx tr step fs s=dx 4294967295 step (fs.filter fun f=>!dw tr f) s
 | [],s,_=>rfl
 | f::fs,s,h=>by
   have h1:=h f (by simp)
   have ih:=fun s=>jX (tr:=tr) (step:=step) fs s (fun g hg=>h g (by simp [hg]))
   rw [dx,List.filter_cons]
   by_cases hu:dw tr f=true
   ·rw [if_pos hu,if_neg (show ¬((!dw tr f)=true) by simp [hu]),ih]
   ·rw [if_neg hu,if_pos (show (!dw tr f)=true by simp [hu]),dx,if_neg (show ¬(dw 4294967295 f=true) by simp [h1])]
    split
    ·rfl
    ·split
     ·rfl
     ·rw [ih]
theorem mP (fs:List Fc) (p:Fc→Bool) (name:ByteArray) (n:Int):bv (fs.filter p) name n=(bv fs name n).filter p:=by
 unfold bv
 rw [List.filter_filter,List.filter_filter]
 exact List.filter_congr fun x _=>Bool.and_comm _ _
theorem pf {tr:Int} {step step':Fc→Wst→Wst} (h:∀f s,step f s=step' f s) (fs:List Fc) (s:Wst):dx tr step fs s=dx tr step' fs s:=by
 have:step=step':=by funext f s;exact h f s
 rw [this]
theorem ki {fs:List Fc} {tr:Int} {es:List (List OpD)} (h:∀f∈fs,dw 4294967295 f=false):∀(ps:List Pr) (x:Ans) (s:Wst),dB fs tr es ps x s=dB (fs.filter fun f=>!dw tr f) 4294967295 es ps x s
 | [],x,s=>rfl
 | p::ps,x,s=>by
   have ih:=fun x s=>ki (tr:=tr) (es:=es) h ps x s
   rw [dD,dD,mP,jX _ _ (fun f hf=>h f (lK hf).1)]
   refine pf (fun f s=>?_) _ _
   unfold ew
   split
   ·exact ih _ _
   ·rfl
theorem lj {fs:List Fc} {tr:Int} {r:Ru} (h:∀f∈fs,dw 4294967295 f=false):aT fs tr r=aT (fs.filter fun f=>!dw tr f) 4294967295 r:=by
 unfold aT
 rw [ki h]
/-! More facts. -/
def Ext (s s':Wst):Prop:=s.held≤s'.held∧∃l,s'.out=s.out++l
theorem Ext.refl (s:Wst):Ext s s:=⟨Int.le_refl _,[],by simp⟩
theorem Ext.trans {s t u:Wst} (h:Ext s t) (k:Ext t u):Ext s u:=by
 obtain ⟨h1,l,h2⟩:=h
 obtain ⟨k1,m,k2⟩:=k
 exact ⟨Int.le_trans h1 k1,l++m,by rw [k2,h2,List.append_assoc]⟩
theorem Ext.held {s t:Wst} {h:Int} (k:Ext ⟨s.held+1,s.out,h⟩ t):Ext s t:=by
 obtain ⟨k1,k2⟩:=k
 exact ⟨by simp only at k1;omega,k2⟩
def Sim (s s' t t':Wst):Prop:=s.held≤s'.held→s.e=0→t'.e=0→t.e=0∧t.held≤t'.held∧∃l l',t.out=s.out++l∧t'.out=s'.out++l'∧l.Sublist l'
theorem Sim.add {s s' t t' u u':Wst} (h:Sim s s' t t') (k:Sim t t' u u') (hx:Ext t' u') (he:t'.e=0):Sim s s' u u':=fun h1 h2 h3=>by
 obtain ⟨a1,a2,l,l',a3,a4,a5⟩:=h h1 h2 he
 obtain ⟨b1,b2,m,m',b3,b4,b5⟩:=k a2 a1 h3
 exact ⟨b1,b2,l++m,l'++m',by rw [b3,a3,List.append_assoc],by rw [b4,a4,List.append_assoc],a5.append b5⟩
/-! bM,each once. -/
def eqA (a b:Ans):Bool:=bY a b==0
def wR (L:List Ans):List Ans:=cpt eqA (mj L)
def runR (fs:List Fc) (tr:Int) (r:Ru):Wst:=dB fs tr r.exprs r.body jz ⟨0,[],0⟩
theorem oE (fs:List Fc) (tr:Int) (r:Ru):aT fs tr r=if (bi r||aR r)=true then (if (runR fs tr r).e=0 then (wR (runR fs tr r).out,0) else ([],(runR fs tr r).e)) else ([],1):=rfl
theorem gv (b:Bool) (w:World) :
 Calls Tryz.prog 269 #[.bool b] w fun e w'=>e=.returned (.int .i64 (if b then -1 else 1))∧w=w':=by
 cases b
 all_goals
  go_enter Tryz.func269,Tryz.ntmps269
  go_wp2_with fail
  go_ret
  exact ⟨rfl,rfl⟩
theorem cA (c:Int) (w:World) (h0:0≤c) (h1:c≤255) :
 Calls Tryz.prog 120 #[.int .u8 c] w fun e w'=>e=.returned (.bool (eM c))∧w=w':=by
 have hc:(97≤c∧c≤122)∨(65≤c∧c≤90)∨(c<65)∨(90<c∧c<97)∨122<c:=by omega
 rcases hc with h | h | h | h | h
 all_goals
  go_enter Tryz.func120,Tryz.ntmps120
  go_wp2_with fail
  go_ret
  refine ⟨ac ?_,rfl⟩
  rw [Bool.eq_iff_iff,gu]
  simp
  try omega
theorem nV (c:Int) (w:World) (h0:0≤c) (h1:c≤255) :
 Calls Tryz.prog 121 #[.int .u8 c] w fun e w'=>e=.returned (.bool (cN 1 c))∧w=w':=by
 by_cases hl:eM c=true
 ·go_enter Tryz.func121,Tryz.ntmps121
  go_wp2_with fail
  refine (cA c w h0 h1).mono ?_
  rintro e w1 ⟨rfl,rfl⟩
  rw [hl]
  go_wp2_with fail
  go_ret
  exact ⟨ac (by simp [cN,hl]),rfl⟩
 ·simp only [Bool.not_eq_true] at hl
  have hc:(48≤c∧c≤57)∨c=95∨c=58∨c<48∨(58<c∧c<95)∨95<c:=by omega
  rcases hc with h | rfl | rfl | h | h | h
  all_goals
   go_enter Tryz.func121,Tryz.ntmps121
   go_wp2_with fail
   refine (cA _ w h0 h1).mono ?_
   rintro e w1 ⟨rfl,rfl⟩
   rw [hl]
   go_wp2_with fail
   go_ret
   refine ⟨ac ?_,rfl⟩
   rw [Bool.eq_iff_iff,dE]
   have hl2:=hl
   rw [Bool.eq_false_iff,ne_eq,gu] at hl2
   simp
   try omega
theorem gR {s:ByteArray} (h:¬(((∀i,(h:i<s.size)→cN i s[i].toNat=true)∧1≤s.size∧s.size≤32)∧Lib.hasPrefix (bs s) (bs rY)=false)):false=dM (bs s):=by
 rw [eq_comm,Bool.eq_false_iff,ne_eq,eE]
 exact h
theorem me (s:ByteArray) (w:World) (hs:s.size≤maxLen) (t1:¬(1≤s.size∧s.size≤32)) :
 Calls Tryz.prog 64 #[.string s] w fun e w'=>e=.returned (.bool (dM (bs s)))∧w=w':=by
 unfold maxLen at hs
 go_enter Tryz.func64,Tryz.ntmps64
 go_wp2_with fail
 all_goals
  go_ret
  exact ⟨ac (gR (by omega)),rfl⟩
theorem hexQ {s:ByteArray} (h:4≤s.size):((s.extract 0 4).toList==[104,101,120,58])=Lib.hasPrefix (bs s) (bs rY):=by
 rw [←Lib.hasPrefix_of_take,←Lib.size_eq,←Lib.size_eq]
 have e:rY.toList=[104,101,120,58]:=by rw [ByteArray.toList_eq];rfl
 have h4:rY.size=4:=rfl
 rw [←e,cX,Bool.eq_iff_iff]
 simp [h4,h,Lib.extract_data]
theorem hexN {s:ByteArray} (h:s.size<4):Lib.hasPrefix (bs s) (bs rY)=false:=by
 rw [←Lib.hasPrefix_of_take,←Lib.size_eq,←Lib.size_eq]
 have h4:rY.size=4:=rfl
 simp [h4]
 omega
theorem dU (s:ByteArray) (w:World) (hs:s.size≤maxLen) :
 Calls Tryz.prog 64 #[.string s] w fun e w'=>e=.returned (.bool (dM (bs s)))∧w=w':=by
 by_cases t1:1≤s.size∧s.size≤32
 rotate_left
 ·exact me s w hs t1
 unfold maxLen at hs
 have hb:(s[0].toNat:Int)≤255:=by have:=s[0].toNat_lt;omega
 by_cases hl:eM s[0].toNat=true
 rotate_left
 ·simp only [Bool.not_eq_true] at hl
  go_enter Tryz.func64,Tryz.ntmps64
  go_wp2_with fail
  refine (cA _ w (by omega) (by omega)).mono ?_
  rintro e w1 ⟨rfl,rfl⟩
  rw [hl]
  go_wp2_with fail
  go_ret
  refine ⟨ac (gR fun h=>?_),rfl⟩
  have:=h.1.1 0 (by omega)
  rw [cN,hl] at this
  simp at this
 have HL0:=Lib.hid hl
 have key:(4≤s.size∧((s.extract 0 4).toList==[104,101,120,58])=true)∨(Lib.hasPrefix (bs s) (bs rY)=false∧4≤s.size∧((s.extract 0 4).toList==[104,101,120,58])=false)∨(Lib.hasPrefix (bs s) (bs rY)=false∧s.size<4):=by
  by_cases t4:4≤s.size
  ·cases hx:((s.extract 0 4).toList==[104,101,120,58])
   ·exact .inr (.inl ⟨by rw [←hexQ t4,hx],t4,rfl⟩)
   ·exact .inl ⟨t4,rfl⟩
  ·exact .inr (.inr ⟨hexN (by omega),by omega⟩)
 rcases key with ⟨t4,hx⟩ | hk
 ·have HX:=Lib.hid hx
  go_enter Tryz.func64,Tryz.ntmps64
  go_wp2_with fail
  refine (cA _ w (by omega) (by omega)).mono ?_
  rintro e w1 ⟨rfl,rfl⟩
  rw [hl]
  go_wp2_with fail
  go_ret
  refine ⟨ac (gR fun h=>?_),rfl⟩
  have h2:=h.2
  rw [←hexQ t4,HX.out] at h2
  cases h2
 have HP:=Lib.hid (show Lib.hasPrefix (bs s) (bs rY)=false by rcases hk with h | h<;>exact h.1)
 have hk':(4≤s.size∧((s.extract 0 4).toList==[104,101,120,58])=false)∨s.size<4:=by rcases hk with h | h<;>simp [h.2]
 clear hk
 rcases hk' with ⟨t4,hx⟩ | t4
 all_goals
  go_enter Tryz.func64,Tryz.ntmps64
  go_wp2_with fail
  refine (cA _ w (by omega) (by omega)).mono ?_
  rintro e w1 ⟨rfl,rfl⟩
  rw [hl]
  go_wp2_with fail
  go_loop [30] (fun i=>∃k:Nat,k≤s.size∧i=.int .i64 k∧(∀i,(h:i<k)→(h':i<s.size)→cN i s[i].toNat=true)) (fun i=>s.size-(intOf i).toNat)
  case atStart=>exact ⟨0,Nat.zero_le _,rfl,fun i h=>by omega⟩
  case round=>
   obtain ⟨k,hk,rfl,hall⟩:=hrel
   have HA:=Lib.hid hall
   clear hall
   by_cases hlt:k<s.size
   ·have hbk:(s[k].toNat:Int)≤255:=by have:=s[k].toNat_lt;omega
    have HN:Hid (cN 1 s[k].toNat=true→cN k s[k].toNat=true):=by
     intro h1
     rcases Nat.eq_zero_or_pos k with rfl | hk0
     ·simp [cN,HL0.out]
     ·rw [dE] at h1 ⊢
      rcases h1 with h1 | h1
      ·exact .inl h1
      ·exact .inr ⟨by omega,h1.2⟩
    have HM:Hid (cN 1 s[k].toNat=false→¬cN k s[k].toNat=true):=by
     intro h1
     rw [Bool.eq_false_iff,ne_eq,dE] at h1
     rw [dE]
     intro h2
     apply h1
     rcases h2 with h2 | h2
     ·exact .inl h2
     ·exact .inr ⟨by omega,h2.2⟩
    go_wp2_with fail
    refine (nV _ w (by omega) (by omega)).mono ?_
    rintro e w1 ⟨rfl,rfl⟩
    by_cases hn:cN 1 s[k].toNat=true
    ·have HN2:=Lib.hid (HN.out hn)
     rw [hn]
     go_wp2_with fail
     go_round
     case rel=>exact ⟨k+1,by omega,by go_num,fun i h h'=>by
      rcases Nat.lt_or_ge i k with h1 | h1
      ·exact HA.out i h1 h'
      ·obtain rfl:i=k:=by omega
       exact HN2.out⟩
     case measure=>simp [intOf];omega
    ·simp only [Bool.not_eq_true] at hn
     have HN2:=Lib.hid (HM.out hn)
     rw [hn]
     go_wp2_with fail
     go_ret
     exact ⟨ac (gR fun h=>HN2.out (h.1.1 k hlt)),rfl⟩
   ·go_wp2_with fail
    go_ret
    refine ⟨ac ?_,rfl⟩
    show true=_
    rw [eq_comm,eE]
    exact ⟨⟨fun i hi=>HA.out i (by omega) hi,by omega,by omega⟩,HP.out⟩
end Go.Proofs.YtdphibjibnffeaaGreat
