/- Data that the program writes down: what its cells read as. -/
import Derived.Test.YtdphibjibnffeaaGreatCpt0
import Derived.Test.YtdphibjibnffeaaGreatGo2
import Derived.Test.YtdphibjibnffeaaGreatOpen
import Derived.Test.YtdphibjibnffeaaGreatStL0
import Derived.Test.YtdphibjibnffeaaGreatMade
set_option linter.unusedVariables false
set_option linter.unusedSimpArgs false
set_option maxRecDepth 100000
set_option maxHeartbeats 8000000
namespace Go.Proofs.YtdphibjibnffeaaGreat
open Go.ChangeShapes Go.WideShapes Go.ChangeAt Go.RowKit
def aA (fs:List Fc) (tr:Int) (r:Ru):List Ans × Int:=
 if (bj r||aB r)=true then
  if (cU fs tr r.exprs r.body gG ⟨0,[],0⟩).e=0 then (cpt (fun a b=>aM a b==0) (jn (cU fs tr r.exprs r.body gG ⟨0,[],0⟩).out),0) else ([],(cU fs tr r.exprs r.body gG ⟨0,[],0⟩).e)
 else ([],1)
def AnsE (d:Nat) (w w':World) (R:List Ans × Int) (z:Ending):Prop:=
 ∃(L:List AnV) (A:Option Addr) (c:Nat),z=.returned (.tuple #[.slice A L.length c,.int .i64 R.2])∧L.map AnV.x=R.1∧am iV 48 w' w.heap.size 0 (.slice A L.length c) L∧(∀y∈L,cr y.x.b=true∧U32 y.x.o)∧(∀y∈L,ie (fun k=>(Value.slice A L.length c).ownBlock=some k) w' (fun w'=>(mC (d+1)).rd w' w'.heap.size y.x y.cs))∧Below w.heap.size w w'
theorem pm:cr jL.x.b=true∧U32 jL.x.o:=⟨rfl,by unfold U32;simp [jL]⟩
theorem nN:∀(ys:List AnV) (p:AnV),(eE qAn p ys).map AnV.x=eE (fun a b=>aM a b==0) p.x (ys.map AnV.x)
 | [],p=>rfl
 | y::ys,p=>by
   rw [List.map_cons,eE,eE,←nN ys y]
   show List.map AnV.x (if (aM y.x p.x==0)=true then _ else _)=_
   split<;>rfl
theorem ui:∀(ys:List AnV),(cpt qAn ys).map AnV.x=cpt (fun a b=>aM a b==0) (ys.map AnV.x)
 | []=>rfl
 | y::ys=>by rw [List.map_cons,cpt,cpt,List.map_cons,nN]
theorem vK (xs:List AnV):((eo (xs.map AnV.x)).map (xs.getD · jL)).length=xs.length:=by rw [List.length_map,lu,List.length_map]
theorem vL (xs:List AnV):((eo (xs.map AnV.x)).map (xs.getD · jL)).map AnV.x=jn (xs.map AnV.x):=by
 rw [jn,List.map_map]
 refine List.map_congr_left fun i hi=>?_
 have h:=ru hi
 rw [List.length_map] at h
 simp [h]
theorem vM (xs:List AnV):∀y∈(eo (xs.map AnV.x)).map (xs.getD · jL),y∈xs:=fun y hy=>by
 obtain ⟨i,hi,rfl⟩:=List.mem_map.1 hy
 have h:=ru hi
 rw [List.length_map] at h
 have e:xs.getD i jL=xs[i]:=by simp [h]
 rw [e];exact List.getElem_mem h
theorem mW {r:Ru} (h:(bj r||aB r)=true):(∀p∈r.body,aK p=true)∧r.body.length≤4∧r.exprs.length≤4:=by
 have hb:gH r=true:=by
  rcases Bool.or_eq_true_iff.1 h with h | h
  ·simp only [bj,Bool.and_eq_true] at h;exact h.1.2
  ·simp only [aB,Bool.and_eq_true] at h;exact h.2
 simp only [gH,Bool.and_eq_true,decide_eq_true_eq,List.all_eq_true] at hb
 exact ⟨hb.1.1.1.2,hb.1.1.1.1,hb.1.1.2.1⟩
theorem gM {d baseS B S cs:Nat} {r:Ru} {vr:List Value} {w:World} {fs:List FV} {As:Option Addr} {tr m:Int} (hr:(RuR (d+1)).rd w B r vr) (hB:B≤w.heap.size) (hS:StA baseS d w S fs As cs) (hfew:fs.length≤100000) (hm:w.cell? ⟨0,0,none⟩=some (.int .i64 m)) (hp:0<w.heap.size) :
 Calls Tryz.prog 18 #[.agg vr.toArray,.pointer (some ⟨S,0,none⟩),.int .u32 tr] w fun z w'=>AnsE d w w' (aA (fs.map FV.f) tr r) z:=by
 have HRD:=yW hr
 obtain ⟨_,_,_,_,rfl,hs,⟨A0,c0,rfl,h01,h02,hl0⟩,⟨A1,c1,rfl,h11,h12,hl1⟩,⟨A2,c2,rfl,h21,h22,hl2⟩,⟨A3,c3,rfl,h31,h32,hl3⟩⟩:=hr
 have HST0:Hid ((bj r||aB r)=true→WkS d w baseS B ⟨.string r.head.name,.slice A0 r.head.terms.length c0,.slice A1 r.body.length c1,.slice A2 r.exprs.length c2,.slice A3 r.scopes.length c3,S,tr⟩ fs As cs r.body A1 c1 r.exprs A2 c2 m):=yW (fun h=>⟨hS,hfew,hB,rfl,hl1,by have:=(mW h).2.1;omega,(mW h).1,rfl,hl2,by have:=(mW h).2.2;omega,hm,hp⟩)
 clear hS hfew hm hl0 hl1 hl2 hl3
 go_enter Tryz.func18,Tryz.ntmps18
 go_upto_region 1 with fail
 generalize hWW:World.alloc _ _=w1
 obtain ⟨hb1,hz⟩:=al1 hWW
 have HR1:=yW (n11 hWW)
 have HB1:=yW hb1
 have hsz1:=hb1.size
 clear hWW hb1 hz
 have k_r:=HR1.out.cell
 have l_r:=HR1.out.lt
 go_wp2_with fail
 refine (qc (vs:=[_,_,_,_,_]) ((RuR (d+1)).keep HB1.out hB HRD.out) (yX hB hsz1)).mono ?_
 rintro e w2 ⟨rfl,hb2⟩
 have HR2:=yW (HR1.out.later hb2)
 have HB2:=yW (ab HB1.out hb2)
 have hsz2:=HB2.out.size
 clear hb2 k_r l_r
 have k_r:=HR2.out.cell
 have l_r:=HR2.out.lt
 by_cases h1:bj r=true
 ·have hmm:(bj r||aB r)=true:=by rw [h1];rfl
  have HST:=yW (HST0.out hmm)
  have HBx:=HB2
  rw [h1]
  go_upto_region 4 with fail
  generalize hWW:World.alloc _ _=w4
  obtain ⟨hb4,hz⟩:=al1 hWW
  have HW4:=yW (n11 hWW)
  have HB4:=yW (ab HBx.out hb4)
  have hsz4:=HB4.out.size
  have hl4:=HW4.out.lt
  clear hWW hb4 hz k_r l_r
  have HWK:Hid (WkAt w4.heap.size d w4 w2.heap.size ⟨.string r.head.name,.slice A0 r.head.terms.length c0,.slice A1 r.body.length c1,.slice A2 r.exprs.length c2,.slice A3 r.scopes.length c3,S,tr⟩ 0 [] none 0 0):=yW ⟨HW4.out,hl4,yY _,am.nil _ _ _ _ _,fun y hy=>absurd hy (by simp),fun y hy=>absurd hy (by simp)⟩
  have HGO2:Hid (Calls Tryz.prog 55 #[.pointer (some ⟨w2.heap.size,0,none⟩),.int .i64 0,.agg #[.slice none 0 0,.slice none 0 0,.int .u32 0]] w4 fun z w'=>WkE w4.heap.size d w2.heap.size ⟨.string r.head.name,.slice A0 r.head.terms.length c0,.slice A1 r.body.length c1,.slice A2 r.exprs.length c2,.slice A3 r.scopes.length c3,S,tr⟩ w4 w' none 0 0 (cU (fs.map FV.f) tr r.exprs r.body gG ⟨0,[],0⟩) z):=yW (re HST.out (show w.heap.size≤w2.heap.size from HBx.out.size) r.body 0 rfl (yZ _) w4 0 [] none 0 jL HB4.out HWK.out (fun w' _=>mH _ _ _) pm (by simp) (by decide))
  have l_w4:=hl4
  have HBw:Hid (w.heap.size≤w2.heap.size):=yW HBx.out.size
  generalize hWn:w2.heap.size=W at *
  have HR:Hid (aA (fs.map FV.f) tr r=if (cU (fs.map FV.f) tr r.exprs r.body gG ⟨0,[],0⟩).e=0 then (cpt (fun a b=>aM a b==0) (jn (cU (fs.map FV.f) tr r.exprs r.body gG ⟨0,[],0⟩).out),0) else ([],(cU (fs.map FV.f) tr r.exprs r.body gG ⟨0,[],0⟩).e)):=yW (if_pos hmm)
  clear hmm
  go_wp2_with fail
  refine HGO2.out.mono ?_
  rintro z w5 ⟨xs,A,c,rfl,hout,hwk,hag,_⟩
  have hfew:=iu (fs:=fs.map FV.f) (tr:=tr) (es:=r.exprs) (ps:=r.body) (x:=gG) (s:=⟨0,[],0⟩)
  clear HGO2
  generalize cU (fs.map FV.f) tr r.exprs r.body gG ⟨0,[],0⟩=s at *
  have hn:xs.length≤1000000:=by
   have h1:=hfew.2.1 (by decide)
   have h2:=hfew.2.2
   rw [←hout,List.length_map] at h2
   simp at h2
   omega
  have HB5:Hid (Below w.heap.size w w5):=yW (HB4.out.trans ((hag.below (base:=W) (fun k hk hm=>by rcases hm with h | h<;>first | omega | cases h) (Nat.le_of_lt hl4)).mono HBw.out))
  have HWK5:=yW hwk
  have HOUT:=yW hout
  have HW5:Hid (Blk w5 W #[.string r.head.name,.slice A0 r.head.terms.length c0,.slice A1 r.body.length c1,.slice A2 r.exprs.length c2,.slice A3 r.scopes.length c3,.pointer (some ⟨S,0,none⟩),.int .u32 tr,.int .i64 s.held,.slice A xs.length c,.int .i64 s.e]):=yW hwk.hd
  clear hag hwk hout hfew HW4 HWK
  have k_w:=HW5.out.cell
  have l_w:=HW5.out.lt
  by_cases he:s.e=0
  ·have HRE:Hid (aA (fs.map FV.f) tr r=(cpt (fun a b=>aM a b==0) (jn s.out),0)):=yW (by rw [HR.out,if_pos he])
   have he':(s.e !=0)=false:=by rw [he];rfl
   clear HR
   by_cases hx0:xs.length=0
   ·rw [hx0] at k_w
    go_wp2_with fail
    refine oW.mono ?_
    rintro z w6 ⟨rfl,rfl⟩
    go_wp2_with fail
    refine jv.mono ?_
    rintro z w6 ⟨rfl,rfl⟩
    go_wp2_with fail
    go_ret2
    have hx1:xs=[]:=List.length_eq_zero_iff.1 hx0
    have ho:s.out=[]:=by rw [←HOUT.out,hx1];rfl
    exact ⟨[],A,c,by rw [HRE.out];rfl,by rw [HRE.out,ho,(gE []).eq_nil];rfl,by have h:=HWK5.out.row;rw [hx1] at h;exact h.lower (by omega),fun y hy=>absurd hy (by simp),fun y hy=>absurd hy (by simp),HB5.out⟩
   ·have hx:0<xs.length:=by omega
    obtain ⟨g,c1_,e1,hg1,hg2,_⟩:=HWK5.out.row.sh aT hx
    simp only [Value.slice.injEq,true_and] at e1
    obtain ⟨rfl,rfl⟩:=e1
    have hgW:g≠W:=by omega
    go_wp2_with fail
    refine (km (d:=d+1) HWK5.out.row hx (fun y hy=>wB (HWK5.out.ok y hy).1) (fun y hy=>(HWK5.out.deep y hy).less (fun k _ hk=>.inr (by rw [hk];rfl))) hn).mono ?_
    rintro z w6 ⟨rfl,hrow6,hag6⟩
    have hlen6:=vK xs
    have hmap6:=vL xs
    have hmem6:=vM xs
    generalize (eo (xs.map AnV.x)).map (xs.getD · jL)=ys at *
    have HW6:=yW (hag6.blk HW5.out (fun h=>hgW h.symm))
    have HB6:Hid (Below w.heap.size w w6):=yW (HB5.out.trans (hag6.below (fun k hk hm=>by have:=HBw.out;omega) HB5.out.size))
    have hrow7:am iV 48 w6 w4.heap.size 0 (.slice (some ⟨g,0,none⟩) ys.length c) ys:=by rw [hlen6];exact hrow6
    have HCP:=yW (lX (d:=d+1) hrow7 (by omega) (fun y hy=>wB (HWK5.out.ok y (hmem6 y hy)).1) (fun y hy=>(HWK5.out.deep y (hmem6 y hy)).next (N:=fun k=>k=g) hag6 (fun k _ hk=>.inr (by rw [hk];rfl)) (fun k _ hk=>.inr (by rw [hk];rfl))) (by omega))
    rw [hlen6] at HCP
    have HM6:=yW (And.intro hmap6 hmem6)
    have HAG6:=yW hag6
    clear hag6 hrow6 hrow7 hlen6 hmap6 hmem6 k_w l_w
    have k_w:=HW6.out.cell
    have l_w:=HW6.out.lt
    go_wp2_with fail
    refine HCP.out.mono ?_
    rintro z w7 ⟨L,hL,rfl,hrow,hag7⟩
    have HROW:=yW hrow
    have HAG7:=yW hag7
    have HL:=yW hL
    clear hrow hag7 hL HCP
    go_wp2_with fail
    go_ret2
    have hsub:∀y∈L,y∈xs:=fun y hy=>HM6.out.2 y (pM qAn (by rw [←HL.out];exact hy))
    exact ⟨L,some ⟨g,0,none⟩,c,by rw [HRE.out];rfl,by rw [HRE.out,HL.out,ui,HM6.out.1,HOUT.out],HROW.out.lower (by omega),fun y hy=>HWK5.out.ok y (hsub y hy),fun y hy=>(HWK5.out.deep y (hsub y hy)).next (N:=fun k=>k=g) (HAG6.out.trans HAG7.out (fun _ _ h=>h)) (fun k _ hk=>.inr (by rw [hk];rfl)) (fun k _ hk=>.inr hk),HB6.out.trans (HAG7.out.below (fun k hk hm=>by have:=HBw.out;omega) HB6.out.size)⟩
  ·have he':(s.e !=0)=true:=by simpa using he
   have HRE:Hid (aA (fs.map FV.f) tr r=([],s.e)):=yW (by rw [HR.out,if_neg he])
   clear HR
   go_upto_region 6 with fail
   go_region
   go_wp2_with fail
   go_ret2
   exact ⟨[],none,0,by rw [HRE.out];rfl,by rw [HRE.out];rfl,am.nil _ _ _ _ _,fun y hy=>absurd hy (by simp),fun y hy=>absurd hy (by simp),HB5.out.drew⟩
 ·have h1':bj r=false:=by simpa using h1
  rw [h1']
  go_wp2_with fail
  refine (fY (vs:=[_,_,_,_,_]) ((RuR (d+1)).keep HB2.out hB HRD.out) (yX hB hsz2)).mono ?_
  rintro e w3 ⟨rfl,hb3⟩
  have HR3:=yW (HR2.out.later hb3)
  have HB3:=yW (ab HB2.out hb3)
  have hsz3:=HB3.out.size
  clear hb3 k_r l_r
  have k_r:=HR3.out.cell
  have l_r:=HR3.out.lt
  by_cases h2:aB r=true
  ·have hmm:(bj r||aB r)=true:=by rw [h1',h2];rfl
   have HST:=yW (HST0.out hmm)
   have HBx:=HB3
   rw [h2]
   go_upto_region 4 with fail
   generalize hWW:World.alloc _ _=w4
   obtain ⟨hb4,hz⟩:=al1 hWW
   have HW4:=yW (n11 hWW)
   have HB4:=yW (ab HBx.out hb4)
   have hsz4:=HB4.out.size
   have hl4:=HW4.out.lt
   clear hWW hb4 hz k_r l_r
   have HWK:Hid (WkAt w4.heap.size d w4 w3.heap.size ⟨.string r.head.name,.slice A0 r.head.terms.length c0,.slice A1 r.body.length c1,.slice A2 r.exprs.length c2,.slice A3 r.scopes.length c3,S,tr⟩ 0 [] none 0 0):=yW ⟨HW4.out,hl4,yY _,am.nil _ _ _ _ _,fun y hy=>absurd hy (by simp),fun y hy=>absurd hy (by simp)⟩
   have HGO2:Hid (Calls Tryz.prog 55 #[.pointer (some ⟨w3.heap.size,0,none⟩),.int .i64 0,.agg #[.slice none 0 0,.slice none 0 0,.int .u32 0]] w4 fun z w'=>WkE w4.heap.size d w3.heap.size ⟨.string r.head.name,.slice A0 r.head.terms.length c0,.slice A1 r.body.length c1,.slice A2 r.exprs.length c2,.slice A3 r.scopes.length c3,S,tr⟩ w4 w' none 0 0 (cU (fs.map FV.f) tr r.exprs r.body gG ⟨0,[],0⟩) z):=yW (re HST.out (show w.heap.size≤w3.heap.size from HBx.out.size) r.body 0 rfl (yZ _) w4 0 [] none 0 jL HB4.out HWK.out (fun w' _=>mH _ _ _) pm (by simp) (by decide))
   have l_w4:=hl4
   have HBw:Hid (w.heap.size≤w3.heap.size):=yW HBx.out.size
   generalize hWn:w3.heap.size=W at *
   have HR:Hid (aA (fs.map FV.f) tr r=if (cU (fs.map FV.f) tr r.exprs r.body gG ⟨0,[],0⟩).e=0 then (cpt (fun a b=>aM a b==0) (jn (cU (fs.map FV.f) tr r.exprs r.body gG ⟨0,[],0⟩).out),0) else ([],(cU (fs.map FV.f) tr r.exprs r.body gG ⟨0,[],0⟩).e)):=yW (if_pos hmm)
   clear hmm
   go_wp2_with fail
   refine HGO2.out.mono ?_
   rintro z w5 ⟨xs,A,c,rfl,hout,hwk,hag,_⟩
   have hfew:=iu (fs:=fs.map FV.f) (tr:=tr) (es:=r.exprs) (ps:=r.body) (x:=gG) (s:=⟨0,[],0⟩)
   clear HGO2
   generalize cU (fs.map FV.f) tr r.exprs r.body gG ⟨0,[],0⟩=s at *
   have hn:xs.length≤1000000:=by
    have h1:=hfew.2.1 (by decide)
    have h2:=hfew.2.2
    rw [←hout,List.length_map] at h2
    simp at h2
    omega
   have HB5:Hid (Below w.heap.size w w5):=yW (HB4.out.trans ((hag.below (base:=W) (fun k hk hm=>by rcases hm with h | h<;>first | omega | cases h) (Nat.le_of_lt hl4)).mono HBw.out))
   have HWK5:=yW hwk
   have HOUT:=yW hout
   have HW5:Hid (Blk w5 W #[.string r.head.name,.slice A0 r.head.terms.length c0,.slice A1 r.body.length c1,.slice A2 r.exprs.length c2,.slice A3 r.scopes.length c3,.pointer (some ⟨S,0,none⟩),.int .u32 tr,.int .i64 s.held,.slice A xs.length c,.int .i64 s.e]):=yW hwk.hd
   clear hag hwk hout hfew HW4 HWK
   have k_w:=HW5.out.cell
   have l_w:=HW5.out.lt
   by_cases he:s.e=0
   ·have HRE:Hid (aA (fs.map FV.f) tr r=(cpt (fun a b=>aM a b==0) (jn s.out),0)):=yW (by rw [HR.out,if_pos he])
    have he':(s.e !=0)=false:=by rw [he];rfl
    clear HR
    by_cases hx0:xs.length=0
    ·rw [hx0] at k_w
     go_wp2_with fail
     refine oW.mono ?_
     rintro z w6 ⟨rfl,rfl⟩
     go_wp2_with fail
     refine jv.mono ?_
     rintro z w6 ⟨rfl,rfl⟩
     go_wp2_with fail
     go_ret2
     have hx1:xs=[]:=List.length_eq_zero_iff.1 hx0
     have ho:s.out=[]:=by rw [←HOUT.out,hx1];rfl
     exact ⟨[],A,c,by rw [HRE.out];rfl,by rw [HRE.out,ho,(gE []).eq_nil];rfl,by have h:=HWK5.out.row;rw [hx1] at h;exact h.lower (by omega),fun y hy=>absurd hy (by simp),fun y hy=>absurd hy (by simp),HB5.out⟩
    ·have hx:0<xs.length:=by omega
     obtain ⟨g,c1_,e1,hg1,hg2,_⟩:=HWK5.out.row.sh aT hx
     simp only [Value.slice.injEq,true_and] at e1
     obtain ⟨rfl,rfl⟩:=e1
     have hgW:g≠W:=by omega
     go_wp2_with fail
     refine (km (d:=d+1) HWK5.out.row hx (fun y hy=>wB (HWK5.out.ok y hy).1) (fun y hy=>(HWK5.out.deep y hy).less (fun k _ hk=>.inr (by rw [hk];rfl))) hn).mono ?_
     rintro z w6 ⟨rfl,hrow6,hag6⟩
     have hlen6:=vK xs
     have hmap6:=vL xs
     have hmem6:=vM xs
     generalize (eo (xs.map AnV.x)).map (xs.getD · jL)=ys at *
     have HW6:=yW (hag6.blk HW5.out (fun h=>hgW h.symm))
     have HB6:Hid (Below w.heap.size w w6):=yW (HB5.out.trans (hag6.below (fun k hk hm=>by have:=HBw.out;omega) HB5.out.size))
     have hrow7:am iV 48 w6 w4.heap.size 0 (.slice (some ⟨g,0,none⟩) ys.length c) ys:=by rw [hlen6];exact hrow6
     have HCP:=yW (lX (d:=d+1) hrow7 (by omega) (fun y hy=>wB (HWK5.out.ok y (hmem6 y hy)).1) (fun y hy=>(HWK5.out.deep y (hmem6 y hy)).next (N:=fun k=>k=g) hag6 (fun k _ hk=>.inr (by rw [hk];rfl)) (fun k _ hk=>.inr (by rw [hk];rfl))) (by omega))
     rw [hlen6] at HCP
     have HM6:=yW (And.intro hmap6 hmem6)
     have HAG6:=yW hag6
     clear hag6 hrow6 hrow7 hlen6 hmap6 hmem6 k_w l_w
     have k_w:=HW6.out.cell
     have l_w:=HW6.out.lt
     go_wp2_with fail
     refine HCP.out.mono ?_
     rintro z w7 ⟨L,hL,rfl,hrow,hag7⟩
     have HROW:=yW hrow
     have HAG7:=yW hag7
     have HL:=yW hL
     clear hrow hag7 hL HCP
     go_wp2_with fail
     go_ret2
     have hsub:∀y∈L,y∈xs:=fun y hy=>HM6.out.2 y (pM qAn (by rw [←HL.out];exact hy))
     exact ⟨L,some ⟨g,0,none⟩,c,by rw [HRE.out];rfl,by rw [HRE.out,HL.out,ui,HM6.out.1,HOUT.out],HROW.out.lower (by omega),fun y hy=>HWK5.out.ok y (hsub y hy),fun y hy=>(HWK5.out.deep y (hsub y hy)).next (N:=fun k=>k=g) (HAG6.out.trans HAG7.out (fun _ _ h=>h)) (fun k _ hk=>.inr (by rw [hk];rfl)) (fun k _ hk=>.inr hk),HB6.out.trans (HAG7.out.below (fun k hk hm=>by have:=HBw.out;omega) HB6.out.size)⟩
   ·have he':(s.e !=0)=true:=by simpa using he
    have HRE:Hid (aA (fs.map FV.f) tr r=([],s.e)):=yW (by rw [HR.out,if_neg he])
    clear HR
    go_upto_region 6 with fail
    go_region
    go_wp2_with fail
    go_ret2
    exact ⟨[],none,0,by rw [HRE.out];rfl,by rw [HRE.out];rfl,am.nil _ _ _ _ _,fun y hy=>absurd hy (by simp),fun y hy=>absurd hy (by simp),HB5.out.drew⟩
  ·have h2':aB r=false:=by simpa using h2
   have hmm:(bj r||aB r)=false:=by rw [h1',h2'];rfl
   have HR:Hid (aA (fs.map FV.f) tr r=([],1)):=yW (by unfold aA;rw [if_neg (by rw [hmm];decide)])
   rw [h2']
   clear hmm h1 h2
   go_wp2_with fail
   go_ret2
   exact ⟨[],none,0,by rw [HR.out];rfl,by rw [HR.out];rfl,am.nil _ _ _ _ _,fun y hy=>absurd hy (by simp),fun y hy=>absurd hy (by simp),HB3.out⟩
/-! Whom is trusted. -/
/-! More facts. -/
def Ext (s s':Wst):Prop:=s.held≤s'.held∧∃l,s'.out=s.out++l
theorem Ext.refl (s:Wst):Ext s s:=⟨Int.le_refl _,[],by simp⟩
theorem Ext.trans {s t u:Wst} (h:Ext s t) (k:Ext t u):Ext s u:=by
 obtain ⟨h1,l,h2⟩:=h
 obtain ⟨k1,m,k2⟩:=k
 exact ⟨Int.le_trans h1 k1,l++m,by rw [k2,h2,List.append_assoc]⟩
theorem nR {x:Ans}:∀{es:List (List OpD)} {s:Wst},Ext s (dI es x s)
 | [],s=>⟨Int.le_refl _,[x],rfl⟩
 | q::qs,s=>by
   rw [dI]
   split
   ·exact ⟨Int.le_refl _,[],by simp⟩
   ·split
    ·exact nR
    ·exact Ext.refl _
theorem Ext.held {s t:Wst} {h:Int} (k:Ext ⟨s.held+1,s.out,h⟩ t):Ext s t:=by
 obtain ⟨k1,k2⟩:=k
 exact ⟨by simp only at k1;omega,k2⟩
theorem iD {tr:Int} {step:Fc→Wst→Wst} (hs:∀f s,Ext s (step f s)):∀{fs:List Fc} {s:Wst},Ext s (bS tr step fs s)
 | [],s=>Ext.refl _
 | f::fs,s=>by
   rw [bS]
   split
   ·exact iD hs
   ·split
    ·exact ⟨Int.le_refl _,[],by simp⟩
    ·split
     ·exact (hs _ _).held
     ·exact (hs _ _).held.trans (iD hs)
theorem nY {fs:List Fc} {tr:Int} {es:List (List OpD)}:∀{ps:List Pr} {x:Ans} {s:Wst},Ext s (cU fs tr es ps x s)
 | [],x,s=>nR
 | p::ps,x,s=>by
   rw [bR]
   refine iD fun f s=>?_
   unfold ee
   split
   ·exact nY
   ·exact Ext.refl _
def Sim (s s' t t':Wst):Prop:=s.held≤s'.held→s.e=0→t'.e=0→t.e=0∧t.held≤t'.held∧∃l l',t.out=s.out++l∧t'.out=s'.out++l'∧l.Sublist l'
theorem nT {x:Ans}:∀{es:List (List OpD)} {s s':Wst},Sim s s' (dI es x s) (dI es x s')
 | [],s,s'=>fun h1 h2 h3=>⟨h2,h1,[x],[x],rfl,rfl,List.Sublist.refl _⟩
 | q::qs,s,s'=>by
   rw [dI,dI]
   split
   ·rename_i h
    intro _ _ h3;exact absurd h3 h
   ·split
    ·exact nT
    ·exact fun h1 h2 h3=>⟨h2,h1,[],[],by simp,by simp,List.Sublist.refl _⟩
theorem Sim.add {s s' t t' u u':Wst} (h:Sim s s' t t') (k:Sim t t' u u') (hx:Ext t' u') (he:t'.e=0):Sim s s' u u':=fun h1 h2 h3=>by
 obtain ⟨a1,a2,l,l',a3,a4,a5⟩:=h h1 h2 he
 obtain ⟨b1,b2,m,m',b3,b4,b5⟩:=k a2 a1 h3
 exact ⟨b1,b2,l++m,l'++m',by rw [b3,a3,List.append_assoc],by rw [b4,a4,List.append_assoc],a5.append b5⟩
theorem vd {tr:Int} {step step':Fc→Wst→Wst} (hs:∀f s s',Sim s s' (step f s) (step' f s')) (hx:∀f s,Ext s (step' f s)) {fs fs':List Fc} (hsub:fs.Sublist fs'):∀{s s':Wst},Sim s s' (bS tr step fs s) (bS tr step' fs' s'):=by
 induction hsub with
 | slnil=>exact fun h1 h2 h3=>⟨h2,h1,[],[],by simp [bS],by simp [bS],List.Sublist.refl _⟩
 | @cons fs fs' f hsub ih=>
   intro s s' h1 h2 h3
   rw [bS] at h3 ⊢
   split
   ·rename_i hu
    rw [if_pos hu] at h3
    exact ih h1 h2 h3
   ·rename_i hu
    rw [if_neg hu] at h3
    split
    ·rename_i hm
     rw [if_pos hm] at h3;cases h3
    ·rename_i hm
     rw [if_neg hm] at h3
     split
     ·rename_i he
      rw [if_pos he] at h3;exact absurd h3 he
     ·rename_i he
      rw [if_neg he] at h3
      have hx1:=(hx f ⟨s'.held+1,s'.out,s'.e⟩).held
      generalize step' f ⟨s'.held+1,s'.out,s'.e⟩=t at *
      obtain ⟨a1,a2,l,l',a3,a4,a5⟩:=ih (s:=s) (s':=t) (Int.le_trans h1 hx1.1) h2 h3
      obtain ⟨_,m,hm2⟩:=hx1
      exact ⟨a1,a2,l,m++l',a3,by rw [a4,hm2,List.append_assoc],List.Sublist.trans a5 (List.sublist_append_right _ _)⟩
 | @cons_cons fs fs' f hsub ih=>
   intro s s' h1 h2 h3
   rw [bS] at h3 ⊢
   rw [bS]
   split
   ·rename_i hu
    rw [if_pos hu] at h3
    exact ih h1 h2 h3
   ·rename_i hu
    rw [if_neg hu] at h3
    split
    ·rename_i hm
     rw [if_pos (Int.le_trans hm h1)] at h3;cases h3
    ·rename_i hm
     split at h3
     ·cases h3
     ·rename_i hm'
      split at h3
      ·rename_i he
       exact absurd h3 he
      ·rename_i he
       rw [if_neg hm']
       have k1:=hs f ⟨s.held+1,s.out,s.e⟩ ⟨s'.held+1,s'.out,s'.e⟩
       have he':(step' f ⟨s'.held+1,s'.out,s'.e⟩).e=0:=by simpa using he
       have k2:=k1 (by simp only;omega) h2 he'
       rw [if_neg (by rw [k2.1];simp),if_neg he]
       have k4:Sim s s' (step f ⟨s.held+1,s.out,s.e⟩) (step' f ⟨s'.held+1,s'.out,s'.e⟩):=fun _ _ _=>k2
       exact (k4.add ih (iD hx) he') h1 h2 h3
theorem vl {fs fs':List Fc} (h:fs.Sublist fs') (name:ByteArray) (n:Int):(bE fs name n).Sublist (bE fs' name n):=h.filter _
theorem nZ {fs fs':List Fc} {tr:Int} {es:List (List OpD)} (h:fs.Sublist fs'):∀{ps:List Pr} {x:Ans} {s s':Wst},Sim s s' (cU fs tr es ps x s) (cU fs' tr es ps x s')
 | [],x,s,s'=>nT
 | p::ps,x,s,s'=>by
   rw [bR,bR]
   refine vd (fun f s s'=>?_) (fun f s=>?_) (vl h _ _)
   ·unfold ee
    split
    ·exact nZ h
    ·exact fun h1 h2 h3=>⟨h2,h1,[],[],by simp,by simp,List.Sublist.refl _⟩
   ·unfold ee
    split
    ·exact nY
    ·exact Ext.refl _
/-! eC,each once. -/
def rE (L:List Ans):Prop:=L.Pairwise fun a b=>aM a b<0
def eqA (a b:Ans):Bool:=aM a b==0
theorem gv:∀{ys:List Ans} {p:Ans},(p::ys).Pairwise (fun a b=>aM a b≤0)→rE (eE eqA p ys)∧(∀y∈eE eqA p ys,aM p y<0)∧∀x∈ys,aM p x=0∨∃y∈eE eqA p ys,aM y x=0
 | [],p,_=>⟨List.Pairwise.nil,by simp [eE],by simp⟩
 | y::ys,p,h=>by
   rw [List.pairwise_cons] at h
   obtain ⟨h1,h2,h3⟩:=gv h.2
   have hy:=h.1 y (by simp)
   rw [eE]
   by_cases he:aM y p=0
   ·have he':aM p y=0:=by have:=bm.anti p y;omega
    rw [if_pos (by simp [eqA,he])]
    refine ⟨h1,fun z hz=>bm.le_lt (by omega) (h2 z hz),fun x hx=>?_⟩
    rcases List.mem_cons.1 hx with rfl | hx
    ·exact .inl he'
    ·rcases h3 x hx with h4 | h4
     ·rcases bm.zero_l (z:=x) he' with k | ⟨_,k⟩ | ⟨_,k⟩<;>first | (exact .inl (by omega)) | omega
     ·exact .inr h4
   ·have hlt:aM p y<0:=by have:=bm.anti p y;omega
    rw [if_neg (by simp [eqA,he])]
    refine ⟨List.Pairwise.cons h2 h1,fun z hz=>?_,fun x hx=>?_⟩
    ·rcases List.mem_cons.1 hz with rfl | hz
     ·exact hlt
     ·exact bm.lt_le hlt (Int.le_of_lt (h2 z hz))
    ·rcases List.mem_cons.1 hx with rfl | hx
     ·exact .inr ⟨x,by simp,bm.self x⟩
     ·rcases h3 x hx with h4 | ⟨z,hz,h4⟩
      ·exact .inr ⟨y,by simp,h4⟩
      ·exact .inr ⟨z,by simp [hz],h4⟩
def lx (L:List Ans):List Ans:=cpt eqA (jn L)
theorem di (L:List Ans):rE (lx L)∧(∀x∈L,∃y∈lx L,aM y x=0)∧∀y∈lx L,y∈L:=by
 have hs:=oX L
 have hp:=gE L
 refine ⟨?_,?_,fun y hy=>hp.mem_iff.1 (pM _ hy)⟩
 ·unfold lx
  generalize jn L=S at *
  cases S with
  | nil=>exact List.Pairwise.nil
  | cons p ys=>exact List.Pairwise.cons (gv hs).2.1 (gv hs).1
 ·intro x hx
  have hx':=hp.mem_iff.2 hx
  unfold lx
  generalize jn L=S at *
  cases S with
  | nil=>simp at hx'
  | cons p ys=>
    rcases List.mem_cons.1 hx' with rfl | hx'
    ·exact ⟨x,by simp [cpt],bm.self x⟩
    ·rcases (gv hs).2.2 x hx' with h | ⟨y,hy,h⟩
     ·exact ⟨p,by simp [cpt],h⟩
     ·exact ⟨y,by simp [cpt,hy],h⟩
def pi (fs:List Fc) (tr:Int) (r:Ru):Wst:=cU fs tr r.exprs r.body gG ⟨0,[],0⟩
theorem dM (fs:List Fc) (tr:Int) (r:Ru):aA fs tr r=if (bj r||aB r)=true then (if (pi fs tr r).e=0 then (lx (pi fs tr r).out,0) else ([],(pi fs tr r).e)) else ([],1):=rfl
theorem ny {fs fs':List Fc} {tr:Int} {r:Ru} (h:fs.Sublist fs') (he:(aA fs' tr r).2=0):(aA fs tr r).2=0∧rE (aA fs tr r).1∧rE (aA fs' tr r).1∧∀x∈(aA fs tr r).1,∃y∈(aA fs' tr r).1,aM y x=0:=by
 rw [dM] at he ⊢
 rw [dM]
 split
 ·rename_i hm
  rw [if_pos hm] at he
  have he':(pi fs' tr r).e=0:=by
   split at he
   ·assumption
   ·exact he
  obtain ⟨k1,_,l,l',k2,k3,k4⟩:=nZ (tr:=tr) (es:=r.exprs) (ps:=r.body) (x:=gG) (s:=⟨0,[],0⟩) (s':=⟨0,[],0⟩) h (Int.le_refl _) rfl he'
  simp only [List.nil_append] at k2 k3
  have e1:(pi fs tr r).e=0:=k1
  have e2:(pi fs tr r).out=l:=k2
  have e3:(pi fs' tr r).out=l':=k3
  rw [if_pos e1,if_pos he',e2,e3]
  refine ⟨rfl,(di l).1,(di l').1,fun x hx=>(di l').2.1 x (k4.subset ((di l).2.2 x hx))⟩
 ·rename_i hm
  rw [if_neg hm] at he
  cases he
section
variable {w:World} {B d c:Nat}
theorem uY {k n:Int} {s:ByteArray} (hk:I64 k) (hn:I64 n) (hs:s.size≤140737488351232):RTm w B (d+1) ⟨k,n,s,[]⟩ [.int .i64 k,.int .i64 n,.string s,.slice none 0 0]:=
 ⟨none,0,rfl,yY _,⟨by simp,by omega⟩,hs,hk,hn,fun h=>absurd h (by simp)⟩
theorem kW {α:Type} {R:Reader α} {xs:List α} {A:Option Addr} (h:RL R w B xs A) (h1:xs.length≤c) (h2:xs.length*(8*R.k)≤140737488351232) (h3:c≤9223372036854775807):RSl R w B xs (.slice A xs.length c):=⟨A,c,rfl,h1,⟨h2,h3⟩,h⟩
theorem uX {nm:ByteArray} {ts:List Tm} {v:Value} (hn:nm.size≤140737488351232) (h:RSl (TmR d) w B ts v):(PrR d).rd w B ⟨nm,ts⟩ [.string nm,v]:=⟨v,rfl,hn,h⟩
theorem yx {f:Fc} {v:Value} (h:(PrR d).rd w B f.pr [.string f.pr.name,v]) (ho:U32 f.o):(ax d).rd w B f [.string f.pr.name,v,.int .u32 f.o]:=⟨v,rfl,h,ho⟩
theorem lit_ru {r:Ru} {v0 v1 v2 v3:Value} (hn:r.head.name.size≤140737488351232) (h0:RSl (TmR d) w B r.head.terms v0) (h1:RSl (PrR d) w B r.body v1) (h2:RSl (ExR d) w B r.exprs v2) (h3:RSl ScR w B r.scopes v3):(RuR d).rd w B r [.string r.head.name,v0,v1,v2,v3]:=⟨v0,v1,v2,v3,rfl,hn,h0,h1,h2,h3⟩
theorem eY {α:Type} {R:Reader α}:RSl R w B [] (.slice none 0 0):=⟨none,0,rfl,by simp,by simp,fun h=>absurd h (by simp)⟩
end
theorem vR (x:Ans):lx [x]=[x]:=by
 unfold lx
 rw [List.perm_singleton.1 (gE [x])]
 rfl
end Go.Proofs.YtdphibjibnffeaaGreat
