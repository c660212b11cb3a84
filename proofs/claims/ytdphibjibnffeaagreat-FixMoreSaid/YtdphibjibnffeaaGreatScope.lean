/- scope.bit, Of, Trusted. Printed by mk_scope.py. -/
import Derived.Test.YtdphibjibnffeaaGreatCpt0
import Derived.Test.YtdphibjibnffeaaGreatRule2
import Derived.Test.YtdphibjibnffeaaGreatRule4
import Derived.Test.YtdphibjibnffeaaGreatOp3
set_option linter.unusedVariables false
set_option linter.unusedSimpArgs false
set_option maxRecDepth 100000
set_option maxHeartbeats 8000000
namespace Go.Proofs.YtdphibjibnffeaaGreat
open Go.ChangeShapes Go.WideShapes Go.ChangeAt Go.RowKit
def aH (fs:List Fc) (tr:Int) (r:Ru):List Ans × Int:=
 if (aP r||bf r)=true then
  if (du fs tr r.exprs r.body gZ ⟨0,[],0⟩).e=0 then (cpt (fun a b=>aU a b==0) (jc (du fs tr r.exprs r.body gZ ⟨0,[],0⟩).out),0) else ([],(du fs tr r.exprs r.body gZ ⟨0,[],0⟩).e)
 else ([],1)
def AnsE (d:Nat) (w w':World) (R:List Ans × Int) (z:Ending):Prop:=
 ∃(L:List AnV) (A:Option Addr) (c:Nat),z=.returned (.tuple #[.slice A L.length c,.int .i64 R.2])∧L.map AnV.x=R.1∧ar jJ 48 w' w.heap.size 0 (.slice A L.length c) L∧(∀y∈L,bj y.x.b=true∧U32 y.x.o)∧(∀y∈L,fD (fun k=>(Value.slice A L.length c).ownBlock=some k) w' (fun w'=>(ng (d+1)).rd w' w'.heap.size y.x y.cs))∧Below w.heap.size w w'
theorem uu:bj kL.x.b=true∧U32 kL.x.o:=⟨rfl,by unfold U32;simp [kL]⟩
theorem oO:∀(ys:List AnV) (p:AnV),(ek qAn p ys).map AnV.x=ek (fun a b=>aU a b==0) p.x (ys.map AnV.x)
 | [],p=>rfl
 | y::ys,p=>by
   rw [List.map_cons,ek,ek,←oO ys y]
   show List.map AnV.x (if (aU y.x p.x==0)=true then _ else _)=_
   split<;>rfl
theorem uT:∀(ys:List AnV),(cpt qAn ys).map AnV.x=cpt (fun a b=>aU a b==0) (ys.map AnV.x)
 | []=>rfl
 | y::ys=>by rw [List.map_cons,cpt,cpt,List.map_cons,oO]
theorem wJ (xs:List AnV):((eo (xs.map AnV.x)).map (xs.getD · kL)).length=xs.length:=by rw [List.length_map,lR,List.length_map]
theorem wK (xs:List AnV):((eo (xs.map AnV.x)).map (xs.getD · kL)).map AnV.x=jc (xs.map AnV.x):=by
 rw [jc,List.map_map]
 refine List.map_congr_left fun i hi=>?_
 have h:=sv hi
 rw [List.length_map] at h
 simp [h]
theorem wL (xs:List AnV):∀y∈(eo (xs.map AnV.x)).map (xs.getD · kL),y∈xs:=fun y hy=>by
 obtain ⟨i,hi,rfl⟩:=List.mem_map.1 hy
 have h:=sv hi
 rw [List.length_map] at h
 have e:xs.getD i kL=xs[i]:=by simp [h]
 rw [e];exact List.getElem_mem h
theorem nM {r:Ru} (h:(aP r||bf r)=true):(∀p∈r.body,aE p=true)∧r.body.length≤4∧r.exprs.length≤4:=by
 have hb:gR r=true:=by
  rcases Bool.or_eq_true_iff.1 h with h | h
  ·simp only [aP,Bool.and_eq_true] at h;exact h.1.2
  ·simp only [bf,Bool.and_eq_true] at h;exact h.2
 simp only [gR,Bool.and_eq_true,decide_eq_true_eq,List.all_eq_true] at hb
 exact ⟨hb.1.1.1.2,hb.1.1.1.1,hb.1.1.2.1⟩
theorem mf {d baseS B S cs:Nat} {r:Ru} {vr:List Value} {w:World} {fs:List FV} {As:Option Addr} {tr m:Int} (hr:(RuR (d+1)).rd w B r vr) (hB:B≤w.heap.size) (hS:StA baseS d w S fs As cs) (hfew:fs.length≤100000) (hm:w.cell? ⟨0,0,none⟩=some (.int .i64 m)) (hp:0<w.heap.size) :
 Calls Tryz.prog 18 #[.agg vr.toArray,.pointer (some ⟨S,0,none⟩),.int .u32 tr] w fun z w'=>AnsE d w w' (aH (fs.map FV.f) tr r) z:=by
 have HRD:=zE hr
 obtain ⟨_,_,_,_,rfl,hs,⟨A0,c0,rfl,h01,h02,hl0⟩,⟨A1,c1,rfl,h11,h12,hl1⟩,⟨A2,c2,rfl,h21,h22,hl2⟩,⟨A3,c3,rfl,h31,h32,hl3⟩⟩:=hr
 have HST0:Hid ((aP r||bf r)=true→WkS d w baseS B ⟨.string r.head.name,.slice A0 r.head.terms.length c0,.slice A1 r.body.length c1,.slice A2 r.exprs.length c2,.slice A3 r.scopes.length c3,S,tr⟩ fs As cs r.body A1 c1 r.exprs A2 c2 m):=zE (fun h=>⟨hS,hfew,hB,rfl,hl1,by have:=(nM h).2.1;omega,(nM h).1,rfl,hl2,by have:=(nM h).2.2;omega,hm,hp⟩)
 clear hS hfew hm hl0 hl1 hl2 hl3
 go_enter Tryz.func18,Tryz.ntmps18
 go_upto_region 1 with fail
 generalize hWW:World.alloc _ _=w1
 obtain ⟨hb1,hz⟩:=al1 hWW
 have HR1:=zE (n11 hWW)
 have HB1:=zE hb1
 have hsz1:=hb1.size
 clear hWW hb1 hz
 have k_r:=HR1.out.cell
 have l_r:=HR1.out.lt
 go_wp2_with fail
 refine (ly (vs:=[_,_,_,_,_]) ((RuR (d+1)).keep HB1.out hB HRD.out) (zF hB hsz1)).mono ?_
 rintro e w2 ⟨rfl,hb2⟩
 have HR2:=zE (HR1.out.later hb2)
 have HB2:=zE (ab HB1.out hb2)
 have hsz2:=HB2.out.size
 clear hb2 k_r l_r
 have k_r:=HR2.out.cell
 have l_r:=HR2.out.lt
 by_cases h1:aP r=true
 ·have hmm:(aP r||bf r)=true:=by rw [h1];rfl
  have HST:=zE (HST0.out hmm)
  have HBx:=HB2
  rw [h1]
  go_upto_region 4 with fail
  generalize hWW:World.alloc _ _=w4
  obtain ⟨hb4,hz⟩:=al1 hWW
  have HW4:=zE (n11 hWW)
  have HB4:=zE (ab HBx.out hb4)
  have hsz4:=HB4.out.size
  have hl4:=HW4.out.lt
  clear hWW hb4 hz k_r l_r
  have HWK:Hid (WkAt w4.heap.size d w4 w2.heap.size ⟨.string r.head.name,.slice A0 r.head.terms.length c0,.slice A1 r.body.length c1,.slice A2 r.exprs.length c2,.slice A3 r.scopes.length c3,S,tr⟩ 0 [] none 0 0):=zE ⟨HW4.out,hl4,zG _,ar.nil _ _ _ _ _,fun y hy=>absurd hy (by simp),fun y hy=>absurd hy (by simp)⟩
  have HGO2:Hid (Calls Tryz.prog 55 #[.pointer (some ⟨w2.heap.size,0,none⟩),.int .i64 0,.agg #[.slice none 0 0,.slice none 0 0,.int .u32 0]] w4 fun z w'=>WkE w4.heap.size d w2.heap.size ⟨.string r.head.name,.slice A0 r.head.terms.length c0,.slice A1 r.body.length c1,.slice A2 r.exprs.length c2,.slice A3 r.scopes.length c3,S,tr⟩ w4 w' none 0 0 (du (fs.map FV.f) tr r.exprs r.body gZ ⟨0,[],0⟩) z):=zE (rU HST.out (show w.heap.size≤w2.heap.size from HBx.out.size) r.body 0 rfl (zH _) w4 0 [] none 0 kL HB4.out HWK.out (fun w' _=>qh _ _ _) uu (by simp) (by decide))
  have l_w4:=hl4
  have HBw:Hid (w.heap.size≤w2.heap.size):=zE HBx.out.size
  generalize hWn:w2.heap.size=W at *
  have HR:Hid (aH (fs.map FV.f) tr r=if (du (fs.map FV.f) tr r.exprs r.body gZ ⟨0,[],0⟩).e=0 then (cpt (fun a b=>aU a b==0) (jc (du (fs.map FV.f) tr r.exprs r.body gZ ⟨0,[],0⟩).out),0) else ([],(du (fs.map FV.f) tr r.exprs r.body gZ ⟨0,[],0⟩).e)):=zE (if_pos hmm)
  clear hmm
  go_wp2_with fail
  refine HGO2.out.mono ?_
  rintro z w5 ⟨xs,A,c,rfl,hout,hwk,hag,_⟩
  have hfew:=fV (fs:=fs.map FV.f) (tr:=tr) (es:=r.exprs) (ps:=r.body) (x:=gZ) (s:=⟨0,[],0⟩)
  clear HGO2
  generalize du (fs.map FV.f) tr r.exprs r.body gZ ⟨0,[],0⟩=s at *
  have hn:xs.length≤1000000:=by
   have h1:=hfew.2.1 (by decide)
   have h2:=hfew.2.2
   rw [←hout,List.length_map] at h2
   simp at h2
   omega
  have HB5:Hid (Below w.heap.size w w5):=zE (HB4.out.trans ((hag.below (base:=W) (fun k hk hm=>by rcases hm with h | h<;>first | omega | cases h) (Nat.le_of_lt hl4)).mono HBw.out))
  have HWK5:=zE hwk
  have HOUT:=zE hout
  have HW5:Hid (Blk w5 W #[.string r.head.name,.slice A0 r.head.terms.length c0,.slice A1 r.body.length c1,.slice A2 r.exprs.length c2,.slice A3 r.scopes.length c3,.pointer (some ⟨S,0,none⟩),.int .u32 tr,.int .i64 s.held,.slice A xs.length c,.int .i64 s.e]):=zE hwk.hd
  clear hag hwk hout hfew HW4 HWK
  have k_w:=HW5.out.cell
  have l_w:=HW5.out.lt
  by_cases he:s.e=0
  ·have HRE:Hid (aH (fs.map FV.f) tr r=(cpt (fun a b=>aU a b==0) (jc s.out),0)):=zE (by rw [HR.out,if_pos he])
   have he':(s.e !=0)=false:=by rw [he];rfl
   clear HR
   by_cases hx0:xs.length=0
   ·rw [hx0] at k_w
    go_wp2_with fail
    refine pP.mono ?_
    rintro z w6 ⟨rfl,rfl⟩
    go_wp2_with fail
    refine jN.mono ?_
    rintro z w6 ⟨rfl,rfl⟩
    go_wp2_with fail
    go_ret2
    have hx1:xs=[]:=List.length_eq_zero_iff.1 hx0
    have ho:s.out=[]:=by rw [←HOUT.out,hx1];rfl
    exact ⟨[],A,c,by rw [HRE.out];rfl,by rw [HRE.out,ho,(gP []).eq_nil];rfl,by have h:=HWK5.out.row;rw [hx1] at h;exact h.lower (by omega),fun y hy=>absurd hy (by simp),fun y hy=>absurd hy (by simp),HB5.out⟩
   ·have hx:0<xs.length:=by omega
    obtain ⟨g,c1_,e1,hg1,hg2,_⟩:=HWK5.out.row.sh be hx
    simp only [Value.slice.injEq,true_and] at e1
    obtain ⟨rfl,rfl⟩:=e1
    have hgW:g≠W:=by omega
    go_wp2_with fail
    refine (kK (d:=d+1) HWK5.out.row hx (fun y hy=>xr (HWK5.out.ok y hy).1) (fun y hy=>(HWK5.out.deep y hy).less (fun k _ hk=>.inr (by rw [hk];rfl))) hn).mono ?_
    rintro z w6 ⟨rfl,hrow6,hag6⟩
    have hlen6:=wJ xs
    have hmap6:=wK xs
    have hmem6:=wL xs
    generalize (eo (xs.map AnV.x)).map (xs.getD · kL)=ys at *
    have HW6:=zE (hag6.blk HW5.out (fun h=>hgW h.symm))
    have HB6:Hid (Below w.heap.size w w6):=zE (HB5.out.trans (hag6.below (fun k hk hm=>by have:=HBw.out;omega) HB5.out.size))
    have hrow7:ar jJ 48 w6 w4.heap.size 0 (.slice (some ⟨g,0,none⟩) ys.length c) ys:=by rw [hlen6];exact hrow6
    have HCP:=zE (mz (d:=d+1) hrow7 (by omega) (fun y hy=>xr (HWK5.out.ok y (hmem6 y hy)).1) (fun y hy=>(HWK5.out.deep y (hmem6 y hy)).next (N:=fun k=>k=g) hag6 (fun k _ hk=>.inr (by rw [hk];rfl)) (fun k _ hk=>.inr (by rw [hk];rfl))) (by omega))
    rw [hlen6] at HCP
    have HM6:=zE (And.intro hmap6 hmem6)
    have HAG6:=zE hag6
    clear hag6 hrow6 hrow7 hlen6 hmap6 hmem6 k_w l_w
    have k_w:=HW6.out.cell
    have l_w:=HW6.out.lt
    go_wp2_with fail
    refine HCP.out.mono ?_
    rintro z w7 ⟨L,hL,rfl,hrow,hag7⟩
    have HROW:=zE hrow
    have HAG7:=zE hag7
    have HL:=zE hL
    clear hrow hag7 hL HCP
    go_wp2_with fail
    go_ret2
    have hsub:∀y∈L,y∈xs:=fun y hy=>HM6.out.2 y (qB qAn (by rw [←HL.out];exact hy))
    exact ⟨L,some ⟨g,0,none⟩,c,by rw [HRE.out];rfl,by rw [HRE.out,HL.out,uT,HM6.out.1,HOUT.out],HROW.out.lower (by omega),fun y hy=>HWK5.out.ok y (hsub y hy),fun y hy=>(HWK5.out.deep y (hsub y hy)).next (N:=fun k=>k=g) (HAG6.out.trans HAG7.out (fun _ _ h=>h)) (fun k _ hk=>.inr (by rw [hk];rfl)) (fun k _ hk=>.inr hk),HB6.out.trans (HAG7.out.below (fun k hk hm=>by have:=HBw.out;omega) HB6.out.size)⟩
  ·have he':(s.e !=0)=true:=by simpa using he
   have HRE:Hid (aH (fs.map FV.f) tr r=([],s.e)):=zE (by rw [HR.out,if_neg he])
   clear HR
   go_upto_region 6 with fail
   go_region
   go_wp2_with fail
   go_ret2
   exact ⟨[],none,0,by rw [HRE.out];rfl,by rw [HRE.out];rfl,ar.nil _ _ _ _ _,fun y hy=>absurd hy (by simp),fun y hy=>absurd hy (by simp),HB5.out.drew⟩
 ·have h1':aP r=false:=by simpa using h1
  rw [h1']
  go_wp2_with fail
  refine (pq (vs:=[_,_,_,_,_]) ((RuR (d+1)).keep HB2.out hB HRD.out) (zF hB hsz2)).mono ?_
  rintro e w3 ⟨rfl,hb3⟩
  have HR3:=zE (HR2.out.later hb3)
  have HB3:=zE (ab HB2.out hb3)
  have hsz3:=HB3.out.size
  clear hb3 k_r l_r
  have k_r:=HR3.out.cell
  have l_r:=HR3.out.lt
  by_cases h2:bf r=true
  ·have hmm:(aP r||bf r)=true:=by rw [h1',h2];rfl
   have HST:=zE (HST0.out hmm)
   have HBx:=HB3
   rw [h2]
   go_upto_region 4 with fail
   generalize hWW:World.alloc _ _=w4
   obtain ⟨hb4,hz⟩:=al1 hWW
   have HW4:=zE (n11 hWW)
   have HB4:=zE (ab HBx.out hb4)
   have hsz4:=HB4.out.size
   have hl4:=HW4.out.lt
   clear hWW hb4 hz k_r l_r
   have HWK:Hid (WkAt w4.heap.size d w4 w3.heap.size ⟨.string r.head.name,.slice A0 r.head.terms.length c0,.slice A1 r.body.length c1,.slice A2 r.exprs.length c2,.slice A3 r.scopes.length c3,S,tr⟩ 0 [] none 0 0):=zE ⟨HW4.out,hl4,zG _,ar.nil _ _ _ _ _,fun y hy=>absurd hy (by simp),fun y hy=>absurd hy (by simp)⟩
   have HGO2:Hid (Calls Tryz.prog 55 #[.pointer (some ⟨w3.heap.size,0,none⟩),.int .i64 0,.agg #[.slice none 0 0,.slice none 0 0,.int .u32 0]] w4 fun z w'=>WkE w4.heap.size d w3.heap.size ⟨.string r.head.name,.slice A0 r.head.terms.length c0,.slice A1 r.body.length c1,.slice A2 r.exprs.length c2,.slice A3 r.scopes.length c3,S,tr⟩ w4 w' none 0 0 (du (fs.map FV.f) tr r.exprs r.body gZ ⟨0,[],0⟩) z):=zE (rU HST.out (show w.heap.size≤w3.heap.size from HBx.out.size) r.body 0 rfl (zH _) w4 0 [] none 0 kL HB4.out HWK.out (fun w' _=>qh _ _ _) uu (by simp) (by decide))
   have l_w4:=hl4
   have HBw:Hid (w.heap.size≤w3.heap.size):=zE HBx.out.size
   generalize hWn:w3.heap.size=W at *
   have HR:Hid (aH (fs.map FV.f) tr r=if (du (fs.map FV.f) tr r.exprs r.body gZ ⟨0,[],0⟩).e=0 then (cpt (fun a b=>aU a b==0) (jc (du (fs.map FV.f) tr r.exprs r.body gZ ⟨0,[],0⟩).out),0) else ([],(du (fs.map FV.f) tr r.exprs r.body gZ ⟨0,[],0⟩).e)):=zE (if_pos hmm)
   clear hmm
   go_wp2_with fail
   refine HGO2.out.mono ?_
   rintro z w5 ⟨xs,A,c,rfl,hout,hwk,hag,_⟩
   have hfew:=fV (fs:=fs.map FV.f) (tr:=tr) (es:=r.exprs) (ps:=r.body) (x:=gZ) (s:=⟨0,[],0⟩)
   clear HGO2
   generalize du (fs.map FV.f) tr r.exprs r.body gZ ⟨0,[],0⟩=s at *
   have hn:xs.length≤1000000:=by
    have h1:=hfew.2.1 (by decide)
    have h2:=hfew.2.2
    rw [←hout,List.length_map] at h2
    simp at h2
    omega
   have HB5:Hid (Below w.heap.size w w5):=zE (HB4.out.trans ((hag.below (base:=W) (fun k hk hm=>by rcases hm with h | h<;>first | omega | cases h) (Nat.le_of_lt hl4)).mono HBw.out))
   have HWK5:=zE hwk
   have HOUT:=zE hout
   have HW5:Hid (Blk w5 W #[.string r.head.name,.slice A0 r.head.terms.length c0,.slice A1 r.body.length c1,.slice A2 r.exprs.length c2,.slice A3 r.scopes.length c3,.pointer (some ⟨S,0,none⟩),.int .u32 tr,.int .i64 s.held,.slice A xs.length c,.int .i64 s.e]):=zE hwk.hd
   clear hag hwk hout hfew HW4 HWK
   have k_w:=HW5.out.cell
   have l_w:=HW5.out.lt
   by_cases he:s.e=0
   ·have HRE:Hid (aH (fs.map FV.f) tr r=(cpt (fun a b=>aU a b==0) (jc s.out),0)):=zE (by rw [HR.out,if_pos he])
    have he':(s.e !=0)=false:=by rw [he];rfl
    clear HR
    by_cases hx0:xs.length=0
    ·rw [hx0] at k_w
     go_wp2_with fail
     refine pP.mono ?_
     rintro z w6 ⟨rfl,rfl⟩
     go_wp2_with fail
     refine jN.mono ?_
     rintro z w6 ⟨rfl,rfl⟩
     go_wp2_with fail
     go_ret2
     have hx1:xs=[]:=List.length_eq_zero_iff.1 hx0
     have ho:s.out=[]:=by rw [←HOUT.out,hx1];rfl
     exact ⟨[],A,c,by rw [HRE.out];rfl,by rw [HRE.out,ho,(gP []).eq_nil];rfl,by have h:=HWK5.out.row;rw [hx1] at h;exact h.lower (by omega),fun y hy=>absurd hy (by simp),fun y hy=>absurd hy (by simp),HB5.out⟩
    ·have hx:0<xs.length:=by omega
     obtain ⟨g,c1_,e1,hg1,hg2,_⟩:=HWK5.out.row.sh be hx
     simp only [Value.slice.injEq,true_and] at e1
     obtain ⟨rfl,rfl⟩:=e1
     have hgW:g≠W:=by omega
     go_wp2_with fail
     refine (kK (d:=d+1) HWK5.out.row hx (fun y hy=>xr (HWK5.out.ok y hy).1) (fun y hy=>(HWK5.out.deep y hy).less (fun k _ hk=>.inr (by rw [hk];rfl))) hn).mono ?_
     rintro z w6 ⟨rfl,hrow6,hag6⟩
     have hlen6:=wJ xs
     have hmap6:=wK xs
     have hmem6:=wL xs
     generalize (eo (xs.map AnV.x)).map (xs.getD · kL)=ys at *
     have HW6:=zE (hag6.blk HW5.out (fun h=>hgW h.symm))
     have HB6:Hid (Below w.heap.size w w6):=zE (HB5.out.trans (hag6.below (fun k hk hm=>by have:=HBw.out;omega) HB5.out.size))
     have hrow7:ar jJ 48 w6 w4.heap.size 0 (.slice (some ⟨g,0,none⟩) ys.length c) ys:=by rw [hlen6];exact hrow6
     have HCP:=zE (mz (d:=d+1) hrow7 (by omega) (fun y hy=>xr (HWK5.out.ok y (hmem6 y hy)).1) (fun y hy=>(HWK5.out.deep y (hmem6 y hy)).next (N:=fun k=>k=g) hag6 (fun k _ hk=>.inr (by rw [hk];rfl)) (fun k _ hk=>.inr (by rw [hk];rfl))) (by omega))
     rw [hlen6] at HCP
     have HM6:=zE (And.intro hmap6 hmem6)
     have HAG6:=zE hag6
     clear hag6 hrow6 hrow7 hlen6 hmap6 hmem6 k_w l_w
     have k_w:=HW6.out.cell
     have l_w:=HW6.out.lt
     go_wp2_with fail
     refine HCP.out.mono ?_
     rintro z w7 ⟨L,hL,rfl,hrow,hag7⟩
     have HROW:=zE hrow
     have HAG7:=zE hag7
     have HL:=zE hL
     clear hrow hag7 hL HCP
     go_wp2_with fail
     go_ret2
     have hsub:∀y∈L,y∈xs:=fun y hy=>HM6.out.2 y (qB qAn (by rw [←HL.out];exact hy))
     exact ⟨L,some ⟨g,0,none⟩,c,by rw [HRE.out];rfl,by rw [HRE.out,HL.out,uT,HM6.out.1,HOUT.out],HROW.out.lower (by omega),fun y hy=>HWK5.out.ok y (hsub y hy),fun y hy=>(HWK5.out.deep y (hsub y hy)).next (N:=fun k=>k=g) (HAG6.out.trans HAG7.out (fun _ _ h=>h)) (fun k _ hk=>.inr (by rw [hk];rfl)) (fun k _ hk=>.inr hk),HB6.out.trans (HAG7.out.below (fun k hk hm=>by have:=HBw.out;omega) HB6.out.size)⟩
   ·have he':(s.e !=0)=true:=by simpa using he
    have HRE:Hid (aH (fs.map FV.f) tr r=([],s.e)):=zE (by rw [HR.out,if_neg he])
    clear HR
    go_upto_region 6 with fail
    go_region
    go_wp2_with fail
    go_ret2
    exact ⟨[],none,0,by rw [HRE.out];rfl,by rw [HRE.out];rfl,ar.nil _ _ _ _ _,fun y hy=>absurd hy (by simp),fun y hy=>absurd hy (by simp),HB5.out.drew⟩
  ·have h2':bf r=false:=by simpa using h2
   have hmm:(aP r||bf r)=false:=by rw [h1',h2'];rfl
   have HR:Hid (aH (fs.map FV.f) tr r=([],1)):=zE (by unfold aH;rw [if_neg (by rw [hmm];decide)])
   rw [h2']
   clear hmm h1 h2
   go_wp2_with fail
   go_ret2
   exact ⟨[],none,0,by rw [HR.out];rfl,by rw [HR.out];rfl,ar.nil _ _ _ _ _,fun y hy=>absurd hy (by simp),fun y hy=>absurd hy (by simp),HB3.out⟩
theorem mZ:∀{a b:List Fc},bi a→bi b→(∀x,x∈a↔x∈b)→a=b
 | [],[],_,_,_=>rfl
 | [],y::b,_,_,h=>absurd ((h y).2 (by simp)) (by simp)
 | x::a,[],_,_,h=>absurd ((h x).1 (by simp)) (by simp)
 | x::a,y::b,ha,hb,h=>by
   unfold bi at ha hb
   rw [List.pairwise_cons] at ha hb
   have e:x=y:=by
    rcases List.mem_cons.1 ((h x).1 (by simp)) with e | e
    ·exact e
    ·rcases List.mem_cons.1 ((h y).2 (by simp)) with e' | e'
     ·exact e'.symm
     ·have h1:=hb.1 x e
      have h2:=ha.1 y e'
      have:=aS.anti x y
      omega
   subst e
   have hna:x∉a:=fun hx=>by have:=ha.1 x hx;rw [aS.self] at this;omega
   have hnb:x∉b:=fun hx=>by have:=hb.1 x hx;rw [aS.self] at this;omega
   rw [mZ ha.2 hb.2 fun z=>?_]
   constructor
   ·intro hz
    rcases List.mem_cons.1 ((h z).1 (by simp [hz])) with e | e
    ·subst e;exact absurd hz hna
    ·exact e
   ·intro hz
    rcases List.mem_cons.1 ((h z).2 (by simp [hz])) with e | e
    ·subst e;exact absurd hz hnb
    ·exact e
def sA (f:Fc):Prop:=f.pr.name.size≤140737488351232∧U32 f.o
theorem qH {d B:Nat} {w:World} {f:Fc} {vs:List Value} (h:(ay d).rd w B f vs):sA f:=by
 obtain ⟨A,c,_,h1,_,_,_,_,h2⟩:=aO h
 exact ⟨h1,h2⟩
def stL (l:List Fc):List Fc:=l.foldl ft []
section
variable {fs:List Fc} {f x:Fc}
theorem xn (hs:bi fs) (ho:∀x∈fs,FcOk x) (hf:sA f):x∈ft fs f↔x∈fs∨(x=f∧aT f=true):=by
 unfold ft ow
 by_cases h1:aT f=true
 ·by_cases h2:fW fs f=true
  ·simp only [h1,h2,Bool.not_true,Bool.and_false,Bool.false_eq_true,if_false,and_true]
   constructor
   ·exact .inl
   ·rintro (h | rfl)
    ·exact h
    ·exact (rV hs ho (kE h1 hf.1 hf.2)).1 h2
  ·simp only [h1,Bool.eq_false_iff.2 h2,Bool.not_false,Bool.and_true,if_true,ey,and_true]
   exact or_comm
 ·simp [h1]
theorem addL_ok (ho:∀x∈fs,FcOk x) (hf:sA f):∀x∈ft fs f,FcOk x:=by
 unfold ft ow
 split
 ·rename_i h
  rw [Bool.and_eq_true] at h
  intro x hx
  rcases ey.1 hx with rfl | h1
  ·exact kE h.1 hf.1 hf.2
  ·exact ho x h1
 ·exact ho
theorem nq (fs:List Fc) (f:Fc):(ft fs f).length≤fs.length+1:=by
 unfold ft
 split
 ·rw [bH nP];exact zG _
 ·omega
end
theorem jd:∀(l fs:List Fc),bi fs→(∀x∈fs,FcOk x)→(∀f∈l,sA f)→bi (l.foldl ft fs)∧(∀x∈l.foldl ft fs,FcOk x)∧∀x,x∈l.foldl ft fs↔x∈fs∨(x∈l∧aT x=true)
 | [],fs,h1,h2,_=>⟨h1,h2,fun x=>by simp⟩
 | f::l,fs,h1,h2,h3=>by
   obtain ⟨k1,k2,k3⟩:=jd l (ft fs f) (qg h1) (addL_ok h2 (h3 f (by simp))) (fun g hg=>h3 g (by simp [hg]))
   refine ⟨k1,k2,fun x=>?_⟩
   rw [List.foldl_cons,k3,xn h1 h2 (h3 f (by simp)),List.mem_cons]
   constructor
   ·rintro ((h | ⟨rfl,h⟩) | ⟨h,h'⟩)
    ·exact .inl h
    ·exact .inr ⟨.inl rfl,h⟩
    ·exact .inr ⟨.inr h,h'⟩
   ·rintro (h | ⟨rfl | h,h'⟩)
    ·exact .inl (.inl h)
    ·exact .inl (.inr ⟨rfl,h'⟩)
    ·exact .inr ⟨h,h'⟩
section
variable {l l':List Fc} (hl:∀f∈l,sA f)
include hl
theorem tU:bi (stL l):=(jd l [] List.Pairwise.nil (by simp) hl).1
theorem zm:∀x∈stL l,FcOk x:=(jd l [] List.Pairwise.nil (by simp) hl).2.1
theorem nY {x:Fc}:x∈stL l↔x∈l∧aT x=true:=by
 have:=(jd l [] List.Pairwise.nil (by simp) hl).2.2 x
 unfold stL
 simpa using this
end
theorem rt:∀(l fs:List Fc),(l.foldl ft fs).length≤fs.length+l.length
 | [],fs=>by simp
 | f::l,fs=>by
   have h1:=rt l (ft fs f)
   have h2:=nq fs f
   rw [List.foldl_cons,List.length_cons];omega
theorem yF (l:List Fc) (f:Fc):stL (l++[f])=ft (stL l) f:=by unfold stL;rw [List.foldl_append];rfl
/-! Whom is trusted. -/
/-! More facts. -/
def Ext (s s':Wst):Prop:=s.held≤s'.held∧∃l,s'.out=s.out++l
theorem Ext.refl (s:Wst):Ext s s:=⟨Int.le_refl _,[],by simp⟩
theorem Ext.trans {s t u:Wst} (h:Ext s t) (k:Ext t u):Ext s u:=by
 obtain ⟨h1,l,h2⟩:=h
 obtain ⟨k1,m,k2⟩:=k
 exact ⟨Int.le_trans h1 k1,l++m,by rw [k2,h2,List.append_assoc]⟩
theorem oS {x:Ans}:∀{es:List (List OpD)} {s:Wst},Ext s (dJ es x s)
 | [],s=>⟨Int.le_refl _,[x],rfl⟩
 | q::qs,s=>by
   rw [dJ]
   split
   ·exact ⟨Int.le_refl _,[],by simp⟩
   ·split
    ·exact oS
    ·exact Ext.refl _
theorem Ext.held {s t:Wst} {h:Int} (k:Ext ⟨s.held+1,s.out,h⟩ t):Ext s t:=by
 obtain ⟨k1,k2⟩:=k
 exact ⟨by simp only at k1;omega,k2⟩
theorem iN {tr:Int} {step:Fc→Wst→Wst} (hs:∀f s,Ext s (step f s)):∀{fs:List Fc} {s:Wst},Ext s (cJ tr step fs s)
 | [],s=>Ext.refl _
 | f::fs,s=>by
   rw [cJ]
   split
   ·exact iN hs
   ·split
    ·exact ⟨Int.le_refl _,[],by simp⟩
    ·split
     ·exact (hs _ _).held
     ·exact (hs _ _).held.trans (iN hs)
theorem pa {fs:List Fc} {tr:Int} {es:List (List OpD)}:∀{ps:List Pr} {x:Ans} {s:Wst},Ext s (du fs tr es ps x s)
 | [],x,s=>oS
 | p::ps,x,s=>by
   rw [bW]
   refine iN fun f s=>?_
   unfold dK
   split
   ·exact pa
   ·exact Ext.refl _
def Sim (s s' t t':Wst):Prop:=s.held≤s'.held→s.e=0→t'.e=0→t.e=0∧t.held≤t'.held∧∃l l',t.out=s.out++l∧t'.out=s'.out++l'∧l.Sublist l'
theorem oU {x:Ans}:∀{es:List (List OpD)} {s s':Wst},Sim s s' (dJ es x s) (dJ es x s')
 | [],s,s'=>fun h1 h2 h3=>⟨h2,h1,[x],[x],rfl,rfl,List.Sublist.refl _⟩
 | q::qs,s,s'=>by
   rw [dJ,dJ]
   split
   ·rename_i h
    intro _ _ h3;exact absurd h3 h
   ·split
    ·exact oU
    ·exact fun h1 h2 h3=>⟨h2,h1,[],[],by simp,by simp,List.Sublist.refl _⟩
theorem Sim.add {s s' t t' u u':Wst} (h:Sim s s' t t') (k:Sim t t' u u') (hx:Ext t' u') (he:t'.e=0):Sim s s' u u':=fun h1 h2 h3=>by
 obtain ⟨a1,a2,l,l',a3,a4,a5⟩:=h h1 h2 he
 obtain ⟨b1,b2,m,m',b3,b4,b5⟩:=k a2 a1 h3
 exact ⟨b1,b2,l++m,l'++m',by rw [b3,a3,List.append_assoc],by rw [b4,a4,List.append_assoc],a5.append b5⟩
theorem vR {tr:Int} {step step':Fc→Wst→Wst} (hs:∀f s s',Sim s s' (step f s) (step' f s')) (hx:∀f s,Ext s (step' f s)) {fs fs':List Fc} (hsub:fs.Sublist fs'):∀{s s':Wst},Sim s s' (cJ tr step fs s) (cJ tr step' fs' s'):=by
 induction hsub with
 | slnil=>exact fun h1 h2 h3=>⟨h2,h1,[],[],by simp [cJ],by simp [cJ],List.Sublist.refl _⟩
 | @cons fs fs' f hsub ih=>
   intro s s' h1 h2 h3
   rw [cJ] at h3 ⊢
   split
   ·rename_i hu
    rw [if_pos hu] at h3
    exact ih h1 h2 h3
   ·rename_i hu
    rw [if_neg hu] at h3
    split
    ·rename_i hm
     rw [if_pos hm] at h3;cases h3
    ·rename_i hm
     rw [if_neg hm] at h3
     split
     ·rename_i he
      rw [if_pos he] at h3;exact absurd h3 he
     ·rename_i he
      rw [if_neg he] at h3
      have hx1:=(hx f ⟨s'.held+1,s'.out,s'.e⟩).held
      generalize step' f ⟨s'.held+1,s'.out,s'.e⟩=t at *
      obtain ⟨a1,a2,l,l',a3,a4,a5⟩:=ih (s:=s) (s':=t) (Int.le_trans h1 hx1.1) h2 h3
      obtain ⟨_,m,hm2⟩:=hx1
      exact ⟨a1,a2,l,m++l',a3,by rw [a4,hm2,List.append_assoc],List.Sublist.trans a5 (List.sublist_append_right _ _)⟩
 | @cons_cons fs fs' f hsub ih=>
   intro s s' h1 h2 h3
   rw [cJ] at h3 ⊢
   rw [cJ]
   split
   ·rename_i hu
    rw [if_pos hu] at h3
    exact ih h1 h2 h3
   ·rename_i hu
    rw [if_neg hu] at h3
    split
    ·rename_i hm
     rw [if_pos (Int.le_trans hm h1)] at h3;cases h3
    ·rename_i hm
     split at h3
     ·cases h3
     ·rename_i hm'
      split at h3
      ·rename_i he
       exact absurd h3 he
      ·rename_i he
       rw [if_neg hm']
       have k1:=hs f ⟨s.held+1,s.out,s.e⟩ ⟨s'.held+1,s'.out,s'.e⟩
       have he':(step' f ⟨s'.held+1,s'.out,s'.e⟩).e=0:=by simpa using he
       have k2:=k1 (by simp only;omega) h2 he'
       rw [if_neg (by rw [k2.1];simp),if_neg he]
       have k4:Sim s s' (step f ⟨s.held+1,s.out,s.e⟩) (step' f ⟨s'.held+1,s'.out,s'.e⟩):=fun _ _ _=>k2
       exact (k4.add ih (iN hx) he') h1 h2 h3
theorem vX {fs fs':List Fc} (h:fs.Sublist fs') (name:ByteArray) (n:Int):(bK fs name n).Sublist (bK fs' name n):=h.filter _
theorem pd {fs fs':List Fc} {tr:Int} {es:List (List OpD)} (h:fs.Sublist fs'):∀{ps:List Pr} {x:Ans} {s s':Wst},Sim s s' (du fs tr es ps x s) (du fs' tr es ps x s')
 | [],x,s,s'=>oU
 | p::ps,x,s,s'=>by
   rw [bW,bW]
   refine vR (fun f s s'=>?_) (fun f s=>?_) (vX h _ _)
   ·unfold dK
    split
    ·exact pd h
    ·exact fun h1 h2 h3=>⟨h2,h1,[],[],by simp,by simp,List.Sublist.refl _⟩
   ·unfold dK
    split
    ·exact pa
    ·exact Ext.refl _
/-! bi,each once. -/
def xl (L:List Ans):Prop:=L.Pairwise fun a b=>aU a b<0
def eqA (a b:Ans):Bool:=aU a b==0
theorem gK:∀{ys:List Ans} {p:Ans},(p::ys).Pairwise (fun a b=>aU a b≤0)→xl (ek eqA p ys)∧(∀y∈ek eqA p ys,aU p y<0)∧∀x∈ys,aU p x=0∨∃y∈ek eqA p ys,aU y x=0
 | [],p,_=>⟨List.Pairwise.nil,by simp [ek],by simp⟩
 | y::ys,p,h=>by
   rw [List.pairwise_cons] at h
   obtain ⟨h1,h2,h3⟩:=gK h.2
   have hy:=h.1 y (by simp)
   rw [ek]
   by_cases he:aU y p=0
   ·have he':aU p y=0:=by have:=bT.anti p y;omega
    rw [if_pos (by simp [eqA,he])]
    refine ⟨h1,fun z hz=>bT.le_lt (by omega) (h2 z hz),fun x hx=>?_⟩
    rcases List.mem_cons.1 hx with rfl | hx
    ·exact .inl he'
    ·rcases h3 x hx with h4 | h4
     ·rcases bT.zero_l (z:=x) he' with k | ⟨_,k⟩ | ⟨_,k⟩<;>first | (exact .inl (by omega)) | omega
     ·exact .inr h4
   ·have hlt:aU p y<0:=by have:=bT.anti p y;omega
    rw [if_neg (by simp [eqA,he])]
    refine ⟨List.Pairwise.cons h2 h1,fun z hz=>?_,fun x hx=>?_⟩
    ·rcases List.mem_cons.1 hz with rfl | hz
     ·exact hlt
     ·exact bT.lt_le hlt (Int.le_of_lt (h2 z hz))
    ·rcases List.mem_cons.1 hx with rfl | hx
     ·exact .inr ⟨x,by simp,bT.self x⟩
     ·rcases h3 x hx with h4 | ⟨z,hz,h4⟩
      ·exact .inr ⟨y,by simp,h4⟩
      ·exact .inr ⟨z,by simp [hz],h4⟩
def lU (L:List Ans):List Ans:=cpt eqA (jc L)
theorem dQ (L:List Ans):xl (lU L)∧(∀x∈L,∃y∈lU L,aU y x=0)∧∀y∈lU L,y∈L:=by
 have hs:=pQ L
 have hp:=gP L
 refine ⟨?_,?_,fun y hy=>hp.mem_iff.1 (qB _ hy)⟩
 ·unfold lU
  generalize jc L=S at *
  cases S with
  | nil=>exact List.Pairwise.nil
  | cons p ys=>exact List.Pairwise.cons (gK hs).2.1 (gK hs).1
 ·intro x hx
  have hx':=hp.mem_iff.2 hx
  unfold lU
  generalize jc L=S at *
  cases S with
  | nil=>simp at hx'
  | cons p ys=>
    rcases List.mem_cons.1 hx' with rfl | hx'
    ·exact ⟨x,by simp [cpt],bT.self x⟩
    ·rcases (gK hs).2.2 x hx' with h | ⟨y,hy,h⟩
     ·exact ⟨p,by simp [cpt],h⟩
     ·exact ⟨y,by simp [cpt,hy],h⟩
def tP (fs:List Fc) (tr:Int) (r:Ru):Wst:=du fs tr r.exprs r.body gZ ⟨0,[],0⟩
theorem dR (fs:List Fc) (tr:Int) (r:Ru):aH fs tr r=if (aP r||bf r)=true then (if (tP fs tr r).e=0 then (lU (tP fs tr r).out,0) else ([],(tP fs tr r).e)) else ([],1):=rfl
theorem ox {fs fs':List Fc} {tr:Int} {r:Ru} (h:fs.Sublist fs') (he:(aH fs' tr r).2=0):(aH fs tr r).2=0∧xl (aH fs tr r).1∧xl (aH fs' tr r).1∧∀x∈(aH fs tr r).1,∃y∈(aH fs' tr r).1,aU y x=0:=by
 rw [dR] at he ⊢
 rw [dR]
 split
 ·rename_i hm
  rw [if_pos hm] at he
  have he':(tP fs' tr r).e=0:=by
   split at he
   ·assumption
   ·exact he
  obtain ⟨k1,_,l,l',k2,k3,k4⟩:=pd (tr:=tr) (es:=r.exprs) (ps:=r.body) (x:=gZ) (s:=⟨0,[],0⟩) (s':=⟨0,[],0⟩) h (Int.le_refl _) rfl he'
  simp only [List.nil_append] at k2 k3
  have e1:(tP fs tr r).e=0:=k1
  have e2:(tP fs tr r).out=l:=k2
  have e3:(tP fs' tr r).out=l':=k3
  rw [if_pos e1,if_pos he',e2,e3]
  refine ⟨rfl,(dQ l).1,(dQ l').1,fun x hx=>(dQ l').2.1 x (k4.subset ((dQ l).2.2 x hx))⟩
 ·rename_i hm
  rw [if_neg hm] at he
  cases he
theorem kY {x y:Ans}:∀{es:List (List OpD)} {s:Wst},y∈(dJ es x s).out→y∈s.out∨y=x
 | [],s,h=>by simpa [dJ] using h
 | q::qs,s,h=>by
   rw [dJ] at h
   split at h
   ·exact .inl h
   ·split at h
    ·exact kY h
    ·exact .inl h
theorem iO {tr:Int} {step:Fc→Wst→Wst} {P:Ans→Prop} (hs:∀f s y,y∈(step f s).out→y∈s.out∨P y):∀{fs:List Fc} {s:Wst} {y:Ans},y∈(cJ tr step fs s).out→y∈s.out∨P y
 | [],s,y,h=>.inl h
 | f::fs,s,y,h=>by
   rw [cJ] at h
   split at h
   ·exact iO hs h
   ·split at h
    ·exact .inl h
    ·split at h
     ·exact hs f ⟨s.held+1,s.out,s.e⟩ _ h
     ·rcases iO hs h with h | h
      ·exact hs f ⟨s.held+1,s.out,s.e⟩ _ h
      ·exact .inr h
theorem pc {fs:List Fc} {tr:Int} {es:List (List OpD)}:∀{ps:List Pr} {x:Ans} {s:Wst} {y:Ans},bj x.b=true→y∈(du fs tr es ps x s).out→y∈s.out∨bj y.b=true
 | [],x,s,y,hx,h=>(kY h).imp id (fun e=>by rw [e];exact hx)
 | p::ps,x,s,y,hx,h=>by
   rw [bW] at h
   refine iO (P:=fun y=>bj y.b=true) (fun f s y h=>?_) h
   unfold dK at h
   split at h
   ·rename_i c hc
    exact pc (x:=⟨c,orO x.o f.o⟩) (rO hc) h
   ·exact .inl h
theorem rG:∀{a b:List aZ},dA a b=0→a=b
 | [],[],_=>rfl
 | [],_::_,h=>by simp [dA] at h
 | _::_,[],h=>by simp [dA] at h
 | x::a,y::b,h=>by
   rw [dA] at h
   split at h
   ·rename_i h0
    rw [fN.1 h0,rG h]
   ·exact absurd h ‹_›
theorem yZ {x y:Ans} (hx:bj x.b=true) (hy:bj y.b=true) (h:aU x y=0):x=y:=by
 simp only [aU,orL] at h
 split at h
 ·rename_i h1
  split at h
  ·rename_i h2
   split at h
   ·rename_i h3
    obtain ⟨⟨n,t⟩,o⟩:=x
    obtain ⟨⟨n',t'⟩,o'⟩:=y
    have e1:n=n':=rG h1
    have e2:t=t':=od (fun z hz=>(aM ((dU hx).1.fixed z hz)).1) (fun z hz=>(aM ((dU hy).1.fixed z hz)).1) h2
    have e3:o=o':=fM.1 h3
    rw [e1,e2,e3]
   ·exact absurd h ‹_›
  ·exact absurd h ‹_›
 ·exact absurd h ‹_›
def jn (i:Nat):Int:=((2 ^ i:Nat):Int)
end Go.Proofs.YtdphibjibnffeaaGreat
