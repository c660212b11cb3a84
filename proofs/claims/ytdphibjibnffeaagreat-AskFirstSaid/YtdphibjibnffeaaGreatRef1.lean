/- The document's own answers on names (viaticumref6): as the program's. -/
import Derived.Test.YtdphibjibnffeaaGreatCpt0
import Derived.Test.YtdphibjibnffeaaGreatRule2
import Derived.Test.YtdphibjibnffeaaGreatRule4
import Derived.Test.YtdphibjibnffeaaGreatFc6
import Derived.Test.YtdphibjibnffeaaGreatTerm5
set_option linter.unusedVariables false
set_option linter.unusedSimpArgs false
set_option maxRecDepth 100000
set_option maxHeartbeats 8000000
namespace Go.Proofs.YtdphibjibnffeaaGreat
open Go.ChangeShapes Go.WideShapes Go.ChangeAt Go.RowKit
def aQ (fs:List Fc) (tr:Int) (r:Ru):List Ans × Int:=
 if (bl r||ay r)=true then
  if (dQ fs tr r.exprs r.body fC ⟨0,[],0⟩).e=0 then (cpt (fun a b=>aS a b==0) (jp (dQ fs tr r.exprs r.body fC ⟨0,[],0⟩).out),0) else ([],(dQ fs tr r.exprs r.body fC ⟨0,[],0⟩).e)
 else ([],1)
def AnsE (d:Nat) (w w':World) (R:List Ans × Int) (z:Ending):Prop:=
 ∃(L:List AnV) (A:Option Addr) (c:Nat),z=.returned (.tuple #[.slice A L.length c,.int .i64 R.2])∧L.map AnV.x=R.1∧aq iX 48 w' w.heap.size 0 (.slice A L.length c) L∧(∀y∈L,cv y.x.b=true∧U32 y.x.o)∧(∀y∈L,il (fun k=>(Value.slice A L.length c).ownBlock=some k) w' (fun w'=>(mF (d+1)).rd w' w'.heap.size y.x y.cs))∧Below w.heap.size w w'
theorem pt:cv jN.x.b=true∧U32 jN.x.o:=⟨rfl,by unfold U32;simp [jN]⟩
theorem nT:∀(ys:List AnV) (p:AnV),(eC qAn p ys).map AnV.x=eC (fun a b=>aS a b==0) p.x (ys.map AnV.x)
 | [],p=>rfl
 | y::ys,p=>by
   rw [List.map_cons,eC,eC,←nT ys y]
   show List.map AnV.x (if (aS y.x p.x==0)=true then _ else _)=_
   split<;>rfl
theorem uu:∀(ys:List AnV),(cpt qAn ys).map AnV.x=cpt (fun a b=>aS a b==0) (ys.map AnV.x)
 | []=>rfl
 | y::ys=>by rw [List.map_cons,cpt,cpt,List.map_cons,nT]
theorem vW (xs:List AnV):((ej (xs.map AnV.x)).map (xs.getD · jN)).length=xs.length:=by rw [List.length_map,lv,List.length_map]
theorem vX (xs:List AnV):((ej (xs.map AnV.x)).map (xs.getD · jN)).map AnV.x=jp (xs.map AnV.x):=by
 rw [jp,List.map_map]
 refine List.map_congr_left fun i hi=>?_
 have h:=rA hi
 rw [List.length_map] at h
 simp [h]
theorem vY (xs:List AnV):∀y∈(ej (xs.map AnV.x)).map (xs.getD · jN),y∈xs:=fun y hy=>by
 obtain ⟨i,hi,rfl⟩:=List.mem_map.1 hy
 have h:=rA hi
 rw [List.length_map] at h
 have e:xs.getD i jN=xs[i]:=by simp [h]
 rw [e];exact List.getElem_mem h
theorem nf {r:Ru} (h:(bl r||ay r)=true):(∀p∈r.body,aI p=true)∧r.body.length≤4∧r.exprs.length≤4:=by
 have hb:gI r=true:=by
  rcases Bool.or_eq_true_iff.1 h with h | h
  ·simp only [bl,Bool.and_eq_true] at h;exact h.1.2
  ·simp only [ay,Bool.and_eq_true] at h;exact h.2
 simp only [gI,Bool.and_eq_true,decide_eq_true_eq,List.all_eq_true] at hb
 exact ⟨hb.1.1.1.2,hb.1.1.1.1,hb.1.1.2.1⟩
theorem gQ {d baseS B S cs:Nat} {r:Ru} {vr:List Value} {w:World} {fs:List FV} {As:Option Addr} {tr m:Int} (hr:(RuR (d+1)).rd w B r vr) (hB:B≤w.heap.size) (hS:StA baseS d w S fs As cs) (hfew:fs.length≤100000) (hm:w.cell? ⟨0,0,none⟩=some (.int .i64 m)) (hp:0<w.heap.size) :
 Calls Tryz.prog 18 #[.agg vr.toArray,.pointer (some ⟨S,0,none⟩),.int .u32 tr] w fun z w'=>AnsE d w w' (aQ (fs.map FV.f) tr r) z:=by
 have HRD:=zl hr
 obtain ⟨_,_,_,_,rfl,hs,⟨A0,c0,rfl,h01,h02,hl0⟩,⟨A1,c1,rfl,h11,h12,hl1⟩,⟨A2,c2,rfl,h21,h22,hl2⟩,⟨A3,c3,rfl,h31,h32,hl3⟩⟩:=hr
 have HST0:Hid ((bl r||ay r)=true→WkS d w baseS B ⟨.string r.head.name,.slice A0 r.head.terms.length c0,.slice A1 r.body.length c1,.slice A2 r.exprs.length c2,.slice A3 r.scopes.length c3,S,tr⟩ fs As cs r.body A1 c1 r.exprs A2 c2 m):=zl (fun h=>⟨hS,hfew,hB,rfl,hl1,by have:=(nf h).2.1;omega,(nf h).1,rfl,hl2,by have:=(nf h).2.2;omega,hm,hp⟩)
 clear hS hfew hm hl0 hl1 hl2 hl3
 go_enter Tryz.func18,Tryz.ntmps18
 go_upto_region 1 with fail
 generalize hWW:World.alloc _ _=w1
 obtain ⟨hb1,hz⟩:=al1 hWW
 have HR1:=zl (n11 hWW)
 have HB1:=zl hb1
 have hsz1:=hb1.size
 clear hWW hb1 hz
 have k_r:=HR1.out.cell
 have l_r:=HR1.out.lt
 go_wp2_with fail
 refine (qi (vs:=[_,_,_,_,_]) ((RuR (d+1)).keep HB1.out hB HRD.out) (zm hB hsz1)).mono ?_
 rintro e w2 ⟨rfl,hb2⟩
 have HR2:=zl (HR1.out.later hb2)
 have HB2:=zl (ab HB1.out hb2)
 have hsz2:=HB2.out.size
 clear hb2 k_r l_r
 have k_r:=HR2.out.cell
 have l_r:=HR2.out.lt
 by_cases h1:bl r=true
 ·have hmm:(bl r||ay r)=true:=by rw [h1];rfl
  have HST:=zl (HST0.out hmm)
  have HBx:=HB2
  rw [h1]
  go_upto_region 4 with fail
  generalize hWW:World.alloc _ _=w4
  obtain ⟨hb4,hz⟩:=al1 hWW
  have HW4:=zl (n11 hWW)
  have HB4:=zl (ab HBx.out hb4)
  have hsz4:=HB4.out.size
  have hl4:=HW4.out.lt
  clear hWW hb4 hz k_r l_r
  have HWK:Hid (WkAt w4.heap.size d w4 w2.heap.size ⟨.string r.head.name,.slice A0 r.head.terms.length c0,.slice A1 r.body.length c1,.slice A2 r.exprs.length c2,.slice A3 r.scopes.length c3,S,tr⟩ 0 [] none 0 0):=zl ⟨HW4.out,hl4,zn _,aq.nil _ _ _ _ _,fun y hy=>absurd hy (by simp),fun y hy=>absurd hy (by simp)⟩
  have HGO2:Hid (Calls Tryz.prog 55 #[.pointer (some ⟨w2.heap.size,0,none⟩),.int .i64 0,.agg #[.slice none 0 0,.slice none 0 0,.int .u32 0]] w4 fun z w'=>WkE w4.heap.size d w2.heap.size ⟨.string r.head.name,.slice A0 r.head.terms.length c0,.slice A1 r.body.length c1,.slice A2 r.exprs.length c2,.slice A3 r.scopes.length c3,S,tr⟩ w4 w' none 0 0 (dQ (fs.map FV.f) tr r.exprs r.body fC ⟨0,[],0⟩) z):=zl (rj HST.out (show w.heap.size≤w2.heap.size from HBx.out.size) r.body 0 rfl (zo _) w4 0 [] none 0 jN HB4.out HWK.out (fun w' _=>mK _ _ _) pt (by simp) (by decide))
  have l_w4:=hl4
  have HBw:Hid (w.heap.size≤w2.heap.size):=zl HBx.out.size
  generalize hWn:w2.heap.size=W at *
  have HR:Hid (aQ (fs.map FV.f) tr r=if (dQ (fs.map FV.f) tr r.exprs r.body fC ⟨0,[],0⟩).e=0 then (cpt (fun a b=>aS a b==0) (jp (dQ (fs.map FV.f) tr r.exprs r.body fC ⟨0,[],0⟩).out),0) else ([],(dQ (fs.map FV.f) tr r.exprs r.body fC ⟨0,[],0⟩).e)):=zl (if_pos hmm)
  clear hmm
  go_wp2_with fail
  refine HGO2.out.mono ?_
  rintro z w5 ⟨xs,A,c,rfl,hout,hwk,hag,_⟩
  have hfew:=iA (fs:=fs.map FV.f) (tr:=tr) (es:=r.exprs) (ps:=r.body) (x:=fC) (s:=⟨0,[],0⟩)
  clear HGO2
  generalize dQ (fs.map FV.f) tr r.exprs r.body fC ⟨0,[],0⟩=s at *
  have hn:xs.length≤1000000:=by
   have h1:=hfew.2.1 (by decide)
   have h2:=hfew.2.2
   rw [←hout,List.length_map] at h2
   simp at h2
   omega
  have HB5:Hid (Below w.heap.size w w5):=zl (HB4.out.trans ((hag.below (base:=W) (fun k hk hm=>by rcases hm with h | h<;>first | omega | cases h) (Nat.le_of_lt hl4)).mono HBw.out))
  have HWK5:=zl hwk
  have HOUT:=zl hout
  have HW5:Hid (Blk w5 W #[.string r.head.name,.slice A0 r.head.terms.length c0,.slice A1 r.body.length c1,.slice A2 r.exprs.length c2,.slice A3 r.scopes.length c3,.pointer (some ⟨S,0,none⟩),.int .u32 tr,.int .i64 s.held,.slice A xs.length c,.int .i64 s.e]):=zl hwk.hd
  clear hag hwk hout hfew HW4 HWK
  have k_w:=HW5.out.cell
  have l_w:=HW5.out.lt
  by_cases he:s.e=0
  ·have HRE:Hid (aQ (fs.map FV.f) tr r=(cpt (fun a b=>aS a b==0) (jp s.out),0)):=zl (by rw [HR.out,if_pos he])
   have he':(s.e !=0)=false:=by rw [he];rfl
   clear HR
   by_cases hx0:xs.length=0
   ·rw [hx0] at k_w
    go_wp2_with fail
    refine pd.mono ?_
    rintro z w6 ⟨rfl,rfl⟩
    go_wp2_with fail
    refine jx.mono ?_
    rintro z w6 ⟨rfl,rfl⟩
    go_wp2_with fail
    go_ret2
    have hx1:xs=[]:=List.length_eq_zero_iff.1 hx0
    have ho:s.out=[]:=by rw [←HOUT.out,hx1];rfl
    exact ⟨[],A,c,by rw [HRE.out];rfl,by rw [HRE.out,ho,(eQ []).eq_nil];rfl,by have h:=HWK5.out.row;rw [hx1] at h;exact h.lower (by omega),fun y hy=>absurd hy (by simp),fun y hy=>absurd hy (by simp),HB5.out⟩
   ·have hx:0<xs.length:=by omega
    obtain ⟨g,c1_,e1,hg1,hg2,_⟩:=HWK5.out.row.sh aU hx
    simp only [Value.slice.injEq,true_and] at e1
    obtain ⟨rfl,rfl⟩:=e1
    have hgW:g≠W:=by omega
    go_wp2_with fail
    refine (kn (d:=d+1) HWK5.out.row hx (fun y hy=>wN (HWK5.out.ok y hy).1) (fun y hy=>(HWK5.out.deep y hy).less (fun k _ hk=>.inr (by rw [hk];rfl))) hn).mono ?_
    rintro z w6 ⟨rfl,hrow6,hag6⟩
    have hlen6:=vW xs
    have hmap6:=vX xs
    have hmem6:=vY xs
    generalize (ej (xs.map AnV.x)).map (xs.getD · jN)=ys at *
    have HW6:=zl (hag6.blk HW5.out (fun h=>hgW h.symm))
    have HB6:Hid (Below w.heap.size w w6):=zl (HB5.out.trans (hag6.below (fun k hk hm=>by have:=HBw.out;omega) HB5.out.size))
    have hrow7:aq iX 48 w6 w4.heap.size 0 (.slice (some ⟨g,0,none⟩) ys.length c) ys:=by rw [hlen6];exact hrow6
    have HCP:=zl (mb (d:=d+1) hrow7 (by omega) (fun y hy=>wN (HWK5.out.ok y (hmem6 y hy)).1) (fun y hy=>(HWK5.out.deep y (hmem6 y hy)).next (N:=fun k=>k=g) hag6 (fun k _ hk=>.inr (by rw [hk];rfl)) (fun k _ hk=>.inr (by rw [hk];rfl))) (by omega))
    rw [hlen6] at HCP
    have HM6:=zl (And.intro hmap6 hmem6)
    have HAG6:=zl hag6
    clear hag6 hrow6 hrow7 hlen6 hmap6 hmem6 k_w l_w
    have k_w:=HW6.out.cell
    have l_w:=HW6.out.lt
    go_wp2_with fail
    refine HCP.out.mono ?_
    rintro z w7 ⟨L,hL,rfl,hrow,hag7⟩
    have HROW:=zl hrow
    have HAG7:=zl hag7
    have HL:=zl hL
    clear hrow hag7 hL HCP
    go_wp2_with fail
    go_ret2
    have hsub:∀y∈L,y∈xs:=fun y hy=>HM6.out.2 y (pS qAn (by rw [←HL.out];exact hy))
    exact ⟨L,some ⟨g,0,none⟩,c,by rw [HRE.out];rfl,by rw [HRE.out,HL.out,uu,HM6.out.1,HOUT.out],HROW.out.lower (by omega),fun y hy=>HWK5.out.ok y (hsub y hy),fun y hy=>(HWK5.out.deep y (hsub y hy)).next (N:=fun k=>k=g) (HAG6.out.trans HAG7.out (fun _ _ h=>h)) (fun k _ hk=>.inr (by rw [hk];rfl)) (fun k _ hk=>.inr hk),HB6.out.trans (HAG7.out.below (fun k hk hm=>by have:=HBw.out;omega) HB6.out.size)⟩
  ·have he':(s.e !=0)=true:=by simpa using he
   have HRE:Hid (aQ (fs.map FV.f) tr r=([],s.e)):=zl (by rw [HR.out,if_neg he])
   clear HR
   go_upto_region 6 with fail
   go_region
   go_wp2_with fail
   go_ret2
   exact ⟨[],none,0,by rw [HRE.out];rfl,by rw [HRE.out];rfl,aq.nil _ _ _ _ _,fun y hy=>absurd hy (by simp),fun y hy=>absurd hy (by simp),HB5.out.drew⟩
 ·have h1':bl r=false:=by simpa using h1
  rw [h1']
  go_wp2_with fail
  refine (eq (vs:=[_,_,_,_,_]) ((RuR (d+1)).keep HB2.out hB HRD.out) (zm hB hsz2)).mono ?_
  rintro e w3 ⟨rfl,hb3⟩
  have HR3:=zl (HR2.out.later hb3)
  have HB3:=zl (ab HB2.out hb3)
  have hsz3:=HB3.out.size
  clear hb3 k_r l_r
  have k_r:=HR3.out.cell
  have l_r:=HR3.out.lt
  by_cases h2:ay r=true
  ·have hmm:(bl r||ay r)=true:=by rw [h1',h2];rfl
   have HST:=zl (HST0.out hmm)
   have HBx:=HB3
   rw [h2]
   go_upto_region 4 with fail
   generalize hWW:World.alloc _ _=w4
   obtain ⟨hb4,hz⟩:=al1 hWW
   have HW4:=zl (n11 hWW)
   have HB4:=zl (ab HBx.out hb4)
   have hsz4:=HB4.out.size
   have hl4:=HW4.out.lt
   clear hWW hb4 hz k_r l_r
   have HWK:Hid (WkAt w4.heap.size d w4 w3.heap.size ⟨.string r.head.name,.slice A0 r.head.terms.length c0,.slice A1 r.body.length c1,.slice A2 r.exprs.length c2,.slice A3 r.scopes.length c3,S,tr⟩ 0 [] none 0 0):=zl ⟨HW4.out,hl4,zn _,aq.nil _ _ _ _ _,fun y hy=>absurd hy (by simp),fun y hy=>absurd hy (by simp)⟩
   have HGO2:Hid (Calls Tryz.prog 55 #[.pointer (some ⟨w3.heap.size,0,none⟩),.int .i64 0,.agg #[.slice none 0 0,.slice none 0 0,.int .u32 0]] w4 fun z w'=>WkE w4.heap.size d w3.heap.size ⟨.string r.head.name,.slice A0 r.head.terms.length c0,.slice A1 r.body.length c1,.slice A2 r.exprs.length c2,.slice A3 r.scopes.length c3,S,tr⟩ w4 w' none 0 0 (dQ (fs.map FV.f) tr r.exprs r.body fC ⟨0,[],0⟩) z):=zl (rj HST.out (show w.heap.size≤w3.heap.size from HBx.out.size) r.body 0 rfl (zo _) w4 0 [] none 0 jN HB4.out HWK.out (fun w' _=>mK _ _ _) pt (by simp) (by decide))
   have l_w4:=hl4
   have HBw:Hid (w.heap.size≤w3.heap.size):=zl HBx.out.size
   generalize hWn:w3.heap.size=W at *
   have HR:Hid (aQ (fs.map FV.f) tr r=if (dQ (fs.map FV.f) tr r.exprs r.body fC ⟨0,[],0⟩).e=0 then (cpt (fun a b=>aS a b==0) (jp (dQ (fs.map FV.f) tr r.exprs r.body fC ⟨0,[],0⟩).out),0) else ([],(dQ (fs.map FV.f) tr r.exprs r.body fC ⟨0,[],0⟩).e)):=zl (if_pos hmm)
   clear hmm
   go_wp2_with fail
   refine HGO2.out.mono ?_
   rintro z w5 ⟨xs,A,c,rfl,hout,hwk,hag,_⟩
   have hfew:=iA (fs:=fs.map FV.f) (tr:=tr) (es:=r.exprs) (ps:=r.body) (x:=fC) (s:=⟨0,[],0⟩)
   clear HGO2
   generalize dQ (fs.map FV.f) tr r.exprs r.body fC ⟨0,[],0⟩=s at *
   have hn:xs.length≤1000000:=by
    have h1:=hfew.2.1 (by decide)
    have h2:=hfew.2.2
    rw [←hout,List.length_map] at h2
    simp at h2
    omega
   have HB5:Hid (Below w.heap.size w w5):=zl (HB4.out.trans ((hag.below (base:=W) (fun k hk hm=>by rcases hm with h | h<;>first | omega | cases h) (Nat.le_of_lt hl4)).mono HBw.out))
   have HWK5:=zl hwk
   have HOUT:=zl hout
   have HW5:Hid (Blk w5 W #[.string r.head.name,.slice A0 r.head.terms.length c0,.slice A1 r.body.length c1,.slice A2 r.exprs.length c2,.slice A3 r.scopes.length c3,.pointer (some ⟨S,0,none⟩),.int .u32 tr,.int .i64 s.held,.slice A xs.length c,.int .i64 s.e]):=zl hwk.hd
   clear hag hwk hout hfew HW4 HWK
   have k_w:=HW5.out.cell
   have l_w:=HW5.out.lt
   by_cases he:s.e=0
   ·have HRE:Hid (aQ (fs.map FV.f) tr r=(cpt (fun a b=>aS a b==0) (jp s.out),0)):=zl (by rw [HR.out,if_pos he])
    have he':(s.e !=0)=false:=by rw [he];rfl
    clear HR
    by_cases hx0:xs.length=0
    ·rw [hx0] at k_w
     go_wp2_with fail
     refine pd.mono ?_
     rintro z w6 ⟨rfl,rfl⟩
     go_wp2_with fail
     refine jx.mono ?_
     rintro z w6 ⟨rfl,rfl⟩
     go_wp2_with fail
     go_ret2
     have hx1:xs=[]:=List.length_eq_zero_iff.1 hx0
     have ho:s.out=[]:=by rw [←HOUT.out,hx1];rfl
     exact ⟨[],A,c,by rw [HRE.out];rfl,by rw [HRE.out,ho,(eQ []).eq_nil];rfl,by have h:=HWK5.out.row;rw [hx1] at h;exact h.lower (by omega),fun y hy=>absurd hy (by simp),fun y hy=>absurd hy (by simp),HB5.out⟩
    ·have hx:0<xs.length:=by omega
     obtain ⟨g,c1_,e1,hg1,hg2,_⟩:=HWK5.out.row.sh aU hx
     simp only [Value.slice.injEq,true_and] at e1
     obtain ⟨rfl,rfl⟩:=e1
     have hgW:g≠W:=by omega
     go_wp2_with fail
     refine (kn (d:=d+1) HWK5.out.row hx (fun y hy=>wN (HWK5.out.ok y hy).1) (fun y hy=>(HWK5.out.deep y hy).less (fun k _ hk=>.inr (by rw [hk];rfl))) hn).mono ?_
     rintro z w6 ⟨rfl,hrow6,hag6⟩
     have hlen6:=vW xs
     have hmap6:=vX xs
     have hmem6:=vY xs
     generalize (ej (xs.map AnV.x)).map (xs.getD · jN)=ys at *
     have HW6:=zl (hag6.blk HW5.out (fun h=>hgW h.symm))
     have HB6:Hid (Below w.heap.size w w6):=zl (HB5.out.trans (hag6.below (fun k hk hm=>by have:=HBw.out;omega) HB5.out.size))
     have hrow7:aq iX 48 w6 w4.heap.size 0 (.slice (some ⟨g,0,none⟩) ys.length c) ys:=by rw [hlen6];exact hrow6
     have HCP:=zl (mb (d:=d+1) hrow7 (by omega) (fun y hy=>wN (HWK5.out.ok y (hmem6 y hy)).1) (fun y hy=>(HWK5.out.deep y (hmem6 y hy)).next (N:=fun k=>k=g) hag6 (fun k _ hk=>.inr (by rw [hk];rfl)) (fun k _ hk=>.inr (by rw [hk];rfl))) (by omega))
     rw [hlen6] at HCP
     have HM6:=zl (And.intro hmap6 hmem6)
     have HAG6:=zl hag6
     clear hag6 hrow6 hrow7 hlen6 hmap6 hmem6 k_w l_w
     have k_w:=HW6.out.cell
     have l_w:=HW6.out.lt
     go_wp2_with fail
     refine HCP.out.mono ?_
     rintro z w7 ⟨L,hL,rfl,hrow,hag7⟩
     have HROW:=zl hrow
     have HAG7:=zl hag7
     have HL:=zl hL
     clear hrow hag7 hL HCP
     go_wp2_with fail
     go_ret2
     have hsub:∀y∈L,y∈xs:=fun y hy=>HM6.out.2 y (pS qAn (by rw [←HL.out];exact hy))
     exact ⟨L,some ⟨g,0,none⟩,c,by rw [HRE.out];rfl,by rw [HRE.out,HL.out,uu,HM6.out.1,HOUT.out],HROW.out.lower (by omega),fun y hy=>HWK5.out.ok y (hsub y hy),fun y hy=>(HWK5.out.deep y (hsub y hy)).next (N:=fun k=>k=g) (HAG6.out.trans HAG7.out (fun _ _ h=>h)) (fun k _ hk=>.inr (by rw [hk];rfl)) (fun k _ hk=>.inr hk),HB6.out.trans (HAG7.out.below (fun k hk hm=>by have:=HBw.out;omega) HB6.out.size)⟩
   ·have he':(s.e !=0)=true:=by simpa using he
    have HRE:Hid (aQ (fs.map FV.f) tr r=([],s.e)):=zl (by rw [HR.out,if_neg he])
    clear HR
    go_upto_region 6 with fail
    go_region
    go_wp2_with fail
    go_ret2
    exact ⟨[],none,0,by rw [HRE.out];rfl,by rw [HRE.out];rfl,aq.nil _ _ _ _ _,fun y hy=>absurd hy (by simp),fun y hy=>absurd hy (by simp),HB5.out.drew⟩
  ·have h2':ay r=false:=by simpa using h2
   have hmm:(bl r||ay r)=false:=by rw [h1',h2'];rfl
   have HR:Hid (aQ (fs.map FV.f) tr r=([],1)):=zl (by unfold aQ;rw [if_neg (by rw [hmm];decide)])
   rw [h2']
   clear hmm h1 h2
   go_wp2_with fail
   go_ret2
   exact ⟨[],none,0,by rw [HR.out];rfl,by rw [HR.out];rfl,aq.nil _ _ _ _ _,fun y hy=>absurd hy (by simp),fun y hy=>absurd hy (by simp),HB3.out⟩
def FcIn (f:Fc):Prop:=f.pr.name.size≤140737488351232∧U32 f.o
def stL (l:List Fc):List Fc:=l.foldl rK []
section
variable {fs:List Fc} {f x:Fc}
theorem wJ (fs:List Fc) (f:Fc):(rK fs f).length≤fs.length+1:=by
 unfold rK
 split
 ·rw [bC lm];exact zn _
 ·omega
end
section
variable {l l':List Fc} (hl:∀f∈l,FcIn f)
include hl
end
theorem qH:∀(l fs:List Fc),(l.foldl rK fs).length≤fs.length+l.length
 | [],fs=>by simp
 | f::l,fs=>by
   have h1:=qH l (rK fs f)
   have h2:=wJ fs f
   rw [List.foldl_cons,List.length_cons];omega
theorem yg (l:List Fc) (f:Fc):stL (l++[f])=rK (stL l) f:=by unfold stL;rw [List.foldl_append];rfl
/-! Whom is trusted. -/
/-! More facts. -/
def Ext (s s':Wst):Prop:=s.held≤s'.held∧∃l,s'.out=s.out++l
theorem Ext.refl (s:Wst):Ext s s:=⟨Int.le_refl _,[],by simp⟩
theorem Ext.trans {s t u:Wst} (h:Ext s t) (k:Ext t u):Ext s u:=by
 obtain ⟨h1,l,h2⟩:=h
 obtain ⟨k1,m,k2⟩:=k
 exact ⟨Int.le_trans h1 k1,l++m,by rw [k2,h2,List.append_assoc]⟩
theorem Ext.held {s t:Wst} {h:Int} (k:Ext ⟨s.held+1,s.out,h⟩ t):Ext s t:=by
 obtain ⟨k1,k2⟩:=k
 exact ⟨by simp only at k1;omega,k2⟩
def Sim (s s' t t':Wst):Prop:=s.held≤s'.held→s.e=0→t'.e=0→t.e=0∧t.held≤t'.held∧∃l l',t.out=s.out++l∧t'.out=s'.out++l'∧l.Sublist l'
theorem Sim.add {s s' t t' u u':Wst} (h:Sim s s' t t') (k:Sim t t' u u') (hx:Ext t' u') (he:t'.e=0):Sim s s' u u':=fun h1 h2 h3=>by
 obtain ⟨a1,a2,l,l',a3,a4,a5⟩:=h h1 h2 he
 obtain ⟨b1,b2,m,m',b3,b4,b5⟩:=k a2 a1 h3
 exact ⟨b1,b2,l++m,l'++m',by rw [b3,a3,List.append_assoc],by rw [b4,a4,List.append_assoc],a5.append b5⟩
/-! eA,each once. -/
def RiseA (L:List Ans):Prop:=L.Pairwise fun a b=>aS a b<0
def eqA (a b:Ans):Bool:=aS a b==0
theorem gy:∀{ys:List Ans} {p:Ans},(p::ys).Pairwise (fun a b=>aS a b≤0)→RiseA (eC eqA p ys)∧(∀y∈eC eqA p ys,aS p y<0)∧∀x∈ys,aS p x=0∨∃y∈eC eqA p ys,aS y x=0
 | [],p,_=>⟨List.Pairwise.nil,by simp [eC],by simp⟩
 | y::ys,p,h=>by
   rw [List.pairwise_cons] at h
   obtain ⟨h1,h2,h3⟩:=gy h.2
   have hy:=h.1 y (by simp)
   rw [eC]
   by_cases he:aS y p=0
   ·have he':aS p y=0:=by have:=bQ.anti p y;omega
    rw [if_pos (by simp [eqA,he])]
    refine ⟨h1,fun z hz=>bQ.le_lt (by omega) (h2 z hz),fun x hx=>?_⟩
    rcases List.mem_cons.1 hx with rfl | hx
    ·exact .inl he'
    ·rcases h3 x hx with h4 | h4
     ·rcases bQ.zero_l (z:=x) he' with k | ⟨_,k⟩ | ⟨_,k⟩<;>first | (exact .inl (by omega)) | omega
     ·exact .inr h4
   ·have hlt:aS p y<0:=by have:=bQ.anti p y;omega
    rw [if_neg (by simp [eqA,he])]
    refine ⟨List.Pairwise.cons h2 h1,fun z hz=>?_,fun x hx=>?_⟩
    ·rcases List.mem_cons.1 hz with rfl | hz
     ·exact hlt
     ·exact bQ.lt_le hlt (Int.le_of_lt (h2 z hz))
    ·rcases List.mem_cons.1 hx with rfl | hx
     ·exact .inr ⟨x,by simp,bQ.self x⟩
     ·rcases h3 x hx with h4 | ⟨z,hz,h4⟩
      ·exact .inr ⟨y,by simp,h4⟩
      ·exact .inr ⟨z,by simp [hz],h4⟩
def ly (L:List Ans):List Ans:=cpt eqA (jp L)
theorem tg (L:List Ans):RiseA (ly L)∧(∀x∈L,∃y∈ly L,aS y x=0)∧∀y∈ly L,y∈L:=by
 have hs:=pf L
 have hp:=eQ L
 refine ⟨?_,?_,fun y hy=>hp.mem_iff.1 (pS _ hy)⟩
 ·unfold ly
  generalize jp L=S at *
  cases S with
  | nil=>exact List.Pairwise.nil
  | cons p ys=>exact List.Pairwise.cons (gy hs).2.1 (gy hs).1
 ·intro x hx
  have hx':=hp.mem_iff.2 hx
  unfold ly
  generalize jp L=S at *
  cases S with
  | nil=>simp at hx'
  | cons p ys=>
    rcases List.mem_cons.1 hx' with rfl | hx'
    ·exact ⟨x,by simp [cpt],bQ.self x⟩
    ·rcases (gy hs).2.2 x hx' with h | ⟨y,hy,h⟩
     ·exact ⟨p,by simp [cpt],h⟩
     ·exact ⟨y,by simp [cpt,hy],h⟩
def zg (fs:List Fc) (tr:Int) (r:Ru):Wst:=dQ fs tr r.exprs r.body fC ⟨0,[],0⟩
theorem gW (fs:List Fc) (tr:Int) (r:Ru):aQ fs tr r=if (bl r||ay r)=true then (if (zg fs tr r).e=0 then (ly (zg fs tr r).out,0) else ([],(zg fs tr r).e)) else ([],1):=rfl
def eE (b:Bd):List (List OpD)→Bool→Bool × Int
 | [],a=>(a,0)
 | q::qs,a=>if (bO (cU b q)).2≠0 then (false,(bO (cU b q)).2) else eE b qs (a&&(bO (cU b q)).1)
def hX (es:List (List OpD)):List Ans→Bool→Bool × Int
 | [],a=>(a,0)
 | x::xs,a=>if (eE x.b es a).2≠0 then (false,(eE x.b es a).2) else hX es xs (eE x.b es a).1
def pB (r:Ru):Ru:=⟨r.head,r.body,[],r.scopes⟩
def bY (fs:List Fc) (tr:Int) (r:Ru):List Ans × Int:=if r.body.length=0 then ([fC],0) else aQ fs tr (pB r)
def pc (l:List Ans):Bool:=decide (0<l.length)
def ga (fs:List Fc) (tr:Int) (r:Ru):Bool × Int:=if ay r=true then (pc (aQ fs tr r).1,(aQ fs tr r).2) else (false,1)
def dE (fs:List Fc) (tr:Int) (r:Ru):Bool × Int:=if ay r=true then (if (bY fs tr r).2≠0 then (false,(bY fs tr r).2) else hX r.exprs (bY fs tr r).1 (pc (bY fs tr r).1)) else (false,1)
theorem ij (b:Bool) (w:World) :
 Calls Tryz.prog 269 #[.bool b] w fun e w'=>e=.returned (.int .i64 (if b then -1 else 1))∧w=w':=by
 cases b
 all_goals
  go_enter Tryz.func269,Tryz.ntmps269
  go_wp2_with fail
  go_ret
  exact ⟨rfl,rfl⟩
theorem cO (c:Int) (w:World) (h0:0≤c) (h1:c≤255) :
 Calls Tryz.prog 120 #[.int .u8 c] w fun e w'=>e=.returned (.bool (eZ c))∧w=w':=by
 have hc:(97≤c∧c≤122)∨(65≤c∧c≤90)∨(c<65)∨(90<c∧c<97)∨122<c:=by omega
 rcases hc with h | h | h | h | h
 all_goals
  go_enter Tryz.func120,Tryz.ntmps120
  go_wp2_with fail
  go_ret
  refine ⟨ac ?_,rfl⟩
  rw [Bool.eq_iff_iff,ie]
  simp
  try omega
theorem oY (c:Int) (w:World) (h0:0≤c) (h1:c≤255) :
 Calls Tryz.prog 121 #[.int .u8 c] w fun e w'=>e=.returned (.bool (cV 1 c))∧w=w':=by
 by_cases hl:eZ c=true
 ·go_enter Tryz.func121,Tryz.ntmps121
  go_wp2_with fail
  refine (cO c w h0 h1).mono ?_
  rintro e w1 ⟨rfl,rfl⟩
  rw [hl]
  go_wp2_with fail
  go_ret
  exact ⟨ac (by simp [cV,hl]),rfl⟩
 ·simp only [Bool.not_eq_true] at hl
  have hc:(48≤c∧c≤57)∨c=95∨c=58∨c<48∨(58<c∧c<95)∨95<c:=by omega
  rcases hc with h | rfl | rfl | h | h | h
  all_goals
   go_enter Tryz.func121,Tryz.ntmps121
   go_wp2_with fail
   refine (cO _ w h0 h1).mono ?_
   rintro e w1 ⟨rfl,rfl⟩
   rw [hl]
   go_wp2_with fail
   go_ret
   refine ⟨ac ?_,rfl⟩
   rw [Bool.eq_iff_iff,dJ]
   have hl2:=hl
   rw [Bool.eq_false_iff,ne_eq,ie] at hl2
   simp
   try omega
theorem iJ {s:ByteArray} (h:¬(((∀i,(h:i<s.size)→cV i s[i].toNat=true)∧1≤s.size∧s.size≤32)∧Lib.hasPrefix (bs s) (bs tx)=false)):false=dV (bs s):=by
 rw [eq_comm,Bool.eq_false_iff,ne_eq,eM]
 exact h
theorem nl (s:ByteArray) (w:World) (hs:s.size≤maxLen) (t1:¬(1≤s.size∧s.size≤32)) :
 Calls Tryz.prog 64 #[.string s] w fun e w'=>e=.returned (.bool (dV (bs s)))∧w=w':=by
 unfold maxLen at hs
 go_enter Tryz.func64,Tryz.ntmps64
 go_wp2_with fail
 all_goals
  go_ret
  exact ⟨ac (iJ (by omega)),rfl⟩
theorem hexQ {s:ByteArray} (h:4≤s.size):((s.extract 0 4).toList==[104,101,120,58])=Lib.hasPrefix (bs s) (bs tx):=by
 rw [←Lib.hasPrefix_of_take,←Lib.size_eq,←Lib.size_eq]
 have e:tx.toList=[104,101,120,58]:=by rw [ByteArray.toList_eq];rfl
 have h4:tx.size=4:=rfl
 rw [←e,dj,Bool.eq_iff_iff]
 simp [h4,h,Lib.extract_data]
theorem hexN {s:ByteArray} (h:s.size<4):Lib.hasPrefix (bs s) (bs tx)=false:=by
 rw [←Lib.hasPrefix_of_take,←Lib.size_eq,←Lib.size_eq]
 have h4:tx.size=4:=rfl
 simp [h4]
 omega
theorem eb (s:ByteArray) (w:World) (hs:s.size≤maxLen) :
 Calls Tryz.prog 64 #[.string s] w fun e w'=>e=.returned (.bool (dV (bs s)))∧w=w':=by
 by_cases t1:1≤s.size∧s.size≤32
 rotate_left
 ·exact nl s w hs t1
 unfold maxLen at hs
 have hb:(s[0].toNat:Int)≤255:=by have:=s[0].toNat_lt;omega
 by_cases hl:eZ s[0].toNat=true
 rotate_left
 ·simp only [Bool.not_eq_true] at hl
  go_enter Tryz.func64,Tryz.ntmps64
  go_wp2_with fail
  refine (cO _ w (by omega) (by omega)).mono ?_
  rintro e w1 ⟨rfl,rfl⟩
  rw [hl]
  go_wp2_with fail
  go_ret
  refine ⟨ac (iJ fun h=>?_),rfl⟩
  have:=h.1.1 0 (by omega)
  rw [cV,hl] at this
  simp at this
 have HL0:=zl hl
 have key:(4≤s.size∧((s.extract 0 4).toList==[104,101,120,58])=true)∨(Lib.hasPrefix (bs s) (bs tx)=false∧4≤s.size∧((s.extract 0 4).toList==[104,101,120,58])=false)∨(Lib.hasPrefix (bs s) (bs tx)=false∧s.size<4):=by
  by_cases t4:4≤s.size
  ·cases hx:((s.extract 0 4).toList==[104,101,120,58])
   ·exact .inr (.inl ⟨by rw [←hexQ t4,hx],t4,rfl⟩)
   ·exact .inl ⟨t4,rfl⟩
  ·exact .inr (.inr ⟨hexN (by omega),by omega⟩)
 rcases key with ⟨t4,hx⟩ | hk
 ·have HX:=zl hx
  go_enter Tryz.func64,Tryz.ntmps64
  go_wp2_with fail
  refine (cO _ w (by omega) (by omega)).mono ?_
  rintro e w1 ⟨rfl,rfl⟩
  rw [hl]
  go_wp2_with fail
  go_ret
  refine ⟨ac (iJ fun h=>?_),rfl⟩
  have h2:=h.2
  rw [←hexQ t4,HX.out] at h2
  cases h2
 have HP:=zl (show Lib.hasPrefix (bs s) (bs tx)=false by rcases hk with h | h<;>exact h.1)
 have hk':(4≤s.size∧((s.extract 0 4).toList==[104,101,120,58])=false)∨s.size<4:=by rcases hk with h | h<;>simp [h.2]
 clear hk
 rcases hk' with ⟨t4,hx⟩ | t4
 all_goals
  go_enter Tryz.func64,Tryz.ntmps64
  go_wp2_with fail
  refine (cO _ w (by omega) (by omega)).mono ?_
  rintro e w1 ⟨rfl,rfl⟩
  rw [hl]
  go_wp2_with fail
  go_loop [30] (fun i=>∃k:Nat,k≤s.size∧i=.int .i64 k∧(∀i,(h:i<k)→(h':i<s.size)→cV i s[i].toNat=true)) (fun i=>s.size-(intOf i).toNat)
  case atStart=>exact ⟨0,zo _,rfl,fun i h=>by omega⟩
  case round=>
   obtain ⟨k,hk,rfl,hall⟩:=hrel
   have HA:=zl hall
   clear hall
   by_cases hlt:k<s.size
   ·have hbk:(s[k].toNat:Int)≤255:=by have:=s[k].toNat_lt;omega
    have HN:Hid (cV 1 s[k].toNat=true→cV k s[k].toNat=true):=by
     intro h1
     rcases Nat.eq_zero_or_pos k with rfl | hk0
     ·simp [cV,HL0.out]
     ·rw [dJ] at h1 ⊢
      rcases h1 with h1 | h1
      ·exact .inl h1
      ·exact .inr ⟨by omega,h1.2⟩
    have HM:Hid (cV 1 s[k].toNat=false→¬cV k s[k].toNat=true):=by
     intro h1
     rw [Bool.eq_false_iff,ne_eq,dJ] at h1
     rw [dJ]
     intro h2
     apply h1
     rcases h2 with h2 | h2
     ·exact .inl h2
     ·exact .inr ⟨by omega,h2.2⟩
    go_wp2_with fail
    refine (oY _ w (by omega) (by omega)).mono ?_
    rintro e w1 ⟨rfl,rfl⟩
    by_cases hn:cV 1 s[k].toNat=true
    ·have HN2:=zl (HN.out hn)
     rw [hn]
     go_wp2_with fail
     go_round
     case rel=>exact ⟨k+1,by omega,by go_num,fun i h h'=>by
      rcases Nat.lt_or_ge i k with h1 | h1
      ·exact HA.out i h1 h'
      ·obtain rfl:i=k:=by omega
       exact HN2.out⟩
     case measure=>simp [intOf];omega
    ·simp only [Bool.not_eq_true] at hn
     have HN2:=zl (HM.out hn)
     rw [hn]
     go_wp2_with fail
     go_ret
     exact ⟨ac (iJ fun h=>HN2.out (h.1.1 k hlt)),rfl⟩
   ·go_wp2_with fail
    go_ret
    refine ⟨ac ?_,rfl⟩
    show true=_
    rw [eq_comm,eM]
    exact ⟨⟨fun i hi=>HA.out i (by omega) hi,by omega,by omega⟩,HP.out⟩
end Go.Proofs.YtdphibjibnffeaaGreat
