/- Rounds by looking: ay on data, without sorting; what awake must tell. No program here. -/
import Derived.Test.YtjpndglegpcdnaaGreatGo2
import Derived.Test.YtjpndglegpcdnaaGreatRule4
import Derived.Test.YtjpndglegpcdnaaGreatFc6
set_option linter.unusedVariables false
set_option linter.unusedSimpArgs false
set_option maxRecDepth 100000
set_option maxHeartbeats 8000000
namespace Go.Proofs.YtjpndglegpcdnaaGreat
open Go.ChangeShapes Go.WideShapes Go.ChangeAt Go.RowKit
def aZ (fs:List Fc) (tr:Int) (r:Ru):List Ans × Int:=
 if (aP r||bg r)=true then
  if (eH fs tr r.exprs r.body jb ⟨0,[],0⟩).e=0 then (cpt (fun a b=>aT a b==0) (iV (eH fs tr r.exprs r.body jb ⟨0,[],0⟩).out),0) else ([],(eH fs tr r.exprs r.body jb ⟨0,[],0⟩).e)
 else ([],1)
def AnsE (d:Nat) (w w':World) (R:List Ans × Int) (z:Ending):Prop:=
 ∃(L:List AnV) (A:Option Addr) (c:Nat),z=.returned (.tuple #[.slice A L.length c,.int .i64 R.2])∧L.map AnV.x=R.1∧am jC 116 w' w.heap.size 0 (.slice A L.length c) L∧(∀y∈L,bH y.x.b=true∧U32 y.x.o)∧(∀y∈L,fD (fun k=>(Value.slice A L.length c).ownBlock=some k) w' (fun w'=>(mZ (d+1)).rd w' w'.heap.size y.x y.cs))∧Below w.heap.size w w'
theorem uc:bH kD.x.b=true∧U32 kD.x.o:=⟨rfl,by unfold U32;simp [kD]⟩
theorem oK:∀(ys:List AnV) (p:AnV),(er qAn p ys).map AnV.x=er (fun a b=>aT a b==0) p.x (ys.map AnV.x)
 | [],p=>rfl
 | y::ys,p=>by
   rw [List.map_cons,er,er,←oK ys y]
   show List.map AnV.x (if (aT y.x p.x==0)=true then _ else _)=_
   split<;>rfl
theorem uG:∀(ys:List AnV),(cpt qAn ys).map AnV.x=cpt (fun a b=>aT a b==0) (ys.map AnV.x)
 | []=>rfl
 | y::ys=>by rw [List.map_cons,cpt,cpt,List.map_cons,oK]
theorem wt (xs:List AnV):((ew (xs.map AnV.x)).map (xs.getD · kD)).length=xs.length:=by rw [zB,lM,zB]
theorem wu (xs:List AnV):((ew (xs.map AnV.x)).map (xs.getD · kD)).map AnV.x=iV (xs.map AnV.x):=by
 rw [iV,List.map_map]
 refine List.map_congr_left fun i hi=>?_
 have h:=sj hi
 rw [zB] at h
 simp [h]
theorem wv (xs:List AnV):∀y∈(ew (xs.map AnV.x)).map (xs.getD · kD),y∈xs:=fun y hy=>by
 obtain ⟨i,hi,rfl⟩:=List.mem_map.1 hy
 have h:=sj hi
 rw [zB] at h
 have e:xs.getD i kD=xs[i]:=by simp [h]
 rw [e];exact List.getElem_mem h
theorem nK {r:Ru} (h:(aP r||bg r)=true):(∀p∈r.body,aE p=true)∧r.body.length≤4∧r.exprs.length≤4:=by
 have hb:gL r=true:=by
  rcases Bool.or_eq_true_iff.1 h with h | h
  ·simp only [aP,zC] at h;exact h.1.2
  ·simp only [bg,zC] at h;exact h.2
 simp only [gL,zC,zH,List.all_eq_true] at hb
 exact ⟨hb.1.1.1.2,hb.1.1.1.1,hb.1.1.2.1⟩
theorem mh {d baseS B S cs:Nat} {r:Ru} {vr:List Value} {w:World} {fs:List FV} {As:Option Addr} {tr m:Int} (hr:(RuR (d+1)).rd w B r vr) (hB:B≤w.heap.size) (hS:StA baseS d w S fs As cs) (hfew:fs.length≤100000) (hm:w.cell? ⟨0,0,none⟩=some (.int .i64 m)) (hp:0<w.heap.size) :
 Calls Tryz.prog 57 #[.agg vr.toArray,.pointer (some ⟨S,0,none⟩),.int .u32 tr] w fun z w'=>AnsE d w w' (aZ (fs.map FV.f) tr r) z:=by
 have HRD:=zu hr
 obtain ⟨_,_,_,_,rfl,hs,⟨A0,c0,rfl,h01,h02,hl0⟩,⟨A1,c1,rfl,h11,h12,hl1⟩,⟨A2,c2,rfl,h21,h22,hl2⟩,⟨A3,c3,rfl,h31,h32,hl3⟩⟩:=hr
 have HST0:Hid ((aP r||bg r)=true→WkS d w baseS B ⟨.string r.head.name,.slice A0 r.head.terms.length c0,.slice A1 r.body.length c1,.slice A2 r.exprs.length c2,.slice A3 r.scopes.length c3,S,tr⟩ fs As cs r.body A1 c1 r.exprs A2 c2 m):=zu (fun h=>⟨hS,hfew,hB,rfl,hl1,by have:=(nK h).2.1;omega,(nK h).1,rfl,hl2,by have:=(nK h).2.2;omega,hm,hp⟩)
 clear hS hfew hm hl0 hl1 hl2 hl3
 go_enter Tryz.func57,Tryz.ntmps57
 go_upto_region 1 with fail
 generalize hWW:World.alloc _ _=w1
 obtain ⟨hb1,hz⟩:=al1 hWW
 have HR1:=zu (n11 hWW)
 have HB1:=zu hb1
 have hsz1:=hb1.size
 clear hWW hb1 hz
 have k_r:=HR1.out.cell
 have l_r:=HR1.out.lt
 go_wp2_with fail
 refine (lq (vs:=[_,_,_,_,_]) ((RuR (d+1)).keep HB1.out hB HRD.out) (zv hB hsz1)).mono ?_
 rintro e w2 ⟨rfl,hb2⟩
 have HR2:=zu (HR1.out.later hb2)
 have HB2:=zu (aa HB1.out hb2)
 have hsz2:=HB2.out.size
 clear hb2 k_r l_r
 have k_r:=HR2.out.cell
 have l_r:=HR2.out.lt
 by_cases h1:aP r=true
 ·have hmm:(aP r||bg r)=true:=by rw [h1];rfl
  have HST:=zu (HST0.out hmm)
  have HBx:=HB2
  rw [h1]
  go_upto_region 4 with fail
  generalize hWW:World.alloc _ _=w4
  obtain ⟨hb4,hz⟩:=al1 hWW
  have HW4:=zu (n11 hWW)
  have HB4:=zu (aa HBx.out hb4)
  have hsz4:=HB4.out.size
  have hl4:=HW4.out.lt
  clear hWW hb4 hz k_r l_r
  have HWK:Hid (WkAt w4.heap.size d w4 w2.heap.size ⟨.string r.head.name,.slice A0 r.head.terms.length c0,.slice A1 r.body.length c1,.slice A2 r.exprs.length c2,.slice A3 r.scopes.length c3,S,tr⟩ 0 [] none 0 0):=zu ⟨HW4.out,hl4,zw _,am.nil _ _ _ _ _,fun y hy=>absurd hy (by simp),fun y hy=>absurd hy (by simp)⟩
  have HGO2:Hid (Calls Tryz.prog 76 #[.pointer (some ⟨w2.heap.size,0,none⟩),.int .i64 0,.agg #[.slice none 0 0,.slice none 0 0,.int .u32 0]] w4 fun z w'=>WkE w4.heap.size d w2.heap.size ⟨.string r.head.name,.slice A0 r.head.terms.length c0,.slice A1 r.body.length c1,.slice A2 r.exprs.length c2,.slice A3 r.scopes.length c3,S,tr⟩ w4 w' none 0 0 (eH (fs.map FV.f) tr r.exprs r.body jb ⟨0,[],0⟩) z):=zu (rJ HST.out (show w.heap.size≤w2.heap.size from HBx.out.size) r.body 0 rfl (zx _) w4 0 [] none 0 kD HB4.out HWK.out (fun w' _=>qb _ _ _) uc (by simp) (by decide))
  have l_w4:=hl4
  have HBw:Hid (w.heap.size≤w2.heap.size):=zu HBx.out.size
  generalize hWn:w2.heap.size=W at *
  have HR:Hid (aZ (fs.map FV.f) tr r=if (eH (fs.map FV.f) tr r.exprs r.body jb ⟨0,[],0⟩).e=0 then (cpt (fun a b=>aT a b==0) (iV (eH (fs.map FV.f) tr r.exprs r.body jb ⟨0,[],0⟩).out),0) else ([],(eH (fs.map FV.f) tr r.exprs r.body jb ⟨0,[],0⟩).e)):=zu (if_pos hmm)
  clear hmm
  go_wp2_with fail
  refine HGO2.out.mono ?_
  rintro z w5 ⟨xs,A,c,rfl,hout,hwk,hag,_⟩
  have hfew:=fT (fs:=fs.map FV.f) (tr:=tr) (es:=r.exprs) (ps:=r.body) (x:=jb) (s:=⟨0,[],0⟩)
  clear HGO2
  generalize eH (fs.map FV.f) tr r.exprs r.body jb ⟨0,[],0⟩=s at *
  have hn:xs.length≤1000000:=by
   have h1:=hfew.2.1 (by decide)
   have h2:=hfew.2.2
   rw [←hout,zB] at h2
   simp at h2
   omega
  have HB5:Hid (Below w.heap.size w w5):=zu (HB4.out.trans ((hag.below (base:=W) (fun k hk hm=>by rcases hm with h | h<;>first | omega | cases h) (Nat.le_of_lt hl4)).mono HBw.out))
  have HWK5:=zu hwk
  have HOUT:=zu hout
  have HW5:Hid (Blk w5 W #[.string r.head.name,.slice A0 r.head.terms.length c0,.slice A1 r.body.length c1,.slice A2 r.exprs.length c2,.slice A3 r.scopes.length c3,.pointer (some ⟨S,0,none⟩),.int .u32 tr,.int .i64 s.held,.slice A xs.length c,.int .i64 s.e]):=zu hwk.hd
  clear hag hwk hout hfew HW4 HWK
  have k_w:=HW5.out.cell
  have l_w:=HW5.out.lt
  by_cases he:s.e=0
  ·have HRE:Hid (aZ (fs.map FV.f) tr r=(cpt (fun a b=>aT a b==0) (iV s.out),0)):=zu (by rw [HR.out,if_pos he])
   have he':(s.e !=0)=false:=by rw [he];rfl
   clear HR
   by_cases hx0:xs.length=0
   ·rw [hx0] at k_w
    go_wp2_with fail
    refine pI.mono ?_
    rintro z w6 ⟨rfl,rfl⟩
    go_wp2_with fail
    refine jF.mono ?_
    rintro z w6 ⟨rfl,rfl⟩
    go_wp2_with fail
    go_ret2
    have hx1:xs=[]:=List.length_eq_zero_iff.1 hx0
    have ho:s.out=[]:=by rw [←HOUT.out,hx1];rfl
    exact ⟨[],A,c,by rw [HRE.out];rfl,by rw [HRE.out,ho,(gJ []).eq_nil];rfl,by have h:=HWK5.out.row;rw [hx1] at h;exact h.lower (by omega),fun y hy=>absurd hy (by simp),fun y hy=>absurd hy (by simp),HB5.out⟩
   ·have hx:0<xs.length:=by omega
    obtain ⟨g,c1_,e1,hg1,hg2,_⟩:=HWK5.out.row.sh bf hx
    simp only [zG,true_and] at e1
    obtain ⟨rfl,rfl⟩:=e1
    have hgW:g≠W:=by omega
    go_wp2_with fail
    refine (kB (d:=d+1) HWK5.out.row hx (fun y hy=>xd (HWK5.out.ok y hy).1) (fun y hy=>(HWK5.out.deep y hy).less (fun k _ hk=>.inr (by rw [hk];rfl))) hn).mono ?_
    rintro z w6 ⟨rfl,hrow6,hag6⟩
    have hlen6:=wt xs
    have hmap6:=wu xs
    have hmem6:=wv xs
    generalize (ew (xs.map AnV.x)).map (xs.getD · kD)=ys at *
    have HW6:=zu (hag6.blk HW5.out (fun h=>hgW h.symm))
    have HB6:Hid (Below w.heap.size w w6):=zu (HB5.out.trans (hag6.below (fun k hk hm=>by have:=HBw.out;omega) HB5.out.size))
    have hrow7:am jC 116 w6 w4.heap.size 0 (.slice (some ⟨g,0,none⟩) ys.length c) ys:=by rw [hlen6];exact hrow6
    have HCP:=zu (mB (d:=d+1) hrow7 (by omega) (fun y hy=>xd (HWK5.out.ok y (hmem6 y hy)).1) (fun y hy=>(HWK5.out.deep y (hmem6 y hy)).next (N:=fun k=>k=g) hag6 (fun k _ hk=>.inr (by rw [hk];rfl)) (fun k _ hk=>.inr (by rw [hk];rfl))) (by omega))
    rw [hlen6] at HCP
    have HM6:=zu (And.intro hmap6 hmem6)
    have HAG6:=zu hag6
    clear hag6 hrow6 hrow7 hlen6 hmap6 hmem6 k_w l_w
    have k_w:=HW6.out.cell
    have l_w:=HW6.out.lt
    go_wp2_with fail
    refine HCP.out.mono ?_
    rintro z w7 ⟨L,hL,rfl,hrow,hag7⟩
    have HROW:=zu hrow
    have HAG7:=zu hag7
    have HL:=zu hL
    clear hrow hag7 hL HCP
    go_wp2_with fail
    go_ret2
    have hsub:∀y∈L,y∈xs:=fun y hy=>HM6.out.2 y (qu qAn (by rw [←HL.out];exact hy))
    exact ⟨L,some ⟨g,0,none⟩,c,by rw [HRE.out];rfl,by rw [HRE.out,HL.out,uG,HM6.out.1,HOUT.out],HROW.out.lower (by omega),fun y hy=>HWK5.out.ok y (hsub y hy),fun y hy=>(HWK5.out.deep y (hsub y hy)).next (N:=fun k=>k=g) (HAG6.out.trans HAG7.out (fun _ _ h=>h)) (fun k _ hk=>.inr (by rw [hk];rfl)) (fun k _ hk=>.inr hk),HB6.out.trans (HAG7.out.below (fun k hk hm=>by have:=HBw.out;omega) HB6.out.size)⟩
  ·have he':(s.e !=0)=true:=by simpa using he
   have HRE:Hid (aZ (fs.map FV.f) tr r=([],s.e)):=zu (by rw [HR.out,if_neg he])
   clear HR
   go_upto_region 6 with fail
   go_region
   go_wp2_with fail
   go_ret2
   exact ⟨[],none,0,by rw [HRE.out];rfl,by rw [HRE.out];rfl,am.nil _ _ _ _ _,fun y hy=>absurd hy (by simp),fun y hy=>absurd hy (by simp),HB5.out.drew⟩
 ·have h1':aP r=false:=by simpa using h1
  rw [h1']
  go_wp2_with fail
  refine (pf (vs:=[_,_,_,_,_]) ((RuR (d+1)).keep HB2.out hB HRD.out) (zv hB hsz2)).mono ?_
  rintro e w3 ⟨rfl,hb3⟩
  have HR3:=zu (HR2.out.later hb3)
  have HB3:=zu (aa HB2.out hb3)
  have hsz3:=HB3.out.size
  clear hb3 k_r l_r
  have k_r:=HR3.out.cell
  have l_r:=HR3.out.lt
  by_cases h2:bg r=true
  ·have hmm:(aP r||bg r)=true:=by rw [h1',h2];rfl
   have HST:=zu (HST0.out hmm)
   have HBx:=HB3
   rw [h2]
   go_upto_region 4 with fail
   generalize hWW:World.alloc _ _=w4
   obtain ⟨hb4,hz⟩:=al1 hWW
   have HW4:=zu (n11 hWW)
   have HB4:=zu (aa HBx.out hb4)
   have hsz4:=HB4.out.size
   have hl4:=HW4.out.lt
   clear hWW hb4 hz k_r l_r
   have HWK:Hid (WkAt w4.heap.size d w4 w3.heap.size ⟨.string r.head.name,.slice A0 r.head.terms.length c0,.slice A1 r.body.length c1,.slice A2 r.exprs.length c2,.slice A3 r.scopes.length c3,S,tr⟩ 0 [] none 0 0):=zu ⟨HW4.out,hl4,zw _,am.nil _ _ _ _ _,fun y hy=>absurd hy (by simp),fun y hy=>absurd hy (by simp)⟩
   have HGO2:Hid (Calls Tryz.prog 76 #[.pointer (some ⟨w3.heap.size,0,none⟩),.int .i64 0,.agg #[.slice none 0 0,.slice none 0 0,.int .u32 0]] w4 fun z w'=>WkE w4.heap.size d w3.heap.size ⟨.string r.head.name,.slice A0 r.head.terms.length c0,.slice A1 r.body.length c1,.slice A2 r.exprs.length c2,.slice A3 r.scopes.length c3,S,tr⟩ w4 w' none 0 0 (eH (fs.map FV.f) tr r.exprs r.body jb ⟨0,[],0⟩) z):=zu (rJ HST.out (show w.heap.size≤w3.heap.size from HBx.out.size) r.body 0 rfl (zx _) w4 0 [] none 0 kD HB4.out HWK.out (fun w' _=>qb _ _ _) uc (by simp) (by decide))
   have l_w4:=hl4
   have HBw:Hid (w.heap.size≤w3.heap.size):=zu HBx.out.size
   generalize hWn:w3.heap.size=W at *
   have HR:Hid (aZ (fs.map FV.f) tr r=if (eH (fs.map FV.f) tr r.exprs r.body jb ⟨0,[],0⟩).e=0 then (cpt (fun a b=>aT a b==0) (iV (eH (fs.map FV.f) tr r.exprs r.body jb ⟨0,[],0⟩).out),0) else ([],(eH (fs.map FV.f) tr r.exprs r.body jb ⟨0,[],0⟩).e)):=zu (if_pos hmm)
   clear hmm
   go_wp2_with fail
   refine HGO2.out.mono ?_
   rintro z w5 ⟨xs,A,c,rfl,hout,hwk,hag,_⟩
   have hfew:=fT (fs:=fs.map FV.f) (tr:=tr) (es:=r.exprs) (ps:=r.body) (x:=jb) (s:=⟨0,[],0⟩)
   clear HGO2
   generalize eH (fs.map FV.f) tr r.exprs r.body jb ⟨0,[],0⟩=s at *
   have hn:xs.length≤1000000:=by
    have h1:=hfew.2.1 (by decide)
    have h2:=hfew.2.2
    rw [←hout,zB] at h2
    simp at h2
    omega
   have HB5:Hid (Below w.heap.size w w5):=zu (HB4.out.trans ((hag.below (base:=W) (fun k hk hm=>by rcases hm with h | h<;>first | omega | cases h) (Nat.le_of_lt hl4)).mono HBw.out))
   have HWK5:=zu hwk
   have HOUT:=zu hout
   have HW5:Hid (Blk w5 W #[.string r.head.name,.slice A0 r.head.terms.length c0,.slice A1 r.body.length c1,.slice A2 r.exprs.length c2,.slice A3 r.scopes.length c3,.pointer (some ⟨S,0,none⟩),.int .u32 tr,.int .i64 s.held,.slice A xs.length c,.int .i64 s.e]):=zu hwk.hd
   clear hag hwk hout hfew HW4 HWK
   have k_w:=HW5.out.cell
   have l_w:=HW5.out.lt
   by_cases he:s.e=0
   ·have HRE:Hid (aZ (fs.map FV.f) tr r=(cpt (fun a b=>aT a b==0) (iV s.out),0)):=zu (by rw [HR.out,if_pos he])
    have he':(s.e !=0)=false:=by rw [he];rfl
    clear HR
    by_cases hx0:xs.length=0
    ·rw [hx0] at k_w
     go_wp2_with fail
     refine pI.mono ?_
     rintro z w6 ⟨rfl,rfl⟩
     go_wp2_with fail
     refine jF.mono ?_
     rintro z w6 ⟨rfl,rfl⟩
     go_wp2_with fail
     go_ret2
     have hx1:xs=[]:=List.length_eq_zero_iff.1 hx0
     have ho:s.out=[]:=by rw [←HOUT.out,hx1];rfl
     exact ⟨[],A,c,by rw [HRE.out];rfl,by rw [HRE.out,ho,(gJ []).eq_nil];rfl,by have h:=HWK5.out.row;rw [hx1] at h;exact h.lower (by omega),fun y hy=>absurd hy (by simp),fun y hy=>absurd hy (by simp),HB5.out⟩
    ·have hx:0<xs.length:=by omega
     obtain ⟨g,c1_,e1,hg1,hg2,_⟩:=HWK5.out.row.sh bf hx
     simp only [zG,true_and] at e1
     obtain ⟨rfl,rfl⟩:=e1
     have hgW:g≠W:=by omega
     go_wp2_with fail
     refine (kB (d:=d+1) HWK5.out.row hx (fun y hy=>xd (HWK5.out.ok y hy).1) (fun y hy=>(HWK5.out.deep y hy).less (fun k _ hk=>.inr (by rw [hk];rfl))) hn).mono ?_
     rintro z w6 ⟨rfl,hrow6,hag6⟩
     have hlen6:=wt xs
     have hmap6:=wu xs
     have hmem6:=wv xs
     generalize (ew (xs.map AnV.x)).map (xs.getD · kD)=ys at *
     have HW6:=zu (hag6.blk HW5.out (fun h=>hgW h.symm))
     have HB6:Hid (Below w.heap.size w w6):=zu (HB5.out.trans (hag6.below (fun k hk hm=>by have:=HBw.out;omega) HB5.out.size))
     have hrow7:am jC 116 w6 w4.heap.size 0 (.slice (some ⟨g,0,none⟩) ys.length c) ys:=by rw [hlen6];exact hrow6
     have HCP:=zu (mB (d:=d+1) hrow7 (by omega) (fun y hy=>xd (HWK5.out.ok y (hmem6 y hy)).1) (fun y hy=>(HWK5.out.deep y (hmem6 y hy)).next (N:=fun k=>k=g) hag6 (fun k _ hk=>.inr (by rw [hk];rfl)) (fun k _ hk=>.inr (by rw [hk];rfl))) (by omega))
     rw [hlen6] at HCP
     have HM6:=zu (And.intro hmap6 hmem6)
     have HAG6:=zu hag6
     clear hag6 hrow6 hrow7 hlen6 hmap6 hmem6 k_w l_w
     have k_w:=HW6.out.cell
     have l_w:=HW6.out.lt
     go_wp2_with fail
     refine HCP.out.mono ?_
     rintro z w7 ⟨L,hL,rfl,hrow,hag7⟩
     have HROW:=zu hrow
     have HAG7:=zu hag7
     have HL:=zu hL
     clear hrow hag7 hL HCP
     go_wp2_with fail
     go_ret2
     have hsub:∀y∈L,y∈xs:=fun y hy=>HM6.out.2 y (qu qAn (by rw [←HL.out];exact hy))
     exact ⟨L,some ⟨g,0,none⟩,c,by rw [HRE.out];rfl,by rw [HRE.out,HL.out,uG,HM6.out.1,HOUT.out],HROW.out.lower (by omega),fun y hy=>HWK5.out.ok y (hsub y hy),fun y hy=>(HWK5.out.deep y (hsub y hy)).next (N:=fun k=>k=g) (HAG6.out.trans HAG7.out (fun _ _ h=>h)) (fun k _ hk=>.inr (by rw [hk];rfl)) (fun k _ hk=>.inr hk),HB6.out.trans (HAG7.out.below (fun k hk hm=>by have:=HBw.out;omega) HB6.out.size)⟩
   ·have he':(s.e !=0)=true:=by simpa using he
    have HRE:Hid (aZ (fs.map FV.f) tr r=([],s.e)):=zu (by rw [HR.out,if_neg he])
    clear HR
    go_upto_region 6 with fail
    go_region
    go_wp2_with fail
    go_ret2
    exact ⟨[],none,0,by rw [HRE.out];rfl,by rw [HRE.out];rfl,am.nil _ _ _ _ _,fun y hy=>absurd hy (by simp),fun y hy=>absurd hy (by simp),HB5.out.drew⟩
  ·have h2':bg r=false:=by simpa using h2
   have hmm:(aP r||bg r)=false:=by rw [h1',h2'];rfl
   have HR:Hid (aZ (fs.map FV.f) tr r=([],1)):=zu (by unfold aZ;rw [if_neg (by rw [hmm];decide)])
   rw [h2']
   clear hmm h1 h2
   go_wp2_with fail
   go_ret2
   exact ⟨[],none,0,by rw [HR.out];rfl,by rw [HR.out];rfl,am.nil _ _ _ _ _,fun y hy=>absurd hy (by simp),fun y hy=>absurd hy (by simp),HB3.out⟩
theorem mX:∀{a b:List Fc},bB a→bB b→(∀x,x∈a↔x∈b)→a=b
 | [],[],_,_,_=>rfl
 | [],y::b,_,_,h=>absurd ((h y).2 (by simp)) (by simp)
 | x::a,[],_,_,h=>absurd ((h x).1 (by simp)) (by simp)
 | x::a,y::b,ha,hb,h=>by
   unfold bB at ha hb
   rw [List.pairwise_cons] at ha hb
   have e:x=y:=by
    rcases List.mem_cons.1 ((h x).1 (by simp)) with e | e
    ·exact e
    ·rcases List.mem_cons.1 ((h y).2 (by simp)) with e' | e'
     ·exact e'.symm
     ·have h1:=hb.1 x e
      have h2:=ha.1 y e'
      have:=aR.anti x y
      omega
   subst e
   have hna:x∉a:=fun hx=>by have:=ha.1 x hx;rw [aR.self] at this;omega
   have hnb:x∉b:=fun hx=>by have:=hb.1 x hx;rw [aR.self] at this;omega
   rw [mX ha.2 hb.2 fun z=>?_]
   constructor
   ·intro hz
    rcases List.mem_cons.1 ((h z).1 (by simp [hz])) with e | e
    ·subst e;exact absurd hz hna
    ·exact e
   ·intro hz
    rcases List.mem_cons.1 ((h z).2 (by simp [hz])) with e | e
    ·subst e;exact absurd hz hnb
    ·exact e
def tX (f:Fc):Prop:=f.pr.name.size≤140737488351232∧U32 f.o
theorem qA {d B:Nat} {w:World} {f:Fc} {vs:List Value} (h:(ax d).rd w B f vs):tX f:=by
 obtain ⟨A,c,_,h1,_,_,_,_,h2⟩:=aF h
 exact ⟨h1,h2⟩
def stL (l:List Fc):List Fc:=l.foldl eJ []
section
variable {fs:List Fc} {f x:Fc}
theorem wX (hs:bB fs) (ho:∀x∈fs,FcOk x) (hf:tX f):x∈eJ fs f↔x∈fs∨(x=f∧aC f=true):=by
 unfold eJ mb
 by_cases h1:aC f=true
 ·by_cases h2:eK fs f=true
  ·simp only [h1,h2,Bool.not_true,Bool.and_false,Bool.false_eq_true,if_false,and_true]
   constructor
   ·exact .inl
   ·rintro (h | rfl)
    ·exact h
    ·exact (rK hs ho (iX h1 hf.1 hf.2)).1 h2
  ·simp only [h1,Bool.eq_false_iff.2 h2,Bool.not_false,Bool.and_true,if_true,du,and_true]
   exact or_comm
 ·simp [h1]
theorem addL_ok (ho:∀x∈fs,FcOk x) (hf:tX f):∀x∈eJ fs f,FcOk x:=by
 unfold eJ mb
 split
 ·rename_i h
  rw [zC] at h
  intro x hx
  rcases du.1 hx with rfl | h1
  ·exact iX h.1 hf.1 hf.2
  ·exact ho x h1
 ·exact ho
theorem nf (fs:List Fc) (f:Fc):(eJ fs f).length≤fs.length+1:=by
 unfold eJ
 split
 ·rw [bJ lD];exact zw _
 ·omega
end
theorem iW:∀(l fs:List Fc),bB fs→(∀x∈fs,FcOk x)→(∀f∈l,tX f)→bB (l.foldl eJ fs)∧(∀x∈l.foldl eJ fs,FcOk x)∧∀x,x∈l.foldl eJ fs↔x∈fs∨(x∈l∧aC x=true)
 | [],fs,h1,h2,_=>⟨h1,h2,fun x=>by simp⟩
 | f::l,fs,h1,h2,h3=>by
   obtain ⟨k1,k2,k3⟩:=iW l (eJ fs f) (qa h1) (addL_ok h2 (h3 f (by simp))) (fun g hg=>h3 g (by simp [hg]))
   refine ⟨k1,k2,fun x=>?_⟩
   rw [List.foldl_cons,k3,wX h1 h2 (h3 f (by simp)),List.mem_cons]
   constructor
   ·rintro ((h | ⟨rfl,h⟩) | ⟨h,h'⟩)
    ·exact .inl h
    ·exact .inr ⟨.inl rfl,h⟩
    ·exact .inr ⟨.inr h,h'⟩
   ·rintro (h | ⟨rfl | h,h'⟩)
    ·exact .inl (.inl h)
    ·exact .inl (.inr ⟨rfl,h'⟩)
    ·exact .inr ⟨h,h'⟩
section
variable {l l':List Fc} (hl:∀f∈l,tX f)
include hl
theorem tF:bB (stL l):=(iW l [] List.Pairwise.nil (by simp) hl).1
theorem zc:∀x∈stL l,FcOk x:=(iW l [] List.Pairwise.nil (by simp) hl).2.1
theorem stL_mem {x:Fc}:x∈stL l↔x∈l∧aC x=true:=by
 have:=(iW l [] List.Pairwise.nil (by simp) hl).2.2 x
 unfold stL
 simpa using this
end
theorem lQ:∀(l fs:List Fc),(l.foldl eJ fs).length≤fs.length+l.length
 | [],fs=>by simp
 | f::l,fs=>by
   have h1:=lQ l (eJ fs f)
   have h2:=nf fs f
   rw [List.foldl_cons,zJ];omega
theorem sk (l:List Fc) (f:Fc):stL (l++[f])=eJ (stL l) f:=by unfold stL;rw [List.foldl_append];rfl
/-! Whom is trusted. -/
/-! More facts. -/
def Ext (s s':Wst):Prop:=s.held≤s'.held∧∃l,s'.out=s.out++l
theorem Ext.refl (s:Wst):Ext s s:=⟨Int.le_refl _,[],by simp⟩
theorem Ext.trans {s t u:Wst} (h:Ext s t) (k:Ext t u):Ext s u:=by
 obtain ⟨h1,l,h2⟩:=h
 obtain ⟨k1,m,k2⟩:=k
 exact ⟨Int.le_trans h1 k1,l++m,by rw [k2,h2,List.append_assoc]⟩
theorem Ext.held {s t:Wst} {h:Int} (k:Ext ⟨s.held+1,s.out,h⟩ t):Ext s t:=by
 obtain ⟨k1,k2⟩:=k
 exact ⟨by simp only at k1;omega,k2⟩
def Sim (s s' t t':Wst):Prop:=s.held≤s'.held→s.e=0→t'.e=0→t.e=0∧t.held≤t'.held∧∃l l',t.out=s.out++l∧t'.out=s'.out++l'∧l.Sublist l'
theorem Sim.add {s s' t t' u u':Wst} (h:Sim s s' t t') (k:Sim t t' u u') (hx:Ext t' u') (he:t'.e=0):Sim s s' u u':=fun h1 h2 h3=>by
 obtain ⟨a1,a2,l,l',a3,a4,a5⟩:=h h1 h2 he
 obtain ⟨b1,b2,m,m',b3,b4,b5⟩:=k a2 a1 h3
 exact ⟨b1,b2,l++m,l'++m',by rw [b3,a3,List.append_assoc],by rw [b4,a4,List.append_assoc],a5.append b5⟩
/-! bB,each once. -/
def RiseA (L:List Ans):Prop:=L.Pairwise fun a b=>aT a b<0
def eqA (a b:Ans):Bool:=aT a b==0
theorem gD:∀{ys:List Ans} {p:Ans},(p::ys).Pairwise (fun a b=>aT a b≤0)→RiseA (er eqA p ys)∧(∀y∈er eqA p ys,aT p y<0)∧∀x∈ys,aT p x=0∨∃y∈er eqA p ys,aT y x=0
 | [],p,_=>⟨List.Pairwise.nil,by simp [er],by simp⟩
 | y::ys,p,h=>by
   rw [List.pairwise_cons] at h
   obtain ⟨h1,h2,h3⟩:=gD h.2
   have hy:=h.1 y (by simp)
   rw [er]
   by_cases he:aT y p=0
   ·have he':aT p y=0:=by have:=bX.anti p y;omega
    rw [if_pos (by simp [eqA,he])]
    refine ⟨h1,fun z hz=>bX.le_lt (by omega) (h2 z hz),fun x hx=>?_⟩
    rcases List.mem_cons.1 hx with rfl | hx
    ·exact .inl he'
    ·rcases h3 x hx with h4 | h4
     ·rcases bX.zero_l (z:=x) he' with k | ⟨_,k⟩ | ⟨_,k⟩<;>first | (exact .inl (by omega)) | omega
     ·exact .inr h4
   ·have hlt:aT p y<0:=by have:=bX.anti p y;omega
    rw [if_neg (by simp [eqA,he])]
    refine ⟨List.Pairwise.cons h2 h1,fun z hz=>?_,fun x hx=>?_⟩
    ·rcases List.mem_cons.1 hz with rfl | hz
     ·exact hlt
     ·exact bX.lt_le hlt (Int.le_of_lt (h2 z hz))
    ·rcases List.mem_cons.1 hx with rfl | hx
     ·exact .inr ⟨x,by simp,bX.self x⟩
     ·rcases h3 x hx with h4 | ⟨z,hz,h4⟩
      ·exact .inr ⟨y,by simp,h4⟩
      ·exact .inr ⟨z,by simp [hz],h4⟩
def lT (L:List Ans):List Ans:=cpt eqA (iV L)
theorem tK (L:List Ans):RiseA (lT L)∧(∀x∈L,∃y∈lT L,aT y x=0)∧∀y∈lT L,y∈L:=by
 have hs:=pJ L
 have hp:=gJ L
 refine ⟨?_,?_,fun y hy=>hp.mem_iff.1 (qu _ hy)⟩
 ·unfold lT
  generalize iV L=S at *
  cases S with
  | nil=>exact List.Pairwise.nil
  | cons p ys=>exact List.Pairwise.cons (gD hs).2.1 (gD hs).1
 ·intro x hx
  have hx':=hp.mem_iff.2 hx
  unfold lT
  generalize iV L=S at *
  cases S with
  | nil=>simp at hx'
  | cons p ys=>
    rcases List.mem_cons.1 hx' with rfl | hx'
    ·exact ⟨x,by simp [cpt],bX.self x⟩
    ·rcases (gD hs).2.2 x hx' with h | ⟨y,hy,h⟩
     ·exact ⟨p,by simp [cpt],h⟩
     ·exact ⟨y,by simp [cpt,hy],h⟩
def yk (fs:List Fc) (tr:Int) (r:Ru):Wst:=eH fs tr r.exprs r.body jb ⟨0,[],0⟩
theorem kC (fs:List Fc) (tr:Int) (r:Ru):aZ fs tr r=if (aP r||bg r)=true then (if (yk fs tr r).e=0 then (lT (yk fs tr r).out,0) else ([],(yk fs tr r).e)) else ([],1):=rfl
theorem rx:∀{a b:List aY},dF a b=0→a=b
 | [],[],_=>rfl
 | [],_::_,h=>by simp [dF] at h
 | _::_,[],h=>by simp [dF] at h
 | x::a,y::b,h=>by
   rw [dF] at h
   split at h
   ·rename_i h0
    rw [fK.1 h0,rx h]
   ·exact absurd h ‹_›
theorem ans_eq {x y:Ans} (hx:bH x.b=true) (hy:bH y.b=true) (h:aT x y=0):x=y:=by
 simp only [aT,orL] at h
 split at h
 ·rename_i h1
  split at h
  ·rename_i h2
   split at h
   ·rename_i h3
    obtain ⟨⟨n,t⟩,o⟩:=x
    obtain ⟨⟨n',t'⟩,o'⟩:=y
    have e1:n=n':=rx h1
    have e2:t=t':=nY (fun z hz=>(aN ((dU hx).1.fixed z hz)).1) (fun z hz=>(aN ((dU hy).1.fixed z hz)).1) h2
    have e3:o=o':=dX.1 h3
    rw [e1,e2,e3]
   ·exact absurd h ‹_›
  ·exact absurd h ‹_›
 ·exact absurd h ‹_›
def cX (i:Nat):Int:=((2 ^ i:Nat):Int)
structure OwD where
 rule:Ru
 block:Int
 trusted:Int
def ii (o:OwD):Bool:=aP o.rule&&(decide (0≤o.block)&&decide (o.block<8)||decide (o.block=15))
theorem qR {o:OwD} (h:ii o=true):aP o.rule=true∧0≤o.block∧o.block.toNat<16:=by
 unfold ii at h
 simp only [zC,Bool.or_eq_true,zH] at h
 refine ⟨h.1,?_,?_⟩<;>omega
def jn (o:OwD) (a:Ans):Option Fc:=match gP o.rule.head a.b with | some p=>some ⟨p,orO a.o (cX o.block.toNat)⟩ | none=>none
def aB (fs:List Fc) (o:OwD):List Fc × Int:=((aZ fs o.trusted o.rule).1.filterMap (jn o),(aZ fs o.trusted o.rule).2)
def fi (fs:List Fc):List OwD→List Fc × Int
 | []=>([],0)
 | o::rs=>if (aB fs o).2≠0 then ([],(aB fs o).2) else if (fi fs rs).2≠0 then ([],(fi fs rs).2) else ((aB fs o).1.filter (fun f=>!eK fs f)++(fi fs rs).1,0)
def ay (fs:List Fc) (rs:List OwD):List Fc × Int:=if rs.all ii=true then (if (fi fs rs).2≠0 then ([],(fi fs rs).2) else (setL aD (fi fs rs).1,0)) else ([],1)
def mc (rs:List OwD) (lf lr:Int):Nat→List Fc→Int→Option (List Fc) × Int × Int
 | 0,_,_=>(none,0,11)
 | n+1,fs,k=>if (ay fs rs).2≠0 then (none,0,(ay fs rs).2) else if (ay fs rs).1.length=0 then (some fs,k,0) else if k=lr then (none,0,11) else if lf<fs.length+(ay fs rs).1.length then (none,0,10) else mc rs lf lr n ((ay fs rs).1.foldl eJ fs) (k+1)
def wV (lf lr:Int):Bool:=(decide (1≤lf)&&decide (lf≤1000))&&(decide (1≤lr)&&decide (lr≤100))
def jl (l:List Fc) (rs:List OwD) (lf lr:Int):Option (List Fc) × Int × Int:=
 if wV lf lr=true then (if (l.all aC&&rs.all ii)=true then (if lf<(stL l).length then (none,0,10) else mc rs lf lr 101 (stL l) 0) else (none,0,1)) else (none,0,1)
/-! Numbers. -/
theorem vN (a b:Int):orO a b=((BitVec.ofInt 32 a ||| BitVec.ofInt 32 b).toNat:Int):=by
 have h:=(BitVec.ofInt 32 a ||| BitVec.ofInt 32 b).isLt
 have e:orO a b=((BitVec.ofInt 32 a ||| BitVec.ofInt 32 b).toNat:Int) % 4294967296:=rfl
 rw [e]
 exact Int.emod_eq_of_lt (Int.natCast_nonneg _) (by omega)
theorem rV (a b:Int):U32 (orO a b):=by
 have h:=(BitVec.ofInt 32 a ||| BitVec.ofInt 32 b).isLt
 rw [vN]
 exact ⟨Int.natCast_nonneg _,by omega⟩
theorem vM {a:Int} {k:Nat} (hk:k<16):(orO a (cX k)).toNat.testBit k=true:=by
 rw [vN,Int.toNat_natCast,BitVec.toNat_or,Nat.testBit_or,Bool.or_eq_true]
 right
 have h1:BitVec.ofInt 32 (cX k)=BitVec.ofNat 32 (2 ^ k):=by unfold cX;exact BitVec.ofInt_natCast _ _
 have h2:(2:Nat) ^ k≤2 ^ 15:=Nat.pow_le_pow_right (by omega) (by omega)
 rw [h1,BitVec.toNat_ofNat,Nat.mod_eq_of_lt (by omega),Nat.testBit_two_pow_self]
theorem orO_ne {a:Int} {k:Nat} (hk:k<16):orO a (cX k)≠0:=fun h=>by
 have:=vM (a:=a) hk
 rw [h] at this
 simp at this
/-! Answers. -/
theorem oJ:∀{ys:List Ans} {p:Ans},(er eqA p ys).length≤ys.length
 | [],_=>zw _
 | y::ys,p=>by
   rw [er]
   have:=oJ (ys:=ys) (p:=y)
   split<;>simp only [zJ]<;>omega
theorem yu (L:List Ans):(lT L).length≤L.length:=by
 have h:=(gJ L).length_eq
 unfold lT
 cases hs:iV L with
 | nil=>simp [cpt]
 | cons p ys=>
   rw [hs] at h
   have:=oJ (ys:=ys) (p:=p)
   rw [cpt]
   simp only [zJ] at h ⊢
   omega
theorem gY (fs:List Fc) (tr:Int) (r:Ru):(aZ fs tr r).1.length≤1000000:=by
 rw [kC]
 split
 ·split
  ·have h1:=fT (fs:=fs) (tr:=tr) (es:=r.exprs) (ps:=r.body) (x:=jb) (s:=⟨0,[],0⟩)
   have h2:=h1.2.1 (by decide)
   have h3:=h1.2.2
   have h4:=yu (yk fs tr r).out
   simp at h3
   show (lT _).length≤_
   unfold yk at h4 ⊢
   omega
  ·simp
 ·simp
theorem rD {b:Bd} (hb:OkN b):∀{xs zs:List Tm},(∀x∈xs,fy x=true)→gO b xs=some zs→zs.length=xs.length∧∀z∈zs,af z=true
 | [],zs,_,h=>by cases h;exact ⟨rfl,by simp⟩
 | x::xs,zs,hx,h=>by
   rw [gO] at h
   split at h
   ·rename_i z hz
    split at h
    ·rename_i zs' hzs
     cases h
     obtain ⟨h1,h2⟩:=rD hb (fun y hy=>hx y (by simp [hy])) hzs
     refine ⟨by simp [h1],fun u hu=>?_⟩
     rcases List.mem_cons.1 hu with rfl | hu
     ·unfold nA at hz
      split at hz
      ·exact mK hb hz
      ·rename_i hk
       cases hz
       unfold af
       rw [decide_eq_true hk,hx _ (by simp)];rfl
     ·exact h2 u hu
    ·cases h
   ·cases h
theorem fill_ok {p q:Pr} {b:Bd} (h:gP p b=some q):q.name=p.name∧q.terms.length=p.terms.length∧aE p=true∧∀t∈q.terms,af t=true:=by
 unfold gP at h
 split at h
 ·rename_i hm
  split at h
  ·rename_i zs hz
   cases h
   obtain ⟨h1,h2⟩:=rD (dS.1 hm.2).1 (gf hm.1).2 hz
   exact ⟨rfl,h1,hm.1,h2⟩
  ·cases h
 ·cases h
structure HeadOf (o:OwD) (f:Fc):Prop where
 name:f.pr.name=o.rule.head.name
 len:f.pr.terms.length=o.rule.head.terms.length
 bit:f.o.toNat.testBit o.block.toNat=true
theorem uY {o:OwD} {a:Ans} {f:Fc} (ho:ii o=true) (h:jn o a=some f):aC f=true∧FcOk f∧HeadOf o f:=by
 unfold jn at h
 split at h
 ·rename_i p hp
  cases h
  obtain ⟨h1,h2,h3,h4⟩:=fill_ok hp
  have hk:=(qR ho).2.2
  have hn:dO (bs o.rule.head.name)=true:=by
   unfold aE at h3
   simp only [zC] at h3
   exact h3.1.1.1
  have h8:=(gf h3).1
  have hst:aC ⟨p,orO a.o (cX o.block.toNat)⟩=true:=by
   unfold aC
   rw [decide_eq_true (orO_ne hk),h1,hn,h2,decide_eq_true h8,List.all_eq_true.2 h4];rfl
  have hs:p.name.size≤140737488351232:=by
   rw [h1]
   have:=(ee _).1 hn
   omega
  exact ⟨hst,iX hst hs (rV _ _),⟨h1,h2,vM hk⟩⟩
 ·cases h
section
variable {fs gs:List Fc} {rs rs':List OwD} {f:Fc} {lf lr:Int}
theorem sR {o:OwD} (ho:ii o=true) (h:f∈(aB fs o).1):aC f=true∧FcOk f∧HeadOf o f:=by
 obtain ⟨a,_,h2⟩:=List.mem_filterMap.1 h
 exact uY ho h2
theorem fj:∀{rs:List OwD},(fi fs rs).2=0↔∀o∈rs,(aB fs o).2=0
 | []=>by simp [fi]
 | o::rs=>by
   rw [fi]
   split
   ·rename_i h
    constructor
    ·intro h1;exact absurd h1 h
    ·intro h1;exact h1 o (by simp)
   ·rename_i h
    split
    ·rename_i h2
     constructor
     ·intro h1;exact absurd h1 h2
     ·intro h1;exact fj.2 (fun p hp=>h1 p (by simp [hp]))
    ·rename_i h2
     refine ⟨fun _ p hp=>?_,fun _=>rfl⟩
     rcases List.mem_cons.1 hp with rfl | hp
     ·exact Classical.not_not.1 h
     ·exact fj.1 (Classical.not_not.1 h2) p hp
theorem ko:∀{rs:List OwD},(fi fs rs).2=0→(f∈(fi fs rs).1↔∃o∈rs,f∈(aB fs o).1∧eK fs f=false)
 | [],_=>by simp [fi]
 | o::rs,h=>by
   have h0:=fj.1 h
   have h1:(aB fs o).2=0:=h0 o (by simp)
   have h2:(fi fs rs).2=0:=fj.2 fun p hp=>h0 p (by simp [hp])
   rw [fi,if_neg (by simp [h1]),if_neg (by simp [h2])]
   show f∈_++_↔_
   rw [List.mem_append,ko h2,List.mem_filter]
   constructor
   ·rintro (⟨a,b⟩ | ⟨p,a,b⟩)
    ·exact ⟨o,by simp,a,by simpa using b⟩
    ·exact ⟨p,by simp [a],b⟩
   ·rintro ⟨p,a,b⟩
    rcases List.mem_cons.1 a with rfl | a
    ·exact .inl ⟨b.1,by simp [b.2]⟩
    ·exact .inr ⟨p,a,b⟩
theorem lJ:(ay fs rs).2=0↔rs.all ii=true∧∀o∈rs,(aB fs o).2=0:=by
 unfold ay
 split
 ·rename_i h1
  split
  ·rename_i h2
   constructor
   ·intro h;exact absurd h h2
   ·intro h;exact fj.2 h.2
  ·rename_i h2
   exact ⟨fun _=>⟨h1,fj.1 (Classical.not_not.1 h2)⟩,fun _=>rfl⟩
 ·rename_i h1
  constructor
  ·intro h;cases h
  ·intro h;exact absurd h.1 h1
theorem eT (h:(ay fs rs).2=0):(ay fs rs).1=setL aD (fi fs rs).1∧(fi fs rs).2=0:=by
 have h1:=lJ.1 h
 have h2:=fj.2 h1.2
 unfold ay
 rw [if_pos h1.1,if_neg (by simp [h2])]
 exact ⟨rfl,h2⟩
theorem vL (h:(ay fs rs).2=0) (hf:f∈(fi fs rs).1):aC f=true∧FcOk f∧∃o∈rs,HeadOf o f:=by
 obtain ⟨o,h1,h2,_⟩:=(ko (eT h).2).1 hf
 obtain ⟨h3,h4,h5⟩:=sR (List.all_eq_true.1 (lJ.1 h).1 o h1) h2
 exact ⟨h3,h4,o,h1,h5⟩
theorem vK (h:(ay fs rs).2=0):∀a∈(fi fs rs).1,∀b∈(fi fs rs).1,aD a b=0→a=b:=fun a ha b hb e=>(gA (vL h ha).2.1 (vL h hb).2.1).1 e
theorem pH (h:(ay fs rs).2=0):bB (ay fs rs).1:=by rw [(eT h).1];exact lL aR (vK h)
theorem pG (h:(ay fs rs).2=0):f∈(ay fs rs).1↔∃o∈rs,f∈(aB fs o).1∧eK fs f=false:=by
 rw [(eT h).1,sf aR (vK h),ko (eT h).2]
theorem gI (h:(ay fs rs).2=0) (hf:f∈(ay fs rs).1):aC f=true∧FcOk f∧∃o∈rs,HeadOf o f:=
 vL h ((ko (eT h).2).2 ((pG h).1 hf))
structure StF (fs:List Fc):Prop where
 sort:bB fs
 ok:∀x∈fs,FcOk x
 st:∀x∈fs,aC x=true
theorem StF.has (h:StF fs) (hf:FcOk f):eK fs f=true↔f∈fs:=rK h.sort h.ok hf
theorem StF.more (h:StF fs) (hr:(ay fs rs).2=0):StF ((ay fs rs).1.foldl eJ fs)∧∀x,x∈(ay fs rs).1.foldl eJ fs↔x∈fs∨x∈(ay fs rs).1:=by
 have hin:∀f∈(ay fs rs).1,tX f:=fun f hf=>⟨(gI hr hf).2.1.name,(gI hr hf).2.1.o⟩
 obtain ⟨h1,h2,h3⟩:=iW (ay fs rs).1 fs h.sort h.ok hin
 have h4:∀x,x∈(ay fs rs).1.foldl eJ fs↔x∈fs∨x∈(ay fs rs).1:=fun x=>by
  rw [h3]
  exact or_congr_right ⟨fun k=>k.1,fun k=>⟨k,(gI hr k).1⟩⟩
 refine ⟨⟨h1,h2,fun x hx=>?_⟩,h4⟩
 rcases (h4 x).1 hx with k | k
 ·exact h.st x k
 ·exact (gI hr k).1
theorem StF.of {l:List Fc} (hl:∀f∈l,tX f):StF (stL l):=⟨tF hl,zc hl,fun x hx=>((stL_mem hl).1 hx).2⟩
structure RunOk (rs:List OwD) (lf lr:Int) (fs gs:List Fc) (m:Int):Prop where
 st:StF gs
 done:ay gs rs=([],0)
 few:(gs.length:Int)≤lf
 rounds:m≤lr
 sub:∀x∈fs,x∈gs
 heads:∀x∈gs,x∈fs∨∃o∈rs,HeadOf o x
theorem uS:∀{n:Nat} {fs:List Fc} {k:Int},StF fs→k≤lr→(fs.length:Int)≤lf→(mc rs lf lr n fs k).2.2=0→∃gs m,mc rs lf lr n fs k=(some gs,m,0)∧0≤m-k∧RunOk rs lf lr fs gs m
 | 0,fs,k,_,_,_,h=>by cases h
 | n+1,fs,k,hs,hk,hf,h=>by
   rw [mc] at h ⊢
   split
   ·rename_i h1;rw [if_pos h1] at h;exact absurd h h1
   ·rename_i h1
    rw [if_neg h1] at h
    have h1':=Classical.not_not.1 h1
    split
    ·rename_i h2
     refine ⟨fs,k,rfl,by omega,hs,Prod.ext (List.eq_nil_of_length_eq_zero h2) h1',hf,hk,fun _ hx=>hx,fun _ hx=>.inl hx⟩
    ·rename_i h2
     rw [if_neg h2] at h
     split
     ·rename_i h3;rw [if_pos h3] at h;cases h
     ·rename_i h3
      rw [if_neg h3] at h
      split
      ·rename_i h4;rw [if_pos h4] at h;cases h
      ·rename_i h4
       rw [if_neg h4] at h
       obtain ⟨k1,k2⟩:=hs.more h1'
       have k3:=lQ (ay fs rs).1 fs
       obtain ⟨gs,m,e,h5,h6⟩:=uS k1 (by omega) (by omega) h
       refine ⟨gs,m,e,by omega,h6.st,h6.done,h6.few,h6.rounds,fun x hx=>h6.sub x ((k2 x).2 (.inl hx)),fun x hx=>?_⟩
       rcases h6.heads x hx with h7 | h7
       ·exact ((k2 x).1 h7).imp id fun h8=>(gI h1' h8).2.2
       ·exact .inr h7
theorem run_ok {l:List Fc} (hl:∀f∈l,tX f) (h:(jl l rs lf lr).2.2=0):∃gs m,jl l rs lf lr=(some gs,m,0)∧0≤m∧RunOk rs lf lr (stL l) gs m∧l.all aC=true∧rs.all ii=true∧wV lf lr=true∧mc rs lf lr 101 (stL l) 0=(some gs,m,0):=by
 unfold jl at h ⊢
 split
 ·rename_i h1
  rw [if_pos h1] at h
  split
  ·rename_i h2
   rw [if_pos h2] at h
   rw [zC] at h2
   split
   ·rename_i h3;rw [if_pos h3] at h;cases h
   ·rename_i h3
    rw [if_neg h3] at h
    have h1':=h1
    simp only [wV,zC,zH] at h1'
    obtain ⟨gs,m,e,h4,h5⟩:=uS (StF.of hl) (by omega) (by omega) h
    exact ⟨gs,m,e,by omega,h5,h2.1,h2.2,h1,e⟩
  ·rename_i h2;rw [if_neg h2] at h;cases h
 ·rename_i h1;rw [if_neg h1] at h;cases h
end
def rawR (fs:List Fc) (o:OwD):List Fc:=(yk fs o.trusted o.rule).out.filterMap (jn o)
def okR (fs:List Fc) (o:OwD):Bool:=decide ((yk fs o.trusted o.rule).e=0)&&(yk fs o.trusted o.rule).out.all fun x=>bH x.b
theorem sm {L:List Ans} (h:L.all (fun x=>bH x.b)=true) {x:Ans}:x∈lT L↔x∈L:=by
 obtain ⟨_,h1,h2⟩:=tK L
 refine ⟨h2 x,fun hx=>?_⟩
 obtain ⟨y,hy,e⟩:=h1 x hx
 have h3:=List.all_eq_true.1 h
 obtain rfl:=ans_eq (h3 y (h2 y hy)) (h3 x hx) e
 exact hy
theorem qY {fs:List Fc} {o:OwD} (h1:ii o=true) (h:okR fs o=true):(aB fs o).2=0∧∀f,f∈(aB fs o).1↔f∈rawR fs o:=by
 unfold okR at h
 simp only [zC,zH] at h
 obtain ⟨h2,h3⟩:=h
 have hm:=(qR h1).1
 have e:aZ fs o.trusted o.rule=(lT (yk fs o.trusted o.rule).out,0):=by
  rw [kC,if_pos (by rw [hm];rfl),if_pos h2]
 unfold aB
 rw [e]
 refine ⟨rfl,fun f=>?_⟩
 unfold rawR
 rw [List.mem_filterMap,List.mem_filterMap]
 exact ⟨fun ⟨a,ha,k⟩=>⟨a,(sm h3).1 ha,k⟩,fun ⟨a,ha,k⟩=>⟨a,(sm h3).2 ha,k⟩⟩
theorem kq {fs X:List Fc} {rs:List OwD} (h0:rs.all ii=true) (h1:rs.all (okR fs)=true) (hX:(rs.flatMap fun o=>(rawR fs o).filter fun f=>!eK fs f)=X) (hs:bB X):ay fs rs=(X,0):=by
 have h2:∀o∈rs,_:=fun o ho=>qY (List.all_eq_true.1 h0 o ho) (List.all_eq_true.1 h1 o ho)
 have h3:(ay fs rs).2=0:=lJ.2 ⟨h0,fun o ho=>(h2 o ho).1⟩
 refine Prod.ext (mX (pH h3) hs fun f=>?_) h3
 rw [pG h3,←hX,List.mem_flatMap]
 constructor
 ·rintro ⟨o,ho,h4,h5⟩
  exact ⟨o,ho,List.mem_filter.2 ⟨((h2 o ho).2 f).1 h4,by rw [h5];rfl⟩⟩
 ·rintro ⟨o,ho,h4⟩
  obtain ⟨h5,h6⟩:=List.mem_filter.1 h4
  exact ⟨o,ho,((h2 o ho).2 f).2 h5,by simpa using h6⟩
theorem nC {fs gs X:List Fc} {rs:List OwD} {lf lr k k':Int} {n:Nat} (h:ay fs rs=(X,0)) (h1:X.length≠0) (h2:k≠lr) (h3:¬lf<(fs.length:Int)+(X.length:Int)) (h4:X.foldl eJ fs=gs) (hk:k+1=k'):mc rs lf lr (n+1) fs k=mc rs lf lr n gs k':=by
 subst hk
 rw [mc,h,if_neg (show ¬((X,(0:Int)).2≠0) by simp),if_neg h1,if_neg h2,if_neg h3,h4]
theorem nB {fs:List Fc} {rs:List OwD} {lf lr k:Int} {n:Nat} (h:ay fs rs=([],0)):mc rs lf lr (n+1) fs k=(some fs,k,0):=by
 rw [mc,h,if_neg (show ¬((([]:List Fc),(0:Int)).2≠0) by simp),if_pos (by rfl)]
def pwP:ByteArray:=⟨#[112,97,116,104]⟩
def pwE:ByteArray:=⟨#[101,100,103,101]⟩
def pwV (b:UInt8):Tm:=⟨1,0,⟨#[b]⟩,[]⟩
def pwN (n:Int):Tm:=⟨2,n,⟨#[]⟩,[]⟩
def pwQ (s:ByteArray) (a b:Tm):Pr:=⟨s,[a,b]⟩
def pwF (s:ByteArray) (a b:Int):Fc:=⟨pwQ s (pwN a) (pwN b),1⟩
def rY:Ru:=⟨pwQ pwP (pwV 120) (pwV 121),[pwQ pwE (pwV 120) (pwV 121)],[],[]⟩
def rZ:Ru:=⟨pwQ pwP (pwV 120) (pwV 122),[pwQ pwP (pwV 120) (pwV 121),pwQ pwE (pwV 121) (pwV 122)],[],[]⟩
def pwO (t:Int):List OwD:=[⟨rY,0,t⟩,⟨rZ,0,t⟩]
def pw0:List Fc:=[pwF pwE 1 2,pwF pwE 2 3]
def pw1:List Fc:=[pwF pwE 1 2,pwF pwE 2 3,pwF pwP 1 2,pwF pwP 2 3]
def pw2:List Fc:=[pwF pwE 1 2,pwF pwE 2 3,pwF pwP 1 2,pwF pwP 1 3,pwF pwP 2 3]
theorem mI (L M:List aY):iI (ey L) (ey M)=L.all (fun s=>decide (s∈M)):=by
 unfold iI
 rw [Bool.eq_iff_iff,List.all_eq_true,List.all_eq_true]
 simp only [zH,lu]
theorem vW:aP rY=true:=by
 unfold aP
 rw [mI]
 kernel_rfl
theorem vX:aP rZ=true:=by
 unfold aP
 rw [mI]
 kernel_rfl
theorem sa (t:Int):(pwO t).all ii=true:=by
 simp only [pwO,List.all_cons,List.all_nil,ii,vW,vX]
 rfl
theorem pw_r0:ay pw0 (pwO 1)=([pwF pwP 1 2,pwF pwP 2 3],0):=
 kq (sa 1) (by kernel_rfl) (by kernel_rfl) (List.pairwise_cons.2 ⟨fun x hx=>by
  obtain rfl:=List.mem_singleton.1 hx
  exact of_decide_eq_true (by kernel_rfl),List.pairwise_singleton _ _⟩)
theorem pw_r1:ay pw1 (pwO 1)=([pwF pwP 1 3],0):=
 kq (sa 1) (by kernel_rfl) (by kernel_rfl) (List.pairwise_singleton _ _)
theorem pw_r2:ay pw2 (pwO 1)=([],0):=
 kq (sa 1) (by kernel_rfl) (by kernel_rfl) List.Pairwise.nil
theorem pw_fix:jl pw0 (pwO 1) 10 5=(some pw2,2,0):=by
 have e0:stL pw0=pw0:=by kernel_rfl
 have e1:[pwF pwP 1 2,pwF pwP 2 3].foldl eJ pw0=pw1:=by kernel_rfl
 have e2:[pwF pwP 1 3].foldl eJ pw1=pw2:=by kernel_rfl
 have g:mc (pwO 1) 10 5 101 pw0 0=(some pw2,2,0):=by
  rw [nC (n:=100) (k':=1) pw_r0 (by decide) (by decide) (by decide) e1 rfl,nC (n:=99) (k':=2) pw_r1 (by decide) (by decide) (by decide) e2 rfl,nB (n:=98) pw_r2]
 unfold jl
 rw [if_pos (by kernel_rfl),if_pos (by rw [sa];kernel_rfl),e0,if_neg (by decide),g]
theorem pw_has:eK pw2 (pwF pwP 1 3)=true:=by kernel_rfl
end Go.Proofs.YtjpndglegpcdnaaGreat
