/- The bit of a block. -/
import Derived.Test.YtjpndglegpcdnaaGreatCpt0
import Derived.Test.YtjpndglegpcdnaaGreatRule2
import Derived.Test.YtjpndglegpcdnaaGreatRule4
import Derived.Test.YtjpndglegpcdnaaGreatFc6
set_option linter.unusedVariables false
set_option linter.unusedSimpArgs false
set_option maxRecDepth 100000
set_option maxHeartbeats 8000000
namespace Go.Proofs.YtjpndglegpcdnaaGreat
open Go.ChangeShapes Go.WideShapes Go.ChangeAt Go.RowKit
def aX (fs:List Fc) (tr:Int) (r:Ru):List Ans × Int:=
 if (aM r||aZ r)=true then
  if (ey fs tr r.exprs r.body iO ⟨0,[],0⟩).e=0 then (cpt (fun a b=>aR a b==0) (iJ (ey fs tr r.exprs r.body iO ⟨0,[],0⟩).out),0) else ([],(ey fs tr r.exprs r.body iO ⟨0,[],0⟩).e)
 else ([],1)
def AnsE (d:Nat) (w w':World) (R:List Ans × Int) (z:Ending):Prop:=
 ∃(L:List AnV) (A:Option Addr) (c:Nat),z=.returned (.tuple #[.slice A L.length c,.int .i64 R.2])∧L.map AnV.x=R.1∧am jo 116 w' w.heap.size 0 (.slice A L.length c) L∧(∀y∈L,bB y.x.b=true∧U32 y.x.o)∧(∀y∈L,fl (fun k=>(Value.slice A L.length c).ownBlock=some k) w' (fun w'=>(mJ (d+1)).rd w' w'.heap.size y.x y.cs))∧Below w.heap.size w w'
theorem te:bB kq.x.b=true∧U32 kq.x.o:=⟨rfl,by unfold U32;simp [kq]⟩
theorem oc:∀(ys:List AnV) (p:AnV),(ec qAn p ys).map AnV.x=ec (fun a b=>aR a b==0) p.x (ys.map AnV.x)
 | [],p=>rfl
 | y::ys,p=>by
   rw [List.map_cons,ec,ec,←oc ys y]
   show List.map AnV.x (if (aR y.x p.x==0)=true then _ else _)=_
   split<;>rfl
theorem tG:∀(ys:List AnV),(cpt qAn ys).map AnV.x=cpt (fun a b=>aR a b==0) (ys.map AnV.x)
 | []=>rfl
 | y::ys=>by rw [List.map_cons,cpt,cpt,List.map_cons,oc]
theorem uY (xs:List AnV):((ee (xs.map AnV.x)).map (xs.getD · kq)).length=xs.length:=by rw [yw,lw,yw]
theorem uZ (xs:List AnV):((ee (xs.map AnV.x)).map (xs.getD · kq)).map AnV.x=iJ (xs.map AnV.x):=by
 rw [iJ,List.map_map]
 refine List.map_congr_left fun i hi=>?_
 have h:=rt hi
 rw [yw] at h
 simp [h]
theorem vc (xs:List AnV):∀y∈(ee (xs.map AnV.x)).map (xs.getD · kq),y∈xs:=fun y hy=>by
 obtain ⟨i,hi,rfl⟩:=List.mem_map.1 hy
 have h:=rt hi
 rw [yw] at h
 have e:xs.getD i kq=xs[i]:=by simp [h]
 rw [e];exact List.getElem_mem h
theorem nj {r:Ru} (h:(aM r||aZ r)=true):(∀p∈r.body,aB p=true)∧r.body.length≤4∧r.exprs.length≤4:=by
 have hb:gA r=true:=by
  rcases Bool.or_eq_true_iff.1 h with h | h
  ·simp only [aM,yx] at h;exact h.1.2
  ·simp only [aZ,yx] at h;exact h.2
 simp only [gA,yx,yC,List.all_eq_true] at hb
 exact ⟨hb.1.1.1.2,hb.1.1.1.1,hb.1.1.2.1⟩
theorem lL {d baseS B S cs:Nat} {r:Ru} {vr:List Value} {w:World} {fs:List FV} {As:Option Addr} {tr m:Int} (hr:(RuR (d+1)).rd w B r vr) (hB:B≤w.heap.size) (hS:StA baseS d w S fs As cs) (hfew:fs.length≤100000) (hm:w.cell? ⟨0,0,none⟩=some (.int .i64 m)) (hp:0<w.heap.size) :
 Calls Tryz.prog 57 #[.agg vr.toArray,.pointer (some ⟨S,0,none⟩),.int .u32 tr] w fun z w'=>AnsE d w w' (aX (fs.map FV.f) tr r) z:=by
 have HRD:=ym hr
 obtain ⟨_,_,_,_,rfl,hs,⟨A0,c0,rfl,h01,h02,hl0⟩,⟨A1,c1,rfl,h11,h12,hl1⟩,⟨A2,c2,rfl,h21,h22,hl2⟩,⟨A3,c3,rfl,h31,h32,hl3⟩⟩:=hr
 have HST0:Hid ((aM r||aZ r)=true→WkS d w baseS B ⟨.string r.head.name,.slice A0 r.head.terms.length c0,.slice A1 r.body.length c1,.slice A2 r.exprs.length c2,.slice A3 r.scopes.length c3,S,tr⟩ fs As cs r.body A1 c1 r.exprs A2 c2 m):=ym (fun h=>⟨hS,hfew,hB,rfl,hl1,by have:=(nj h).2.1;omega,(nj h).1,rfl,hl2,by have:=(nj h).2.2;omega,hm,hp⟩)
 clear hS hfew hm hl0 hl1 hl2 hl3
 go_enter Tryz.func57,Tryz.ntmps57
 go_upto_region 1 with fail
 generalize hWW:World.alloc _ _=w1
 obtain ⟨hb1,hz⟩:=al1 hWW
 have HR1:=ym (n11 hWW)
 have HB1:=ym hb1
 have hsz1:=hb1.size
 clear hWW hb1 hz
 have k_r:=HR1.out.cell
 have l_r:=HR1.out.lt
 go_wp2_with fail
 refine (kZ (vs:=[_,_,_,_,_]) ((RuR (d+1)).keep HB1.out hB HRD.out) (yn hB hsz1)).mono ?_
 rintro e w2 ⟨rfl,hb2⟩
 have HR2:=ym (HR1.out.later hb2)
 have HB2:=ym (ac HB1.out hb2)
 have hsz2:=HB2.out.size
 clear hb2 k_r l_r
 have k_r:=HR2.out.cell
 have l_r:=HR2.out.lt
 by_cases h1:aM r=true
 ·have hmm:(aM r||aZ r)=true:=by rw [h1];rfl
  have HST:=ym (HST0.out hmm)
  have HBx:=HB2
  rw [h1]
  go_upto_region 4 with fail
  generalize hWW:World.alloc _ _=w4
  obtain ⟨hb4,hz⟩:=al1 hWW
  have HW4:=ym (n11 hWW)
  have HB4:=ym (ac HBx.out hb4)
  have hsz4:=HB4.out.size
  have hl4:=HW4.out.lt
  clear hWW hb4 hz k_r l_r
  have HWK:Hid (WkAt w4.heap.size d w4 w2.heap.size ⟨.string r.head.name,.slice A0 r.head.terms.length c0,.slice A1 r.body.length c1,.slice A2 r.exprs.length c2,.slice A3 r.scopes.length c3,S,tr⟩ 0 [] none 0 0):=ym ⟨HW4.out,hl4,yo _,am.nil _ _ _ _ _,fun y hy=>absurd hy (by simp),fun y hy=>absurd hy (by simp)⟩
  have HGO2:Hid (Calls Tryz.prog 76 #[.pointer (some ⟨w2.heap.size,0,none⟩),.int .i64 0,.agg #[.slice none 0 0,.slice none 0 0,.int .u32 0]] w4 fun z w'=>WkE w4.heap.size d w2.heap.size ⟨.string r.head.name,.slice A0 r.head.terms.length c0,.slice A1 r.body.length c1,.slice A2 r.exprs.length c2,.slice A3 r.scopes.length c3,S,tr⟩ w4 w' none 0 0 (ey (fs.map FV.f) tr r.exprs r.body iO ⟨0,[],0⟩) z):=ym (qU HST.out (show w.heap.size≤w2.heap.size from HBx.out.size) r.body 0 rfl (yp _) w4 0 [] none 0 kq HB4.out HWK.out (fun w' _=>pu _ _ _) te (by simp) (by decide))
  have l_w4:=hl4
  have HBw:Hid (w.heap.size≤w2.heap.size):=ym HBx.out.size
  generalize hWn:w2.heap.size=W at *
  have HR:Hid (aX (fs.map FV.f) tr r=if (ey (fs.map FV.f) tr r.exprs r.body iO ⟨0,[],0⟩).e=0 then (cpt (fun a b=>aR a b==0) (iJ (ey (fs.map FV.f) tr r.exprs r.body iO ⟨0,[],0⟩).out),0) else ([],(ey (fs.map FV.f) tr r.exprs r.body iO ⟨0,[],0⟩).e)):=ym (if_pos hmm)
  clear hmm
  go_wp2_with fail
  refine HGO2.out.mono ?_
  rintro z w5 ⟨xs,A,c,rfl,hout,hwk,hag,_⟩
  have hfew:=fC (fs:=fs.map FV.f) (tr:=tr) (es:=r.exprs) (ps:=r.body) (x:=iO) (s:=⟨0,[],0⟩)
  clear HGO2
  generalize ey (fs.map FV.f) tr r.exprs r.body iO ⟨0,[],0⟩=s at *
  have hn:xs.length≤1000000:=by
   have h1:=hfew.2.1 (by decide)
   have h2:=hfew.2.2
   rw [←hout,yw] at h2
   simp at h2
   omega
  have HB5:Hid (Below w.heap.size w w5):=ym (HB4.out.trans ((hag.below (base:=W) (fun k hk hm=>by rcases hm with h | h<;>first | omega | cases h) (Nat.le_of_lt hl4)).mono HBw.out))
  have HWK5:=ym hwk
  have HOUT:=ym hout
  have HW5:Hid (Blk w5 W #[.string r.head.name,.slice A0 r.head.terms.length c0,.slice A1 r.body.length c1,.slice A2 r.exprs.length c2,.slice A3 r.scopes.length c3,.pointer (some ⟨S,0,none⟩),.int .u32 tr,.int .i64 s.held,.slice A xs.length c,.int .i64 s.e]):=ym hwk.hd
  clear hag hwk hout hfew HW4 HWK
  have k_w:=HW5.out.cell
  have l_w:=HW5.out.lt
  by_cases he:s.e=0
  ·have HRE:Hid (aX (fs.map FV.f) tr r=(cpt (fun a b=>aR a b==0) (iJ s.out),0)):=ym (by rw [HR.out,if_pos he])
   have he':(s.e !=0)=false:=by rw [he];rfl
   clear HR
   by_cases hx0:xs.length=0
   ·rw [hx0] at k_w
    go_wp2_with fail
    refine oY.mono ?_
    rintro z w6 ⟨rfl,rfl⟩
    go_wp2_with fail
    refine jr.mono ?_
    rintro z w6 ⟨rfl,rfl⟩
    go_wp2_with fail
    go_ret2
    have hx1:xs=[]:=List.length_eq_zero_iff.1 hx0
    have ho:s.out=[]:=by rw [←HOUT.out,hx1];rfl
    exact ⟨[],A,c,by rw [HRE.out];rfl,by rw [HRE.out,ho,(gu []).eq_nil];rfl,by have h:=HWK5.out.row;rw [hx1] at h;exact h.lower (by omega),fun y hy=>absurd hy (by simp),fun y hy=>absurd hy (by simp),HB5.out⟩
   ·have hx:0<xs.length:=by omega
    obtain ⟨g,c1_,e1,hg1,hg2,_⟩:=HWK5.out.row.sh aY hx
    simp only [yB,true_and] at e1
    obtain ⟨rfl,rfl⟩:=e1
    have hgW:g≠W:=by omega
    go_wp2_with fail
    refine (ko (d:=d+1) HWK5.out.row hx (fun y hy=>vN (HWK5.out.ok y hy).1) (fun y hy=>(HWK5.out.deep y hy).less (fun k _ hk=>.inr (by rw [hk];rfl))) hn).mono ?_
    rintro z w6 ⟨rfl,hrow6,hag6⟩
    have hlen6:=uY xs
    have hmap6:=uZ xs
    have hmem6:=vc xs
    generalize (ee (xs.map AnV.x)).map (xs.getD · kq)=ys at *
    have HW6:=ym (hag6.blk HW5.out (fun h=>hgW h.symm))
    have HB6:Hid (Below w.heap.size w w6):=ym (HB5.out.trans (hag6.below (fun k hk hm=>by have:=HBw.out;omega) HB5.out.size))
    have hrow7:am jo 116 w6 w4.heap.size 0 (.slice (some ⟨g,0,none⟩) ys.length c) ys:=by rw [hlen6];exact hrow6
    have HCP:=ym (mc (d:=d+1) hrow7 (by omega) (fun y hy=>vN (HWK5.out.ok y (hmem6 y hy)).1) (fun y hy=>(HWK5.out.deep y (hmem6 y hy)).next (N:=fun k=>k=g) hag6 (fun k _ hk=>.inr (by rw [hk];rfl)) (fun k _ hk=>.inr (by rw [hk];rfl))) (by omega))
    rw [hlen6] at HCP
    have HM6:=ym (And.intro hmap6 hmem6)
    have HAG6:=ym hag6
    clear hag6 hrow6 hrow7 hlen6 hmap6 hmem6 k_w l_w
    have k_w:=HW6.out.cell
    have l_w:=HW6.out.lt
    go_wp2_with fail
    refine HCP.out.mono ?_
    rintro z w7 ⟨L,hL,rfl,hrow,hag7⟩
    have HROW:=ym hrow
    have HAG7:=ym hag7
    have HL:=ym hL
    clear hrow hag7 hL HCP
    go_wp2_with fail
    go_ret2
    have hsub:∀y∈L,y∈xs:=fun y hy=>HM6.out.2 y (pK qAn (by rw [←HL.out];exact hy))
    exact ⟨L,some ⟨g,0,none⟩,c,by rw [HRE.out];rfl,by rw [HRE.out,HL.out,tG,HM6.out.1,HOUT.out],HROW.out.lower (by omega),fun y hy=>HWK5.out.ok y (hsub y hy),fun y hy=>(HWK5.out.deep y (hsub y hy)).next (N:=fun k=>k=g) (HAG6.out.trans HAG7.out (fun _ _ h=>h)) (fun k _ hk=>.inr (by rw [hk];rfl)) (fun k _ hk=>.inr hk),HB6.out.trans (HAG7.out.below (fun k hk hm=>by have:=HBw.out;omega) HB6.out.size)⟩
  ·have he':(s.e !=0)=true:=by simpa using he
   have HRE:Hid (aX (fs.map FV.f) tr r=([],s.e)):=ym (by rw [HR.out,if_neg he])
   clear HR
   go_upto_region 6 with fail
   go_region
   go_wp2_with fail
   go_ret2
   exact ⟨[],none,0,by rw [HRE.out];rfl,by rw [HRE.out];rfl,am.nil _ _ _ _ _,fun y hy=>absurd hy (by simp),fun y hy=>absurd hy (by simp),HB5.out.drew⟩
 ·have h1':aM r=false:=by simpa using h1
  rw [h1']
  go_wp2_with fail
  refine (oF (vs:=[_,_,_,_,_]) ((RuR (d+1)).keep HB2.out hB HRD.out) (yn hB hsz2)).mono ?_
  rintro e w3 ⟨rfl,hb3⟩
  have HR3:=ym (HR2.out.later hb3)
  have HB3:=ym (ac HB2.out hb3)
  have hsz3:=HB3.out.size
  clear hb3 k_r l_r
  have k_r:=HR3.out.cell
  have l_r:=HR3.out.lt
  by_cases h2:aZ r=true
  ·have hmm:(aM r||aZ r)=true:=by rw [h1',h2];rfl
   have HST:=ym (HST0.out hmm)
   have HBx:=HB3
   rw [h2]
   go_upto_region 4 with fail
   generalize hWW:World.alloc _ _=w4
   obtain ⟨hb4,hz⟩:=al1 hWW
   have HW4:=ym (n11 hWW)
   have HB4:=ym (ac HBx.out hb4)
   have hsz4:=HB4.out.size
   have hl4:=HW4.out.lt
   clear hWW hb4 hz k_r l_r
   have HWK:Hid (WkAt w4.heap.size d w4 w3.heap.size ⟨.string r.head.name,.slice A0 r.head.terms.length c0,.slice A1 r.body.length c1,.slice A2 r.exprs.length c2,.slice A3 r.scopes.length c3,S,tr⟩ 0 [] none 0 0):=ym ⟨HW4.out,hl4,yo _,am.nil _ _ _ _ _,fun y hy=>absurd hy (by simp),fun y hy=>absurd hy (by simp)⟩
   have HGO2:Hid (Calls Tryz.prog 76 #[.pointer (some ⟨w3.heap.size,0,none⟩),.int .i64 0,.agg #[.slice none 0 0,.slice none 0 0,.int .u32 0]] w4 fun z w'=>WkE w4.heap.size d w3.heap.size ⟨.string r.head.name,.slice A0 r.head.terms.length c0,.slice A1 r.body.length c1,.slice A2 r.exprs.length c2,.slice A3 r.scopes.length c3,S,tr⟩ w4 w' none 0 0 (ey (fs.map FV.f) tr r.exprs r.body iO ⟨0,[],0⟩) z):=ym (qU HST.out (show w.heap.size≤w3.heap.size from HBx.out.size) r.body 0 rfl (yp _) w4 0 [] none 0 kq HB4.out HWK.out (fun w' _=>pu _ _ _) te (by simp) (by decide))
   have l_w4:=hl4
   have HBw:Hid (w.heap.size≤w3.heap.size):=ym HBx.out.size
   generalize hWn:w3.heap.size=W at *
   have HR:Hid (aX (fs.map FV.f) tr r=if (ey (fs.map FV.f) tr r.exprs r.body iO ⟨0,[],0⟩).e=0 then (cpt (fun a b=>aR a b==0) (iJ (ey (fs.map FV.f) tr r.exprs r.body iO ⟨0,[],0⟩).out),0) else ([],(ey (fs.map FV.f) tr r.exprs r.body iO ⟨0,[],0⟩).e)):=ym (if_pos hmm)
   clear hmm
   go_wp2_with fail
   refine HGO2.out.mono ?_
   rintro z w5 ⟨xs,A,c,rfl,hout,hwk,hag,_⟩
   have hfew:=fC (fs:=fs.map FV.f) (tr:=tr) (es:=r.exprs) (ps:=r.body) (x:=iO) (s:=⟨0,[],0⟩)
   clear HGO2
   generalize ey (fs.map FV.f) tr r.exprs r.body iO ⟨0,[],0⟩=s at *
   have hn:xs.length≤1000000:=by
    have h1:=hfew.2.1 (by decide)
    have h2:=hfew.2.2
    rw [←hout,yw] at h2
    simp at h2
    omega
   have HB5:Hid (Below w.heap.size w w5):=ym (HB4.out.trans ((hag.below (base:=W) (fun k hk hm=>by rcases hm with h | h<;>first | omega | cases h) (Nat.le_of_lt hl4)).mono HBw.out))
   have HWK5:=ym hwk
   have HOUT:=ym hout
   have HW5:Hid (Blk w5 W #[.string r.head.name,.slice A0 r.head.terms.length c0,.slice A1 r.body.length c1,.slice A2 r.exprs.length c2,.slice A3 r.scopes.length c3,.pointer (some ⟨S,0,none⟩),.int .u32 tr,.int .i64 s.held,.slice A xs.length c,.int .i64 s.e]):=ym hwk.hd
   clear hag hwk hout hfew HW4 HWK
   have k_w:=HW5.out.cell
   have l_w:=HW5.out.lt
   by_cases he:s.e=0
   ·have HRE:Hid (aX (fs.map FV.f) tr r=(cpt (fun a b=>aR a b==0) (iJ s.out),0)):=ym (by rw [HR.out,if_pos he])
    have he':(s.e !=0)=false:=by rw [he];rfl
    clear HR
    by_cases hx0:xs.length=0
    ·rw [hx0] at k_w
     go_wp2_with fail
     refine oY.mono ?_
     rintro z w6 ⟨rfl,rfl⟩
     go_wp2_with fail
     refine jr.mono ?_
     rintro z w6 ⟨rfl,rfl⟩
     go_wp2_with fail
     go_ret2
     have hx1:xs=[]:=List.length_eq_zero_iff.1 hx0
     have ho:s.out=[]:=by rw [←HOUT.out,hx1];rfl
     exact ⟨[],A,c,by rw [HRE.out];rfl,by rw [HRE.out,ho,(gu []).eq_nil];rfl,by have h:=HWK5.out.row;rw [hx1] at h;exact h.lower (by omega),fun y hy=>absurd hy (by simp),fun y hy=>absurd hy (by simp),HB5.out⟩
    ·have hx:0<xs.length:=by omega
     obtain ⟨g,c1_,e1,hg1,hg2,_⟩:=HWK5.out.row.sh aY hx
     simp only [yB,true_and] at e1
     obtain ⟨rfl,rfl⟩:=e1
     have hgW:g≠W:=by omega
     go_wp2_with fail
     refine (ko (d:=d+1) HWK5.out.row hx (fun y hy=>vN (HWK5.out.ok y hy).1) (fun y hy=>(HWK5.out.deep y hy).less (fun k _ hk=>.inr (by rw [hk];rfl))) hn).mono ?_
     rintro z w6 ⟨rfl,hrow6,hag6⟩
     have hlen6:=uY xs
     have hmap6:=uZ xs
     have hmem6:=vc xs
     generalize (ee (xs.map AnV.x)).map (xs.getD · kq)=ys at *
     have HW6:=ym (hag6.blk HW5.out (fun h=>hgW h.symm))
     have HB6:Hid (Below w.heap.size w w6):=ym (HB5.out.trans (hag6.below (fun k hk hm=>by have:=HBw.out;omega) HB5.out.size))
     have hrow7:am jo 116 w6 w4.heap.size 0 (.slice (some ⟨g,0,none⟩) ys.length c) ys:=by rw [hlen6];exact hrow6
     have HCP:=ym (mc (d:=d+1) hrow7 (by omega) (fun y hy=>vN (HWK5.out.ok y (hmem6 y hy)).1) (fun y hy=>(HWK5.out.deep y (hmem6 y hy)).next (N:=fun k=>k=g) hag6 (fun k _ hk=>.inr (by rw [hk];rfl)) (fun k _ hk=>.inr (by rw [hk];rfl))) (by omega))
     rw [hlen6] at HCP
     have HM6:=ym (And.intro hmap6 hmem6)
     have HAG6:=ym hag6
     clear hag6 hrow6 hrow7 hlen6 hmap6 hmem6 k_w l_w
     have k_w:=HW6.out.cell
     have l_w:=HW6.out.lt
     go_wp2_with fail
     refine HCP.out.mono ?_
     rintro z w7 ⟨L,hL,rfl,hrow,hag7⟩
     have HROW:=ym hrow
     have HAG7:=ym hag7
     have HL:=ym hL
     clear hrow hag7 hL HCP
     go_wp2_with fail
     go_ret2
     have hsub:∀y∈L,y∈xs:=fun y hy=>HM6.out.2 y (pK qAn (by rw [←HL.out];exact hy))
     exact ⟨L,some ⟨g,0,none⟩,c,by rw [HRE.out];rfl,by rw [HRE.out,HL.out,tG,HM6.out.1,HOUT.out],HROW.out.lower (by omega),fun y hy=>HWK5.out.ok y (hsub y hy),fun y hy=>(HWK5.out.deep y (hsub y hy)).next (N:=fun k=>k=g) (HAG6.out.trans HAG7.out (fun _ _ h=>h)) (fun k _ hk=>.inr (by rw [hk];rfl)) (fun k _ hk=>.inr hk),HB6.out.trans (HAG7.out.below (fun k hk hm=>by have:=HBw.out;omega) HB6.out.size)⟩
   ·have he':(s.e !=0)=true:=by simpa using he
    have HRE:Hid (aX (fs.map FV.f) tr r=([],s.e)):=ym (by rw [HR.out,if_neg he])
    clear HR
    go_upto_region 6 with fail
    go_region
    go_wp2_with fail
    go_ret2
    exact ⟨[],none,0,by rw [HRE.out];rfl,by rw [HRE.out];rfl,am.nil _ _ _ _ _,fun y hy=>absurd hy (by simp),fun y hy=>absurd hy (by simp),HB5.out.drew⟩
  ·have h2':aZ r=false:=by simpa using h2
   have hmm:(aM r||aZ r)=false:=by rw [h1',h2'];rfl
   have HR:Hid (aX (fs.map FV.f) tr r=([],1)):=ym (by unfold aX;rw [if_neg (by rw [hmm];decide)])
   rw [h2']
   clear hmm h1 h2
   go_wp2_with fail
   go_ret2
   exact ⟨[],none,0,by rw [HR.out];rfl,by rw [HR.out];rfl,am.nil _ _ _ _ _,fun y hy=>absurd hy (by simp),fun y hy=>absurd hy (by simp),HB3.out⟩
theorem jj:∀{a b:List Fc},bD a→bD b→(∀x,x∈a↔x∈b)→a=b
 | [],[],_,_,_=>rfl
 | [],y::b,_,_,h=>absurd ((h y).2 (by simp)) (by simp)
 | x::a,[],_,_,h=>absurd ((h x).1 (by simp)) (by simp)
 | x::a,y::b,ha,hb,h=>by
   unfold bD at ha hb
   rw [List.pairwise_cons] at ha hb
   have e:x=y:=by
    rcases List.mem_cons.1 ((h x).1 (by simp)) with e | e
    ·exact e
    ·rcases List.mem_cons.1 ((h y).2 (by simp)) with e' | e'
     ·exact e'.symm
     ·have h1:=hb.1 x e
      have h2:=ha.1 y e'
      have:=aT.anti x y
      omega
   subst e
   have hna:x∉a:=fun hx=>by have:=ha.1 x hx;rw [aT.self] at this;omega
   have hnb:x∉b:=fun hx=>by have:=hb.1 x hx;rw [aT.self] at this;omega
   rw [jj ha.2 hb.2 fun z=>?_]
   constructor
   ·intro hz
    rcases List.mem_cons.1 ((h z).1 (by simp [hz])) with e | e
    ·subst e;exact absurd hz hna
    ·exact e
   ·intro hz
    rcases List.mem_cons.1 ((h z).2 (by simp [hz])) with e | e
    ·subst e;exact absurd hz hnb
    ·exact e
def sZ (f:Fc):Prop:=f.pr.name.size≤140737488351232∧U32 f.o
theorem fact_in {d B:Nat} {w:World} {f:Fc} {vs:List Value} (h:(aC d).rd w B f vs):sZ f:=by
 obtain ⟨A,c,_,h1,_,_,_,_,h2⟩:=bh h
 exact ⟨h1,h2⟩
def stL (l:List Fc):List Fc:=l.foldl eO []
section
variable {fs:List Fc} {f x:Fc}
theorem vJ (hs:bD fs) (ho:∀x∈fs,FcOk x) (hf:sZ f):x∈eO fs f↔x∈fs∨(x=f∧aL f=true):=by
 unfold eO nN
 by_cases h1:aL f=true
 ·by_cases h2:gI fs f=true
  ·simp only [h1,h2,Bool.not_true,Bool.and_false,Bool.false_eq_true,if_false,and_true]
   constructor
   ·exact .inl
   ·rintro (h | rfl)
    ·exact h
    ·exact (qV hs ho (kj h1 hf.1 hf.2)).1 h2
  ·simp only [h1,Bool.eq_false_iff.2 h2,Bool.not_false,Bool.and_true,if_true,el,and_true]
   exact or_comm
 ·simp [h1]
theorem addL_ok (ho:∀x∈fs,FcOk x) (hf:sZ f):∀x∈eO fs f,FcOk x:=by
 unfold eO nN
 split
 ·rename_i h
  rw [yx] at h
  intro x hx
  rcases el.1 hx with rfl | h1
  ·exact kj h.1 hf.1 hf.2
  ·exact ho x h1
 ·exact ho
theorem mN (fs:List Fc) (f:Fc):(eO fs f).length≤fs.length+1:=by
 unfold eO
 split
 ·rw [bF ns];exact yo _
 ·omega
end
theorem iK:∀(l fs:List Fc),bD fs→(∀x∈fs,FcOk x)→(∀f∈l,sZ f)→bD (l.foldl eO fs)∧(∀x∈l.foldl eO fs,FcOk x)∧∀x,x∈l.foldl eO fs↔x∈fs∨(x∈l∧aL x=true)
 | [],fs,h1,h2,_=>⟨h1,h2,fun x=>by simp⟩
 | f::l,fs,h1,h2,h3=>by
   obtain ⟨k1,k2,k3⟩:=iK l (eO fs f) (pt h1) (addL_ok h2 (h3 f (by simp))) (fun g hg=>h3 g (by simp [hg]))
   refine ⟨k1,k2,fun x=>?_⟩
   rw [List.foldl_cons,k3,vJ h1 h2 (h3 f (by simp)),List.mem_cons]
   constructor
   ·rintro ((h | ⟨rfl,h⟩) | ⟨h,h'⟩)
    ·exact .inl h
    ·exact .inr ⟨.inl rfl,h⟩
    ·exact .inr ⟨.inr h,h'⟩
   ·rintro (h | ⟨rfl | h,h'⟩)
    ·exact .inl (.inl h)
    ·exact .inl (.inr ⟨rfl,h'⟩)
    ·exact .inr ⟨h,h'⟩
section
variable {l l':List Fc} (hl:∀f∈l,sZ f)
include hl
theorem mH:bD (stL l):=(iK l [] List.Pairwise.nil (by simp) hl).1
theorem stL_ok:∀x∈stL l,FcOk x:=(iK l [] List.Pairwise.nil (by simp) hl).2.1
theorem vd {x:Fc}:x∈stL l↔x∈l∧aL x=true:=by
 have:=(iK l [] List.Pairwise.nil (by simp) hl).2.2 x
 unfold stL
 simpa using this
end
theorem qv:∀(l fs:List Fc),(l.foldl eO fs).length≤fs.length+l.length
 | [],fs=>by simp
 | f::l,fs=>by
   have h1:=qv l (eO fs f)
   have h2:=mN fs f
   rw [List.foldl_cons,yE];omega
theorem xm (l:List Fc) (f:Fc):stL (l++[f])=eO (stL l) f:=by unfold stL;rw [List.foldl_append];rfl
/-! Whom is trusted. -/
/-! More facts. -/
def Ext (s s':Wst):Prop:=s.held≤s'.held∧∃l,s'.out=s.out++l
theorem Ext.refl (s:Wst):Ext s s:=⟨Int.le_refl _,[],by simp⟩
theorem Ext.trans {s t u:Wst} (h:Ext s t) (k:Ext t u):Ext s u:=by
 obtain ⟨h1,l,h2⟩:=h
 obtain ⟨k1,m,k2⟩:=k
 exact ⟨Int.le_trans h1 k1,l++m,by rw [k2,h2,List.append_assoc]⟩
theorem Ext.held {s t:Wst} {h:Int} (k:Ext ⟨s.held+1,s.out,h⟩ t):Ext s t:=by
 obtain ⟨k1,k2⟩:=k
 exact ⟨by simp only at k1;omega,k2⟩
def Sim (s s' t t':Wst):Prop:=s.held≤s'.held→s.e=0→t'.e=0→t.e=0∧t.held≤t'.held∧∃l l',t.out=s.out++l∧t'.out=s'.out++l'∧l.Sublist l'
theorem Sim.add {s s' t t' u u':Wst} (h:Sim s s' t t') (k:Sim t t' u u') (hx:Ext t' u') (he:t'.e=0):Sim s s' u u':=fun h1 h2 h3=>by
 obtain ⟨a1,a2,l,l',a3,a4,a5⟩:=h h1 h2 he
 obtain ⟨b1,b2,m,m',b3,b4,b5⟩:=k a2 a1 h3
 exact ⟨b1,b2,l++m,l'++m',by rw [b3,a3,List.append_assoc],by rw [b4,a4,List.append_assoc],a5.append b5⟩
/-! bD,each once. -/
def RiseA (L:List Ans):Prop:=L.Pairwise fun a b=>aR a b<0
def eqA (a b:Ans):Bool:=aR a b==0
theorem gm:∀{ys:List Ans} {p:Ans},(p::ys).Pairwise (fun a b=>aR a b≤0)→RiseA (ec eqA p ys)∧(∀y∈ec eqA p ys,aR p y<0)∧∀x∈ys,aR p x=0∨∃y∈ec eqA p ys,aR y x=0
 | [],p,_=>⟨List.Pairwise.nil,by simp [ec],by simp⟩
 | y::ys,p,h=>by
   rw [List.pairwise_cons] at h
   obtain ⟨h1,h2,h3⟩:=gm h.2
   have hy:=h.1 y (by simp)
   rw [ec]
   by_cases he:aR y p=0
   ·have he':aR p y=0:=by have:=bT.anti p y;omega
    rw [if_pos (by simp [eqA,he])]
    refine ⟨h1,fun z hz=>bT.le_lt (by omega) (h2 z hz),fun x hx=>?_⟩
    rcases List.mem_cons.1 hx with rfl | hx
    ·exact .inl he'
    ·rcases h3 x hx with h4 | h4
     ·rcases bT.zero_l (z:=x) he' with k | ⟨_,k⟩ | ⟨_,k⟩<;>first | (exact .inl (by omega)) | omega
     ·exact .inr h4
   ·have hlt:aR p y<0:=by have:=bT.anti p y;omega
    rw [if_neg (by simp [eqA,he])]
    refine ⟨List.Pairwise.cons h2 h1,fun z hz=>?_,fun x hx=>?_⟩
    ·rcases List.mem_cons.1 hz with rfl | hz
     ·exact hlt
     ·exact bT.lt_le hlt (Int.le_of_lt (h2 z hz))
    ·rcases List.mem_cons.1 hx with rfl | hx
     ·exact .inr ⟨x,by simp,bT.self x⟩
     ·rcases h3 x hx with h4 | ⟨z,hz,h4⟩
      ·exact .inr ⟨y,by simp,h4⟩
      ·exact .inr ⟨z,by simp [hz],h4⟩
def lA (L:List Ans):List Ans:=cpt eqA (iJ L)
theorem sM (L:List Ans):RiseA (lA L)∧(∀x∈L,∃y∈lA L,aR y x=0)∧∀y∈lA L,y∈L:=by
 have hs:=oZ L
 have hp:=gu L
 refine ⟨?_,?_,fun y hy=>hp.mem_iff.1 (pK _ hy)⟩
 ·unfold lA
  generalize iJ L=S at *
  cases S with
  | nil=>exact List.Pairwise.nil
  | cons p ys=>exact List.Pairwise.cons (gm hs).2.1 (gm hs).1
 ·intro x hx
  have hx':=hp.mem_iff.2 hx
  unfold lA
  generalize iJ L=S at *
  cases S with
  | nil=>simp at hx'
  | cons p ys=>
    rcases List.mem_cons.1 hx' with rfl | hx'
    ·exact ⟨x,by simp [cpt],bT.self x⟩
    ·rcases (gm hs).2.2 x hx' with h | ⟨y,hy,h⟩
     ·exact ⟨p,by simp [cpt],h⟩
     ·exact ⟨y,by simp [cpt,hy],h⟩
def xj (fs:List Fc) (tr:Int) (r:Ru):Wst:=ey fs tr r.exprs r.body iO ⟨0,[],0⟩
theorem kp (fs:List Fc) (tr:Int) (r:Ru):aX fs tr r=if (aM r||aZ r)=true then (if (xj fs tr r).e=0 then (lA (xj fs tr r).out,0) else ([],(xj fs tr r).e)) else ([],1):=rfl
theorem qH:∀{a b:List aW},dv a b=0→a=b
 | [],[],_=>rfl
 | [],_::_,h=>by simp [dv] at h
 | _::_,[],h=>by simp [dv] at h
 | x::a,y::b,h=>by
   rw [dv] at h
   split at h
   ·rename_i h0
    rw [dM.1 h0,qH h]
   ·exact absurd h ‹_›
theorem ans_eq {x y:Ans} (hx:bB x.b=true) (hy:bB y.b=true) (h:aR x y=0):x=y:=by
 simp only [aR,orL] at h
 split at h
 ·rename_i h1
  split at h
  ·rename_i h2
   split at h
   ·rename_i h3
    obtain ⟨⟨n,t⟩,o⟩:=x
    obtain ⟨⟨n',t'⟩,o'⟩:=y
    have e1:n=n':=qH h1
    have e2:t=t':=nC (fun z hz=>(aJ ((dJ hx).1.fixed z hz)).1) (fun z hz=>(aJ ((dJ hy).1.fixed z hz)).1) h2
    have e3:o=o':=dL.1 h3
    rw [e1,e2,e3]
   ·exact absurd h ‹_›
  ·exact absurd h ‹_›
 ·exact absurd h ‹_›
def iS (i:Nat):Int:=((2 ^ i:Nat):Int)
end Go.Proofs.YtjpndglegpcdnaaGreat
