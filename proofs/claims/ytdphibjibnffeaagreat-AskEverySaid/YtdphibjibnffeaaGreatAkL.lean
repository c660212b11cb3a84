/- What Query and Every tell, as plain functions; what holds of every holds of one. No program here. -/
import Derived.Test.YtdphibjibnffeaaGreatCpt0
import Derived.Test.YtdphibjibnffeaaGreatRule2
import Derived.Test.YtdphibjibnffeaaGreatRule4
import Derived.Test.YtdphibjibnffeaaGreatFc6
set_option linter.unusedVariables false
set_option linter.unusedSimpArgs false
set_option maxRecDepth 100000
set_option maxHeartbeats 8000000
namespace Go.Proofs.YtdphibjibnffeaaGreat
open Go.ChangeShapes Go.WideShapes Go.ChangeAt Go.RowKit
def aS (fs:List Fc) (tr:Int) (r:Ru):List Ans × Int:=
 if (bl r||ay r)=true then
  if (cv fs tr r.exprs r.body fI ⟨0,[],0⟩).e=0 then (cpt (fun a b=>aP a b==0) (jt (cv fs tr r.exprs r.body fI ⟨0,[],0⟩).out),0) else ([],(cv fs tr r.exprs r.body fI ⟨0,[],0⟩).e)
 else ([],1)
def AnsE (d:Nat) (w w':World) (R:List Ans × Int) (z:Ending):Prop:=
 ∃(L:List AnV) (A:Option Addr) (c:Nat),z=.returned (.tuple #[.slice A L.length c,.int .i64 R.2])∧L.map AnV.x=R.1∧aq iZ 48 w' w.heap.size 0 (.slice A L.length c) L∧(∀y∈L,bO y.x.b=true∧U32 y.x.o)∧(∀y∈L,ip (fun k=>(Value.slice A L.length c).ownBlock=some k) w' (fun w'=>(mS (d+1)).rd w' w'.heap.size y.x y.cs))∧Below w.heap.size w w'
theorem kv:bO jS.x.b=true∧U32 jS.x.o:=⟨rfl,by unfold U32;simp [jS]⟩
theorem om:∀(ys:List AnV) (p:AnV),(eJ qAn p ys).map AnV.x=eJ (fun a b=>aP a b==0) p.x (ys.map AnV.x)
 | [],p=>rfl
 | y::ys,p=>by
   rw [List.map_cons,eJ,eJ,←om ys y]
   show List.map AnV.x (if (aP y.x p.x==0)=true then _ else _)=_
   split<;>rfl
theorem uL:∀(ys:List AnV),(cpt qAn ys).map AnV.x=cpt (fun a b=>aP a b==0) (ys.map AnV.x)
 | []=>rfl
 | y::ys=>by rw [List.map_cons,cpt,cpt,List.map_cons,om]
theorem wE (xs:List AnV):((eu (xs.map AnV.x)).map (xs.getD · jS)).length=xs.length:=by rw [List.length_map,lF,List.length_map]
theorem wF (xs:List AnV):((eu (xs.map AnV.x)).map (xs.getD · jS)).map AnV.x=jt (xs.map AnV.x):=by
 rw [jt,List.map_map]
 refine List.map_congr_left fun i hi=>?_
 have h:=rX hi
 rw [List.length_map] at h
 simp [h]
theorem wG (xs:List AnV):∀y∈(eu (xs.map AnV.x)).map (xs.getD · jS),y∈xs:=fun y hy=>by
 obtain ⟨i,hi,rfl⟩:=List.mem_map.1 hy
 have h:=rX hi
 rw [List.length_map] at h
 have e:xs.getD i jS=xs[i]:=by simp [h]
 rw [e];exact List.getElem_mem h
theorem ny {r:Ru} (h:(bl r||ay r)=true):(∀p∈r.body,aJ p=true)∧r.body.length≤4∧r.exprs.length≤4:=by
 have hb:gP r=true:=by
  rcases Bool.or_eq_true_iff.1 h with h | h
  ·simp only [bl,Bool.and_eq_true] at h;exact h.1.2
  ·simp only [ay,Bool.and_eq_true] at h;exact h.2
 simp only [gP,Bool.and_eq_true,decide_eq_true_eq,List.all_eq_true] at hb
 exact ⟨hb.1.1.1.2,hb.1.1.1.1,hb.1.1.2.1⟩
theorem gV {d baseS B S cs:Nat} {r:Ru} {vr:List Value} {w:World} {fs:List FV} {As:Option Addr} {tr m:Int} (hr:(RuR (d+1)).rd w B r vr) (hB:B≤w.heap.size) (hS:StA baseS d w S fs As cs) (hfew:fs.length≤100000) (hm:w.cell? ⟨0,0,none⟩=some (.int .i64 m)) (hp:0<w.heap.size) :
 Calls Tryz.prog 18 #[.agg vr.toArray,.pointer (some ⟨S,0,none⟩),.int .u32 tr] w fun z w'=>AnsE d w w' (aS (fs.map FV.f) tr r) z:=by
 have HRD:=zD hr
 obtain ⟨_,_,_,_,rfl,hs,⟨A0,c0,rfl,h01,h02,hl0⟩,⟨A1,c1,rfl,h11,h12,hl1⟩,⟨A2,c2,rfl,h21,h22,hl2⟩,⟨A3,c3,rfl,h31,h32,hl3⟩⟩:=hr
 have HST0:Hid ((bl r||ay r)=true→WkS d w baseS B ⟨.string r.head.name,.slice A0 r.head.terms.length c0,.slice A1 r.body.length c1,.slice A2 r.exprs.length c2,.slice A3 r.scopes.length c3,S,tr⟩ fs As cs r.body A1 c1 r.exprs A2 c2 m):=zD (fun h=>⟨hS,hfew,hB,rfl,hl1,by have:=(ny h).2.1;omega,(ny h).1,rfl,hl2,by have:=(ny h).2.2;omega,hm,hp⟩)
 clear hS hfew hm hl0 hl1 hl2 hl3
 go_enter Tryz.func18,Tryz.ntmps18
 go_upto_region 1 with fail
 generalize hWW:World.alloc _ _=w1
 obtain ⟨hb1,hz⟩:=al1 hWW
 have HR1:=zD (n11 hWW)
 have HB1:=zD hb1
 have hsz1:=hb1.size
 clear hWW hb1 hz
 have k_r:=HR1.out.cell
 have l_r:=HR1.out.lt
 go_wp2_with fail
 refine (qB (vs:=[_,_,_,_,_]) ((RuR (d+1)).keep HB1.out hB HRD.out) (zE hB hsz1)).mono ?_
 rintro e w2 ⟨rfl,hb2⟩
 have HR2:=zD (HR1.out.later hb2)
 have HB2:=zD (ab HB1.out hb2)
 have hsz2:=HB2.out.size
 clear hb2 k_r l_r
 have k_r:=HR2.out.cell
 have l_r:=HR2.out.lt
 by_cases h1:bl r=true
 ·have hmm:(bl r||ay r)=true:=by rw [h1];rfl
  have HST:=zD (HST0.out hmm)
  have HBx:=HB2
  rw [h1]
  go_upto_region 4 with fail
  generalize hWW:World.alloc _ _=w4
  obtain ⟨hb4,hz⟩:=al1 hWW
  have HW4:=zD (n11 hWW)
  have HB4:=zD (ab HBx.out hb4)
  have hsz4:=HB4.out.size
  have hl4:=HW4.out.lt
  clear hWW hb4 hz k_r l_r
  have HWK:Hid (WkAt w4.heap.size d w4 w2.heap.size ⟨.string r.head.name,.slice A0 r.head.terms.length c0,.slice A1 r.body.length c1,.slice A2 r.exprs.length c2,.slice A3 r.scopes.length c3,S,tr⟩ 0 [] none 0 0):=zD ⟨HW4.out,hl4,zF _,aq.nil _ _ _ _ _,fun y hy=>absurd hy (by simp),fun y hy=>absurd hy (by simp)⟩
  have HGO2:Hid (Calls Tryz.prog 55 #[.pointer (some ⟨w2.heap.size,0,none⟩),.int .i64 0,.agg #[.slice none 0 0,.slice none 0 0,.int .u32 0]] w4 fun z w'=>WkE w4.heap.size d w2.heap.size ⟨.string r.head.name,.slice A0 r.head.terms.length c0,.slice A1 r.body.length c1,.slice A2 r.exprs.length c2,.slice A3 r.scopes.length c3,S,tr⟩ w4 w' none 0 0 (cv (fs.map FV.f) tr r.exprs r.body fI ⟨0,[],0⟩) z):=zD (rI HST.out (show w.heap.size≤w2.heap.size from HBx.out.size) r.body 0 rfl (zG _) w4 0 [] none 0 jS HB4.out HWK.out (fun w' _=>mX _ _ _) kv (by simp) (by decide))
  have l_w4:=hl4
  have HBw:Hid (w.heap.size≤w2.heap.size):=zD HBx.out.size
  generalize hWn:w2.heap.size=W at *
  have HR:Hid (aS (fs.map FV.f) tr r=if (cv (fs.map FV.f) tr r.exprs r.body fI ⟨0,[],0⟩).e=0 then (cpt (fun a b=>aP a b==0) (jt (cv (fs.map FV.f) tr r.exprs r.body fI ⟨0,[],0⟩).out),0) else ([],(cv (fs.map FV.f) tr r.exprs r.body fI ⟨0,[],0⟩).e)):=zD (if_pos hmm)
  clear hmm
  go_wp2_with fail
  refine HGO2.out.mono ?_
  rintro z w5 ⟨xs,A,c,rfl,hout,hwk,hag,_⟩
  have hfew:=iC (fs:=fs.map FV.f) (tr:=tr) (es:=r.exprs) (ps:=r.body) (x:=fI) (s:=⟨0,[],0⟩)
  clear HGO2
  generalize cv (fs.map FV.f) tr r.exprs r.body fI ⟨0,[],0⟩=s at *
  have hn:xs.length≤1000000:=by
   have h1:=hfew.2.1 (by decide)
   have h2:=hfew.2.2
   rw [←hout,List.length_map] at h2
   simp at h2
   omega
  have HB5:Hid (Below w.heap.size w w5):=zD (HB4.out.trans ((hag.below (base:=W) (fun k hk hm=>by rcases hm with h | h<;>first | omega | cases h) (Nat.le_of_lt hl4)).mono HBw.out))
  have HWK5:=zD hwk
  have HOUT:=zD hout
  have HW5:Hid (Blk w5 W #[.string r.head.name,.slice A0 r.head.terms.length c0,.slice A1 r.body.length c1,.slice A2 r.exprs.length c2,.slice A3 r.scopes.length c3,.pointer (some ⟨S,0,none⟩),.int .u32 tr,.int .i64 s.held,.slice A xs.length c,.int .i64 s.e]):=zD hwk.hd
  clear hag hwk hout hfew HW4 HWK
  have k_w:=HW5.out.cell
  have l_w:=HW5.out.lt
  by_cases he:s.e=0
  ·have HRE:Hid (aS (fs.map FV.f) tr r=(cpt (fun a b=>aP a b==0) (jt s.out),0)):=zD (by rw [HR.out,if_pos he])
   have he':(s.e !=0)=false:=by rw [he];rfl
   clear HR
   by_cases hx0:xs.length=0
   ·rw [hx0] at k_w
    go_wp2_with fail
    refine pq.mono ?_
    rintro z w6 ⟨rfl,rfl⟩
    go_wp2_with fail
    refine jB.mono ?_
    rintro z w6 ⟨rfl,rfl⟩
    go_wp2_with fail
    go_ret2
    have hx1:xs=[]:=List.length_eq_zero_iff.1 hx0
    have ho:s.out=[]:=by rw [←HOUT.out,hx1];rfl
    exact ⟨[],A,c,by rw [HRE.out];rfl,by rw [HRE.out,ho,(gM []).eq_nil];rfl,by have h:=HWK5.out.row;rw [hx1] at h;exact h.lower (by omega),fun y hy=>absurd hy (by simp),fun y hy=>absurd hy (by simp),HB5.out⟩
   ·have hx:0<xs.length:=by omega
    obtain ⟨g,c1_,e1,hg1,hg2,_⟩:=HWK5.out.row.sh aW hx
    simp only [Value.slice.injEq,true_and] at e1
    obtain ⟨rfl,rfl⟩:=e1
    have hgW:g≠W:=by omega
    go_wp2_with fail
    refine (ku (d:=d+1) HWK5.out.row hx (fun y hy=>xh (HWK5.out.ok y hy).1) (fun y hy=>(HWK5.out.deep y hy).less (fun k _ hk=>.inr (by rw [hk];rfl))) hn).mono ?_
    rintro z w6 ⟨rfl,hrow6,hag6⟩
    have hlen6:=wE xs
    have hmap6:=wF xs
    have hmem6:=wG xs
    generalize (eu (xs.map AnV.x)).map (xs.getD · jS)=ys at *
    have HW6:=zD (hag6.blk HW5.out (fun h=>hgW h.symm))
    have HB6:Hid (Below w.heap.size w w6):=zD (HB5.out.trans (hag6.below (fun k hk hm=>by have:=HBw.out;omega) HB5.out.size))
    have hrow7:aq iZ 48 w6 w4.heap.size 0 (.slice (some ⟨g,0,none⟩) ys.length c) ys:=by rw [hlen6];exact hrow6
    have HCP:=zD (mo (d:=d+1) hrow7 (by omega) (fun y hy=>xh (HWK5.out.ok y (hmem6 y hy)).1) (fun y hy=>(HWK5.out.deep y (hmem6 y hy)).next (N:=fun k=>k=g) hag6 (fun k _ hk=>.inr (by rw [hk];rfl)) (fun k _ hk=>.inr (by rw [hk];rfl))) (by omega))
    rw [hlen6] at HCP
    have HM6:=zD (And.intro hmap6 hmem6)
    have HAG6:=zD hag6
    clear hag6 hrow6 hrow7 hlen6 hmap6 hmem6 k_w l_w
    have k_w:=HW6.out.cell
    have l_w:=HW6.out.lt
    go_wp2_with fail
    refine HCP.out.mono ?_
    rintro z w7 ⟨L,hL,rfl,hrow,hag7⟩
    have HROW:=zD hrow
    have HAG7:=zD hag7
    have HL:=zD hL
    clear hrow hag7 hL HCP
    go_wp2_with fail
    go_ret2
    have hsub:∀y∈L,y∈xs:=fun y hy=>HM6.out.2 y (qg qAn (by rw [←HL.out];exact hy))
    exact ⟨L,some ⟨g,0,none⟩,c,by rw [HRE.out];rfl,by rw [HRE.out,HL.out,uL,HM6.out.1,HOUT.out],HROW.out.lower (by omega),fun y hy=>HWK5.out.ok y (hsub y hy),fun y hy=>(HWK5.out.deep y (hsub y hy)).next (N:=fun k=>k=g) (HAG6.out.trans HAG7.out (fun _ _ h=>h)) (fun k _ hk=>.inr (by rw [hk];rfl)) (fun k _ hk=>.inr hk),HB6.out.trans (HAG7.out.below (fun k hk hm=>by have:=HBw.out;omega) HB6.out.size)⟩
  ·have he':(s.e !=0)=true:=by simpa using he
   have HRE:Hid (aS (fs.map FV.f) tr r=([],s.e)):=zD (by rw [HR.out,if_neg he])
   clear HR
   go_upto_region 6 with fail
   go_region
   go_wp2_with fail
   go_ret2
   exact ⟨[],none,0,by rw [HRE.out];rfl,by rw [HRE.out];rfl,aq.nil _ _ _ _ _,fun y hy=>absurd hy (by simp),fun y hy=>absurd hy (by simp),HB5.out.drew⟩
 ·have h1':bl r=false:=by simpa using h1
  rw [h1']
  go_wp2_with fail
  refine (eB (vs:=[_,_,_,_,_]) ((RuR (d+1)).keep HB2.out hB HRD.out) (zE hB hsz2)).mono ?_
  rintro e w3 ⟨rfl,hb3⟩
  have HR3:=zD (HR2.out.later hb3)
  have HB3:=zD (ab HB2.out hb3)
  have hsz3:=HB3.out.size
  clear hb3 k_r l_r
  have k_r:=HR3.out.cell
  have l_r:=HR3.out.lt
  by_cases h2:ay r=true
  ·have hmm:(bl r||ay r)=true:=by rw [h1',h2];rfl
   have HST:=zD (HST0.out hmm)
   have HBx:=HB3
   rw [h2]
   go_upto_region 4 with fail
   generalize hWW:World.alloc _ _=w4
   obtain ⟨hb4,hz⟩:=al1 hWW
   have HW4:=zD (n11 hWW)
   have HB4:=zD (ab HBx.out hb4)
   have hsz4:=HB4.out.size
   have hl4:=HW4.out.lt
   clear hWW hb4 hz k_r l_r
   have HWK:Hid (WkAt w4.heap.size d w4 w3.heap.size ⟨.string r.head.name,.slice A0 r.head.terms.length c0,.slice A1 r.body.length c1,.slice A2 r.exprs.length c2,.slice A3 r.scopes.length c3,S,tr⟩ 0 [] none 0 0):=zD ⟨HW4.out,hl4,zF _,aq.nil _ _ _ _ _,fun y hy=>absurd hy (by simp),fun y hy=>absurd hy (by simp)⟩
   have HGO2:Hid (Calls Tryz.prog 55 #[.pointer (some ⟨w3.heap.size,0,none⟩),.int .i64 0,.agg #[.slice none 0 0,.slice none 0 0,.int .u32 0]] w4 fun z w'=>WkE w4.heap.size d w3.heap.size ⟨.string r.head.name,.slice A0 r.head.terms.length c0,.slice A1 r.body.length c1,.slice A2 r.exprs.length c2,.slice A3 r.scopes.length c3,S,tr⟩ w4 w' none 0 0 (cv (fs.map FV.f) tr r.exprs r.body fI ⟨0,[],0⟩) z):=zD (rI HST.out (show w.heap.size≤w3.heap.size from HBx.out.size) r.body 0 rfl (zG _) w4 0 [] none 0 jS HB4.out HWK.out (fun w' _=>mX _ _ _) kv (by simp) (by decide))
   have l_w4:=hl4
   have HBw:Hid (w.heap.size≤w3.heap.size):=zD HBx.out.size
   generalize hWn:w3.heap.size=W at *
   have HR:Hid (aS (fs.map FV.f) tr r=if (cv (fs.map FV.f) tr r.exprs r.body fI ⟨0,[],0⟩).e=0 then (cpt (fun a b=>aP a b==0) (jt (cv (fs.map FV.f) tr r.exprs r.body fI ⟨0,[],0⟩).out),0) else ([],(cv (fs.map FV.f) tr r.exprs r.body fI ⟨0,[],0⟩).e)):=zD (if_pos hmm)
   clear hmm
   go_wp2_with fail
   refine HGO2.out.mono ?_
   rintro z w5 ⟨xs,A,c,rfl,hout,hwk,hag,_⟩
   have hfew:=iC (fs:=fs.map FV.f) (tr:=tr) (es:=r.exprs) (ps:=r.body) (x:=fI) (s:=⟨0,[],0⟩)
   clear HGO2
   generalize cv (fs.map FV.f) tr r.exprs r.body fI ⟨0,[],0⟩=s at *
   have hn:xs.length≤1000000:=by
    have h1:=hfew.2.1 (by decide)
    have h2:=hfew.2.2
    rw [←hout,List.length_map] at h2
    simp at h2
    omega
   have HB5:Hid (Below w.heap.size w w5):=zD (HB4.out.trans ((hag.below (base:=W) (fun k hk hm=>by rcases hm with h | h<;>first | omega | cases h) (Nat.le_of_lt hl4)).mono HBw.out))
   have HWK5:=zD hwk
   have HOUT:=zD hout
   have HW5:Hid (Blk w5 W #[.string r.head.name,.slice A0 r.head.terms.length c0,.slice A1 r.body.length c1,.slice A2 r.exprs.length c2,.slice A3 r.scopes.length c3,.pointer (some ⟨S,0,none⟩),.int .u32 tr,.int .i64 s.held,.slice A xs.length c,.int .i64 s.e]):=zD hwk.hd
   clear hag hwk hout hfew HW4 HWK
   have k_w:=HW5.out.cell
   have l_w:=HW5.out.lt
   by_cases he:s.e=0
   ·have HRE:Hid (aS (fs.map FV.f) tr r=(cpt (fun a b=>aP a b==0) (jt s.out),0)):=zD (by rw [HR.out,if_pos he])
    have he':(s.e !=0)=false:=by rw [he];rfl
    clear HR
    by_cases hx0:xs.length=0
    ·rw [hx0] at k_w
     go_wp2_with fail
     refine pq.mono ?_
     rintro z w6 ⟨rfl,rfl⟩
     go_wp2_with fail
     refine jB.mono ?_
     rintro z w6 ⟨rfl,rfl⟩
     go_wp2_with fail
     go_ret2
     have hx1:xs=[]:=List.length_eq_zero_iff.1 hx0
     have ho:s.out=[]:=by rw [←HOUT.out,hx1];rfl
     exact ⟨[],A,c,by rw [HRE.out];rfl,by rw [HRE.out,ho,(gM []).eq_nil];rfl,by have h:=HWK5.out.row;rw [hx1] at h;exact h.lower (by omega),fun y hy=>absurd hy (by simp),fun y hy=>absurd hy (by simp),HB5.out⟩
    ·have hx:0<xs.length:=by omega
     obtain ⟨g,c1_,e1,hg1,hg2,_⟩:=HWK5.out.row.sh aW hx
     simp only [Value.slice.injEq,true_and] at e1
     obtain ⟨rfl,rfl⟩:=e1
     have hgW:g≠W:=by omega
     go_wp2_with fail
     refine (ku (d:=d+1) HWK5.out.row hx (fun y hy=>xh (HWK5.out.ok y hy).1) (fun y hy=>(HWK5.out.deep y hy).less (fun k _ hk=>.inr (by rw [hk];rfl))) hn).mono ?_
     rintro z w6 ⟨rfl,hrow6,hag6⟩
     have hlen6:=wE xs
     have hmap6:=wF xs
     have hmem6:=wG xs
     generalize (eu (xs.map AnV.x)).map (xs.getD · jS)=ys at *
     have HW6:=zD (hag6.blk HW5.out (fun h=>hgW h.symm))
     have HB6:Hid (Below w.heap.size w w6):=zD (HB5.out.trans (hag6.below (fun k hk hm=>by have:=HBw.out;omega) HB5.out.size))
     have hrow7:aq iZ 48 w6 w4.heap.size 0 (.slice (some ⟨g,0,none⟩) ys.length c) ys:=by rw [hlen6];exact hrow6
     have HCP:=zD (mo (d:=d+1) hrow7 (by omega) (fun y hy=>xh (HWK5.out.ok y (hmem6 y hy)).1) (fun y hy=>(HWK5.out.deep y (hmem6 y hy)).next (N:=fun k=>k=g) hag6 (fun k _ hk=>.inr (by rw [hk];rfl)) (fun k _ hk=>.inr (by rw [hk];rfl))) (by omega))
     rw [hlen6] at HCP
     have HM6:=zD (And.intro hmap6 hmem6)
     have HAG6:=zD hag6
     clear hag6 hrow6 hrow7 hlen6 hmap6 hmem6 k_w l_w
     have k_w:=HW6.out.cell
     have l_w:=HW6.out.lt
     go_wp2_with fail
     refine HCP.out.mono ?_
     rintro z w7 ⟨L,hL,rfl,hrow,hag7⟩
     have HROW:=zD hrow
     have HAG7:=zD hag7
     have HL:=zD hL
     clear hrow hag7 hL HCP
     go_wp2_with fail
     go_ret2
     have hsub:∀y∈L,y∈xs:=fun y hy=>HM6.out.2 y (qg qAn (by rw [←HL.out];exact hy))
     exact ⟨L,some ⟨g,0,none⟩,c,by rw [HRE.out];rfl,by rw [HRE.out,HL.out,uL,HM6.out.1,HOUT.out],HROW.out.lower (by omega),fun y hy=>HWK5.out.ok y (hsub y hy),fun y hy=>(HWK5.out.deep y (hsub y hy)).next (N:=fun k=>k=g) (HAG6.out.trans HAG7.out (fun _ _ h=>h)) (fun k _ hk=>.inr (by rw [hk];rfl)) (fun k _ hk=>.inr hk),HB6.out.trans (HAG7.out.below (fun k hk hm=>by have:=HBw.out;omega) HB6.out.size)⟩
   ·have he':(s.e !=0)=true:=by simpa using he
    have HRE:Hid (aS (fs.map FV.f) tr r=([],s.e)):=zD (by rw [HR.out,if_neg he])
    clear HR
    go_upto_region 6 with fail
    go_region
    go_wp2_with fail
    go_ret2
    exact ⟨[],none,0,by rw [HRE.out];rfl,by rw [HRE.out];rfl,aq.nil _ _ _ _ _,fun y hy=>absurd hy (by simp),fun y hy=>absurd hy (by simp),HB5.out.drew⟩
  ·have h2':ay r=false:=by simpa using h2
   have hmm:(bl r||ay r)=false:=by rw [h1',h2'];rfl
   have HR:Hid (aS (fs.map FV.f) tr r=([],1)):=zD (by unfold aS;rw [if_neg (by rw [hmm];decide)])
   rw [h2']
   clear hmm h1 h2
   go_wp2_with fail
   go_ret2
   exact ⟨[],none,0,by rw [HR.out];rfl,by rw [HR.out];rfl,aq.nil _ _ _ _ _,fun y hy=>absurd hy (by simp),fun y hy=>absurd hy (by simp),HB3.out⟩
def FcIn (f:Fc):Prop:=f.pr.name.size≤140737488351232∧U32 f.o
def stL (l:List Fc):List Fc:=l.foldl sl []
section
variable {fs:List Fc} {f x:Fc}
theorem xd (fs:List Fc) (f:Fc):(sl fs f).length≤fs.length+1:=by
 unfold sl
 split
 ·rw [bF lx];exact zF _
 ·omega
end
section
variable {l l':List Fc} (hl:∀f∈l,FcIn f)
include hl
end
theorem qX:∀(l fs:List Fc),(l.foldl sl fs).length≤fs.length+l.length
 | [],fs=>by simp
 | f::l,fs=>by
   have h1:=qX l (sl fs f)
   have h2:=xd fs f
   rw [List.foldl_cons,List.length_cons];omega
theorem yz (l:List Fc) (f:Fc):stL (l++[f])=sl (stL l) f:=by unfold stL;rw [List.foldl_append];rfl
/-! Whom is trusted. -/
/-! More facts. -/
def Ext (s s':Wst):Prop:=s.held≤s'.held∧∃l,s'.out=s.out++l
theorem Ext.refl (s:Wst):Ext s s:=⟨Int.le_refl _,[],by simp⟩
theorem Ext.trans {s t u:Wst} (h:Ext s t) (k:Ext t u):Ext s u:=by
 obtain ⟨h1,l,h2⟩:=h
 obtain ⟨k1,m,k2⟩:=k
 exact ⟨Int.le_trans h1 k1,l++m,by rw [k2,h2,List.append_assoc]⟩
theorem ow {x:Ans}:∀{es:List (List OpD)} {s:Wst},Ext s (dV es x s)
 | [],s=>⟨Int.le_refl _,[x],rfl⟩
 | q::qs,s=>by
   rw [dV]
   split
   ·exact ⟨Int.le_refl _,[],by simp⟩
   ·split
    ·exact ow
    ·exact Ext.refl _
theorem Ext.held {s t:Wst} {h:Int} (k:Ext ⟨s.held+1,s.out,h⟩ t):Ext s t:=by
 obtain ⟨k1,k2⟩:=k
 exact ⟨by simp only at k1;omega,k2⟩
theorem iK {tr:Int} {step:Fc→Wst→Wst} (hs:∀f s,Ext s (step f s)):∀{fs:List Fc} {s:Wst},Ext s (de tr step fs s)
 | [],s=>Ext.refl _
 | f::fs,s=>by
   rw [de]
   split
   ·exact iK hs
   ·split
    ·exact ⟨Int.le_refl _,[],by simp⟩
    ·split
     ·exact (hs _ _).held
     ·exact (hs _ _).held.trans (iK hs)
theorem oD {fs:List Fc} {tr:Int} {es:List (List OpD)}:∀{ps:List Pr} {x:Ans} {s:Wst},Ext s (cv fs tr es ps x s)
 | [],x,s=>ow
 | p::ps,x,s=>by
   rw [cJ]
   refine iK fun f s=>?_
   unfold ek
   split
   ·exact oD
   ·exact Ext.refl _
def Sim (s s' t t':Wst):Prop:=s.held≤s'.held→s.e=0→t'.e=0→t.e=0∧t.held≤t'.held∧∃l l',t.out=s.out++l∧t'.out=s'.out++l'∧l.Sublist l'
theorem Sim.add {s s' t t' u u':Wst} (h:Sim s s' t t') (k:Sim t t' u u') (hx:Ext t' u') (he:t'.e=0):Sim s s' u u':=fun h1 h2 h3=>by
 obtain ⟨a1,a2,l,l',a3,a4,a5⟩:=h h1 h2 he
 obtain ⟨b1,b2,m,m',b3,b4,b5⟩:=k a2 a1 h3
 exact ⟨b1,b2,l++m,l'++m',by rw [b3,a3,List.append_assoc],by rw [b4,a4,List.append_assoc],a5.append b5⟩
/-! eH,each once. -/
def RiseA (L:List Ans):Prop:=L.Pairwise fun a b=>aP a b<0
def eqA (a b:Ans):Bool:=aP a b==0
theorem gH:∀{ys:List Ans} {p:Ans},(p::ys).Pairwise (fun a b=>aP a b≤0)→RiseA (eJ eqA p ys)∧(∀y∈eJ eqA p ys,aP p y<0)∧∀x∈ys,aP p x=0∨∃y∈eJ eqA p ys,aP y x=0
 | [],p,_=>⟨List.Pairwise.nil,by simp [eJ],by simp⟩
 | y::ys,p,h=>by
   rw [List.pairwise_cons] at h
   obtain ⟨h1,h2,h3⟩:=gH h.2
   have hy:=h.1 y (by simp)
   rw [eJ]
   by_cases he:aP y p=0
   ·have he':aP p y=0:=by have:=bV.anti p y;omega
    rw [if_pos (by simp [eqA,he])]
    refine ⟨h1,fun z hz=>bV.le_lt (by omega) (h2 z hz),fun x hx=>?_⟩
    rcases List.mem_cons.1 hx with rfl | hx
    ·exact .inl he'
    ·rcases h3 x hx with h4 | h4
     ·rcases bV.zero_l (z:=x) he' with k | ⟨_,k⟩ | ⟨_,k⟩<;>first | (exact .inl (by omega)) | omega
     ·exact .inr h4
   ·have hlt:aP p y<0:=by have:=bV.anti p y;omega
    rw [if_neg (by simp [eqA,he])]
    refine ⟨List.Pairwise.cons h2 h1,fun z hz=>?_,fun x hx=>?_⟩
    ·rcases List.mem_cons.1 hz with rfl | hz
     ·exact hlt
     ·exact bV.lt_le hlt (Int.le_of_lt (h2 z hz))
    ·rcases List.mem_cons.1 hx with rfl | hx
     ·exact .inr ⟨x,by simp,bV.self x⟩
     ·rcases h3 x hx with h4 | ⟨z,hz,h4⟩
      ·exact .inr ⟨y,by simp,h4⟩
      ·exact .inr ⟨z,by simp [hz],h4⟩
def lJ (L:List Ans):List Ans:=cpt eqA (jt L)
theorem eW (L:List Ans):RiseA (lJ L)∧(∀x∈L,∃y∈lJ L,aP y x=0)∧∀y∈lJ L,y∈L:=by
 have hs:=pt L
 have hp:=gM L
 refine ⟨?_,?_,fun y hy=>hp.mem_iff.1 (qg _ hy)⟩
 ·unfold lJ
  generalize jt L=S at *
  cases S with
  | nil=>exact List.Pairwise.nil
  | cons p ys=>exact List.Pairwise.cons (gH hs).2.1 (gH hs).1
 ·intro x hx
  have hx':=hp.mem_iff.2 hx
  unfold lJ
  generalize jt L=S at *
  cases S with
  | nil=>simp at hx'
  | cons p ys=>
    rcases List.mem_cons.1 hx' with rfl | hx'
    ·exact ⟨x,by simp [cpt],bV.self x⟩
    ·rcases (gH hs).2.2 x hx' with h | ⟨y,hy,h⟩
     ·exact ⟨p,by simp [cpt],h⟩
     ·exact ⟨y,by simp [cpt,hy],h⟩
def qT (fs:List Fc) (tr:Int) (r:Ru):Wst:=cv fs tr r.exprs r.body fI ⟨0,[],0⟩
theorem fe (fs:List Fc) (tr:Int) (r:Ru):aS fs tr r=if (bl r||ay r)=true then (if (qT fs tr r).e=0 then (lJ (qT fs tr r).out,0) else ([],(qT fs tr r).e)) else ([],1):=rfl
theorem oy {x y:Ans}:∀{es:List (List OpD)} {s:Wst},y∈(dV es x s).out→y∈s.out∨y=x
 | [],s,h=>by simpa [dV] using h
 | q::qs,s,h=>by
   rw [dV] at h
   split at h
   ·exact .inl h
   ·split at h
    ·exact oy h
    ·exact .inl h
theorem ll {tr:Int} {step:Fc→Wst→Wst} {P:Ans→Prop} (hs:∀f s y,y∈(step f s).out→y∈s.out∨P y):∀{fs:List Fc} {s:Wst} {y:Ans},y∈(de tr step fs s).out→y∈s.out∨P y
 | [],s,y,h=>.inl h
 | f::fs,s,y,h=>by
   rw [de] at h
   split at h
   ·exact ll hs h
   ·split at h
    ·exact .inl h
    ·split at h
     ·exact hs f ⟨s.held+1,s.out,s.e⟩ _ h
     ·rcases ll hs h with h | h
      ·exact hs f ⟨s.held+1,s.out,s.e⟩ _ h
      ·exact .inr h
theorem kY {fs:List Fc} {tr:Int} {es:List (List OpD)}:∀{ps:List Pr} {x:Ans} {s:Wst} {y:Ans},bO x.b=true→y∈(cv fs tr es ps x s).out→y∈s.out∨bO y.b=true
 | [],x,s,y,hx,h=>(oy h).imp id (fun e=>by rw [e];exact hx)
 | p::ps,x,s,y,hx,h=>by
   rw [cJ] at h
   refine ll (P:=fun y=>bO y.b=true) (fun f s y h=>?_) h
   unfold ek at h
   split at h
   ·rename_i c hc
    exact kY (x:=⟨c,orO x.o f.o⟩) (rF hc) h
   ·exact .inl h
def tS (es:List (List OpD)) (x:Ans):Prop:=∀q∈es,bN (cP x.b q)=(true,0)
theorem je {x:Ans}:∀{es:List (List OpD)},tS es x→∀s,dV es x s=⟨s.held,s.out++[x],s.e⟩
 | [],_,s=>rfl
 | q::qs,h,s=>by
   rw [dV,h q (by simp)]
   simp only [ne_eq,not_true_eq_false,if_false,if_true]
   exact je (fun q hq=>h q (by simp [hq])) s
theorem jo {tr:Int} {step step':Fc→Wst→Wst} {P:Ans→Prop} (hx:∀f s,Ext s (step' f s)) (hs:∀f s,(∀y∈(step' f s).out,P y)→step f s=step' f s):∀{fs:List Fc} {s:Wst},(∀y∈(de tr step' fs s).out,P y)→de tr step fs s=de tr step' fs s
 | [],s,_=>rfl
 | f::fs,s,h=>by
   rw [de] at h ⊢
   rw [de]
   split
   ·rename_i hu
    rw [if_pos hu] at h
    exact jo hx hs h
   ·rename_i hu
    rw [if_neg hu] at h
    split
    ·rfl
    ·rename_i hm
     rw [if_neg hm] at h
     have e:step f ⟨s.held+1,s.out,s.e⟩=step' f ⟨s.held+1,s.out,s.e⟩:=by
      refine hs _ _ fun y hy=>?_
      split at h
      ·exact h y hy
      ·obtain ⟨_,l,hl⟩:=iK (tr:=tr) hx (fs:=fs) (s:=step' f ⟨s.held+1,s.out,s.e⟩)
       exact h y (by rw [hl];exact List.mem_append_left _ hy)
     rw [e]
     split
     ·rfl
     ·rename_i he
      rw [if_neg he] at h
      exact jo hx hs h
theorem mB {fs:List Fc} {tr:Int} {es:List (List OpD)}:∀{ps:List Pr} {x:Ans} {s:Wst},(∀y∈(cv fs tr [] ps x s).out,tS es y)→cv fs tr es ps x s=cv fs tr [] ps x s
 | [],x,s,h=>je (h x (by simp [cv,dV])) s
 | p::ps,x,s,h=>by
   rw [cJ] at h ⊢
   rw [cJ]
   refine jo (P:=tS es) (fun f s=>?_) (fun f s h=>?_) h
   ·unfold ek
    split
    ·exact oD
    ·exact Ext.refl _
   ·unfold ek at h ⊢
    split
    ·rename_i hc
     rw [hc] at h
     exact mB h
    ·rfl
theorem rx:∀{a b:List aU},dC a b=0→a=b
 | [],[],_=>rfl
 | [],_::_,h=>by simp [dC] at h
 | _::_,[],h=>by simp [dC] at h
 | x::a,y::b,h=>by
   rw [dC] at h
   split at h
   ·rename_i h0
    rw [kE.1 h0,rx h]
   ·exact absurd h ‹_›
theorem ans_eq {x y:Ans} (hx:bO x.b=true) (hy:bO y.b=true) (h:aP x y=0):x=y:=by
 simp only [aP,orL] at h
 split at h
 ·rename_i h1
  split at h
  ·rename_i h2
   split at h
   ·rename_i h3
    obtain ⟨⟨n,t⟩,o⟩:=x
    obtain ⟨⟨n',t'⟩,o'⟩:=y
    have e1:n=n':=rx h1
    have e2:t=t':=wQ (fun z hz=>(bE ((ff hx).1.fixed z hz)).1) (fun z hz=>(bE ((ff hy).1.fixed z hz)).1) h2
    have e3:o=o':=fT.1 h3
    rw [e1,e2,e3]
   ·exact absurd h ‹_›
  ·exact absurd h ‹_›
 ·exact absurd h ‹_›
def dD (b:Bd):List (List OpD)→Bool→Bool × Int
 | [],a=>(a,0)
 | q::qs,a=>if (bN (cP b q)).2≠0 then (false,(bN (cP b q)).2) else dD b qs (a&&(bN (cP b q)).1)
def fF (es:List (List OpD)):List Ans→Bool→Bool × Int
 | [],a=>(a,0)
 | x::xs,a=>if (dD x.b es a).2≠0 then (false,(dD x.b es a).2) else fF es xs (dD x.b es a).1
def nd (r:Ru):Ru:=⟨r.head,r.body,[],r.scopes⟩
def bK (fs:List Fc) (tr:Int) (r:Ru):List Ans × Int:=if r.body.length=0 then ([fI],0) else aS fs tr (nd r)
def lE (l:List Ans):Bool:=decide (0<l.length)
def eD (fs:List Fc) (tr:Int) (r:Ru):Bool × Int:=if ay r=true then (lE (aS fs tr r).1,(aS fs tr r).2) else (false,1)
def cI (fs:List Fc) (tr:Int) (r:Ru):Bool × Int:=if ay r=true then (if (bK fs tr r).2≠0 then (false,(bK fs tr r).2) else fF r.exprs (bK fs tr r).1 (lE (bK fs tr r).1)) else (false,1)
theorem mz {b:Bd} {o:Int}:∀{es:List (List OpD)} {a:Bool},dD b es a=(true,0)→a=true∧tS es ⟨b,o⟩
 | [],a,h=>⟨by simpa [dD] using h,fun q hq=>absurd hq (by simp)⟩
 | q::qs,a,h=>by
   rw [dD] at h
   split at h
   ·simp at h
   ·rename_i he
    obtain ⟨h1,h2⟩:=mz (o:=o) h
    rw [Bool.and_eq_true] at h1
    refine ⟨h1.1,fun q' hq'=>?_⟩
    rcases List.mem_cons.1 hq' with rfl | hq'
    ·have e:(bN (cP b q')).2=0:=by simpa using he
     exact Prod.ext h1.2 e
    ·exact h2 q' hq'
theorem my {es:List (List OpD)}:∀{l:List Ans} {a:Bool},fF es l a=(true,0)→a=true∧∀x∈l,tS es x
 | [],a,h=>⟨by simpa [fF] using h,fun x hx=>absurd hx (by simp)⟩
 | x::xs,a,h=>by
   rw [fF] at h
   split at h
   ·simp at h
   ·rename_i he
    obtain ⟨h1,h2⟩:=my h
    have he':(dD x.b es a).2=0:=by simpa using he
    obtain ⟨h3,h4⟩:=mz (o:=x.o) (Prod.ext h1 he':dD x.b es a=(true,0))
    refine ⟨h3,fun y hy=>?_⟩
    rcases List.mem_cons.1 hy with rfl | hy
    ·exact h4
    ·exact h2 y hy
theorem wB {l:List Ans}:lE l=true↔l≠[]:=by unfold lE;rw [decide_eq_true_eq];exact List.length_pos_iff
theorem pw {L:List Ans}:lE (lJ L)=true↔L≠[]:=by
 rw [wB]
 constructor
 ·rintro h rfl
  exact h (List.eq_nil_iff_forall_not_mem.2 fun x hx=>absurd ((eW []).2.2 x hx) (by simp))
 ·intro h e
  obtain ⟨x,hx⟩:=List.exists_mem_of_ne_nil _ h
  obtain ⟨y,hy,_⟩:=(eW L).2.1 x hx
  rw [e] at hy;simp at hy
theorem run_may {fs:List Fc} {tr:Int} {r:Ru} (h:ay r=true):aS fs tr r=if (qT fs tr r).e=0 then (lJ (qT fs tr r).out,0) else ([],(qT fs tr r).e):=by
 rw [fe,if_pos (by rw [h,Bool.or_true])]
theorem qk {fs:List Fc} {tr:Int} {r:Ru} (h:cI fs tr r=(true,0)):eD fs tr r=(true,0):=by
 unfold cI at h
 split at h
 ·rename_i hm
  split at h
  ·simp at h
  ·rename_i he
   obtain ⟨h1,h2⟩:=my h
   have he':(bK fs tr r).2=0:=by simpa using he
   have hrun:(qT fs tr r).e=0∧(qT fs tr r).out≠[]:=by
    unfold bK at h1 h2 he'
    split at h1
    ·rename_i hb
     rw [if_pos hb] at h2
     have hb':=List.length_eq_zero_iff.1 hb
     unfold qT
     rw [hb',cv,je (h2 fI (by simp))]
     exact ⟨rfl,by simp⟩
    ·rename_i hb
     rw [if_neg hb] at h2 he'
     rw [fe] at h1 h2 he'
     split at he'
     ·rename_i hm2
      rw [if_pos hm2] at h1 h2
      split at he'
      ·rename_i hr
       rw [if_pos hr] at h1 h2
       have hg:qT fs tr r=qT fs tr (nd r):=by
        unfold qT
        show cv fs tr r.exprs r.body fI _=cv fs tr [] r.body fI _
        refine mB fun y hy=>?_
        have hy':y∈(qT fs tr (nd r)).out:=hy
        obtain ⟨z,hz,hc⟩:=(eW _).2.1 y hy'
        have hz':=(eW _).2.2 z hz
        have by_:=(kY (x:=fI) (s:=⟨0,[],0⟩) kv.1 hy').resolve_left (by simp)
        have bz:=(kY (x:=fI) (s:=⟨0,[],0⟩) kv.1 hz').resolve_left (by simp)
        rw [←ans_eq bz by_ hc]
        exact h2 z hz
       rw [hg]
       exact ⟨hr,pw.1 h1⟩
      ·rename_i hr
       exact absurd he' hr
     ·cases he'
   unfold eD
   rw [if_pos hm,run_may hm,if_pos hrun.1]
   exact Prod.ext (pw.2 hrun.2) rfl
 ·simp at h
end Go.Proofs.YtdphibjibnffeaaGreat
