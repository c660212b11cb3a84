/- slices.SortFunc at a row of answers. Printed by mk_ansort.py. -/
import Derived.Test.YtdphibjibnffeaaGreatAn1
import Derived.Test.YtdphibjibnffeaaGreatStL0
import Derived.Test.YtdphibjibnffeaaGreatTrue
import Derived.Test.YtdphibjibnffeaaGreatJoFits
import Derived.Test.YtdphibjibnffeaaGreatPush
set_option linter.unusedVariables false
set_option linter.unusedSimpArgs false
set_option maxRecDepth 100000
set_option maxHeartbeats 8000000
namespace Go.Proofs.YtdphibjibnffeaaGreat
open Go.ChangeShapes Go.WideShapes Go.ChangeAt Go.RowKit
structure AnV where
 x:Ans
 an:Option Addr
 cn:Nat
 at_:Option Addr
 ct:Nat
def AnV.cs (y:AnV):List Value:=anV y.x y.an y.cn y.at_ y.ct
def iV:Reader AnV where
 k:=3
 rd:=fun _ _ x vs=>vs=x.cs
 keep:=fun _ _ h=>h
 wide:=fun _ h=>h
 len:=fun h=>by rw [h];rfl
theorem sX:dq iV:=fun {w B x vs} h u hu=>by
 have h:vs=x.cs:=h
 subst h
 simp only [AnV.cs,anV,List.mem_cons,List.not_mem_nil,or_false] at hu
 rcases hu with rfl | rfl | rfl<;>rfl
theorem aT:Shallow iV AnV.cs:=⟨Iff.rfl,fun _=>rfl⟩
theorem infoAns:(Tryz.prog.info? 48).map (fun i=>(i.zero,i.size,i.bytes))=some (some (.agg #[.slice none 0 0,.slice none 0 0,.int .u32 0]),3,56):=by kernel_rfl
structure WkC where
 hd:Value
 t0:Value
 bd:Value
 ex:Value
 sc:Value
 S:Nat
 tr:Int
def wkA (k:WkC) (held:Int) (out:Value) (e:Int):Array Value:=#[k.hd,k.t0,k.bd,k.ex,k.sc,.pointer (some ⟨k.S,0,none⟩),.int .u32 k.tr,.int .i64 held,out,.int .i64 e]
structure WkAt (base d:Nat) (w:World) (W:Nat) (k:WkC) (held:Int) (xs:List AnV) (A:Option Addr) (c:Nat) (e:Int):Prop where
 hd:Blk w W (wkA k held (.slice A xs.length c) e)
 lt:W<base
 bw:base≤w.heap.size
 row:am iV 48 w base 0 (.slice A xs.length c) xs
 ok:∀y∈xs,cr y.x.b=true∧U32 y.x.o
 deep:∀y∈xs,ie (StM W (.slice A xs.length c)) w (fun w'=>(mC (d+1)).rd w' w'.heap.size y.x y.cs)
theorem wB {x:Ans} (h:cr x.b=true):AnOk x:=by
 have h1:=fC.1 h
 exact ⟨h1.2,by rw [←h1.1.len];exact h1.2⟩
section
variable {base d W c:Nat} {w w':World} {k:WkC} {held e:Int} {xs:List AnV} {A:Option Addr}
theorem WkAt.later (h:WkAt base d w W k held xs A c e) (hb:Below w.heap.size w w'):WkAt base d w' W k held xs A c e:=
 ⟨h.hd.later hb,h.lt,yX h.bw hb.size,h.row.later hb (yZ _),h.ok,fun y hy=>(h.deep y hy).later hb⟩
theorem WkAt.put (h:WkAt base d w W k held xs A c e) {i:Nat} {u:Value} {held' e':Int} (hc:(wkA k held (.slice A xs.length c) e).setIfInBounds i u=wkA k held' (.slice A xs.length c) e'):WkAt base d (w.setCell ⟨W,i,none⟩ u) W k held' xs A c e':=by
 refine ⟨hc▸h.hd.set_ i u,h.lt,by rw [World.size_setCell];exact h.bw,h.row.far h.lt (yZ _) u,h.ok,fun y hy=>(h.deep y hy).next (N:=StM W (.slice A xs.length c)) ((aw.refl _ w).set_ (fun _=>.inl rfl) i u) (fun _ _ h=>h) (fun _ _ h=>h)⟩
end
structure Wst where
 held:Int
 out:List Ans
 e:Int
def dI:List (List OpD)→Ans→Wst→Wst
 | [],x,s=>⟨s.held,s.out++[x],s.e⟩
 | q::qs,x,s=>if (bN (cT x.b q)).2≠0 then ⟨s.held,s.out,(bN (cT x.b q)).2⟩ else if (bN (cT x.b q)).1=true then dI qs x s else s
theorem xY {r:Tm × Int} (h:(bN r).2≠0):(bN r).1=false:=by
 unfold bN at h ⊢
 split
 ·rfl
 ·rename_i h1
  rw [if_neg h1] at h
  split
  ·rfl
  ·rename_i h2;rw [if_neg h2] at h;exact absurd rfl h
theorem mG {d B:Nat} {w:World} {y:AnV} (h:(mC d).rd w B y.x y.cs):RL cX w B (y.x.b.names.map mkS) y.an∧RL (TmR d) w B y.x.b.terms y.at_:=by
 obtain ⟨An,cn,At,ct,e,h1,h2⟩:=h
 simp only [AnV.cs,anV,List.cons.injEq,Value.slice.injEq,true_and,and_true] at e
 obtain ⟨⟨rfl,_⟩,rfl,_⟩:=e
 exact ⟨h1,h2⟩
def WkE (base d W:Nat) (k:WkC) (w w':World) (A:Option Addr) (n c:Nat) (s:Wst) (z:Ending):Prop:=
 ∃xs' A' c',z=.returned (.tuple #[])∧xs'.map AnV.x=s.out∧WkAt base d w' W k s.held xs' A' c' s.e∧aw (StM W (.slice A n c)) w w'∧bl w (.slice A n c) (.slice A' xs'.length c')
theorem ti {base d B W c:Nat} {k:WkC} {held e:Int} {xs:List AnV} {A:Option Addr} {w:World} {y:AnV} {es:List (List OpD)} {Ae:Option Addr} {ce:Nat} {m:Int} (hw:WkAt base d w W k held xs A c e) (hex:k.ex=.slice Ae es.length ce) (hes:RL (ExR (d+1)) w B es Ae) (hB:B≤W)
 (hy:ie (StM W (.slice A xs.length c)) w (fun w'=>(mC (d+1)).rd w' w'.heap.size y.x y.cs)) (hok:cr y.x.b=true∧U32 y.x.o) (hn:xs.length≤200000) (hm0:w.cell? ⟨0,0,none⟩=some (.int .i64 m)) (hW0:0<W) (hne:es.length≤1000000) :
 Calls Tryz.prog 114 #[.pointer (some ⟨W,0,none⟩),.agg y.cs.toArray] w fun z w'=>WkE base d W k w w' A xs.length c (dI es y.x ⟨held,xs.map AnV.x,e⟩) z:=by
 obtain ⟨i0,hi0,hz0,hz1,hz2⟩:=info_parts infoAns
 have HW:=yW hw
 have HES:=yW hes
 have HY:=yW hy
 have HOK:=yW hok
 have HM0:=yW hm0
 have hWl:=hw.hd.lt
 have HBD:=yW (fC.1 hok.1)
 obtain ⟨kh,kt,kb,ke,ks,kS,ktr⟩:=k
 have hex:ke=.slice Ae es.length ce:=hex
 subst hex
 clear hw hes hy hok hm0
 unfold AnV.cs anV
 go_enter Tryz.func114,Tryz.ntmps114
 go_upto_region 1 with fail
 generalize hWW:World.alloc _ _=w1
 obtain ⟨hb1,hz⟩:=al1 hWW
 have HA1:=yW (n11 hWW)
 have HB1:=yW hb1
 have HW1:=yW (HW.out.later hb1)
 have hsz1:=hb1.size
 clear hWW hb1
 have k_w:=HW1.out.hd.cell
 have l_w:=HW1.out.hd.lt
 unfold wkA at k_w
 go_upto_region 2 with fail
 clear k_w l_w
 go_loopw [14] (fun i wr=>∃j:Nat,j≤es.length∧i=.int .i64 j∧Hid (Below w1.heap.size w1 wr)∧Hid (dI es y.x ⟨held,xs.map AnV.x,e⟩=dI (es.drop j) y.x ⟨held,xs.map AnV.x,e⟩)) (fun i _=>es.length-(intOf i).toNat)
 case atStart=>exact ⟨0,yZ _,rfl,yW (za _ _),yW rfl⟩
 case round=>
  obtain ⟨j,hj,rfl,HWR,HEQ⟩:=hrel
  have HAr:=yW (HA1.out.later HWR.out)
  have HWr:=yW (HW1.out.later HWR.out)
  have HBr:=yW (ab HB1.out HWR.out)
  have hszr:=HBr.out.size
  have hBw:B≤w.heap.size:=by omega
  have hBr:B≤wr.heap.size:=by omega
  by_cases hlt:j<es.length
  ·obtain ⟨be_,offe,rfl,hobe⟩:=(HES.out.keep HBr.out hBw).base (za _ _) hBr (by omega)
   obtain ⟨q,vs,hx,hlen,hcell,hr⟩:=(HES.out.keep HBr.out hBw).at_ (za _ _) hBr hlt
   have HQ:=yW hr
   have HQE:Hid (es[j]=q):=yW (by rw [List.getElem?_eq_getElem hlt] at hx;simpa using hx)
   obtain ⟨_,rfl,Aq,cq,rfl,_⟩:=show (ExR (d+1)).rd wr B q vs from hr
   have c0:wr.cell? ⟨be_,offe+j,none⟩=some (.slice Aq q.length cq):=by have:=hcell 0 _ rfl;simpa [ExR] using this
   clear hcell hlen hx hr
   have HSTEP:Hid (dI es y.x ⟨held,xs.map AnV.x,e⟩=if (bN (cT y.x.b q)).2≠0 then ⟨held,xs.map AnV.x,(bN (cT y.x.b q)).2⟩ else if (bN (cT y.x.b q)).1=true then dI (es.drop (j+1)) y.x ⟨held,xs.map AnV.x,e⟩ else ⟨held,xs.map AnV.x,e⟩):=yW (by rw [HEQ.out,List.drop_eq_getElem_cons hlt,HQE.out];rfl)
   have HRD:Hid (RL cX wr wr.heap.size (y.x.b.names.map mkS) y.an∧RL (TmR (d+1)) wr wr.heap.size y.x.b.terms y.at_):=yW (mG (HY.out.later HBr.out).here)
   have hI0:(0:Int)≤(j:Int):=Int.natCast_nonneg _
   have hI1:(j:Int)<(es.length:Int):=by omega
   go_upto_region 4 with fail
   generalize hWW:World.alloc _ _=w4
   obtain ⟨hb4,hz4⟩:=al1 hWW
   have HE4:=yW (n11 hWW)
   have HA4:=yW (HAr.out.later hb4)
   have HW4:=yW (HWr.out.later hb4)
   have HB4:=yW (ab HBr.out hb4)
   have HX4:=yW (ab HWR.out hb4)
   have hsz4:=hb4.size
   have HQ4:=yW ((ExR (d+1)).keep hb4 hBr HQ.out)
   have HRD4:=yW (And.intro (HRD.out.1.keep hb4 (yY _)) (HRD.out.2.keep hb4 (yY _)))
   clear hWW hb4 c0
   have k_e:=HE4.out.cell
   have l_e:=HE4.out.lt
   have k_a:=HA4.out.cell
   have l_a:=HA4.out.lt
   go_wp2_with fail
   refine (rz (D:=d) (cn:=y.cn) (ct:=y.ct) (evs:=[_]) (b:=y.x.b) (B:=wr.heap.size) (m:=m) ((ExR (d+1)).wide hBr HQ4.out) HRD4.out.1 HRD4.out.2 hsz4 ((HB4.out.cell (p:=⟨0,0,none⟩) (show 0<w.heap.size by omega)).trans HM0.out) (by omega)).mono ?_
   rintro z w5 ⟨rfl,hb5⟩
   have HB5:=yW (ab HB4.out hb5)
   have HW5:=yW (HW4.out.later hb5)
   have HX5:=yW (ab HX4.out hb5)
   have hsz5:=hb5.size
   clear k_e l_e k_a l_a hb5
   by_cases h2:(bN (cT y.x.b q)).2=0
   rotate_left
   ·have h1:=xY h2
    have q2:((bN (cT y.x.b q)).2 !=0)=true:=by simpa using h2
    have HS2:Hid (dI es y.x ⟨held,xs.map AnV.x,e⟩=⟨held,xs.map AnV.x,(bN (cT y.x.b q)).2⟩):=yW (by rw [HSTEP.out,if_pos h2])
    clear h2
    rw [h1]
    clear h1
    generalize (bN (cT y.x.b q)).2=r at *
    have k_w:=HW5.out.hd.cell
    have l_w:=HW5.out.hd.lt
    have f_w:=HW5.out.hd.free
    unfold wkA at k_w
    go_wp2_with fail
    refine bodyPost_ret (results_none rfl _ _ _) rfl ?_
    rw [HS2.out]
    exact ⟨xs,A,c,rfl,rfl,HW5.out.put rfl,(aw.of_below HB5.out).set_ (fun _=>.inl rfl) 9 _,.inl rfl⟩
   ·have q2:((bN (cT y.x.b q)).2 !=0)=false:=by simpa using h2
    by_cases h1:(bN (cT y.x.b q)).1=true
    ·have HS2:Hid (dI es y.x ⟨held,xs.map AnV.x,e⟩=dI (es.drop (j+1)) y.x ⟨held,xs.map AnV.x,e⟩):=yW (by rw [HSTEP.out,if_neg (by simpa using h2),if_pos h1])
     rw [h1]
     clear h1 h2
     go_wp2_with fail
     go_roundw
     case rel=>exact ⟨j+1,by omega,by go_num,HX5,HS2⟩
     case measure=>simp [intOf];omega
    ·have HS2:Hid (dI es y.x ⟨held,xs.map AnV.x,e⟩=⟨held,xs.map AnV.x,e⟩):=yW (by rw [HSTEP.out,if_neg (by simpa using h2),if_neg h1])
     simp only [Bool.not_eq_true] at h1
     rw [h1]
     clear h1 h2
     go_wp2_with fail
     refine bodyPost_ret (results_none rfl _ _ _) rfl ?_
     rw [HS2.out]
     exact ⟨xs,A,c,rfl,rfl,HW5.out,aw.of_below HB5.out,.inl rfl⟩
  ·have HS2:Hid (dI es y.x ⟨held,xs.map AnV.x,e⟩=⟨held,xs.map AnV.x++[y.x],e⟩):=yW (by rw [HEQ.out,List.drop_eq_nil_of_le (by omega)];rfl)
   go_upto_region 9 with fail
   have HSL:Hid (∀{w':World},Below wr.heap.size wr w'→(w'.cell? ⟨W,8,none⟩=some (.slice A xs.length c)∧w'.cell? ⟨w.heap.size,0,none⟩=some (.slice y.an y.x.b.names.length y.cn)∧w'.cell? ⟨w.heap.size,1,none⟩=some (.slice y.at_ y.x.b.terms.length y.ct)∧w'.cell? ⟨w.heap.size,2,none⟩=some (.int .u32 y.x.o))):=yW (fun hb=>have h:=(HAr.out.later hb).cell;⟨(HWr.out.hd.later hb).cell 8,h 0,h 1,h 2⟩)
   refine ci (S:=fun w'=>w'.cell? ⟨W,8,none⟩=some (.slice A xs.length c)∧w'.cell? ⟨w.heap.size,0,none⟩=some (.slice y.an y.x.b.names.length y.cn)∧w'.cell? ⟨w.heap.size,1,none⟩=some (.slice y.at_ y.x.b.terms.length y.ct)∧w'.cell? ⟨w.heap.size,2,none⟩=some (.int .u32 y.x.o)) 10 (by kernel_rfl) (by kernel_rfl) (by kernel_rfl) (by kernel_rfl) (HSL.out (za _ _).drew) ?_
   refine al (i:=0) (v:=?v1_) rfl (by kernel_rfl) (by kernel_rfl) (by kernel_rfl) (by kernel_rfl) ?hq1_ ?hw1_ ?hy1_ ?rest1_
   case hq1_=>exact fun _ _ _ h=>h
   case hw1_=>rfl
   case hy1_=>(intro w' hS';(try dsimp only at hS');go_simp;(try with_reducible rfl))
   refine al (i:=1) (v:=?v2_) rfl (by kernel_rfl) (by kernel_rfl) (by kernel_rfl) (by kernel_rfl) ?hq2_ ?hw2_ ?hy2_ ?rest2_
   case hq2_=>exact fun _ _ _ h=>h
   case hw2_=>rfl
   case hy2_=>(intro w' hS';(try dsimp only at hS');go_simp;(try with_reducible rfl))
   refine al (i:=2) (v:=?v3_) rfl (by kernel_rfl) (by kernel_rfl) (by kernel_rfl) (by kernel_rfl) ?hq3_ ?hw3_ ?hy3_ ?rest3_
   case hq3_=>exact fun _ _ _ h=>h
   case hw3_=>rfl
   case hy3_=>(intro w' hS';(try dsimp only at hS');go_simp;(try with_reducible rfl))
   refine al (i:=3) (v:=?v4_) rfl (by kernel_rfl) (by kernel_rfl) (by kernel_rfl) (by kernel_rfl) ?hq4_ ?hw4_ ?hy4_ ?rest4_
   case hq4_=>exact fun _ _ _ h=>h
   case hw4_=>rfl
   case hy4_=>(intro w' hS';(try dsimp only at hS');go_simp;(try with_reducible rfl))
   refine al (i:=4) (v:=?v5_) rfl (by kernel_rfl) (by kernel_rfl) (by kernel_rfl) (by kernel_rfl) ?hq5_ ?hw5_ ?hy5_ ?rest5_
   case hq5_=>exact fun _ _ _ h=>h
   case hw5_=>rfl
   case hy5_=>(intro w' hS';(try dsimp only at hS');go_simp;(try with_reducible rfl))
   refine al (i:=5) (v:=?v6_) rfl (by kernel_rfl) (by kernel_rfl) (by kernel_rfl) (by kernel_rfl) ?hq6_ ?hw6_ ?hy6_ ?rest6_
   case hq6_=>exact fun _ _ _ h=>h
   case hw6_=>rfl
   case hy6_=>(intro w' hS';(try dsimp only at hS');go_simp;(try with_reducible rfl))
   generalize hD:World.drew wr=w5
   have HU5:Hid (Below wr.heap.size wr w5):=yW (hD▸(za wr.heap.size wr).drew)
   clear hD
   refine aY (rs:=[6]) (by kernel_rfl) rfl (by kernel_rfl) ?_
   refine aL.cons rfl (fun K hK=>?_) aL.nil
   go_simp
   generalize hW:World.alloc _ _=w6
   have HG6:Hid (bV w6 w5.heap.size #[.slice y.an y.x.b.names.length y.cn,.slice y.at_ y.x.b.terms.length y.ct,.int .u32 y.x.o] 48):=yW (hW▸heap_alloc_new _ _)
   obtain ⟨hb6,hz6⟩:=al1 hW
   have HB6:Hid (Below wr.heap.size wr w6):=yW (HU5.out.trans (hb6.mono HU5.out.size))
   have hsz6:=HB6.out.size
   have HW6:=yW (HWr.out.later HB6.out)
   clear hW hb6 hz6
   refine hK.out _ _ (HSL.out HB6.out) ?_
   clear hK
   refine aY (rs:=[7]) (by kernel_rfl) rfl (by kernel_rfl) ?_
   refine aL.cons rfl (fun K hK=>?_) aL.nil
   refine fh (R:=iV) (e:=48) rfl (.tmp 38) (.tmp 40) 40 rfl (bytes:=56) Tryz.underlying40 hi0 hz0 hz1 hz2 rfl (show 0<3 by omega) sX rfl (base:=base) (xs:=xs) (ys:=[y]) HW6.out.row rfl (yR HG6.out (bg.one rfl)) rfl (by simp only [List.length_cons,List.length_nil];omega) (by omega) HW6.out.bw ?_
   intro v w9 hown hg hf
   obtain ⟨A9,c9,hv⟩:∃A c,v=.slice A (xs.length+1) c:=by have:=hown.form;rwa [List.length_append,List.length_singleton] at this
   subst hv
   have HOWN:=yW hown
   have HG:=yW hg
   have HFV:=yW hf
   have HA9:Hid (aw (StM W (.slice A xs.length c)) w6 w9):=yW ((aw.grown hg).mono fun k _ hk=>Or.inr hk.symm)
   have hWne:some W≠(Value.slice A xs.length c).ownBlock:=fun e=>by have h1:=(HW6.out.row.lt W e.symm).1;have h2:=HW6.out.lt;omega
   have HHD:=yW (HW6.out.hd.grown hg hWne)
   have HBA9:=yW ((HAr.out.later HB6.out).grown hg (fun e=>by have h1:=(HW.out.row.lt w.heap.size e.symm).2;omega))
   have f_w:=HHD.out.free
   have k_w:=HHD.out.cell
   unfold wkA at k_w
   clear hown hg hf hWne
   refine hK.out _ _ (⟨HHD.out.cell 8,HBA9.out.cell 0,HBA9.out.cell 1,HBA9.out.cell 2⟩) ?_
   clear hK
   refine al (i:=8) (v:=?v7_) rfl (by kernel_rfl) (by kernel_rfl) (by kernel_rfl) (by kernel_rfl) ?hq7_ ?hw7_ ?hy7_ ?rest7_
   case hq7_=>exact fun _ _ _ h=>h
   case hw7_=>rfl
   case hy7_=>(intro w' hS';(try dsimp only at hS');go_simp;(try with_reducible rfl))
   refine al (i:=9) (v:=?v8_) rfl (by kernel_rfl) (by kernel_rfl) (by kernel_rfl) (by kernel_rfl) ?hq8_ ?hw8_ ?hy8_ ?rest8_
   case hq8_=>exact fun _ _ _ h=>h
   case hw8_=>rfl
   case hy8_=>(intro w' hS';(try dsimp only at hS');go_simp;(try with_reducible rfl))
   refine gg (by kernel_rfl) (by kernel_rfl) rfl (fun K hK=>?_)
   go_simp
   refine hK.out _ _ ?_
   clear f_w k_w
   go_wp2_with fail
   go_end0
   rw [HS2.out]
   have HLP:Hid ((xs++[y]).length=xs.length+1):=yW (by simp)
   have HAF:Hid (aw (StM W (.slice A xs.length c)) w6 (w9.setCell ⟨W,8,none⟩ (.slice A9 (xs.length+1) c9))):=yW (HA9.out.set_ (fun _=>.inl rfl) 8 _)
   have HMM:Hid (∀k,k<w6.heap.size→StM W (.slice A9 (xs++[y]).length c9) k→StM W (.slice A xs.length c) k):=yW (fun k hk hm=>by
    rcases hm with hm | hm
    ·exact .inl hm
    ·right
     rw [HLP.out] at hm
     rcases HFV.out with h | ⟨k',h4,h5⟩
     ·exact h.symm.trans hm
     ·rw [h4] at hm
      simp only [Option.some.injEq] at hm
      omega)
   refine ⟨xs++[y],A9,c9,rfl,by simp,⟨by rw [HLP.out];exact HHD.out.set_ 8 _,HW.out.lt,?_,by rw [HLP.out];exact HOWN.out.far HW.out.lt (yZ _) _,fun x hx=>?_,fun x hx=>?_⟩,?_,?_⟩
   ·have h1:=HAF.out.size
    have h2:=HW6.out.bw
    omega
   ·rcases List.mem_append.1 hx with hx | hx
    ·exact HW.out.ok x hx
    ·rw [List.mem_singleton] at hx;subst hx;exact HOK.out
   ·rcases List.mem_append.1 hx with hx | hx
    ·exact (HW6.out.deep x hx).next HAF.out (fun _ _ h=>h) HMM.out
    ·rw [List.mem_singleton] at hx;subst hx
     exact ((HY.out.later (ab HBr.out HB6.out))).next HAF.out (fun _ _ h=>h) HMM.out
   ·exact ((aw.of_below (ab HBr.out HB6.out)).trans HA9.out (fun _ _ h=>h)).set_ (fun _=>.inl rfl) 8 _
   ·have hq:bl w (.slice A xs.length c) (.slice A9 (xs.length+1) c9):=by
     rcases HFV.out with h | ⟨k,h4,h5⟩
     ·exact .inl h
     ·exact .inr ⟨k,h4,by omega⟩
    rw [←HLP.out] at hq
    exact hq
theorem ug:Ord3 ez:=by
 have hf:Ord3 cZ:=jS
 refine ⟨?_,?_⟩
 ·intro x
  induction x with
  | nil=>intro y;cases y<;>simp [ez]
  | cons a x ih=>
    intro y
    cases y with
    | nil=>simp [ez]
    | cons b y=>
      have h:=hf.anti a b
      have:=ih y
      simp only [ez]
      split<;>split<;>omega
 ·intro x
  induction x with
  | nil=>intro y z _ _;cases z<;>simp [ez]
  | cons a x ih=>
    intro y z h k
    cases y with
    | nil=>simp [ez] at h
    | cons b y=>
      cases z with
      | nil=>simp [ez] at k
      | cons d z=>
        have key:=(hf.andThen (c:=cZ) (d:=fun _ _=>0) ⟨fun _ _=>rfl,fun _ _ _ _ _=>by simp⟩)
        simp only [ez] at *
        by_cases h1:cZ a b=0
        ·rw [if_pos h1] at h
         by_cases h2:cZ b d=0
         ·rw [if_pos h2] at k
          have e:cZ a d=0:=by rcases hf.zero_l (z:=d) h1 with e | e | e<;>omega
          rw [if_pos e]
          exact ih y z h k
         ·rw [if_neg h2] at k
          have e:cZ a d<0:=by rcases hf.zero_l (z:=d) h1 with e | e | e<;>omega
          rw [if_neg (by omega)];omega
        ·rw [if_neg h1] at h
         have e:cZ a d<0:=by
          by_cases h2:cZ b d=0
          ·exact hf.lt_le (y:=b) (by omega) (by omega)
          ·rw [if_neg h2] at k;exact hf.lt_le (y:=b) (by omega) k
         rw [if_neg (by omega)];omega
theorem bm:Ord3 aM:=by
 have e:aM=jp (fun a b:Ans=>ez a.b.names b.b.names) (jp (fun a b:Ans=>cF (aU 3) a.b.terms b.b.terms) (fun a b:Ans=>cR a.o b.o)):=by
  funext a b
  simp only [aM,jp,orL]
  split<;>(try rfl)
  split<;>(try rfl)
  split<;>simp_all
 rw [e]
 exact (ug.by fun a:Ans=>a.b.names).andThen (((mN (eV 3)).by fun a:Ans=>a.b.terms).andThen (gu.by Ans.o))
theorem yE {α:Type} {c:α→α→Int} (h:Ord3 c):Sort.SWO (ltOf c) where
 irrefl x:=by simp [ltOf,h.self x]
 trans x y z h1 h2:=by
  simp only [ltOf,decide_eq_true_eq] at *
  exact h.lt_le h1 (Int.le_of_lt h2)
 ntrans x y z h1 h2:=by
  simp only [ltOf,decide_eq_false_iff_not] at *
  have a:=h.anti x y
  have b:=h.anti y z
  have d:=h.anti x z
  have e:=h.trans z y x (by omega) (by omega)
  omega
def jL:AnV:=⟨⟨⟨[],[]⟩,0⟩,none,0,none,0⟩
def gG:Ans:=⟨⟨[],[]⟩,0⟩
def cfL (L:List Ans) (i j:Nat):Int:=aM (L.getD i gG) (L.getD j gG)
def eo (L:List Ans):List Nat:=(Sort.pdq (ltOf (cfL L)) (Array.range L.length) 0 L.length (Lib.bitLen L.length) true true).toList
def jn (L:List Ans):List Ans:=(eo L).map (L.getD · gG)
theorem tV (L:List Ans):Ord3 (cfL L):=bm.by fun i=>L.getD i gG
theorem oI (L:List Ans):Sort.PermIn 0 L.length (Array.range L.length) (Sort.pdq (ltOf (cfL L)) (Array.range L.length) 0 L.length (Lib.bitLen L.length) true true)∧Sort.SortedIn (ltOf (cfL L)) 0 L.length (Sort.pdq (ltOf (cfL L)) (Array.range L.length) 0 L.length (Lib.bitLen L.length) true true):=
 Sort.pdq_sorts (ltOf (cfL L)) (yE (tV L)) (Array.range L.length) 0 L.length (Lib.bitLen L.length) true true (yZ _) (by simp) (Or.inl rfl)
theorem jo (L:List Ans):(eo L).Perm (List.range L.length):=by
 obtain ⟨h1,_,h3⟩:=(oI L).1
 have e1:∀(a:Array Nat),a.size=L.length→a.extract 0 L.length=a:=fun a h=>by rw [←h];exact Array.extract_size
 rw [e1 _ (by simpa using h1),e1 _ (by simp)] at h3
 simpa [eo,Array.toList_range] using h3
theorem lu (L:List Ans):(eo L).length=L.length:=by simpa using (jo L).length_eq
theorem ru {L:List Ans} {i:Nat} (h:i∈eo L):i<L.length:=by simpa using (jo L).mem_iff.1 h
theorem lN {α:Type} (L:List α) (z:α):(List.range L.length).map (L.getD · z)=L:=by
 refine List.ext_getElem (by simp) fun i h1 h2=>?_
 simp [h2]
theorem gE (L:List Ans):(jn L).Perm L:=by
 have h:=(jo L).map (L.getD · gG)
 rwa [lN] at h
theorem oX (L:List Ans):(jn L).Pairwise fun a b=>aM a b≤0:=by
 have h:=(oI L).2
 rw [jn,List.pairwise_map,List.pairwise_iff_getElem]
 intro i j hi hj hij
 have h1:=h i j (yZ _) hij (by rw [lu] at hj;exact hj)
 have e:∀k (hk:k<(eo L).length),(Sort.pdq (ltOf (cfL L)) (Array.range L.length) 0 L.length (Lib.bitLen L.length) true true)[k]! = (eo L)[k]:=fun k hk=>by
  rw [getElem!_pos _ k (by simpa [eo] using hk)];simp [eo];rfl
 rw [e j hj,e i hi] at h1
 simp only [ltOf,decide_eq_false_iff_not] at h1
 have h1:¬aM (L.getD (eo L)[j] gG) (L.getD (eo L)[i] gG)<0:=h1
 have a:=bm.anti (L.getD (eo L)[j] gG) (L.getD (eo L)[i] gG)
 omega
theorem yn (y:AnV):y.cs.length=3:=rfl
def mf (xs:List AnV) (i:Nat):List Value:=(xs.getD i jL).cs
theorem si (xs:List AnV) (d:Array Nat) (i:Nat) (hi:i<d.size):((Sort.flatK (mf xs) 3 d).toList.drop (i*3)).take 3=mf xs d[i]!:=by
 refine List.ext_getElem? fun j=>?_
 rw [List.getElem?_take]
 by_cases hj:j<3
 ·rw [if_pos hj,List.getElem?_drop,Array.getElem?_toList]
  have hs:i*3+j<d.size*3:=by omega
  have h:=Sort.get_flatK (mf xs) 3 d (i*3+j) hs
  have h2:(Sort.flatK (mf xs) 3 d)[i*3+j]? = some (Sort.flatK (mf xs) 3 d)[i*3+j]!:=by
   rw [getElem!_pos _ _ (by simpa using hs)];exact Array.getElem?_eq_getElem _
  rw [h2,h,show (i*3+j) / 3=i by omega,show (i*3+j) % 3=j by omega]
  have hl:(mf xs d[i]!).length=3:=rfl
  rw [List.getElem!_eq_getElem?_getD,List.getElem?_eq_getElem (by omega)];rfl
 ·rw [if_neg hj,List.getElem?_eq_none (by show 3≤j;omega)]
section
variable {e:TypeId} {w:World} {base g c n:Nat} {xs ys:List AnV} {os:Array Obj}
theorem uD (h:am iV e w base 0 (.slice (some ⟨g,0,none⟩) xs.length c) xs) (h0:0<xs.length):Sort.HoldsK (mf xs) 3 w g 0 (Array.range xs.length):=by
 obtain ⟨g',c',hv,_,_,_,_,hc,hf,_⟩:=h.sh aT h0
 simp only [Value.slice.injEq,Option.some.injEq,Addr.mk.injEq,and_true,true_and] at hv
 obtain ⟨rfl,rfl⟩:=hv
 intro t ht
 have ht':t<xs.length*3:=by simpa using ht
 refine ⟨?_,hf _⟩
 have h:=Sort.get_flatK (mf xs) 3 (Array.range xs.length) t (by simpa using ht')
 have hi:t / 3<xs.length:=by omega
 have h2:=hc (t / 3) hi (t % 3) (xs[t / 3].cs[t % 3]!) (by
  rw [List.getElem!_eq_getElem?_getD,List.getElem?_eq_getElem (by rw [yn];omega)];rfl)
 have e1:t / 3*iV.k+t % 3=0+t:=by show t / 3*3+t % 3=0+t;omega
 rw [e1] at h2
 rw [h2]
 show some _=some (id ((Sort.flatK (mf xs) 3 (Array.range xs.length))[t]!))
 rw [h,getElem!_pos (Array.range xs.length) (t / 3) (by simpa using hi)]
 simp [mf,hi]
theorem pR (F:Array Value):w.grownBy (Sort.grow (Sort.putRow id (Sort.ahead w n) g 0 F) os) (some g):=by
 refine ⟨rfl,rfl,rfl,by simp,fun k hk hne=>?_⟩
 rw [Sort.heap_grow_old _ _ (by simpa using hk)]
 have:g≠k:=fun e=>hne (by rw [e])
 simp [Sort.putRow,Sort.mapBlock,Sort.ahead,Array.getElem?_modify,this]
theorem own_put (h:am iV e w base 0 (.slice (some ⟨g,0,none⟩) xs.length c) xs) (F:Array Value) (hF:F.size=xs.length*3) (hl:ys.length=xs.length) (hp:∀i (hi:i<ys.length),(F.toList.drop (i*3)).take 3=ys[i].cs) :
 am iV e (Sort.grow (Sort.putRow id (Sort.ahead w n) g 0 F) os) base 0 (.slice (some ⟨g,0,none⟩) ys.length c) ys:=by
 obtain ⟨cells,⟨h1,h2⟩,hf⟩:=h
 refine ⟨F.toList,⟨by show F.toList.length=ys.length*3;simp [hF,hl],?_⟩,⟨by show F.toList.length=ys.length*3;simp [hF,hl],fun i hi=>hp i hi⟩⟩
 rcases h2 with ⟨h2,_⟩ | ⟨g',cap,cur,hv,hg,hh,k1,k2,k3,k4⟩
 ·cases h2
 simp only [Value.slice.injEq,Option.some.injEq,Addr.mk.injEq,and_true,true_and] at hv
 obtain ⟨rfl,rfl⟩:=hv
 have k3:cur.size=c*3:=k3
 have hgl:g<w.heap.size:=(Array.getElem?_eq_some_iff.1 hh).1
 have hs:F.size≤cur.size:=by rw [hF,k3];exact Nat.mul_le_mul_right 3 k1
 refine .inr ⟨g,c,Sort.putCells id 0 F cur,by rw [hl],hg,?_,by rw [hl];exact k1,k2,by show _=c*3;simp [Sort.putCells,k3],?_⟩
 ·rw [Sort.heap_grow_old _ _ (by simpa using hgl)]
  simp [Sort.putRow,Sort.mapBlock,Sort.ahead,Array.getElem?_modify,hh,Sort.onCells]
 ·show (Sort.putCells id 0 F cur).toList.take (ys.length*3)=F.toList
  rw [hl,←hF]
  refine List.ext_getElem? fun j=>?_
  by_cases hj:j<F.size
  ·rw [List.getElem?_take_of_lt hj,Array.getElem?_toList,Array.getElem?_toList]
   simp [Sort.putCells,hj,show j<cur.size by omega]
  ·rw [List.getElem?_take_eq_none (by omega),List.getElem?_eq_none (by simp;omega)]
end
theorem mQ:∀args (w:World),(callFunc 19 args).run Tryz.prog w=.ok (.enter 19 args) w:=ent Tryz.func19 (by kernel_rfl) rfl
theorem mH (d B:Nat) (w:World):(mC d).rd w B jL.x jL.cs:=⟨none,0,none,0,rfl,fun h=>absurd h (by decide),fun h=>absurd h (by decide)⟩
theorem km {base d g c:Nat} {w:World} {xs:List AnV} (hr:am iV 48 w base 0 (.slice (some ⟨g,0,none⟩) xs.length c) xs) (hx:0<xs.length) (hok:∀y∈xs,AnOk y.x)
 (hd:∀y∈xs,ie (fun k=>k=g) w (fun w'=>(mC d).rd w' w'.heap.size y.x y.cs)) (hn:xs.length≤1000000) :
 Calls Tryz.prog 56 #[.slice (some ⟨g,0,none⟩) xs.length c,.func (.func 19) #[] #[]] w fun z w'=>
  z=.returned (.tuple #[])∧am iV 48 w' base 0 (.slice (some ⟨g,0,none⟩) xs.length c) ((eo (xs.map AnV.x)).map (xs.getD · jL))∧aw (fun k=>k=g) w w':=by
 have hg:=(hr.lt g rfl).2
 have ag:∀(F:Array Value) (n:Nat) (os:Array Obj),aw (fun k=>k=g) w (Sort.grow (Sort.putRow id (Sort.ahead w n) g 0 F) os):=fun F n os=>(aw.grown (pR F)).mono fun k _ h=>by simpa using h
 have gx:∀i,(xs.map AnV.x).getD i gG=(xs.getD i jL).x:=fun i=>by
  by_cases hi:i<xs.length
  ·simp [hi]
  ·simp [List.getD,List.getElem?_eq_none (Nat.le_of_not_lt hi),gG,jL]
 have rdx:∀(w':World),aw (fun k=>k=g) w w'→∀i,(mC d).rd w' w'.heap.size (xs.getD i jL).x (mf xs i)∧AnOk (xs.getD i jL).x:=fun w' h i=>by
  by_cases hi:i<xs.length
  ·have e:xs.getD i jL=xs[i]:=by simp [hi]
   unfold mf
   rw [e]
   exact ⟨hd _ (List.getElem_mem hi) w' h,hok _ (List.getElem_mem hi)⟩
  ·have e:xs.getD i jL=jL:=by simp [List.getD,List.getElem?_eq_none (Nat.le_of_not_lt hi)]
   unfold mf
   rw [e]
   exact ⟨mH _ _ _,⟨by decide,by decide⟩⟩
 have hc:CmpLays Tryz.prog 19 #[] (mf xs) 3 (cfL (xs.map AnV.x)) g 0 (Array.range xs.length).size w:=by
  intro m os dk _ x y
  generalize hW:sortWorldK (mf xs) 3 w g 0 m dk os=W
  have hA:aw (fun k=>k=g) w W:=hW▸ag (Sort.flatK (mf xs) 3 dk) m os
  obtain ⟨r1,o1⟩:=rdx W hA x
  obtain ⟨r2,o2⟩:=rdx W hA y
  rw [Array.append_empty]
  refine (kk r1 r2 o1 o2 (yY _)).mono ?_
  rintro z w' ⟨rfl,hb⟩
  refine ⟨?_,sl hb⟩
  rw [cfL,gx,gx]
 have hL:(xs.map AnV.x).length=xs.length:=List.length_map _
 have h:=AnyQ.slices_SortFunc_eq Tryz.sortAns 3 (fun w=>Tryz.isAgg48 w) (fun w=>Tryz.sizeOf48 w) (mf xs) (fun _=>rfl) (fun x v hv=>by
  simp only [mf,AnV.cs,anV,List.mem_cons,List.not_mem_nil,or_false] at hv
  rcases hv with rfl | rfl | rfl<;>rfl) (cfL (xs.map AnV.x)) (yE (tV _)) 19 #[] g 0 c (Array.range xs.length) w mQ hc (uD hr hx) hg (by simp;omega)
 rw [Array.size_range] at h
 refine h.mono ?_
 rintro z w' ⟨rfl,n,os,rfl⟩
 have hlen:=lu (xs.map AnV.x)
 have hsz:(Sort.pdq (ltOf (cfL (xs.map AnV.x))) (Array.range xs.length) 0 xs.length (Lib.bitLen xs.length) true true).toList=eo (xs.map AnV.x):=by unfold eo;rw [hL]
 refine ⟨rfl,?_,ag _ n os⟩
 have ho:=own_put (n:=n) (os:=os) (ys:=(eo (xs.map AnV.x)).map (xs.getD · jL)) hr (Sort.flatK (mf xs) 3 (Sort.pdq (ltOf (cfL (xs.map AnV.x))) (Array.range xs.length) 0 xs.length (Lib.bitLen xs.length) true true)) (by
  rw [Sort.size_flatK,←Array.length_toList,hsz,hlen,hL]) (by rw [List.length_map,hlen,hL]) (fun i hi=>by
  rw [List.length_map] at hi
  rw [si _ _ _ (by rw [←Array.length_toList,hsz];exact hi)]
  rw [List.getElem_map,getElem!_pos _ i (by rw [←Array.length_toList,hsz];exact hi),←Array.getElem_toList]
  simp only [hsz,mf])
 rw [List.length_map,hlen,hL] at ho
 exact ho
end Go.Proofs.YtdphibjibnffeaaGreat
