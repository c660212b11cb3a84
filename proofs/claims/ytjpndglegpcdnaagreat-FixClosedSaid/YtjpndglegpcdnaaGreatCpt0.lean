/- Sorting and compacting no answers. -/
import Derived.Test.YtjpndglegpcdnaaGreatRegLaw
import Derived.Test.YtjpndglegpcdnaaGreatPush
import Derived.Test.YtjpndglegpcdnaaGreatTrue
import Derived.Test.YtjpndglegpcdnaaGreatJoFits
import Derived.Test.YtjpndglegpcdnaaGreatData
import Derived.Lib.SliceRun
set_option linter.unusedVariables false
set_option linter.unusedSimpArgs false
set_option maxRecDepth 100000
set_option maxHeartbeats 8000000
namespace Go.Proofs.YtjpndglegpcdnaaGreat
open Go.ChangeShapes Go.WideShapes Go.ChangeAt Go.RowKit
structure AnV where
 x:Ans
 an:Option Addr
 cn:Nat
 at_:Option Addr
 ct:Nat
def AnV.cs (y:AnV):List Value:=anV y.x y.an y.cn y.at_ y.ct
def jV:Reader AnV where
 k:=3
 rd:=fun _ _ x vs=>vs=x.cs
 keep:=fun _ _ h=>h
 wide:=fun _ h=>h
 len:=fun h=>by rw [h];rfl
theorem uk:dL jV:=fun {w B x vs} h u hu=>by
 have h:vs=x.cs:=h
 subst h
 simp only [AnV.cs,anV,List.mem_cons,List.not_mem_nil,or_false] at hu
 rcases hu with rfl | rfl | rfl<;>rfl
theorem bg:Shallow jV AnV.cs:=⟨Iff.rfl,fun _=>rfl⟩
theorem infoAns:(Tryz.prog.info? 116).map (fun i=>(i.zero,i.size,i.bytes))=some (some (.agg #[.slice none 0 0,.slice none 0 0,.int .u32 0]),3,56):=by kernel_rfl
structure WkC where
 hd:Value
 t0:Value
 bd:Value
 ex:Value
 sc:Value
 S:Nat
 tr:Int
def wkA (k:WkC) (held:Int) (out:Value) (e:Int):Array Value:=#[k.hd,k.t0,k.bd,k.ex,k.sc,.pointer (some ⟨k.S,0,none⟩),.int .u32 k.tr,.int .i64 held,out,.int .i64 e]
structure WkAt (base d:Nat) (w:World) (W:Nat) (k:WkC) (held:Int) (xs:List AnV) (A:Option Addr) (c:Nat) (e:Int):Prop where
 hd:Blk w W (wkA k held (.slice A xs.length c) e)
 lt:W<base
 bw:base≤w.heap.size
 row:aq jV 116 w base 0 (.slice A xs.length c) xs
 ok:∀y∈xs,bG y.x.b=true∧U32 y.x.o
 deep:∀y∈xs,fJ (StM W (.slice A xs.length c)) w (fun w'=>(nA (d+1)).rd w' w'.heap.size y.x y.cs)
theorem xY {x:Ans} (h:bG x.b=true):AnOk x:=by
 have h1:=dW.1 h
 exact ⟨h1.2,by rw [←h1.1.len];exact h1.2⟩
section
variable {base d W c:Nat} {w w':World} {k:WkC} {held e:Int} {xs:List AnV} {A:Option Addr}
theorem WkAt.later (h:WkAt base d w W k held xs A c e) (hb:Below w.heap.size w w'):WkAt base d w' W k held xs A c e:=
 ⟨h.hd.later hb,h.lt,AF h.bw hb.size,h.row.later hb (AH _),h.ok,fun y hy=>(h.deep y hy).later hb⟩
theorem WkAt.put (h:WkAt base d w W k held xs A c e) {i:Nat} {u:Value} {held' e':Int} (hc:(wkA k held (.slice A xs.length c) e).setIfInBounds i u=wkA k held' (.slice A xs.length c) e'):WkAt base d (w.setCell ⟨W,i,none⟩ u) W k held' xs A c e':=by
 refine ⟨hc▸h.hd.set_ i u,h.lt,by rw [World.size_setCell];exact h.bw,h.row.far h.lt (AH _) u,h.ok,fun y hy=>(h.deep y hy).next (N:=StM W (.slice A xs.length c)) ((al.refl _ w).set_ (fun _=>.inl rfl) i u) (fun _ _ h=>h) (fun _ _ h=>h)⟩
end
structure Wst where
 held:Int
 out:List Ans
 e:Int
def ip:List (List OpD)→Ans→Wst→Wst
 | [],x,s=>⟨s.held,s.out++[x],s.e⟩
 | q::qs,x,s=>if (eq (gW x.b q)).2≠0 then ⟨s.held,s.out,(eq (gW x.b q)).2⟩ else if (eq (gW x.b q)).1=true then ip qs x s else s
theorem zw {r:Tm × Int} (h:(eq r).2≠0):(eq r).1=false:=by
 unfold eq at h ⊢
 split
 ·rfl
 ·rename_i h1
  rw [if_neg h1] at h
  split
  ·rfl
  ·rename_i h2;rw [if_neg h2] at h;exact absurd rfl h
theorem nG {d B:Nat} {w:World} {y:AnV} (h:(nA d).rd w B y.x y.cs):RL cX w B (y.x.b.names.map mkS) y.an∧RL (TmR d) w B y.x.b.terms y.at_:=by
 obtain ⟨An,cn,At,ct,e,h1,h2⟩:=h
 simp only [AnV.cs,anV,List.cons.injEq,AR,true_and,and_true] at e
 obtain ⟨⟨rfl,_⟩,rfl,_⟩:=e
 exact ⟨h1,h2⟩
def WkE (base d W:Nat) (k:WkC) (w w':World) (A:Option Addr) (n c:Nat) (s:Wst) (z:Ending):Prop:=
 ∃xs' A' c',z=.returned (.tuple #[])∧xs'.map AnV.x=s.out∧WkAt base d w' W k s.held xs' A' c' s.e∧al (StM W (.slice A n c)) w w'∧bk w (.slice A n c) (.slice A' xs'.length c')
theorem uA {base d B W c:Nat} {k:WkC} {held e:Int} {xs:List AnV} {A:Option Addr} {w:World} {y:AnV} {es:List (List OpD)} {Ae:Option Addr} {ce:Nat} {m:Int} (hw:WkAt base d w W k held xs A c e) (hex:k.ex=.slice Ae es.length ce) (hes:RL (ExR (d+1)) w B es Ae) (hB:B≤W)
 (hy:fJ (StM W (.slice A xs.length c)) w (fun w'=>(nA (d+1)).rd w' w'.heap.size y.x y.cs)) (hok:bG y.x.b=true∧U32 y.x.o) (hn:xs.length≤200000) (hm0:w.cell? ⟨0,0,none⟩=some (.int .i64 m)) (hW0:0<W) (hne:es.length≤1000000) :
 Calls Tryz.prog 96 #[.pointer (some ⟨W,0,none⟩),.agg y.cs.toArray] w fun z w'=>WkE base d W k w w' A xs.length c (ip es y.x ⟨held,xs.map AnV.x,e⟩) z:=by
 obtain ⟨i0,hi0,hz0,hz1,hz2⟩:=info_parts infoAns
 have HW:=AE hw
 have HES:=AE hes
 have HY:=AE hy
 have HOK:=AE hok
 have HM0:=AE hm0
 have hWl:=hw.hd.lt
 have HBD:=AE (dW.1 hok.1)
 obtain ⟨kh,kt,kb,ke,ks,kS,ktr⟩:=k
 have hex:ke=.slice Ae es.length ce:=hex
 subst hex
 clear hw hes hy hok hm0
 unfold AnV.cs anV
 go_enter Tryz.func96,Tryz.ntmps96
 go_upto_region 1 with fail
 generalize hWW:World.alloc _ _=w1
 obtain ⟨hb1,hz⟩:=al1 hWW
 have HA1:=AE (n11 hWW)
 have HB1:=AE hb1
 have HW1:=AE (HW.out.later hb1)
 have hsz1:=hb1.size
 clear hWW hb1
 have k_w:=HW1.out.hd.cell
 have l_w:=HW1.out.hd.lt
 unfold wkA at k_w
 go_upto_region 2 with fail
 clear k_w l_w
 go_loopw [14] (fun i wr=>∃j:Nat,j≤es.length∧i=.int .i64 j∧Hid (Below w1.heap.size w1 wr)∧Hid (ip es y.x ⟨held,xs.map AnV.x,e⟩=ip (es.drop j) y.x ⟨held,xs.map AnV.x,e⟩)) (fun i _=>es.length-(intOf i).toNat)
 case atStart=>exact ⟨0,AH _,rfl,AE (AI _ _),AE rfl⟩
 case round=>
  obtain ⟨j,hj,rfl,HWR,HEQ⟩:=hrel
  have HAr:=AE (HA1.out.later HWR.out)
  have HWr:=AE (HW1.out.later HWR.out)
  have HBr:=AE (aa HB1.out HWR.out)
  have hszr:=HBr.out.size
  have hBw:B≤w.heap.size:=by omega
  have hBr:B≤wr.heap.size:=by omega
  by_cases hlt:j<es.length
  ·obtain ⟨be_,offe,rfl,hobe⟩:=(HES.out.keep HBr.out hBw).base (AI _ _) hBr (by omega)
   obtain ⟨q,vs,hx,hlen,hcell,hr⟩:=(HES.out.keep HBr.out hBw).at_ (AI _ _) hBr hlt
   have HQ:=AE hr
   have HQE:Hid (es[j]=q):=AE (by rw [AO hlt] at hx;simpa using hx)
   obtain ⟨_,rfl,Aq,cq,rfl,_⟩:=show (ExR (d+1)).rd wr B q vs from hr
   have c0:wr.cell? ⟨be_,offe+j,none⟩=some (.slice Aq q.length cq):=by have:=hcell 0 _ rfl;simpa [ExR] using this
   clear hcell hlen hx hr
   have HSTEP:Hid (ip es y.x ⟨held,xs.map AnV.x,e⟩=if (eq (gW y.x.b q)).2≠0 then ⟨held,xs.map AnV.x,(eq (gW y.x.b q)).2⟩ else if (eq (gW y.x.b q)).1=true then ip (es.drop (j+1)) y.x ⟨held,xs.map AnV.x,e⟩ else ⟨held,xs.map AnV.x,e⟩):=AE (by rw [HEQ.out,List.drop_eq_getElem_cons hlt,HQE.out];rfl)
   have HRD:Hid (RL cX wr wr.heap.size (y.x.b.names.map mkS) y.an∧RL (TmR (d+1)) wr wr.heap.size y.x.b.terms y.at_):=AE (nG (HY.out.later HBr.out).here)
   have hI0:(0:Int)≤(j:Int):=Int.natCast_nonneg _
   have hI1:(j:Int)<(es.length:Int):=by omega
   go_upto_region 4 with fail
   generalize hWW:World.alloc _ _=w4
   obtain ⟨hb4,hz4⟩:=al1 hWW
   have HE4:=AE (n11 hWW)
   have HA4:=AE (HAr.out.later hb4)
   have HW4:=AE (HWr.out.later hb4)
   have HB4:=AE (aa HBr.out hb4)
   have HX4:=AE (aa HWR.out hb4)
   have hsz4:=hb4.size
   have HQ4:=AE ((ExR (d+1)).keep hb4 hBr HQ.out)
   have HRD4:=AE (And.intro (HRD.out.1.keep hb4 (AG _)) (HRD.out.2.keep hb4 (AG _)))
   clear hWW hb4 c0
   have k_e:=HE4.out.cell
   have l_e:=HE4.out.lt
   have k_a:=HA4.out.cell
   have l_a:=HA4.out.lt
   go_wp2_with fail
   refine (zv (D:=d) (cn:=y.cn) (ct:=y.ct) (evs:=[_]) (b:=y.x.b) (B:=wr.heap.size) (m:=m) ((ExR (d+1)).wide hBr HQ4.out) HRD4.out.1 HRD4.out.2 hsz4 ((HB4.out.cell (p:=⟨0,0,none⟩) (show 0<w.heap.size by omega)).trans HM0.out) (by omega)).mono ?_
   rintro z w5 ⟨rfl,hb5⟩
   have HB5:=AE (aa HB4.out hb5)
   have HW5:=AE (HW4.out.later hb5)
   have HX5:=AE (aa HX4.out hb5)
   have hsz5:=hb5.size
   clear k_e l_e k_a l_a hb5
   by_cases h2:(eq (gW y.x.b q)).2=0
   rotate_left
   ·have h1:=zw h2
    have q2:((eq (gW y.x.b q)).2 !=0)=true:=by simpa using h2
    have HS2:Hid (ip es y.x ⟨held,xs.map AnV.x,e⟩=⟨held,xs.map AnV.x,(eq (gW y.x.b q)).2⟩):=AE (by rw [HSTEP.out,if_pos h2])
    clear h2
    rw [h1]
    clear h1
    generalize (eq (gW y.x.b q)).2=r at *
    have k_w:=HW5.out.hd.cell
    have l_w:=HW5.out.hd.lt
    have f_w:=HW5.out.hd.free
    unfold wkA at k_w
    go_wp2_with fail
    refine bodyPost_ret (results_none rfl _ _ _) rfl ?_
    rw [HS2.out]
    exact ⟨xs,A,c,rfl,rfl,HW5.out.put rfl,(al.of_below HB5.out).set_ (fun _=>.inl rfl) 9 _,.inl rfl⟩
   ·have q2:((eq (gW y.x.b q)).2 !=0)=false:=by simpa using h2
    by_cases h1:(eq (gW y.x.b q)).1=true
    ·have HS2:Hid (ip es y.x ⟨held,xs.map AnV.x,e⟩=ip (es.drop (j+1)) y.x ⟨held,xs.map AnV.x,e⟩):=AE (by rw [HSTEP.out,if_neg (by simpa using h2),if_pos h1])
     rw [h1]
     clear h1 h2
     go_wp2_with fail
     go_roundw
     case rel=>exact ⟨j+1,by omega,by go_num,HX5,HS2⟩
     case measure=>simp [intOf];omega
    ·have HS2:Hid (ip es y.x ⟨held,xs.map AnV.x,e⟩=⟨held,xs.map AnV.x,e⟩):=AE (by rw [HSTEP.out,if_neg (by simpa using h2),if_neg h1])
     simp only [Bool.not_eq_true] at h1
     rw [h1]
     clear h1 h2
     go_wp2_with fail
     refine bodyPost_ret (results_none rfl _ _ _) rfl ?_
     rw [HS2.out]
     exact ⟨xs,A,c,rfl,rfl,HW5.out,al.of_below HB5.out,.inl rfl⟩
  ·have HS2:Hid (ip es y.x ⟨held,xs.map AnV.x,e⟩=⟨held,xs.map AnV.x++[y.x],e⟩):=AE (by rw [HEQ.out,List.drop_eq_nil_of_le (by omega)];rfl)
   go_upto_region 9 with fail
   have HSL:Hid (∀{w':World},Below wr.heap.size wr w'→(w'.cell? ⟨W,8,none⟩=some (.slice A xs.length c)∧w'.cell? ⟨w.heap.size,0,none⟩=some (.slice y.an y.x.b.names.length y.cn)∧w'.cell? ⟨w.heap.size,1,none⟩=some (.slice y.at_ y.x.b.terms.length y.ct)∧w'.cell? ⟨w.heap.size,2,none⟩=some (.int .u32 y.x.o))):=AE (fun hb=>have h:=(HAr.out.later hb).cell;⟨(HWr.out.hd.later hb).cell 8,h 0,h 1,h 2⟩)
   refine bv (S:=fun w'=>w'.cell? ⟨W,8,none⟩=some (.slice A xs.length c)∧w'.cell? ⟨w.heap.size,0,none⟩=some (.slice y.an y.x.b.names.length y.cn)∧w'.cell? ⟨w.heap.size,1,none⟩=some (.slice y.at_ y.x.b.terms.length y.ct)∧w'.cell? ⟨w.heap.size,2,none⟩=some (.int .u32 y.x.o)) 10 (by kernel_rfl) (by kernel_rfl) (by kernel_rfl) (by kernel_rfl) (HSL.out (AI _ _).drew) ?_
   refine ax 0 ?_
   refine ax 1 ?_
   refine ax 2 ?_
   refine ax 3 ?_
   refine ax 4 ?_
   refine ax 5 ?_
   generalize hD:World.drew wr=w5
   have HU5:Hid (Below wr.heap.size wr w5):=AE (hD▸(AI wr.heap.size wr).drew)
   clear hD
   refine aJ (rs:=[6]) (by kernel_rfl) rfl (by kernel_rfl) ?_
   refine aB.cons rfl (fun K hK=>?_) aB.nil
   go_simp
   generalize hW:World.alloc _ _=w6
   have HG6:Hid (bS w6 w5.heap.size #[.slice y.an y.x.b.names.length y.cn,.slice y.at_ y.x.b.terms.length y.ct,.int .u32 y.x.o] 116):=AE (hW▸heap_alloc_new _ _)
   obtain ⟨hb6,hz6⟩:=al1 hW
   have HB6:Hid (Below wr.heap.size wr w6):=AE (HU5.out.trans (hb6.mono HU5.out.size))
   have hsz6:=HB6.out.size
   have HW6:=AE (HWr.out.later HB6.out)
   clear hW hb6 hz6
   refine hK.out _ _ (HSL.out HB6.out) ?_
   clear hK
   refine aJ (rs:=[7]) (by kernel_rfl) rfl (by kernel_rfl) ?_
   refine aB.cons rfl (fun K hK=>?_) aB.nil
   refine cT (R:=jV) (e:=116) rfl (.tmp 38) (.tmp 40) 109 rfl (bytes:=56) Tryz.underlying109 hi0 hz0 hz1 hz2 rfl (show 0<3 by omega) uk rfl (base:=base) (xs:=xs) (ys:=[y]) HW6.out.row rfl (zm HG6.out (bu.one rfl)) rfl (by simp only [AV,List.length_nil];omega) (by omega) HW6.out.bw ?_
   intro v w9 hown hg hf
   obtain ⟨A9,c9,hv⟩:∃A c,v=.slice A (xs.length+1) c:=by have:=hown.form;rwa [AK,List.length_singleton] at this
   subst hv
   have HOWN:=AE hown
   have HG:=AE hg
   have HFV:=AE hf
   have HA9:Hid (al (StM W (.slice A xs.length c)) w6 w9):=AE ((al.grown hg).mono fun k _ hk=>Or.inr hk.symm)
   have hWne:some W≠(Value.slice A xs.length c).ownBlock:=fun e=>by have h1:=(HW6.out.row.lt W e.symm).1;have h2:=HW6.out.lt;omega
   have HHD:=AE (HW6.out.hd.grown hg hWne)
   have HBA9:=AE ((HAr.out.later HB6.out).grown hg (fun e=>by have h1:=(HW.out.row.lt w.heap.size e.symm).2;omega))
   have f_w:=HHD.out.free
   have k_w:=HHD.out.cell
   unfold wkA at k_w
   clear hown hg hf hWne
   refine hK.out _ _ (⟨HHD.out.cell 8,HBA9.out.cell 0,HBA9.out.cell 1,HBA9.out.cell 2⟩) ?_
   clear hK
   refine ax 8 ?_
   refine ax 9 ?_
   refine eu (by kernel_rfl) (by kernel_rfl) rfl (fun K hK=>?_)
   go_simp
   refine hK.out _ _ ?_
   clear f_w k_w
   go_wp2_with fail
   go_end0
   rw [HS2.out]
   have HLP:Hid ((xs++[y]).length=xs.length+1):=AE (by simp)
   have HAF:Hid (al (StM W (.slice A xs.length c)) w6 (w9.setCell ⟨W,8,none⟩ (.slice A9 (xs.length+1) c9))):=AE (HA9.out.set_ (fun _=>.inl rfl) 8 _)
   have HMM:Hid (∀k,k<w6.heap.size→StM W (.slice A9 (xs++[y]).length c9) k→StM W (.slice A xs.length c) k):=AE (fun k hk hm=>by
    rcases hm with hm | hm
    ·exact .inl hm
    ·right
     rw [HLP.out] at hm
     rcases HFV.out with h | ⟨k',h4,h5⟩
     ·exact h.symm.trans hm
     ·rw [h4] at hm
      simp only [AP] at hm
      omega)
   refine ⟨xs++[y],A9,c9,rfl,by simp,⟨by rw [HLP.out];exact HHD.out.set_ 8 _,HW.out.lt,?_,by rw [HLP.out];exact HOWN.out.far HW.out.lt (AH _) _,fun x hx=>?_,fun x hx=>?_⟩,?_,?_⟩
   ·have h1:=HAF.out.size
    have h2:=HW6.out.bw
    omega
   ·rcases List.mem_append.1 hx with hx | hx
    ·exact HW.out.ok x hx
    ·rw [List.mem_singleton] at hx;subst hx;exact HOK.out
   ·rcases List.mem_append.1 hx with hx | hx
    ·exact (HW6.out.deep x hx).next HAF.out (fun _ _ h=>h) HMM.out
    ·rw [List.mem_singleton] at hx;subst hx
     exact ((HY.out.later (aa HBr.out HB6.out))).next HAF.out (fun _ _ h=>h) HMM.out
   ·exact ((al.of_below (aa HBr.out HB6.out)).trans HA9.out (fun _ _ h=>h)).set_ (fun _=>.inl rfl) 8 _
   ·have hq:bk w (.slice A xs.length c) (.slice A9 (xs.length+1) c9):=by
     rcases HFV.out with h | ⟨k,h4,h5⟩
     ·exact .inl h
     ·exact .inr ⟨k,h4,by omega⟩
    rw [←HLP.out] at hq
    exact hq
theorem vu:Ord3 dH:=by
 have hf:Ord3 dh:=kH
 refine ⟨?_,?_⟩
 ·intro x
  induction x with
  | nil=>intro y;cases y<;>simp [dH]
  | cons a x ih=>
    intro y
    cases y with
    | nil=>simp [dH]
    | cons b y=>
      have h:=hf.anti a b
      have:=ih y
      simp only [dH]
      split<;>split<;>omega
 ·intro x
  induction x with
  | nil=>intro y z _ _;cases z<;>simp [dH]
  | cons a x ih=>
    intro y z h k
    cases y with
    | nil=>simp [dH] at h
    | cons b y=>
      cases z with
      | nil=>simp [dH] at k
      | cons d z=>
        have key:=(hf.andThen (c:=dh) (d:=fun _ _=>0) ⟨fun _ _=>rfl,fun _ _ _ _ _=>by simp⟩)
        simp only [dH] at *
        by_cases h1:dh a b=0
        ·rw [if_pos h1] at h
         by_cases h2:dh b d=0
         ·rw [if_pos h2] at k
          have e:dh a d=0:=by rcases hf.zero_l (z:=d) h1 with e | e | e<;>omega
          rw [if_pos e]
          exact ih y z h k
         ·rw [if_neg h2] at k
          have e:dh a d<0:=by rcases hf.zero_l (z:=d) h1 with e | e | e<;>omega
          rw [if_neg (by omega)];omega
        ·rw [if_neg h1] at h
         have e:dh a d<0:=by
          by_cases h2:dh b d=0
          ·exact hf.lt_le (y:=b) (by omega) (by omega)
          ·rw [if_neg h2] at k;exact hf.lt_le (y:=b) (by omega) k
         rw [if_neg (by omega)];omega
theorem bX:Ord3 aT:=by
 have e:aT=jR (fun a b:Ans=>dH a.b.names b.b.names) (jR (fun a b:Ans=>bM (aV 3) a.b.terms b.b.terms) (fun a b:Ans=>cW a.o b.o)):=by
  funext a b
  simp only [aT,jR,orL]
  split<;>(try rfl)
  split<;>(try rfl)
  split<;>simp_all
 rw [e]
 exact (vu.by fun a:Ans=>a.b.names).andThen (((nK (ff 3)).by fun a:Ans=>a.b.terms).andThen (gJ.by Ans.o))
theorem zW {α:Type} {c:α→α→Int} (h:Ord3 c):Sort.SWO (ltOf c) where
 irrefl x:=by simp [ltOf,h.self x]
 trans x y z h1 h2:=by
  simp only [ltOf,AT] at *
  exact h.lt_le h1 (Int.le_of_lt h2)
 ntrans x y z h1 h2:=by
  simp only [ltOf,decide_eq_false_iff_not] at *
  have a:=h.anti x y
  have b:=h.anti y z
  have d:=h.anti x z
  have e:=h.trans z y x (by omega) (by omega)
  omega
def ld:AnV:=⟨⟨⟨[],[]⟩,0⟩,none,0,none,0⟩
def ju:Ans:=⟨⟨[],[]⟩,0⟩
def cfL (L:List Ans) (i j:Nat):Int:=aT (L.getD i ju) (L.getD j ju)
def eA (L:List Ans):List Nat:=(Sort.pdq (ltOf (cfL L)) (Array.range L.length) 0 L.length (Lib.bitLen L.length) true true).toList
def jm (L:List Ans):List Ans:=(eA L).map (L.getD · ju)
theorem vh (L:List Ans):Ord3 (cfL L):=bX.by fun i=>L.getD i ju
theorem pQ (L:List Ans):Sort.PermIn 0 L.length (Array.range L.length) (Sort.pdq (ltOf (cfL L)) (Array.range L.length) 0 L.length (Lib.bitLen L.length) true true)∧Sort.SortedIn (ltOf (cfL L)) 0 L.length (Sort.pdq (ltOf (cfL L)) (Array.range L.length) 0 L.length (Lib.bitLen L.length) true true):=
 Sort.pdq_sorts (ltOf (cfL L)) (zW (vh L)) (Array.range L.length) 0 L.length (Lib.bitLen L.length) true true (AH _) (by simp) (Or.inl rfl)
theorem jP (L:List Ans):(eA L).Perm (List.range L.length):=by
 obtain ⟨h1,_,h3⟩:=(pQ L).1
 have e1:∀(a:Array Nat),a.size=L.length→a.extract 0 L.length=a:=fun a h=>by rw [←h];exact Array.extract_size
 rw [e1 _ (by simpa using h1),e1 _ (by simp)] at h3
 simpa [eA,Array.toList_range] using h3
theorem mf (L:List Ans):(eA L).length=L.length:=by simpa using (jP L).length_eq
theorem sO {L:List Ans} {i:Nat} (h:i∈eA L):i<L.length:=by simpa using (jP L).mem_iff.1 h
theorem mJ {α:Type} (L:List α) (z:α):(List.range L.length).map (L.getD · z)=L:=by
 refine List.ext_getElem (by simp) fun i h1 h2=>?_
 simp [h2]
theorem gS (L:List Ans):(jm L).Perm L:=by
 have h:=(jP L).map (L.getD · ju)
 rwa [mJ] at h
theorem qe (L:List Ans):(jm L).Pairwise fun a b=>aT a b≤0:=by
 have h:=(pQ L).2
 rw [jm,List.pairwise_map,List.pairwise_iff_getElem]
 intro i j hi hj hij
 have h1:=h i j (AH _) hij (by rw [mf] at hj;exact hj)
 have e:∀k (hk:k<(eA L).length),(Sort.pdq (ltOf (cfL L)) (Array.range L.length) 0 L.length (Lib.bitLen L.length) true true)[k]! = (eA L)[k]:=fun k hk=>by
  rw [getElem!_pos _ k (by simpa [eA] using hk)];simp [eA];rfl
 rw [e j hj,e i hi] at h1
 simp only [ltOf,decide_eq_false_iff_not] at h1
 have h1:¬aT (L.getD (eA L)[j] ju) (L.getD (eA L)[i] ju)<0:=h1
 have a:=bX.anti (L.getD (eA L)[j] ju) (L.getD (eA L)[i] ju)
 omega
theorem zI (y:AnV):y.cs.length=3:=rfl
def mW (xs:List AnV) (i:Nat):List Value:=(xs.getD i ld).cs
theorem tA (xs:List AnV) (d:Array Nat) (i:Nat) (hi:i<d.size):((Sort.flatK (mW xs) 3 d).toList.drop (i*3)).take 3=mW xs d[i]!:=by
 refine List.ext_getElem? fun j=>?_
 rw [List.getElem?_take]
 by_cases hj:j<3
 ·rw [if_pos hj,List.getElem?_drop,Array.getElem?_toList]
  have hs:i*3+j<d.size*3:=by omega
  have h:=Sort.get_flatK (mW xs) 3 d (i*3+j) hs
  have h2:(Sort.flatK (mW xs) 3 d)[i*3+j]? = some (Sort.flatK (mW xs) 3 d)[i*3+j]!:=by
   rw [getElem!_pos _ _ (by simpa using hs)];exact Array.getElem?_eq_getElem _
  rw [h2,h,show (i*3+j) / 3=i by omega,show (i*3+j) % 3=j by omega]
  have hl:(mW xs d[i]!).length=3:=rfl
  rw [List.getElem!_eq_getElem?_getD,AO (by omega)];rfl
 ·rw [if_neg hj,List.getElem?_eq_none (by show 3≤j;omega)]
section
variable {e:TypeId} {w:World} {base g c n:Nat} {xs ys:List AnV} {os:Array Obj}
theorem vV (h:aq jV e w base 0 (.slice (some ⟨g,0,none⟩) xs.length c) xs) (h0:0<xs.length):Sort.HoldsK (mW xs) 3 w g 0 (Array.range xs.length):=by
 obtain ⟨g',c',hv,_,_,_,_,hc,hf,_⟩:=h.sh bg h0
 simp only [AR,AP,Addr.mk.injEq,and_true,true_and] at hv
 obtain ⟨rfl,rfl⟩:=hv
 intro t ht
 have ht':t<xs.length*3:=by simpa using ht
 refine ⟨?_,hf _⟩
 have h:=Sort.get_flatK (mW xs) 3 (Array.range xs.length) t (by simpa using ht')
 have hi:t / 3<xs.length:=by omega
 have h2:=hc (t / 3) hi (t % 3) (xs[t / 3].cs[t % 3]!) (by
  rw [List.getElem!_eq_getElem?_getD,AO (by rw [zI];omega)];rfl)
 have e1:t / 3*jV.k+t % 3=0+t:=by show t / 3*3+t % 3=0+t;omega
 rw [e1] at h2
 rw [h2]
 show some _=some (id ((Sort.flatK (mW xs) 3 (Array.range xs.length))[t]!))
 rw [h,getElem!_pos (Array.range xs.length) (t / 3) (by simpa using hi)]
 simp [mW,hi]
theorem rc (F:Array Value):w.grownBy (Sort.grow (Sort.putRow id (Sort.ahead w n) g 0 F) os) (some g):=by
 refine ⟨rfl,rfl,rfl,by simp,fun k hk hne=>?_⟩
 rw [Sort.heap_grow_old _ _ (by simpa using hk)]
 have:g≠k:=fun e=>hne (by rw [e])
 simp [Sort.putRow,Sort.mapBlock,Sort.ahead,Array.getElem?_modify,this]
theorem own_put (h:aq jV e w base 0 (.slice (some ⟨g,0,none⟩) xs.length c) xs) (F:Array Value) (hF:F.size=xs.length*3) (hl:ys.length=xs.length) (hp:∀i (hi:i<ys.length),(F.toList.drop (i*3)).take 3=ys[i].cs) :
 aq jV e (Sort.grow (Sort.putRow id (Sort.ahead w n) g 0 F) os) base 0 (.slice (some ⟨g,0,none⟩) ys.length c) ys:=by
 obtain ⟨cells,⟨h1,h2⟩,hf⟩:=h
 refine ⟨F.toList,⟨by show F.toList.length=ys.length*3;simp [hF,hl],?_⟩,⟨by show F.toList.length=ys.length*3;simp [hF,hl],fun i hi=>hp i hi⟩⟩
 rcases h2 with ⟨h2,_⟩ | ⟨g',cap,cur,hv,hg,hh,k1,k2,k3,k4⟩
 ·cases h2
 simp only [AR,AP,Addr.mk.injEq,and_true,true_and] at hv
 obtain ⟨rfl,rfl⟩:=hv
 have k3:cur.size=c*3:=k3
 have hgl:g<w.heap.size:=(Array.getElem?_eq_some_iff.1 hh).1
 have hs:F.size≤cur.size:=by rw [hF,k3];exact Nat.mul_le_mul_right 3 k1
 refine .inr ⟨g,c,Sort.putCells id 0 F cur,by rw [hl],hg,?_,by rw [hl];exact k1,k2,by show _=c*3;simp [Sort.putCells,k3],?_⟩
 ·rw [Sort.heap_grow_old _ _ (by simpa using hgl)]
  simp [Sort.putRow,Sort.mapBlock,Sort.ahead,Array.getElem?_modify,hh,Sort.onCells]
 ·show (Sort.putCells id 0 F cur).toList.take (ys.length*3)=F.toList
  rw [hl,←hF]
  refine List.ext_getElem? fun j=>?_
  by_cases hj:j<F.size
  ·rw [List.getElem?_take_of_lt hj,Array.getElem?_toList,Array.getElem?_toList]
   simp [Sort.putCells,hj,show j<cur.size by omega]
  ·rw [List.getElem?_take_eq_none (by omega),List.getElem?_eq_none (by simp;omega)]
end
theorem nO:∀args (w:World),(callFunc 78 args).run Tryz.prog w=.ok (.enter 78 args) w:=ent Tryz.func78 (by kernel_rfl) rfl
theorem qB (d B:Nat) (w:World):(nA d).rd w B ld.x ld.cs:=⟨none,0,none,0,rfl,fun h=>absurd h (by decide),fun h=>absurd h (by decide)⟩
theorem kZ {base d g c:Nat} {w:World} {xs:List AnV} (hr:aq jV 116 w base 0 (.slice (some ⟨g,0,none⟩) xs.length c) xs) (hx:0<xs.length) (hok:∀y∈xs,AnOk y.x)
 (hd:∀y∈xs,fJ (fun k=>k=g) w (fun w'=>(nA d).rd w' w'.heap.size y.x y.cs)) (hn:xs.length≤1000000) :
 Calls Tryz.prog 77 #[.slice (some ⟨g,0,none⟩) xs.length c,.func (.func 78) #[] #[]] w fun z w'=>
  z=.returned (.tuple #[])∧aq jV 116 w' base 0 (.slice (some ⟨g,0,none⟩) xs.length c) ((eA (xs.map AnV.x)).map (xs.getD · ld))∧al (fun k=>k=g) w w':=by
 have hg:=(hr.lt g rfl).2
 have ag:∀(F:Array Value) (n:Nat) (os:Array Obj),al (fun k=>k=g) w (Sort.grow (Sort.putRow id (Sort.ahead w n) g 0 F) os):=fun F n os=>(al.grown (rc F)).mono fun k _ h=>by simpa using h
 have gx:∀i,(xs.map AnV.x).getD i ju=(xs.getD i ld).x:=fun i=>by
  by_cases hi:i<xs.length
  ·simp [hi]
  ·simp [List.getD,List.getElem?_eq_none (Nat.le_of_not_lt hi),ju,ld]
 have rdx:∀(w':World),al (fun k=>k=g) w w'→∀i,(nA d).rd w' w'.heap.size (xs.getD i ld).x (mW xs i)∧AnOk (xs.getD i ld).x:=fun w' h i=>by
  by_cases hi:i<xs.length
  ·have e:xs.getD i ld=xs[i]:=by simp [hi]
   unfold mW
   rw [e]
   exact ⟨hd _ (List.getElem_mem hi) w' h,hok _ (List.getElem_mem hi)⟩
  ·have e:xs.getD i ld=ld:=by simp [List.getD,List.getElem?_eq_none (Nat.le_of_not_lt hi)]
   unfold mW
   rw [e]
   exact ⟨qB _ _ _,⟨by decide,by decide⟩⟩
 have hc:CmpLays Tryz.prog 78 #[] (mW xs) 3 (cfL (xs.map AnV.x)) g 0 (Array.range xs.length).size w:=by
  intro m os dk _ x y
  generalize hW:sortWorldK (mW xs) 3 w g 0 m dk os=W
  have hA:al (fun k=>k=g) w W:=hW▸ag (Sort.flatK (mW xs) 3 dk) m os
  obtain ⟨r1,o1⟩:=rdx W hA x
  obtain ⟨r2,o2⟩:=rdx W hA y
  rw [Array.append_empty]
  refine (kX r1 r2 o1 o2 (AG _)).mono ?_
  rintro z w' ⟨rfl,hb⟩
  refine ⟨?_,tD hb⟩
  rw [cfL,gx,gx]
 have hL:(xs.map AnV.x).length=xs.length:=AM _
 have h:=AnyQ.slices_SortFunc_eq Tryz.sortAns 3 (fun w=>Tryz.isAgg116 w) (fun w=>Tryz.sizeOf116 w) (mW xs) (fun _=>rfl) (fun x v hv=>by
  simp only [mW,AnV.cs,anV,List.mem_cons,List.not_mem_nil,or_false] at hv
  rcases hv with rfl | rfl | rfl<;>rfl) (cfL (xs.map AnV.x)) (zW (vh _)) 78 #[] g 0 c (Array.range xs.length) w nO hc (vV hr hx) hg (by simp;omega)
 rw [Array.size_range] at h
 refine h.mono ?_
 rintro z w' ⟨rfl,n,os,rfl⟩
 have hlen:=mf (xs.map AnV.x)
 have hsz:(Sort.pdq (ltOf (cfL (xs.map AnV.x))) (Array.range xs.length) 0 xs.length (Lib.bitLen xs.length) true true).toList=eA (xs.map AnV.x):=by unfold eA;rw [hL]
 refine ⟨rfl,?_,ag _ n os⟩
 have ho:=own_put (n:=n) (os:=os) (ys:=(eA (xs.map AnV.x)).map (xs.getD · ld)) hr (Sort.flatK (mW xs) 3 (Sort.pdq (ltOf (cfL (xs.map AnV.x))) (Array.range xs.length) 0 xs.length (Lib.bitLen xs.length) true true)) (by
  rw [Sort.size_flatK,←AQ,hsz,hlen,hL]) (by rw [AM,hlen,hL]) (fun i hi=>by
  rw [AM] at hi
  rw [tA _ _ _ (by rw [←AQ,hsz];exact hi)]
  rw [List.getElem_map,getElem!_pos _ i (by rw [←AQ,hsz];exact hi),←Array.getElem_toList]
  simp only [hsz,mW])
 rw [AM,hlen,hL] at ho
 exact ho
section
variable {α:Type} (q:α→α→Bool)
def ey:α→List α→List α
 | _,[]=>[]
 | p,y::ys=>if q y p=true then ey y ys else y::ey y ys
def cpt:List α→List α
 | []=>[]
 | x::xs=>x::ey q x xs
theorem mV (z:α):∀(ys:List α) (p:α),ey q p (ys++[z])=ey q p ys++(if q z ((p::ys).getLast (by simp))=true then [] else [z])
 | [],p=>by simp [ey];rfl
 | y::ys,p=>by
   simp only [List.cons_append,ey]
   rw [mV z ys y]
   split<;>simp<;>rfl
theorem sa {xs:List α} {m:Nat} (h:m+1<xs.length):cpt q (xs.take (m+2))=cpt q (xs.take (m+1))++(if q xs[m+1] xs[m]=true then [] else [xs[m+1]]):=by
 cases xs with
 | nil=>simp at h
 | cons x t=>
   have ht:m<t.length:=by simpa using h
   have e1:(x::t).take (m+2)=x::(t.take m++[t[m]]):=by
    rw [List.take_succ_cons,List.take_succ_eq_append_getElem ht]
   have e2:(x::t).take (m+1)=x::t.take m:=rfl
   rw [e1,e2,cpt,cpt,mV]
   have e3:(x::t.take m).getLast (by simp)=(x::t)[m]:=by
    rw [List.getLast_eq_getElem]
    have hl:(x::t.take m).length-1=m:=by simp;omega
    have e4:(x::t.take m)=(x::t).take (m+1):=rfl
    simp only [hl]
    simp only [e4,List.getElem_take]
   rw [e3]
   rfl
theorem vx {xs:List α} (h:0<xs.length):cpt q (xs.take 1)=xs.take 1:=by
 cases xs with
 | nil=>simp at h
 | cons x t=>simp [cpt,ey]
theorem ln:∀{ys:List α} {p x:α},x∈ey q p ys→x∈ys
 | [],_,_,h=>by simp [ey] at h
 | y::ys,p,x,h=>by
   rw [ey] at h
   split at h
   ·exact List.mem_cons_of_mem _ (ln h)
   ·rcases List.mem_cons.1 h with h | h
    ·rw [h];exact List.mem_cons_self
    ·exact List.mem_cons_of_mem _ (ln h)
theorem qU {xs:List α} {x:α} (h:x∈cpt q xs):x∈xs:=by
 cases xs with
 | nil=>simp [cpt] at h
 | cons y t=>
   rcases List.mem_cons.1 h with h | h
   ·rw [h];exact List.mem_cons_self
   ·exact List.mem_cons_of_mem _ (ln q h)
end
section
variable {e:TypeId} {w:World} {base g c n i k:Nat} {xs:List AnV}
theorem gF (h:aq jV e w base 0 (.slice (some ⟨g,0,none⟩) xs.length c) xs) (hi:i<xs.length):w.cell? ⟨g,i*3,none⟩=some (.slice xs[i].an xs[i].x.b.names.length xs[i].cn)∧w.cell? ⟨g,i*3+1,none⟩=some (.slice xs[i].at_ xs[i].x.b.terms.length xs[i].ct)∧w.cell? ⟨g,i*3+2,none⟩=some (.int .u32 xs[i].x.o):=by
 obtain ⟨g1,c1,e1,_,_,_,_,hc,_,_⟩:=h.sh bg (by omega)
 simp only [AR,AP,Addr.mk.injEq,and_true] at e1
 obtain ⟨rfl,-,rfl⟩:=e1
 exact ⟨hc i hi 0 _ rfl,hc i hi 1 _ rfl,hc i hi 2 _ rfl⟩
theorem an_some (h:aq jV e w base 0 (.slice (some ⟨g,0,none⟩) xs.length c) xs) {t:Nat} (ht:t<xs.length*3):(w.cell? ⟨g,t,none⟩).isSome=true:=by
 obtain ⟨g1,c1,e1,_,_,_,_,hc,_,_⟩:=h.sh bg (by omega)
 simp only [AR,AP,Addr.mk.injEq,and_true] at e1
 obtain ⟨rfl,-,rfl⟩:=e1
 have h2:=hc (t / 3) (by omega) (t % 3) _ (AO (by rw [zI];omega))
 have e2:t / 3*jV.k+t % 3=t:=by show t / 3*3+t % 3=t;omega
 rw [e2] at h2
 rw [h2];rfl
theorem zS {R:List AnV} {s:Nat} (h:R.drop s=xs.drop s) (hs:s≤i) (h1:i<R.length) (h2:i<xs.length):R[i]=xs[i]:=by
 have e:(R.drop s)[i-s]? = (xs.drop s)[i-s]?:=by rw [h]
 rw [List.getElem?_drop,List.getElem?_drop,show s+(i-s)=i by omega,AO h1,AO h2] at e
 exact Option.some.inj e
theorem pg {R:List AnV} {s:Nat} (h:R.drop s=xs.drop s):R.drop (s+1)=xs.drop (s+1):=by
 have h1:=congrArg (List.drop 1) h
 rwa [List.drop_drop,List.drop_drop] at h1
theorem uK (h:aq jV e w base 0 (.slice (some ⟨g,0,none⟩) xs.length c) xs) (h0:0<xs.length):∀o,w.frozen? ⟨g,o,none⟩=false:=by
 obtain ⟨g1,c1,e1,_,_,_,_,_,hf,_⟩:=h.sh bg h0
 simp only [AR,AP,Addr.mk.injEq,and_true] at e1
 obtain ⟨rfl,-,rfl⟩:=e1
 exact hf
theorem an_put (h:aq jV e w base 0 (.slice (some ⟨g,0,none⟩) n c) xs) (hi:i<xs.length) (y:AnV) :
 aq jV e (((w.setCell ⟨g,i*3,none⟩ (.slice y.an y.x.b.names.length y.cn)).setCell ⟨g,i*3+1,none⟩ (.slice y.at_ y.x.b.terms.length y.ct)).setCell ⟨g,i*3+2,none⟩ (.int .u32 y.x.o)) base 0 (.slice (some ⟨g,0,none⟩) n c) (xs.set i y):=by
 have hx:0<xs.length:=by omega
 obtain ⟨g1,c1,e1,_,_,_,_,_,_,p1⟩:=h.sh bg hx
 simp only [AR,AP,Addr.mk.injEq,and_true] at e1
 obtain ⟨rfl,rfl,rfl⟩:=e1
 have h1:=p1 i hi 0 (.slice y.an y.x.b.names.length y.cn) ⟨⟨⟨y.x.b.names,xs[i].x.b.terms⟩,xs[i].x.o⟩,y.an,y.cn,xs[i].at_,xs[i].ct⟩ (by show 0<3;omega) rfl
 have hl1:i<(xs.set i ⟨⟨⟨y.x.b.names,xs[i].x.b.terms⟩,xs[i].x.o⟩,y.an,y.cn,xs[i].at_,xs[i].ct⟩).length:=by rw [List.length_set];exact hi
 obtain ⟨g2,c2,e2,_,_,_,_,_,_,p2⟩:=h1.sh bg (by omega)
 simp only [AR,AP,Addr.mk.injEq,and_true] at e2
 obtain ⟨rfl,_,rfl⟩:=e2
 have h2:=p2 i hl1 1 (.slice y.at_ y.x.b.terms.length y.ct) ⟨⟨⟨y.x.b.names,y.x.b.terms⟩,xs[i].x.o⟩,y.an,y.cn,y.at_,y.ct⟩ (by show 1<3;omega) (by rw [List.getElem_set_self];rfl)
 rw [List.set_set] at h2
 have hl2:i<(xs.set i ⟨⟨⟨y.x.b.names,y.x.b.terms⟩,xs[i].x.o⟩,y.an,y.cn,y.at_,y.ct⟩).length:=by rw [List.length_set];exact hi
 obtain ⟨g3,c3,e3,_,_,_,_,_,_,p3⟩:=h2.sh bg (by omega)
 simp only [AR,AP,Addr.mk.injEq,and_true] at e3
 obtain ⟨rfl,_,rfl⟩:=e3
 have h3:=p3 i hl2 2 (.int .u32 y.x.o) y (by show 2<3;omega) (by rw [List.getElem_set_self];rfl)
 rw [List.set_set] at h3
 exact h3
theorem kn:∀(vs:List Value) {w:World} {cur:Array Value} (s:Nat),w.heap[g]? = some (.cells cur e (0,0))→∃cur':Array Value,(w.setCells g s vs).heap[g]? = some (.cells cur' e (0,0))∧cur'.size=cur.size∧∀t,t<s→cur'[t]? = cur[t]?
 | [],_,cur,_,h=>⟨cur,h,rfl,fun _ _=>rfl⟩
 | v::vs,w,cur,s,h=>by
   have hb:bS w g cur e:=h
   obtain ⟨cur',h1,h2,h3⟩:=kn vs (s+1) (show (w.setCell ⟨g,s,none⟩ v).heap[g]? = some (.cells (cur.setIfInBounds s v) e (0,0)) from hb.set_ s v)
   refine ⟨cur',h1,by simpa using h2,fun t ht=>?_⟩
   rw [h3 t (by omega),Array.getElem?_setIfInBounds,if_neg (by omega)]
theorem ib:∀(vs:List Value) (w:World) (s:Nat),al (fun k=>k=g) w (w.setCells g s vs)
 | [],w,_=>al.refl _ w
 | v::vs,w,s=>((al.refl (fun k=>k=g) w).set_ (g:=g) (fun _=>rfl) s v).trans (ib vs _ (s+1)) fun _ _ h=>h
theorem own_cut (h:aq jV e w base 0 (.slice (some ⟨g,0,none⟩) xs.length c) xs) (hk:k≤xs.length) (vs:List Value):aq jV e (w.setCells g (k*3) vs) base 0 (.slice (some ⟨g,0,none⟩) k c) (xs.take k):=by
 obtain ⟨cells,⟨h1,h2⟩,hf⟩:=h
 have hlen:(xs.take k).length=k:=by rw [AW];omega
 have h1:cells.length=xs.length*3:=h1
 refine ⟨cells.take (k*3),⟨by show (cells.take (k*3)).length=(xs.take k).length*3;rw [hlen,AW];omega,?_⟩,⟨by show (cells.take (k*3)).length=(xs.take k).length*3;rw [hlen,AW];omega,fun i hi=>?_⟩⟩
 ·rcases h2 with ⟨h2,_⟩ | ⟨g',cap,cur,hv,hg,hh,k1,k2,k3,k4⟩
  ·cases h2
  simp only [AR,AP,Addr.mk.injEq,and_true,true_and] at hv
  obtain ⟨rfl,rfl⟩:=hv
  obtain ⟨cur',m1,m2,m3⟩:=kn vs (k*3) hh
  refine .inr ⟨g,c,cur',by rw [hlen],hg,m1,by rw [hlen];omega,k2,by rw [m2,k3],?_⟩
  rw [←k4]
  show cur'.toList.take ((xs.take k).length*3)=(cur.toList.take (xs.length*3)).take (k*3)
  rw [hlen,List.take_take,Nat.min_eq_left (by omega)]
  refine List.ext_getElem? fun j=>?_
  by_cases hj:j<k*3
  ·rw [List.getElem?_take_of_lt hj,List.getElem?_take_of_lt hj,Array.getElem?_toList,Array.getElem?_toList,m3 j hj]
  ·rw [List.getElem?_take_eq_none (by omega),List.getElem?_take_eq_none (by omega)]
 ·rw [hlen] at hi
  rw [List.getElem_take]
  have h3:=hf.2 i (by omega)
  show ((cells.take (k*3)).drop (i*3)).take 3=xs[i].cs
  have h3:(cells.drop (i*3)).take 3=xs[i].cs:=h3
  rw [←h3,List.drop_take,List.take_take,Nat.min_eq_left (by omega)]
end
theorem rJ {P:Program} (w:World) (t e ty:TypeId) (z:Value) (ht:P.underlying t=some (.slice e)) (hv:∀w,(zeroValue e).run P w=.ok z w) (h1:∀v∈z.cells,v.oneCell'=true) (hz:0<z.cells.size) (b o n c:Nat) (hn:0<n)
 (hc:∀j,j<n*z.cells.size→(w.cell? ⟨b,o+j,none⟩).isSome=true) (hf:∀j,w.frozen? ⟨b,o+j,none⟩=false) :
 (Builtin.clear_ #[t] ty #[.slice (some ⟨b,o,none⟩) n c]).run P w=.ok (.tuple #[]) (w.setCells b o (Builtin.zeroCells z.cells n).toList):=by
 have hst:=run_storeCells_cells (P:=P) b o (Builtin.zeroCells z.cells n).toList 0 w (by
  intro j hj
  simpa using hc j (by simpa [Builtin.zeroCells] using hj)) (by intro j hj;exact hf _) (by
  intro v hv'
  simp only [Builtin.zeroCells,Array.toList_map,List.mem_map] at hv'
  obtain ⟨k,hk,rfl⟩:=hv'
  exact h1 _ (by simp [Nat.mod_lt _ hz]))
 simp only [Nat.add_zero] at hst
 obtain ⟨m,rfl⟩:∃m,n=m+1:=⟨n-1,by omega⟩
 simp [Builtin.clear_,run_underlying ht,hv,hst]
def qAn (a b:AnV):Bool:=aT a.x b.x==0
theorem yr:∀args (w:World),(callFunc 80 args).run Tryz.prog w=.ok (.enter 80 args) w:=ent Tryz.func80 (by kernel_rfl) rfl
theorem mR {base d g c:Nat} {w:World} {xs:List AnV} (hr:aq jV 116 w base 0 (.slice (some ⟨g,0,none⟩) xs.length c) xs) (hx:0<xs.length) (hok:∀y∈xs,AnOk y.x)
 (hd:∀y∈xs,fJ (fun k=>k=g) w (fun w'=>(nA d).rd w' w'.heap.size y.x y.cs)) (hn:xs.length≤1000000) :
 Calls Tryz.prog 79 #[.slice (some ⟨g,0,none⟩) xs.length c,.func (.func 80) #[] #[]] w fun z w'=>
  ∃L,L=cpt qAn xs∧z=.returned (.slice (some ⟨g,0,none⟩) L.length c)∧aq jV 116 w' base 0 (.slice (some ⟨g,0,none⟩) L.length c) L∧al (fun k=>k=g) w w':=by
 have hgl0:g<w.heap.size:=(hr.lt g rfl).2
 have hcap:xs.length≤c∧c≤9223372036854775807:=by
  obtain ⟨g1,c1,e1,_,_,h1,h2,_⟩:=hr.sh bg hx
  simp only [AR] at e1
  obtain ⟨_,_,rfl⟩:=e1
  exact ⟨h1,h2⟩
 obtain ⟨hc1,hc2⟩:=hcap
 have HR:=AE hr
 have HOK:=AE hok
 have HD:=AE hd
 have hen:=yr
 clear hr hok hd
 go_enter Tryz.func79,Tryz.ntmps79
 by_cases h2:xs.length<2
 ·go_wp2_with fail
  go_ret
  have e:cpt qAn xs=xs:=by
   have:=vx qAn hx
   rwa [List.take_of_length_le (by omega)] at this
  exact ⟨xs,e.symm,rfl,HR.out,al.refl _ _⟩
 ·go_wp2_with fail
  go_loopw [5] (fun u wr=>∃j:Nat,j<xs.length∧u=.int .i64 ((j:Int)+1)∧Hid (cpt qAn (xs.take (j+1))=xs.take (j+1))∧Hid (Below w.heap.size w wr)) (fun u _=>xs.length-(intOf u).toNat)
  case atStart=>exact ⟨0,hx,rfl,AE (vx qAn hx),AE (AI _ _)⟩
  case round=>
   obtain ⟨j,hj,rfl,HC,HW⟩:=hrel
   have hgl:g<wr.heap.size:=AJ hgl0 HW.out.size
   by_cases hlt:j+1<xs.length
   ·obtain ⟨x0,x1,x2⟩:=gF (HR.out.later HW.out (AH _)) hlt
    obtain ⟨y0,y1,y2⟩:=gF (HR.out.later HW.out (AH _)) hj
    have HCS:=AE (sa qAn hlt)
    have HXO:=AE (HOK.out _ (List.getElem_mem hlt))
    have HYO:=AE (HOK.out _ (List.getElem_mem hj))
    have HX:=AE (fun (w':World) (hb:Below wr.heap.size wr w')=>(HD.out _ (List.getElem_mem hlt)) w' (al.of_below (HW.out.trans (hb.mono HW.out.size))))
    have HY:=AE (fun (w':World) (hb:Below wr.heap.size wr w')=>(HD.out _ (List.getElem_mem hj)) w' (al.of_below (HW.out.trans (hb.mono HW.out.size))))
    generalize hxe:xs[j+1]=x at *
    generalize hye:xs[j]=y at *
    have HXE:=AE hxe
    clear hxe hye
    have hJ0:(0:Int)≤(j:Int):=Int.natCast_nonneg _
    have hJ3:(0:Int)≤(j:Int)+1:=by omega
    have hJw:IntKind.i64.wrap (j:Int)=j:=by simp [IntKind.wrap,IntKind.bits,IntKind.signed];omega
    have hJ1:(j:Int)+1<(xs.length:Int):=by omega
    have hJ2:(j:Int)<(xs.length:Int):=by omega
    go_upto_region 6 with fail
    have HSL:Hid (∀{w':World},Below wr.heap.size wr w'→(w'.cell? ⟨g,(j+1)*3,none⟩=some (.slice x.an x.x.b.names.length x.cn)∧w'.cell? ⟨g,(j+1)*3+1,none⟩=some (.slice x.at_ x.x.b.terms.length x.ct)∧w'.cell? ⟨g,(j+1)*3+2,none⟩=some (.int .u32 x.x.o)∧w'.cell? ⟨g,j*3,none⟩=some (.slice y.an y.x.b.names.length y.cn)∧w'.cell? ⟨g,j*3+1,none⟩=some (.slice y.at_ y.x.b.terms.length y.ct)∧w'.cell? ⟨g,j*3+2,none⟩=some (.int .u32 y.x.o))):=AE (fun hb=>⟨(hb.cell hgl).trans x0,(hb.cell hgl).trans x1,(hb.cell hgl).trans x2,(hb.cell hgl).trans y0,(hb.cell hgl).trans y1,(hb.cell hgl).trans y2⟩)
    clear x0 x1 x2 y0 y1 y2
    refine aM (fun w'=>w'.cell? ⟨g,(j+1)*3,none⟩=some (.slice x.an x.x.b.names.length x.cn)∧w'.cell? ⟨g,(j+1)*3+1,none⟩=some (.slice x.at_ x.x.b.terms.length x.ct)∧w'.cell? ⟨g,(j+1)*3+2,none⟩=some (.int .u32 x.x.o)∧w'.cell? ⟨g,j*3,none⟩=some (.slice y.an y.x.b.names.length y.cn)∧w'.cell? ⟨g,j*3+1,none⟩=some (.slice y.at_ y.x.b.terms.length y.ct)∧w'.cell? ⟨g,j*3+2,none⟩=some (.int .u32 y.x.o)) (by kernel_rfl) (HSL.out (AI _ _).drew) ?_
    refine ab 0 ?_
    refine ab 1 ?_
    refine ab 2 ?_
    refine ab 3 ?_
    refine ab 4 ?_
    refine ab 5 ?_
    refine ab 6 ?_
    refine ab 7 ?_
    refine ab 8 ?_
    refine ab 9 ?_
    generalize hD:World.drew wr=w2
    have HU:Hid (Below wr.heap.size wr w2):=AE (hD▸(AI wr.heap.size wr).drew)
    clear hD
    refine aw (rs:=[10]) (by kernel_rfl) rfl ?_
    refine ak.cons rfl (fun K hK=>?_) ak.nil
    go_simp
    refine (kY (d:=d) (e:=d) (va:=[_,_,_]) (vb:=[_,_,_]) (HX.out w2 HU.out) (HY.out w2 HU.out) HXO.out HYO.out (AG _)).mono ?_
    rintro z w3 ⟨rfl,hb3⟩
    have HU3:Hid (Below wr.heap.size wr w3):=AE (HU.out.trans (hb3.mono HU.out.size))
    clear hb3
    refine hK.out _ _ (HSL.out HU3.out) ?_
    clear hK
    refine bN (by kernel_rfl) ?_
    by_cases hq:(aT x.x y.x==0)=true
    ·clear HSL
     have HQ:Hid (cpt qAn (xs.take (j+2))=xs.take (j+1)):=AE (by
      rw [HCS.out,HC.out]
      rw [show qAn x y=true from hq,if_pos rfl,List.append_nil])
     have HW3:Hid (Below w.heap.size w w3):=AE (HW.out.trans (HU3.out.mono HW.out.size))
     clear HCS HXE HX HY HXO HYO HC
     rw [hq]
     clear hq
     go_wp2_with fail
     obtain ⟨N,hN⟩:∃N,xs.length-(j+1)=N:=⟨_,rfl⟩
     obtain ⟨C2,hC2⟩:∃C2,c-(j+1)=C2:=⟨_,rfl⟩
     rw [hN,hC2]
     have HN:Hid (xs.length=j+1+N):=AE (by omega)
     have hN0:0<N:=by omega
     have hN1:N≤1000000:=by omega
     clear hN hC2
     go_loopw [5,7] (fun u v wr=>∃(k m:Nat) (R:List AnV),u=.int .i64 ((k:Int)+1)∧v=.int .i64 ((m:Int)+1)∧k≤j+m∧m<N∧R.length=xs.length∧Hid (R.take (k+1)=cpt qAn (xs.take (j+m+2)))∧Hid (R.drop (j+m+1)=xs.drop (j+m+1))∧Hid (aq jV 116 wr base 0 (.slice (some ⟨g,0,none⟩) xs.length c) R)∧Hid (al (fun k=>k=g) w wr)) (fun _ v _=>N-(intOf v).toNat)
     case atStart=>exact ⟨j,0,xs,rfl,rfl,AG _,hN0,rfl,AE HQ.out.symm,AE rfl,AE (HR.out.later HW3.out (AH _)),AE (al.of_below HW3.out)⟩
     case round=>
      clear HQ HW3 HU HU3
      obtain ⟨k,m,R,rfl,rfl,hkm,hmN,hRl,HRT,HRD,HRO,HAG⟩:=hrel
      have hn2:=HN.out
      have hgl:g<wr.heap.size:=AJ hgl0 HAG.out.size
      have hK0:(0:Int)≤(k:Int):=Int.natCast_nonneg _
      have hK3:(0:Int)≤(k:Int)+1:=by omega
      have hK1:(k:Int)+1<(xs.length:Int):=by omega
      have hKn:k+1<xs.length:=by omega
      have HRO1:Hid (aq jV 116 wr base 0 (.slice (some ⟨g,0,none⟩) R.length c) R):=AE (by rw [hRl];exact HRO.out)
      by_cases hlt2:m+1<N
      ·have hi1:j+m+2<xs.length:=by omega
       have hi0:j+m+1<xs.length:=by omega
       have hr1:j+m+2<R.length:=by omega
       have hr0:j+m+1<R.length:=by omega
       obtain ⟨x0,x1,x2⟩:=gF HRO1.out hr1
       obtain ⟨y0,y1,y2⟩:=gF HRO1.out hr0
       rw [zS HRD.out (by omega) hr1 hi1,show (j+m+2)*3=(j+1)*3+(m+1)*3 by omega] at x0 x1 x2
       rw [zS HRD.out (by omega) hr0 hi0,show (j+m+1)*3=(j+1)*3+m*3 by omega] at y0 y1 y2
       have HCS:=AE (sa qAn hi1)
       have HXO:=AE (HOK.out _ (List.getElem_mem hi1))
       have HYO:=AE (HOK.out _ (List.getElem_mem hi0))
       have HX:=AE (fun (w':World) (hb:Below wr.heap.size wr w')=>(HD.out _ (List.getElem_mem hi1)) w' (HAG.out.trans (al.of_below (M:=fun k=>k=g) hb) (fun _ _ h=>h)))
       have HY:=AE (fun (w':World) (hb:Below wr.heap.size wr w')=>(HD.out _ (List.getElem_mem hi0)) w' (HAG.out.trans (al.of_below (M:=fun k=>k=g) hb) (fun _ _ h=>h)))
       generalize hxe:xs[j+m+2]=x at *
       generalize hye:xs[j+m+1]=y at *
       clear hxe hye hn2 hi1 hi0 hr1 hr0
       have hM0:(0:Int)≤(m:Int):=Int.natCast_nonneg _
       have hM3:(0:Int)≤(m:Int)+1:=by omega
       have hMw:IntKind.i64.wrap (m:Int)=m:=by simp [IntKind.wrap,IntKind.bits,IntKind.signed];omega
       have hM1:(m:Int)+1<(N:Int):=by omega
       have hM2:(m:Int)<(N:Int):=by omega
       go_upto_region 11 with fail
       have HSL:Hid (∀{w':World},Below wr.heap.size wr w'→(w'.cell? ⟨g,(j+1)*3+(m+1)*3,none⟩=some (.slice x.an x.x.b.names.length x.cn)∧w'.cell? ⟨g,(j+1)*3+(m+1)*3+1,none⟩=some (.slice x.at_ x.x.b.terms.length x.ct)∧w'.cell? ⟨g,(j+1)*3+(m+1)*3+2,none⟩=some (.int .u32 x.x.o)∧w'.cell? ⟨g,(j+1)*3+m*3,none⟩=some (.slice y.an y.x.b.names.length y.cn)∧w'.cell? ⟨g,(j+1)*3+m*3+1,none⟩=some (.slice y.at_ y.x.b.terms.length y.ct)∧w'.cell? ⟨g,(j+1)*3+m*3+2,none⟩=some (.int .u32 y.x.o))):=AE (fun hb=>⟨(hb.cell hgl).trans x0,(hb.cell hgl).trans x1,(hb.cell hgl).trans x2,(hb.cell hgl).trans y0,(hb.cell hgl).trans y1,(hb.cell hgl).trans y2⟩)
       clear x0 x1 x2 y0 y1 y2
       refine aM (fun w'=>w'.cell? ⟨g,(j+1)*3+(m+1)*3,none⟩=some (.slice x.an x.x.b.names.length x.cn)∧w'.cell? ⟨g,(j+1)*3+(m+1)*3+1,none⟩=some (.slice x.at_ x.x.b.terms.length x.ct)∧w'.cell? ⟨g,(j+1)*3+(m+1)*3+2,none⟩=some (.int .u32 x.x.o)∧w'.cell? ⟨g,(j+1)*3+m*3,none⟩=some (.slice y.an y.x.b.names.length y.cn)∧w'.cell? ⟨g,(j+1)*3+m*3+1,none⟩=some (.slice y.at_ y.x.b.terms.length y.ct)∧w'.cell? ⟨g,(j+1)*3+m*3+2,none⟩=some (.int .u32 y.x.o)) (by kernel_rfl) (HSL.out (AI _ _).drew) ?_
       refine ab 0 ?_
       refine ab 1 ?_
       refine ab 2 ?_
       refine ab 3 ?_
       refine ab 4 ?_
       refine ab 5 ?_
       refine ab 6 ?_
       refine ab 7 ?_
       refine ab 8 ?_
       refine ab 9 ?_
       generalize hD:World.drew wr=w2
       have HU:Hid (Below wr.heap.size wr w2):=AE (hD▸(AI wr.heap.size wr).drew)
       clear hD
       refine aw (rs:=[10]) (by kernel_rfl) rfl ?_
       refine ak.cons rfl (fun K hK=>?_) ak.nil
       go_simp
       refine (kY (d:=d) (e:=d) (va:=[_,_,_]) (vb:=[_,_,_]) (HX.out w2 HU.out) (HY.out w2 HU.out) HXO.out HYO.out (AG _)).mono ?_
       rintro z w3 ⟨rfl,hb3⟩
       have HU3:Hid (Below wr.heap.size wr w3):=AE (HU.out.trans (hb3.mono HU.out.size))
       clear hb3
       refine hK.out _ _ (HSL.out HU3.out) ?_
       clear hK
       refine ab 11 ?_
       refine bN (by kernel_rfl) ?_
       have hn3:=HN.out
       have HQD:Hid (qAn x y=(aT x.x y.x==0)):=AE rfl
       generalize aT x.x y.x=r at *
       by_cases hq2:r=0
       ·subst hq2
        have HQ2:Hid (R.take (k+1)=cpt qAn (xs.take (j+(m+1)+2))):=AE (by
         rw [show j+(m+1)+2=j+m+1+2 by omega,HCS.out,show qAn x y=true from HQD.out,if_pos rfl,List.append_nil]
         exact HRT.out)
        have HD2:Hid (R.drop (j+(m+1)+1)=xs.drop (j+(m+1)+1)):=AE (by
         exact pg (s:=j+m+1) HRD.out)
        have HO2:=AE (HRO.out.later HU3.out (AH _))
        have HA2:=AE (HAG.out.trans (al.of_below (M:=fun k=>k=g) HU3.out) (fun _ _ h=>h))
        clear HSL HCS HX HY HXO HYO hn3
        go_wp2_with fail
        go_roundw
        case rel=>exact ⟨k,m+1,R,rfl,by go_num,by omega,hlt2,hRl,HQ2,HD2,HO2,HA2⟩
        case measure=>simp [intOf];omega
       ·have hq3:(r==0)=false:=by simpa using hq2
        have hkR:k+1<R.length:=by omega
        have HRO3:=AE (HRO1.out.later HU3.out (AH _))
        obtain ⟨t0,t1,t2⟩:=gF HRO3.out hkR
        obtain ⟨u0_,q0⟩:∃u,w3.cell? ⟨g,(k+1)*3,none⟩=some u:=⟨_,t0⟩
        obtain ⟨u1_,q1⟩:∃u,w3.cell? ⟨g,(k+1)*3+1,none⟩=some u:=⟨_,t1⟩
        obtain ⟨u2_,q2⟩:∃u,w3.cell? ⟨g,(k+1)*3+2,none⟩=some u:=⟨_,t2⟩
        have hfr:=uK HRO3.out (by omega)
        obtain ⟨x0,x1,x2,_,_,_⟩:=HSL.out HU3.out
        have HP:=AE (an_put HRO3.out hkR x)
        have HQ2:Hid ((R.set (k+1) x).take (k+1+1)=cpt qAn (xs.take (j+(m+1)+2))):=AE (by
         rw [show j+(m+1)+2=j+m+1+2 by omega,HCS.out,show qAn x y=false from HQD.out.trans hq3,if_neg (by decide)]
         rw [List.take_succ_eq_append_getElem (by rw [List.length_set];exact hkR),List.getElem_set_self,List.take_set_of_le (AG _)]
         rw [HRT.out])
        have HD2:Hid ((R.set (k+1) x).drop (j+(m+1)+1)=xs.drop (j+(m+1)+1)):=AE (by
         rw [List.drop_set_of_lt (by omega)]
         exact pg (s:=j+m+1) HRD.out)
        have HA2:=AE (HAG.out.trans (al.of_below (M:=fun k=>k=g) HU3.out) (fun _ _ h=>h))
        have hnb:(!(r==0))=true:=by rw [hq3];rfl
        clear HSL HCS HX HY HXO HYO hn3 hq2 t0 t1 t2
        go_wp2_with fail
        go_roundw
        case rel=>exact ⟨k+1,m+1,R.set (k+1) x,by go_num,by go_num,by omega,hlt2,by rw [List.length_set];exact hRl,HQ2,HD2,AE (by have h:=HP.out;rw [hRl] at h;exact h),AE (((HA2.out.set_ (fun _=>rfl) _ _).set_ (fun _=>rfl) _ _).set_ (fun _=>rfl) _ _)⟩
        case measure=>simp [intOf];omega
        all_goals (rename_i h9;rw [hq3] at h9;exact absurd h9 (by decide))
      ·have hzv:=Tryz.zeroValue116
       have hclr:=fun ty=>rJ (P:=Tryz.prog) wr 109 116 ty _ Tryz.underlying109 hzv (by decide) (by decide) g ((k+1)*3) (xs.length-(k+1)) (c-(k+1)) (by omega) (by
        intro t ht
        refine an_some HRO1.out ?_
        have ht:t<(xs.length-(k+1))*3:=ht
        rw [hRl];omega) (fun j=>uK HRO1.out (by omega) _)
       have HE:Hid (R.take (k+1)=cpt qAn xs):=AE (by
        rw [HRT.out,List.take_of_length_le (by omega)])
       have hlen:(R.take (k+1)).length=k+1:=by rw [AW];omega
       have HCUT:=AE (fun vs=>own_cut HRO1.out (show k+1≤R.length by omega) vs)
       have hk2:k+1≤xs.length:=by omega
       generalize (Builtin.zeroCells _ _).toList=VS at hclr
       clear hzv hn2
       go_wp2_with fail
       go_ret
       refine ⟨R.take (k+1),HE.out,by rw [hlen];rfl,?_,HAG.out.trans (ib VS _ _) (fun _ _ h=>h)⟩
       rw [hlen]
       exact HCUT.out VS
    ·have hq':(aT x.x y.x==0)=false:=by simpa using hq
     have HQ:Hid (cpt qAn (xs.take (j+2))=xs.take (j+2)):=AE (by
      rw [HCS.out,HC.out]
      rw [show qAn x y=false from hq',if_neg (by decide),←HXE.out,List.take_succ_eq_append_getElem hlt])
     have HW3:Hid (Below w.heap.size w w3):=AE (HW.out.trans (HU3.out.mono HW.out.size))
     clear hq HCS HXE
     go_wp2_with fail
     go_roundw
     case rel=>exact ⟨j+1,hlt,by go_num,HQ,HW3⟩
     case measure=>simp [intOf];omega
   ·go_wp2_with fail
    go_ret
    have e:cpt qAn xs=xs:=by
     have:=HC.out
     rwa [List.take_of_length_le (by omega)] at this
    exact ⟨xs,e.symm,rfl,HR.out.later HW.out (AH _),al.of_below HW.out⟩
theorem jY {A:Option Addr} {c:Nat} {F:Value} {w:World}:Calls Tryz.prog 79 #[.slice A 0 c,F] w fun z w'=>z=.returned (.slice A 0 c)∧w=w':=by
 go_enter Tryz.func79,Tryz.ntmps79
 go_wp2_with fail
 go_ret
 exact ⟨rfl,rfl⟩
theorem mH {A:Option Addr} {c:Nat} {F:Value} {w:World}:Calls Tryz.prog 127 #[.slice A 0 c,.int .i64 0,.int .i64 0,F] w fun z w'=>z=.returned (.tuple #[])∧w=w':=by
 go_enter Tryz.func127,Tryz.ntmps127
 go_wp2_with fail
 go_loopw [8] (fun i wr=>i=.int .i64 1∧w=wr) (fun _ _=>0)
 case atStart=>exact ⟨rfl,rfl⟩
 case round=>
  obtain ⟨rfl,rfl⟩:=hrel
  go_wp2_with fail
  go_end0
  exact ⟨rfl,rfl⟩
theorem za {A:Option Addr} {c:Nat} {l:Int} {F:Value} {w:World}:Calls Tryz.prog 98 #[.slice A 0 c,.int .i64 0,.int .i64 0,.int .i64 l,F] w fun z w'=>z=.returned (.tuple #[])∧w=w':=by
 go_enter Tryz.func98,Tryz.ntmps98
 go_wp2_with fail
 go_loopw [1,2,3,10,11] (fun a b q r t wr=>a=.int .i64 0∧b=.int .i64 0∧q=.int .i64 l∧w=wr) (fun _ _ _ _ _ _=>0)
 case atStart=>exact ⟨rfl,rfl,rfl,rfl⟩
 case round=>
  obtain ⟨rfl,rfl,rfl,rfl⟩:=hrel
  go_wp2_with fail
  refine mH.mono ?_
  rintro e w2 ⟨rfl,rfl⟩
  go_wp2_with fail
  refine bodyPost_ret (results_none rfl _ _ _) rfl ?_
  exact ⟨rfl,rfl⟩
theorem qd {A:Option Addr} {c:Nat} {F:Value} {w:World}:Calls Tryz.prog 77 #[.slice A 0 c,F] w fun z w'=>z=.returned (.tuple #[])∧w=w':=by
 go_enter Tryz.func77,Tryz.ntmps77
 go_wp2_with fail
 refine (Tryz.bits_Len 0 w (by decide) (by decide)).mono ?_
 rintro e w2 ⟨rfl,rfl⟩
 go_wp2_with fail
 refine za.mono ?_
 rintro e w3 ⟨rfl,rfl⟩
 go_wp2_with fail
 go_end0
 exact ⟨rfl,rfl⟩
end Go.Proofs.YtjpndglegpcdnaaGreat
