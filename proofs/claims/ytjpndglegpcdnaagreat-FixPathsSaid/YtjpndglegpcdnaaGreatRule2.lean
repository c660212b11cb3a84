/- rule: body, MayQuery, May. -/
import Derived.Test.YtjpndglegpcdnaaGreatCpt
import Derived.Laws.BitsAllLaws
import Derived.Test.YtjpndglegpcdnaaGreatMapF
set_option linter.unusedVariables false
set_option linter.unusedSimpArgs false
set_option maxRecDepth 100000
set_option maxHeartbeats 8000000
namespace Go.Proofs.YtjpndglegpcdnaaGreat
open Go.ChangeShapes Go.WideShapes Go.ChangeAt Go.RowKit
def xD (tr:Int) (f:Fc):Bool:=bits .andNot .u32 f.o tr !=0
def orO (a b:Int):Int:=bits .or .u32 a b
def eS (tr:Int) (step:Fc→Wst→Wst):List Fc→Wst→Wst
 | [],s=>s
 | f::fs,s=>if xD tr f=true then eS tr step fs s else if 100000≤s.held then ⟨s.held,s.out,4⟩ else
  if (step f ⟨s.held+1,s.out,s.e⟩).e≠0 then step f ⟨s.held+1,s.out,s.e⟩ else eS tr step fs (step f ⟨s.held+1,s.out,s.e⟩)
def ey (fs:List Fc) (tr:Int) (es:List (List OpD)):List Pr→Ans→Wst→Wst
 | [],x,s=>gT es x s
 | p::ps,x,s=>eS tr (fun f s1=>match gF p f.pr x.b with | some c=>ey fs tr es ps ⟨c,orO x.o f.o⟩ s1 | none=>s1) (bI fs p.name p.terms.length) s
def fc (fs:List Fc) (tr:Int) (es:List (List OpD)) (p:Pr) (ps:List Pr) (x:Ans) (f:Fc) (s1:Wst):Wst:=match gF p f.pr x.b with | some c=>ey fs tr es ps ⟨c,orO x.o f.o⟩ s1 | none=>s1
theorem gq {fs:List Fc} {tr:Int} {es:List (List OpD)} {p:Pr} {ps:List Pr} {x:Ans} {s:Wst}:ey fs tr es (p::ps) x s=eS tr (fc fs tr es p ps x) (bI fs p.name p.terms.length) s:=rfl
def Few (s s':Wst) (k:Nat):Prop:=s.held≤s'.held∧(s.held≤100000→s'.held≤100000)∧(s'.out.length:Int)+s.held≤s.out.length+s'.held+k
theorem ol {x:Ans}:∀{es:List (List OpD)} {s:Wst},Few s (gT es x s) 1
 | [],s=>⟨Int.le_refl _,fun h=>h,by simp [gT];omega⟩
 | q::qs,s=>by
   unfold gT
   split
   ·exact ⟨Int.le_refl _,fun h=>h,by simp;omega⟩
   ·split
    ·exact ol
    ·exact ⟨Int.le_refl _,fun h=>h,by omega⟩
theorem kY {tr:Int} {step:Fc→Wst→Wst} (hs:∀f s,Few s (step f s) 1):∀{fs:List Fc} {s:Wst},Few s (eS tr step fs s) 0
 | [],s=>⟨Int.le_refl _,fun h=>h,by simp [eS]⟩
 | f::fs,s=>by
   unfold eS
   split
   ·exact kY hs
   ·split
    ·exact ⟨Int.le_refl _,fun h=>h,by simp⟩
    ·rename_i h1 h2
     obtain ⟨a1,a2,a3⟩:=hs f ⟨s.held+1,s.out,s.e⟩
     simp only at a1 a2 a3
     split
     ·exact ⟨by omega,fun _=>a2 (by omega),by omega⟩
     ·obtain ⟨b1,b2,b3⟩:=kY hs (fs:=fs) (s:=step f ⟨s.held+1,s.out,s.e⟩)
      exact ⟨by omega,fun _=>b2 (a2 (by omega)),by omega⟩
theorem fC {fs:List Fc} {tr:Int} {es:List (List OpD)}:∀{ps:List Pr} {x:Ans} {s:Wst},Few s (ey fs tr es ps x s) 1
 | [],x,s=>ol
 | p::ps,x,s=>by
   have h:=kY (tr:=tr) (step:=fc fs tr es p ps x) (fun f s=>by
    unfold fc
    split
    ·exact fC
    ·exact ⟨Int.le_refl _,fun h=>h,by omega⟩) (fs:=bI fs p.name p.terms.length) (s:=s)
   rw [gq]
   exact ⟨h.1,h.2.1,by have:=h.2.2;omega⟩
theorem sq {fs:List Fc} {f:Fc} {name:ByteArray} {n:Int} (h:f∈bI fs name n):f∈fs∧f.pr.name=name:=by
 unfold bI at h
 rw [List.mem_filter,yC] at h
 refine ⟨h.1,?_⟩
 have h2:=h.2
 unfold dl at h2
 rw [orL2] at h2
 split at h2
 ·rename_i h3;exact mf (dM.1 h3)
 ·rename_i h3;exact absurd h2 h3
theorem ni {p:Pr} {f:Fc} (hp:aB p=true) (hf:FcOk f) (hn:f.pr.name=p.name):gr f.pr=true:=by
 unfold aB at hp
 simp only [yx,yC] at hp
 unfold gr aB
 rw [hn]
 simp only [yx,yC,List.all_eq_true]
 exact ⟨⟨hp.1,hf.few,fun x hx=>by have:=hf.fix x hx;unfold af at this;simp only [yx] at this;exact this.2⟩,hf.few,hf.fix⟩
theorem wm {p f:Pr} {b c:Bd} (h:gF p f b=some c):bB c=true:=by
 unfold gF at h
 split at h
 ·unfold okB at h
  split at h
  ·split at h
   ·simp only [yz] at h;subst h;assumption
   ·cases h
  ·cases h
 ·cases h
theorem or_u32 {a b:Int} (ha:U32 a) (hb:U32 b):U32 (orO a b):=by
 unfold orO
 rw [u32_or a b ha.1 ha.2 hb.1 hb.2]
 refine ⟨Int.natCast_nonneg _,?_⟩
 have h1:a.toNat<2 ^ 32:=by have:=ha.2;have:=ha.1;omega
 have h2:b.toNat<2 ^ 32:=by have:=hb.2;have:=hb.1;omega
 have:=Nat.or_lt_two_pow h1 h2
 omega
theorem fact_pr {d B:Nat} {w:World} {x:FV} (h:(aC d).rd w B x.f x.cs):(PrR d).rd w B x.f.pr [.string x.f.pr.name,.slice x.a x.f.pr.terms.length x.c]:=by
 obtain ⟨v,e,h1,_⟩:=h
 simp only [FV.cs,fcV,List.cons.injEq,true_and,and_true] at e
 rw [e];exact h1
theorem tn {base D:Nat} {w w':World} {b:Bd} {xs:List SV} {An At:Option Addr} {cn ct:Nat} {M:Nat→Prop} (h:BdQ base D w b xs An cn At ct) (ha:ak M w w') (hM:∀k,base≤k→¬M k):BdQ base D w' b xs An cn At ct:=
 ⟨h.tms,h.nm.agree ha (fun k hk=>hM k (h.nm.lt k hk).1),⟨h.st.own.agree ha (fun k hk=>hM k (h.st.own.lt k hk).1),fun x hx=>(h.st.tms x hx).keep ha.1 fun a e=>ha.2 _ (h.st.lt x hx a e).2 (hM _ (h.st.lt x hx a e).1),h.st.sep,fun x hx a e=>⟨(h.st.lt x hx a e).1,yr (h.st.lt x hx a e).2 ha.size⟩⟩,h.sep⟩
theorem vP {base D:Nat} {w:World} {b:Bd} {o:Int} {xs:List SV} {An At:Option Addr} {cn ct:Nat} {M:Nat→Prop} (h:BdQ base D w b xs An cn At ct) (hb:bB b=true) (hM:∀k,base≤k→¬M k):fl M w (fun w'=>(mJ (D+1)).rd w' w'.heap.size ⟨b,o⟩ (AnV.cs ⟨⟨b,o⟩,An,cn,At,ct⟩)):=fun w' ha=>by
 have h1:=dI.1 hb
 have h2:b.terms.length≤32:=by rw [←h1.1.len];exact h1.2
 have h3:=(tn h ha hM).reads (by have:=h1.2;omega) (by omega)
 exact ⟨An,cn,At,ct,rfl,h3.1,h3.2⟩
structure WkS (d:Nat) (w0:World) (baseS B:Nat) (k:WkC) (fs:List FV) (As:Option Addr) (cs:Nat) (body:List Pr) (Ab:Option Addr) (cb:Nat) (es:List (List OpD)) (Ae:Option Addr) (ce:Nat) (m:Int):Prop where
 st:StA baseS d w0 k.S fs As cs
 few:fs.length≤100000
 hB:B≤w0.heap.size
 bd:k.bd=.slice Ab body.length cb
 bdr:RL (PrR (d+1)) w0 B body Ab
 bn:body.length≤1000000
 may:∀p∈body,aB p=true
 ex:k.ex=.slice Ae es.length ce
 exr:RL (ExR (d+1)) w0 B es Ae
 en:es.length≤1000000
 m0:w0.cell? ⟨0,0,none⟩=some (.int .i64 m)
 pos:0<w0.heap.size
theorem qU {d baseS B base W:Nat} {w0:World} {k:WkC} {fs:List FV} {As:Option Addr} {cs:Nat} {body:List Pr} {Ab:Option Addr} {cb:Nat} {es:List (List OpD)} {Ae:Option Addr} {ce:Nat} {m:Int} (hst:WkS d w0 baseS B k fs As cs body Ab cb es Ae ce m) (hW:w0.heap.size≤W) :
 ∀(ps:List Pr) (i:Nat),body.drop i=ps→i≤body.length→∀(w:World) (held:Int) (xs:List AnV) (A:Option Addr) (c:Nat) (y:AnV),Below w0.heap.size w0 w→WkAt base d w W k held xs A c 0→fl (StM W (.slice A xs.length c)) w (fun w'=>(mJ (d+1)).rd w' w'.heap.size y.x y.cs)→bB y.x.b=true∧U32 y.x.o→(xs.length:Int)≤held→held≤100000 →
  Calls Tryz.prog 76 #[.pointer (some ⟨W,0,none⟩),.int .i64 i,.agg y.cs.toArray] w fun z w'=>WkE base d W k w w' A xs.length c (ey (fs.map FV.f) k.tr es ps y.x ⟨held,xs.map AnV.x,0⟩) z:=by
 have HST:=ym hst
 clear hst
 intro ps
 induction ps with
 | nil=>
   intro i hi hil w held xs A c y hb0 hw hy hok hlen hheld
   have HW:=ym hw
   have HY:=ym hy
   have HOK:=ym hok
   have HB0:=ym hb0
   have hii:i=body.length:=by have:=List.drop_eq_nil_iff.1 hi;omega
   have hbl:=HST.out.bn
   subst hii
   obtain ⟨kh,kt,kb,ke,ks,kS,ktr⟩:=k
   have hbd:kb=.slice Ab body.length cb:=HST.out.bd
   subst hbd
   clear hw hy hok hb0 hi hil
   unfold AnV.cs anV
   go_enter Tryz.func76,Tryz.ntmps76
   go_upto_region 1 with fail
   generalize hWW:World.alloc _ _=w1
   obtain ⟨hb1,hz⟩:=al1 hWW
   have HA1:=ym (n11 hWW)
   have HB1:=ym hb1
   have HW1:=ym (HW.out.later hb1)
   have hsz1:=hb1.size
   clear hWW hb1
   have k_w:=HW1.out.hd.cell
   have l_w:=HW1.out.hd.lt
   have k_a:=HA1.out.cell
   have l_a:=HA1.out.lt
   unfold wkA at k_w
   go_wp2_with fail
   have HBx:=ym (ac HB0.out HB1.out)
   refine (sU (y:=y) (m:=m) HW1.out HST.out.ex (HST.out.exr.keep HBx.out HST.out.hB) (yn HST.out.hB hW) (HY.out.later HB1.out) HOK.out (by omega) ((HBx.out.cell (p:=⟨0,0,none⟩) HST.out.pos).trans HST.out.m0) (by have:=HST.out.pos;omega) HST.out.en).mono ?_
   rintro z w2 ⟨xs',A',c',rfl,h1,h2,h3,h4⟩
   have HE:=ym (And.intro h1 (And.intro h2 (And.intro h3 h4)))
   clear h1 h2 h3 h4 k_w l_w k_a l_a
   go_wp2_with fail
   refine bodyPost_ret (results_none rfl _ _ _) rfl ?_
   obtain ⟨h1,h2,h3,h4⟩:=HE.out
   refine ⟨xs',A',c',rfl,h1,h2,(ak.of_below HB1.out).trans h3 (fun _ _ h=>h),?_⟩
   rcases h4 with h | ⟨q,h5,h6⟩
   ·exact .inl h
   ·exact .inr ⟨q,h5,by omega⟩
 | cons p ps ih=>
   intro i hi hil w held xs A c y hb0 hw hy hok hlen hheld
   have hlt:i<body.length:=by
    rcases Nat.lt_or_ge i body.length with h | h
    ·exact h
    ·rw [List.drop_eq_nil_of_le h] at hi;cases hi
   have hpe:body[i]=p∧body.drop (i+1)=ps:=by
    rw [List.drop_eq_getElem_cons hlt] at hi
    exact ⟨(List.cons.inj hi).1,(List.cons.inj hi).2⟩
   have HPE:=ym hpe
   have HW:=ym hw
   have HY:=ym hy
   have HOK:=ym hok
   have HB0:=ym hb0
   have HIH:=ym ih
   have hbl:=HST.out.bn
   have hWl:=hw.hd.lt
   have h0w:=hb0.size
   obtain ⟨kh,kt,kb,ke,ks,kS,ktr⟩:=k
   have hbd:kb=.slice Ab body.length cb:=HST.out.bd
   subst hbd
   have HMP:Hid (aB p=true):=ym (HST.out.may p (by rw [←hpe.1];exact List.getElem_mem hlt))
   clear hw hy hok hb0 hi ih hpe
   have hBw:B≤w.heap.size:=by have:=HST.out.hB;omega
   obtain ⟨bp_,offp,rfl,hobp⟩:=(HST.out.bdr.keep HB0.out HST.out.hB).base (yq _ _) hBw (by omega)
   obtain ⟨p',vs,hx,hlen',hcell,hr⟩:=(HST.out.bdr.keep HB0.out HST.out.hB).at_ (yq _ _) hBw hlt
   have HPp:Hid (p'=p):=ym (by rw [←HPE.out.1];rw [yy hlt] at hx;simpa using hx.symm)
   have HPR:Hid ((PrR (d+1)).rd w B p vs):=ym (HPp.out▸hr)
   have hr2:=HPR.out
   obtain ⟨_,rfl,hps,Ap,cp,rfl,hp1,hp2,hpl⟩:=hr2
   have c0:w.cell? ⟨bp_,offp+i*2,none⟩=some (.string p.name):=hcell 0 _ rfl
   have c1:w.cell? ⟨bp_,offp+i*2+1,none⟩=some (.slice Ap p.terms.length cp):=hcell 1 _ rfl
   have hp8:=(fO HMP.out).1
   clear hcell hlen' hx hr hps hp1 hp2 hpl HPp
   have hI0:(0:Int)≤(i:Int):=Int.natCast_nonneg _
   have hI1:(i:Int)<(body.length:Int):=by omega
   have hne:((i:Int)==(body.length:Int))=false:=by simp;omega
   unfold AnV.cs anV
   go_enter Tryz.func76,Tryz.ntmps76
   go_upto_region 1 with fail
   generalize hWW:World.alloc _ _=w1
   obtain ⟨hb1,hz⟩:=al1 hWW
   have HA1:=ym (n11 hWW)
   have HB1:=ym hb1
   have HW1:=ym (HW.out.later hb1)
   have hsz1:=hb1.size
   have d0:=(hb1.cell (p:=⟨bp_,offp+i*2,none⟩) hobp).trans c0
   have d1:=(hb1.cell (p:=⟨bp_,offp+i*2+1,none⟩) hobp).trans c1
   clear hWW hb1 c0 c1
   have k_w:=HW1.out.hd.cell
   have l_w:=HW1.out.hd.lt
   unfold wkA at k_w
   go_upto_region 4 with fail
   clear k_w l_w hne d0 d1
   generalize hWW:World.alloc _ _=w2
   obtain ⟨hb2,hz2⟩:=al1 hWW
   have HP2:Hid (Blk w2 (w.heap.size+1) #[.string p.name,.slice Ap p.terms.length cp]):=ym (by have h:=n11 hWW;rwa [hz] at h)
   have HA2:=ym (HA1.out.later hb2)
   have HB2:=ym (ac HB1.out hb2)
   have HW2:=ym (HW1.out.later hb2)
   have hsz2:=hb2.size
   clear hWW hb2
   have HSL:Hid (∀{w':World},Below w2.heap.size w2 w'→(w'.cell? ⟨W,5,none⟩=some (.pointer (some ⟨kS,0,none⟩))∧w'.cell? ⟨w.heap.size+1,0,none⟩=some (.string p.name)∧w'.cell? ⟨w.heap.size+1,1,none⟩=some (.slice Ap p.terms.length cp))):=ym (fun hb=>⟨(HW2.out.hd.later hb).cell 5,(HP2.out.later hb).cell 0,(HP2.out.later hb).cell 1⟩)
   refine aN (fun w'=>w'.cell? ⟨W,5,none⟩=some (.pointer (some ⟨kS,0,none⟩))∧w'.cell? ⟨w.heap.size+1,0,none⟩=some (.string p.name)∧w'.cell? ⟨w.heap.size+1,1,none⟩=some (.slice Ap p.terms.length cp)) (by kernel_rfl) (HSL.out (yq _ _).drew) ?_
   refine ab 0 ?_
   refine ab 1 ?_
   refine ab 2 ?_
   refine ab 3 ?_
   refine ab 4 ?_
   refine ab 5 ?_
   refine ab 6 ?_
   refine ab 7 ?_
   refine ab 8 ?_
   refine ab 11 ?_
   generalize hD:World.drew w2=w3
   have HU3:Hid (Below w2.heap.size w2 w3):=ym (hD▸(yq w2.heap.size w2).drew)
   clear hD
   have HB3:=ym (ac HB2.out HU3.out)
   have HX3:=ym (ac HB0.out HB3.out)
   refine au (rs:=[9]) (by kernel_rfl) rfl ?_
   refine aj.cons rfl (fun K hK=>?_) aj.nil
   go_simp
   refine (hU (name:=p.name) (n:=(p.terms.length:Int)) (HST.out.st.later HX3.out) HST.out.few).mono ?_
   rintro z w4 ⟨⟨ys,A2,c2,hys,rfl,hrow⟩,hb4⟩
   have HYS:=ym hys
   have HROW:=ym hrow
   have HB4:=ym (ac HB3.out hb4)
   have HY4:Hid (Below w2.heap.size w2 w4):=ym (ac HU3.out hb4)
   have hsz3:=HU3.out.size
   have hsz4:=hb4.size
   clear hys hrow hb4
   refine hK.out _ _ (HSL.out HY4.out) ?_
   clear hK
   refine ab 10 ?_
   refine bY (by kernel_rfl) ?_
   go_wp2_with fail
   have HXA:Hid (ak (StM W (.slice A xs.length c)) w4 w4):=ym (ak.refl _ _)
   have HW4:=ym (HW.out.later HB4.out)
   have hw4:=HB4.out.size
   have HML:Hid (∀k,StM W (.slice A xs.length c) k→k<w.heap.size):=ym (fun k hm=>by
    rcases hm with hm | hm
    ·rw [hm];exact HW.out.hd.lt
    ·exact (HW.out.row.lt k hm).2)
   have HP4:=ym (HP2.out.later HY4.out)
   have HA4:=ym (HA2.out.later HY4.out)
   have HYY:=ym (HY.out.later HB4.out)
   have hyl:ys.length≤100000:=by
    have h1:(ys.map FV.f).length=(bI (fs.map FV.f) p.name p.terms.length).length:=by rw [HYS.out]
    have h2:(bI (fs.map FV.f) p.name p.terms.length).length≤(fs.map FV.f).length:=List.length_filter_le _ _
    rw [yw] at h1 h2
    have:=HST.out.few
    omega
   clear HW1 HA1 HB1 HP2 HA2 HW2 HB2 HU3 HB3 HX3
   go_loopw [44] (fun i_ wr=>∃(j:Nat) (held':Int) (xs':List AnV) (A':Option Addr) (c':Nat),j≤ys.length∧i_=.int .i64 j∧Hid (eS ktr (fc (fs.map FV.f) ktr es p ps y.x) (bI (fs.map FV.f) p.name p.terms.length) ⟨held,xs.map AnV.x,0⟩=eS ktr (fc (fs.map FV.f) ktr es p ps y.x) ((bI (fs.map FV.f) p.name p.terms.length).drop j) ⟨held',xs'.map AnV.x,0⟩)∧Hid ((xs'.length:Int)≤held')∧held'≤100000∧0≤held'∧Hid (WkAt base d wr W ⟨kh,kt,.slice (some ⟨bp_,offp,none⟩) body.length cb,ke,ks,kS,ktr⟩ held' xs' A' c' 0)∧Hid (ak (StM W (.slice A xs.length c)) w4 wr)∧Hid (bC w4 (.slice A xs.length c) (.slice A' xs'.length c'))) (fun i_ _=>ys.length-(intOf i_).toNat)
   case atStart=>exact ⟨0,held,xs,A,c,yp _,rfl,ym rfl,ym hlen,hheld,by omega,HW4,HXA,ym (.inl rfl)⟩
   case round=>
    obtain ⟨j,held',xs',A',c',hj,rfl,HEQ,HLEN,hheld',hh0,HWr,HAG,HFV⟩:=hrel
    have HNM:Hid (∀k,w.heap.size≤k→¬StM W (.slice A xs.length c) k):=ym (fun k hk hm=>by have:=HML.out k hm;omega)
    have HAr:=ym (HAG.out.blk HA4.out (HNM.out _ (yo _)))
    have HPr:=ym (HAG.out.blk HP4.out (HNM.out _ (by omega)))
    have hszr:=HAG.out.size
    by_cases hjl:j<ys.length
    ·have HRr:=ym (HROW.out.agree HAG.out (fun k _ hm=>by have:=HML.out k hm;omega))
     obtain ⟨g,c9,e9,h1,h2,h3,h4,h5,h6,_⟩:=HRr.out.own.sh bm (by omega)
     simp only [yB,true_and] at e9
     obtain ⟨rfl,rfl⟩:=e9
     obtain ⟨x,hx⟩:∃x,x=ys[j]:=⟨_,rfl⟩
     have q0:wr.cell? ⟨g,j*3,none⟩=some (.string x.f.pr.name):=by rw [hx];exact h5 j hjl 0 _ rfl
     have q1:wr.cell? ⟨g,j*3+1,none⟩=some (.slice x.a x.f.pr.terms.length x.c):=by rw [hx];exact h5 j hjl 1 _ rfl
     have q2:wr.cell? ⟨g,j*3+2,none⟩=some (.int .u32 x.f.o):=by rw [hx];exact h5 j hjl 2 _ rfl
     have HXR:Hid ((aC (d+1)).rd wr wr.heap.size x.f x.cs):=ym (by rw [hx];exact (HRr.out.deep _ (List.getElem_mem hjl)).2.here)
     have HXO:Hid (FcOk x.f):=ym (by rw [hx];exact (HRr.out.deep _ (List.getElem_mem hjl)).1)
     have HXL:Hid (x.f∈bI (fs.map FV.f) p.name p.terms.length∧(bI (fs.map FV.f) p.name p.terms.length).drop j=x.f::(bI (fs.map FV.f) p.name p.terms.length).drop (j+1)):=ym (by
      have hl:(ys.map FV.f).length=ys.length:=yw _
      rw [←HYS.out]
      refine ⟨List.mem_map_of_mem (hx▸List.getElem_mem hjl),?_⟩
      rw [List.drop_eq_getElem_cons (by rw [hl];exact hjl),List.getElem_map,hx])
     have hI2:(0:Int)≤(j:Int):=Int.natCast_nonneg _
     have hI3:(j:Int)<(ys.length:Int):=by omega
     have HGL:Hid (g<wr.heap.size):=ym h1
     have HXS:Hid (∀w',ak (StM W (.slice A xs.length c)) w4 w'→(aC (d+1)).rd w' w'.heap.size x.f x.cs):=ym (fun w' h=>by
      rw [hx]
      exact ((HROW.out.deep _ (List.getElem_mem hjl)).2 w' (h.mono fun k hk hm=>.inl (by have:=HML.out k hm;omega))))
     clear h1 h2 h3 h4 h5 h6 hx
     go_upto_region 7 with fail
     generalize hWW:World.alloc _ _=w5
     obtain ⟨hb5,hz5⟩:=al1 hWW
     have HT5:=ym (n11 hWW)
     have HA5:=ym (HAr.out.later hb5)
     have HP5:=ym (HPr.out.later hb5)
     have HW5:=ym (HWr.out.later hb5)
     have HU5:=ym hb5
     have hsz5:=hb5.size
     clear hWW hb5 q0 q1 q2
     have q_t:=HT5.out.regrown
     have q_w:=HW5.out.hd.regrown
     unfold wkA at q_w
     have HAG5:Hid (ak (StM W (.slice A xs.length c)) w4 w5):=ym (HAG.out.trans (N:=fun _=>False) (ak.of_below HU5.out) (fun _ _ h=>h.elim))
     by_cases hbad:xD ktr x.f=true
     ·have HGOON:Hid (eS ktr (fc (fs.map FV.f) ktr es p ps y.x) (bI (fs.map FV.f) p.name p.terms.length) ⟨held,xs.map AnV.x,0⟩=eS ktr (fc (fs.map FV.f) ktr es p ps y.x) ((bI (fs.map FV.f) p.name p.terms.length).drop (j+1)) ⟨held',xs'.map AnV.x,0⟩):=ym (by rw [HEQ.out,HXL.out.2,eS,if_pos hbad])
      unfold xD at hbad
      refine wp_region_quiet_below (by kernel_rfl) (by kernel_rfl) ?_
      repeat (go_big_quiet_step (fail))
      refine wpQuiet_nil ?_
      intro w6 hw_
      have hb:Below w5.heap.size w5 w6:=by obtain ⟨p_,rfl⟩:=hw_;exact below_regrown _ _ _
      have HU6:=ym hb
      clear hw_ q_t q_w hb
      go_wp2_with fail
      go_roundw
      case rel=>exact ⟨j+1,held',xs',A',c',by omega,by go_num,HGOON,HLEN,hheld',hh0,ym (HW5.out.later HU6.out),ym (HAG5.out.trans (N:=fun _=>False) (ak.of_below HU6.out) (fun _ _ h=>h.elim)),HFV⟩
      case measure=>simp [intOf];omega
     ·have HBAD:=ym hbad
      have hbad':(bits .andNot .u32 x.f.o ktr !=0)=false:=by unfold xD at hbad;simpa using hbad
      clear hbad
      refine wp_region_quiet_below (by kernel_rfl) (by kernel_rfl) ?_
      repeat (go_big_quiet_step (fail))
      refine wpQuiet_nil ?_
      intro w6 hw_
      have hb:Below w5.heap.size w5 w6:=by obtain ⟨p_,rfl⟩:=hw_;exact below_regrown _ _ _
      have HU6:=ym hb
      have hsz6:=hb.size
      clear hw_ q_t q_w hb
      have HW6:=ym (HW5.out.later HU6.out)
      have HA6:=ym (HA5.out.later HU6.out)
      have HP6:=ym (HP5.out.later HU6.out)
      have HT6:=ym (HT5.out.later HU6.out)
      have HAG6:Hid (ak (StM W (.slice A xs.length c)) w4 w6):=ym (HAG5.out.trans (N:=fun _=>False) (ak.of_below HU6.out) (fun _ _ h=>h.elim))
      clear HAG5 HW5 HA5 HP5 HT5
      have k_w:=HW6.out.hd.cell
      have l_w:=HW6.out.hd.lt
      have f_w:=HW6.out.hd.free
      unfold wkA at k_w
      by_cases hmost:100000≤held'
      ·have g1:decide (held'≥100000)=true:=by simpa using hmost
       have g2:decide ((100000:Int)≤held')=true:=by simpa using hmost
       have HEND:Hid (eS ktr (fc (fs.map FV.f) ktr es p ps y.x) (bI (fs.map FV.f) p.name p.terms.length) ⟨held,xs.map AnV.x,0⟩=⟨held',xs'.map AnV.x,4⟩):=ym (by rw [HEQ.out,HXL.out.2,eS,if_neg HBAD.out,if_pos hmost])
       clear hmost
       go_wp2_with fail
       refine bodyPost_ret (results_none rfl _ _ _) rfl ?_
       rw [gq,HEND.out]
       exact ⟨xs',A',c',rfl,rfl,HW6.out.put rfl,((ak.of_below HB4.out).trans HAG6.out (fun _ _ h=>h)).set_ (fun _=>.inl rfl) 9 _,HFV.out.imp id (fun ⟨q,e1,e2⟩=>⟨q,e1,by omega⟩)⟩
      ·have g1:decide (held'≥100000)=false:=by simpa using hmost
       have g2:decide ((100000:Int)≤held')=false:=by simpa using hmost
       have hlt9:held'<100000:=by omega
       have HGOON:Hid (eS ktr (fc (fs.map FV.f) ktr es p ps y.x) (bI (fs.map FV.f) p.name p.terms.length) ⟨held,xs.map AnV.x,0⟩=if ((fc (fs.map FV.f) ktr es p ps y.x) x.f ⟨held'+1,xs'.map AnV.x,0⟩).e≠0 then (fc (fs.map FV.f) ktr es p ps y.x) x.f ⟨held'+1,xs'.map AnV.x,0⟩ else eS ktr (fc (fs.map FV.f) ktr es p ps y.x) ((bI (fs.map FV.f) p.name p.terms.length).drop (j+1)) ((fc (fs.map FV.f) ktr es p ps y.x) x.f ⟨held'+1,xs'.map AnV.x,0⟩)):=ym (by rw [HEQ.out,HXL.out.2,eS,if_neg HBAD.out,if_neg hmost])
       clear hmost
       go_upto_region 11 with fail
       clear g1 g2 k_w l_w f_w
       have HW7:Hid (WkAt base d (w6.setCell ⟨W,7,none⟩ (.int .i64 (held'+1))) W ⟨kh,kt,.slice (some ⟨bp_,offp,none⟩) body.length cb,ke,ks,kS,ktr⟩ (held'+1) xs' A' c' 0):=ym (HW6.out.put rfl)
       have HA7:=ym (HA6.out.far (c:=W) (by omega) 7 (.int .i64 (held'+1)))
       have HP7:=ym (HP6.out.far (c:=W) (by omega) 7 (.int .i64 (held'+1)))
       have HT7:=ym (HT6.out.far (c:=W) (by omega) 7 (.int .i64 (held'+1)))
       have HAG7:Hid (ak (StM W (.slice A xs.length c)) w4 (w6.setCell ⟨W,7,none⟩ (.int .i64 (held'+1)))):=ym (HAG6.out.set_ (fun _=>.inl rfl) 7 _)
       have hsz7:w6.heap.size≤(w6.setCell ⟨W,7,none⟩ (.int .i64 (held'+1))).heap.size:=by rw [World.size_setCell];exact yo _
       generalize w6.setCell ⟨W,7,none⟩ (.int .i64 (held'+1))=w7 at *
       have HBB7:Hid (Below B w4 w7):=ym (HAG7.out.below (fun k hk hm=>by
        have h0:=HST.out.hB
        rcases hm with hm | hm
        ·omega
        ·have h1:=(HW.out.row.lt k hm).1
         have h2:=HW.out.lt
         omega) (by omega))
       have HPR7:Hid ((PrR (d+1)).rd w7 B p [.string p.name,.slice Ap p.terms.length cp]):=ym ((PrR (d+1)).keep HBB7.out (yo _) ((PrR (d+1)).keep (HB4.out.mono hBw) (yo _) HPR.out))
       have HXF7:Hid ((PrR (d+1)).rd w7 w7.heap.size x.f.pr [.string x.f.pr.name,.slice x.a x.f.pr.terms.length x.c]):=ym (fact_pr (HXS.out w7 HAG7.out))
       have HY7:=ym (mP (HYY.out w7 HAG7.out))
       have HMF:Hid (gr x.f.pr=true):=ym (ni HMP.out HXO.out (sq HXL.out.1).2)
       have hB7:B≤w7.heap.size:=by omega
       have k_a:=HA7.out.cell
       have l_a:=HA7.out.lt
       have k_p:=HP7.out.cell
       have l_p:=HP7.out.lt
       have k_t:=HT7.out.cell
       have l_t:=HT7.out.lt
       go_wp2_with fail
       refine (wu (d:=d) (cn:=y.cn) (ct:=y.ct) (vp:=[_,_]) (vf:=[_,_]) ((PrR (d+1)).wide hB7 HPR7.out) HXF7.out HY7.out.1 HY7.out.2 HMP.out HMF.out HOK.out.1 (yo _)).mono ?_
       rintro z w8 ⟨⟨An2,cn2,At2,ct2,zs,rfl,hq⟩,hb8⟩
       have HQ:=ym hq
       have HU8:=ym hb8
       have HW8:=ym (HW7.out.later hb8)
       have HA8:=ym (HA7.out.later hb8)
       have HT8:=ym (HT7.out.later hb8)
       have hsz8:=hb8.size
       clear hq hb8 k_a l_a k_p l_p k_t l_t
       go_upto_region 12 with fail
       generalize hWW:World.alloc _ _=w9
       obtain ⟨hb9,hz9⟩:=al1 hWW
       have HU9:=ym (ac HU8.out hb9)
       have HW9:=ym (HW8.out.later hb9)
       have HD9:=ym (n11 hWW)
       have HA9:=ym (HA8.out.later hb9)
       have HT9:=ym (HT8.out.later hb9)
       have HQ9:=ym (HQ.out.later hb9)
       have hsz9:=hb9.size
       have HAG9:Hid (ak (StM W (.slice A xs.length c)) w4 w9):=ym (HAG7.out.trans (N:=fun _=>False) (ak.of_below HU9.out) (fun _ _ h=>h.elim))
       clear hWW hb9
       rcases hfit:gF p x.f.pr y.x.b with _ | cb2
       ·have HS1:Hid ((fc (fs.map FV.f) ktr es p ps y.x) x.f ⟨held'+1,xs'.map AnV.x,0⟩=⟨held'+1,xs'.map AnV.x,0⟩):=ym (by unfold fc;rw [hfit])
        rw [hfit] at HD9
        simp only [Option.getD_none,Option.isSome_none] at HD9 ⊢
        clear hfit HQ HQ9
        have k_w:=HW9.out.hd.cell
        have l_w:=HW9.out.hd.lt
        unfold wkA at k_w
        go_wp2_with fail
        go_roundw
        case rel=>exact ⟨j+1,held'+1,xs',A',c',by omega,by go_num,ym (by rw [HGOON.out,HS1.out];rfl),ym (by have:=HLEN.out;omega),by omega,by omega,HW9,HAG9,HFV⟩
        case measure=>simp [intOf];omega
       ·have HS1:Hid ((fc (fs.map FV.f) ktr es p ps y.x) x.f ⟨held'+1,xs'.map AnV.x,0⟩=ey (fs.map FV.f) ktr es ps ⟨cb2,orO y.x.o x.f.o⟩ ⟨held'+1,xs'.map AnV.x,0⟩):=ym (by unfold fc;rw [hfit])
        have HCB:=ym (wm hfit)
        rw [hfit] at HQ9 HD9
        simp only [Option.getD_some,Option.isSome_some] at HQ9 HD9 ⊢
        clear hfit HQ
        have k_d:=HD9.out.cell
        have l_d:=HD9.out.lt
        have k_a:=HA9.out.cell
        have l_a:=HA9.out.lt
        have k_t:=HT9.out.cell
        have l_t:=HT9.out.lt
        have HB09:Hid (Below w0.heap.size w0 w9):=ym ((ac HB0.out HB4.out).trans (HAG9.out.below (fun k hk hm=>by
         rcases hm with hm | hm
         ·omega
         ·have h1:=(HW.out.row.lt k hm).1
          have h2:=HW.out.lt
          omega) (by omega)))
        go_wp2_with fail
        refine (HIH.out (i+1) HPE.out.2 (by omega) w9 (held'+1) xs' A' c' ⟨⟨cb2,orO y.x.o x.f.o⟩,An2,cn2,At2,ct2⟩ HB09.out HW9.out (vP HQ9.out HCB.out (fun k hk hm=>by
         rcases hm with hm | hm
         ·omega
         ·have:=(HW7.out.row.lt k hm).2;omega)) ⟨HCB.out,or_u32 HOK.out.2 HXO.out.o⟩ (by have:=HLEN.out;omega) (by omega)).mono ?_
        rintro z w10 ⟨xs2,A3,c3,rfl,e1,e2,e3,e4⟩
        have HR1:=ym e1
        have HR2:=ym e2
        have HR3:=ym e3
        have HR4:=ym e4
        clear e1 e2 e3 e4 k_d l_d k_a l_a k_t l_t
        obtain ⟨s,hs⟩:∃s,s=ey (fs.map FV.f) ktr es ps ⟨cb2,orO y.x.o x.f.o⟩ ⟨held'+1,xs'.map AnV.x,0⟩:=⟨_,rfl⟩
        rw [←hs] at HR1 HR2 HS1
        have HSF:Hid (Few ⟨held'+1,xs'.map AnV.x,0⟩ s 1):=ym (hs▸fC)
        clear hs
        have HAG10:Hid (ak (StM W (.slice A xs.length c)) w4 w10):=ym (HAG9.out.trans HR3.out (fun k hk hm=>by
         rcases hm with hm | hm
         ·exact .inl hm
         ·rcases HFV.out with h | ⟨q,h5,h6⟩
          ·exact .inr (h▸hm)
          ·rw [h5] at hm
           simp only [yz] at hm
           omega))
        have HFV2:Hid (bC w4 (.slice A xs.length c) (.slice A3 xs2.length c3)):=ym (by
         rcases HR4.out with h | ⟨q,h5,h6⟩
         ·rcases HFV.out with h2 | ⟨q,h5,h6⟩
          ·exact .inl (h.trans h2)
          ·exact .inr ⟨q,h.trans h5,h6⟩
         ·exact .inr ⟨q,h5,by have:=HAG9.out.size;omega⟩)
        have k_w:=HR2.out.hd.cell
        have l_w:=HR2.out.hd.lt
        unfold wkA at k_w
        by_cases he:s.e=0
        ·have q1:(s.e !=0)=false:=by simpa using he
         have HE:=ym he
         clear he
         go_wp2_with fail
         go_roundw
         case rel=>exact ⟨j+1,s.held,xs2,A3,c3,by omega,by go_num,ym (by
          rw [HGOON.out,HS1.out,if_neg (by simpa using HE.out)]
          obtain ⟨sh,so,se⟩:=s
          have he:se=0:=HE.out
          subst he
          rw [show xs2.map AnV.x=so from HR1.out]),ym (by
          have h1:=HSF.out.2.2
          have h2:=HLEN.out
          have h3:(xs2.map AnV.x).length=s.out.length:=by rw [HR1.out]
          rw [yw] at h3
          simp only [yw] at h1
          omega),HSF.out.2.1 (by show held'+1≤100000;omega),by have:=HSF.out.1;simp only at this;omega,ym (by have h:=HR2.out;rw [HE.out] at h;exact h),HAG10,HFV2⟩
         case measure=>simp [intOf];omega
        ·have q1:(s.e !=0)=true:=by simpa using he
         have HEND:Hid (eS ktr (fc (fs.map FV.f) ktr es p ps y.x) (bI (fs.map FV.f) p.name p.terms.length) ⟨held,xs.map AnV.x,0⟩=s):=ym (by rw [HGOON.out,HS1.out,if_pos he])
         clear he
         go_wp2_with fail
         refine bodyPost_ret (results_none rfl _ _ _) rfl ?_
         rw [gq,HEND.out]
         exact ⟨xs2,A3,c3,rfl,HR1.out,HR2.out,(ak.of_below HB4.out).trans HAG10.out (fun _ _ h=>h),HFV2.out.imp id (fun ⟨q,e1,e2⟩=>⟨q,e1,by omega⟩)⟩
    ·have HEND:Hid (eS ktr (fc (fs.map FV.f) ktr es p ps y.x) (bI (fs.map FV.f) p.name p.terms.length) ⟨held,xs.map AnV.x,0⟩=⟨held',xs'.map AnV.x,0⟩):=ym (by
      have hl:(ys.map FV.f).length=ys.length:=yw _
      rw [HEQ.out,List.drop_eq_nil_of_le (by rw [←HYS.out,hl];omega)];rfl)
     go_wp2_with fail
     go_end0
     rw [gq,HEND.out]
     exact ⟨xs',A',c',rfl,rfl,HWr.out,(ak.of_below HB4.out).trans HAG.out (fun _ _ h=>h),HFV.out.imp id (fun ⟨q,e1,e2⟩=>⟨q,e1,by omega⟩)⟩
theorem sr (e:List OpD):(fk e).length≤32:=by
 unfold fk
 split
 ·rename_i h
  unfold aK at h
  simp only [yx,yC] at h
  exact yn (eu _) (yn (gW e) h.1)
 ·simp
def xV (e:List OpD):Prop:=∀o∈e,o.term.s.size≤140737488351232
theorem oJ {e:List OpD} (h:xV e):∀l∈fk e,l.length≤140737488351232:=by
 intro l hl
 unfold fk at hl
 split at hl
 ·rw [lc] at hl
  unfold bU at hl
  simp only [List.mem_map,List.mem_filter] at hl
  obtain ⟨o,⟨ho,_⟩,rfl⟩:=hl
  rw [ie]
  exact h o ho
 ·simp at hl
theorem ExR.small {d B:Nat} {e:List OpD} {vs:List Value} {w:World} (he:(ExR d).rd w B e vs):xV e:=by
 obtain ⟨_,_,A,c,_,_,_,hl⟩:=he
 intro o ho
 obtain ⟨i,hi,rfl⟩:=List.getElem_of_mem ho
 obtain ⟨b,off,rfl,hb,hc⟩:=hl (by omega)
 obtain ⟨vs,_,⟨x,hx,hr⟩,_⟩:=hc i hi
 obtain ⟨ts,_,_,_,_,ht⟩:=hr
 obtain ⟨_,_,_,_,_,hs,_⟩:=RTm.cells ht
 rw [yy hi] at hx
 simp only [yz] at hx
 rw [hx];exact hs
theorem pG (d:Nat) (L:List aW) (A:Option Addr) (c B G:Nat) (w:World) (hl:RL cR w B (L.map mkS) A) (hB:B≤w.heap.size) (hn:L.length≤1000000) (hs:L.Pairwise (· < ·))
 (hG:w.cell? ⟨G,0,none⟩=some (.slice A L.length c)) :
 bS Tryz.prog (ExR d) cS B w 113 #[.pointer (some ⟨G,0,none⟩)] (fun e=>!iy (fk e) L):=by
 intro e vs w1 hb hr
 have hr0:=hr
 have hsm:=ExR.small hr
 obtain ⟨v,rfl,h3⟩:=hr
 obtain ⟨A1,c1,rfl,_⟩:=h3
 have hGl:G<w.heap.size:=block_lt_of_cell hG
 have hG1:w1.cell? ⟨G,0,none⟩=some (.slice A L.length c):=(hb.cell (p:=⟨G,0,none⟩) hGl).trans hG
 have hGl1:G<w1.heap.size:=by have:=hb.size;omega
 have HL:=ym (hl.keep hb hB)
 have HR:=ym hr0
 have HSM:=ym (oJ hsm)
 have hNL:=sr e
 have HS:=ym hs
 have HB:=ym (fun o:Obj=>(yq w1.heap.size w1).alloc (yo _) o)
 have hB1:B≤w1.heap.size:=by have:=hb.size;omega
 clear hl hG hb hs hr0
 show Calls Tryz.prog 113 #[.agg #[.slice A1 e.length c1],.pointer (some ⟨G,0,none⟩)] w1 _
 go_enter Tryz.func113,Tryz.ntmps113
 go_wp2_with fail
 have HW:=ym (HB.out (.cells #[.slice A1 e.length c1] 102))
 have x0:(w1.alloc (.cells #[.slice A1 e.length c1] 102)).cell? ⟨w1.heap.size,0,none⟩=some (.slice A1 e.length c1):=by go_simp
 have x1:(w1.alloc (.cells #[.slice A1 e.length c1] 102)).cell? ⟨G,0,none⟩=some (.slice A L.length c):=by go_simp
 generalize (w1.alloc (.cells #[.slice A1 e.length c1] 102))=W at *
 have q0:=cell_regrown x0
 have q1:=cell_regrown x1
 refine cP (eh W) (by kernel_rfl) (by kernel_rfl) (eh.drew W) ?_
 repeat (refine aV rfl rfl (fun K hK=>?_);unfold eh;go_big_quiet_op;refine hK _ ?_;clear hK K)
 refine cw rfl rfl (fun K hK=>?_)
 go_wp2_with fail
 refine (mX (d:=d) (B:=B) (e:=e) (vs:=[_]) ((ExR d).keep HW.out.drew hB1 HR.out) (yn hB1 HW.out.size)).mono ?_
 rintro x w2 ⟨v2,rfl,hown,hb2⟩
 obtain ⟨A2,c2,rfl,hc2,hrl⟩:=hown.reads HSM.out (by omega)
 have HB2:=ym (HW.out.trans ((yq _ W).drew.trans (hb2.mono (yo _)) |>.mono HW.out.size))
 have HC:=ym (eh.of ((yq W.heap.size W).drew.trans (hb2.mono (yo _))))
 have HRL:=ym hrl
 clear hown hb2 hrl
 go_wp2_with fail
 refine ⟨HC.out,?_⟩
 repeat (refine aV rfl rfl (fun K hK=>?_);unfold eh;go_big_quiet_op;refine hK _ ?_;clear hK K)
 refine cw rfl rfl (fun K hK=>?_)
 go_wp2_with fail
 refine (oC (fk e) L A2 A c2 c w2.heap.size w2 HRL.out ((HL.out.keep HB2.out hB1).wide (yn hB1 HB2.out.size)) (yo _) (by omega) hn HS.out).mono ?_
 rintro x w3 ⟨rfl,hb3⟩
 have HC3:=ym (eh.of (HC.out.below.trans (hb3.mono HC.out.below.size)))
 have HB3:=ym (HB2.out.trans (hb3.mono HB2.out.size))
 clear hb3
 go_wp2_with fail
 refine ⟨HC3.out,?_⟩
 repeat (refine aV rfl rfl (fun K hK=>?_);unfold eh;go_big_quiet_op;refine hK _ ?_;clear hK K)
 refine ld (fun _=>?_)
 go_wp2_with fail
 go_ret
 exact ⟨rfl,HB3.out⟩
end Go.Proofs.YtjpndglegpcdnaaGreat
