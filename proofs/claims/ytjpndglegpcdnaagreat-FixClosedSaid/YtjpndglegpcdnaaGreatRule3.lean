/- rule: body, MayQuery, May. -/
import Derived.Test.YtjpndglegpcdnaaGreatCpt0
import Derived.Laws.BitsAllLaws
import Derived.Test.YtjpndglegpcdnaaGreatMapF
set_option linter.unusedVariables false
set_option linter.unusedSimpArgs false
set_option maxRecDepth 100000
set_option maxHeartbeats 8000000
namespace Go.Proofs.YtjpndglegpcdnaaGreat
open Go.ChangeShapes Go.WideShapes Go.ChangeAt Go.RowKit
def zB (tr:Int) (f:Fc):Bool:=bits .andNot .u32 f.o tr !=0
def orO (a b:Int):Int:=bits .or .u32 a b
def fj (tr:Int) (step:Fc→Wst→Wst):List Fc→Wst→Wst
 | [],s=>s
 | f::fs,s=>if zB tr f=true then fj tr step fs s else if 100000≤s.held then ⟨s.held,s.out,4⟩ else
  if (step f ⟨s.held+1,s.out,s.e⟩).e≠0 then step f ⟨s.held+1,s.out,s.e⟩ else fj tr step fs (step f ⟨s.held+1,s.out,s.e⟩)
def eJ (fs:List Fc) (tr:Int) (es:List (List OpD)):List Pr→Ans→Wst→Wst
 | [],x,s=>ip es x s
 | p::ps,x,s=>fj tr (fun f s1=>match gZ p f.pr x.b with | some c=>eJ fs tr es ps ⟨c,orO x.o f.o⟩ s1 | none=>s1) (bV fs p.name p.terms.length) s
def fu (fs:List Fc) (tr:Int) (es:List (List OpD)) (p:Pr) (ps:List Pr) (x:Ans) (f:Fc) (s1:Wst):Wst:=match gZ p f.pr x.b with | some c=>eJ fs tr es ps ⟨c,orO x.o f.o⟩ s1 | none=>s1
theorem gO {fs:List Fc} {tr:Int} {es:List (List OpD)} {p:Pr} {ps:List Pr} {x:Ans} {s:Wst}:eJ fs tr es (p::ps) x s=fj tr (fu fs tr es p ps x) (bV fs p.name p.terms.length) s:=rfl
def Few (s s':Wst) (k:Nat):Prop:=s.held≤s'.held∧(s.held≤100000→s'.held≤100000)∧(s'.out.length:Int)+s.held≤s.out.length+s'.held+k
theorem pk {x:Ans}:∀{es:List (List OpD)} {s:Wst},Few s (ip es x s) 1
 | [],s=>⟨Int.le_refl _,fun h=>h,by simp [ip];omega⟩
 | q::qs,s=>by
   unfold ip
   split
   ·exact ⟨Int.le_refl _,fun h=>h,by simp;omega⟩
   ·split
    ·exact pk
    ·exact ⟨Int.le_refl _,fun h=>h,by omega⟩
theorem lK {tr:Int} {step:Fc→Wst→Wst} (hs:∀f s,Few s (step f s) 1):∀{fs:List Fc} {s:Wst},Few s (fj tr step fs s) 0
 | [],s=>⟨Int.le_refl _,fun h=>h,by simp [fj]⟩
 | f::fs,s=>by
   unfold fj
   split
   ·exact lK hs
   ·split
    ·exact ⟨Int.le_refl _,fun h=>h,by simp⟩
    ·rename_i h1 h2
     obtain ⟨a1,a2,a3⟩:=hs f ⟨s.held+1,s.out,s.e⟩
     simp only at a1 a2 a3
     split
     ·exact ⟨by omega,fun _=>a2 (by omega),by omega⟩
     ·obtain ⟨b1,b2,b3⟩:=lK hs (fs:=fs) (s:=step f ⟨s.held+1,s.out,s.e⟩)
      exact ⟨by omega,fun _=>b2 (a2 (by omega)),by omega⟩
theorem fZ {fs:List Fc} {tr:Int} {es:List (List OpD)}:∀{ps:List Pr} {x:Ans} {s:Wst},Few s (eJ fs tr es ps x s) 1
 | [],x,s=>pk
 | p::ps,x,s=>by
   have h:=lK (tr:=tr) (step:=fu fs tr es p ps x) (fun f s=>by
    unfold fu
    split
    ·exact fZ
    ·exact ⟨Int.le_refl _,fun h=>h,by omega⟩) (fs:=bV fs p.name p.terms.length) (s:=s)
   rw [gO]
   exact ⟨h.1,h.2.1,by have:=h.2.2;omega⟩
theorem tR {fs:List Fc} {f:Fc} {name:ByteArray} {n:Int} (h:f∈bV fs name n):f∈fs∧f.pr.name=name:=by
 unfold bV at h
 rw [List.mem_filter,AT] at h
 refine ⟨h.1,?_⟩
 have h2:=h.2
 unfold dG at h2
 rw [orL2] at h2
 split at h2
 ·rename_i h3;exact oO (fT.1 h3)
 ·rename_i h3;exact absurd h2 h3
theorem nX {p:Pr} {f:Fc} (hp:aE p=true) (hf:FcOk f) (hn:f.pr.name=p.name):gP f.pr=true:=by
 unfold aE at hp
 simp only [AN,AT] at hp
 unfold gP aE
 rw [hn]
 simp only [AN,AT,List.all_eq_true]
 exact ⟨⟨hp.1,hf.few,fun x hx=>by have:=hf.fix x hx;unfold af at this;simp only [AN] at this;exact this.2⟩,hf.few,hf.fix⟩
theorem yy {p f:Pr} {b c:Bd} (h:gZ p f b=some c):bG c=true:=by
 unfold gZ at h
 split at h
 ·unfold okB at h
  split at h
  ·split at h
   ·simp only [AP] at h;subst h;assumption
   ·cases h
  ·cases h
 ·cases h
theorem or_u32 {a b:Int} (ha:U32 a) (hb:U32 b):U32 (orO a b):=by
 unfold orO
 rw [u32_or a b ha.1 ha.2 hb.1 hb.2]
 refine ⟨Int.natCast_nonneg _,?_⟩
 have h1:a.toNat<2 ^ 32:=by have:=ha.2;have:=ha.1;omega
 have h2:b.toNat<2 ^ 32:=by have:=hb.2;have:=hb.1;omega
 have:=Nat.or_lt_two_pow h1 h2
 omega
theorem fact_pr {d B:Nat} {w:World} {x:FV} (h:(ay d).rd w B x.f x.cs):(PrR d).rd w B x.f.pr [.string x.f.pr.name,.slice x.a x.f.pr.terms.length x.c]:=by
 obtain ⟨v,e,h1,_⟩:=h
 simp only [FV.cs,fcV,List.cons.injEq,true_and,and_true] at e
 rw [e];exact h1
theorem uU {base D:Nat} {w w':World} {b:Bd} {xs:List SV} {An At:Option Addr} {cn ct:Nat} {M:Nat→Prop} (h:BdQ base D w b xs An cn At ct) (ha:al M w w') (hM:∀k,base≤k→¬M k):BdQ base D w' b xs An cn At ct:=
 ⟨h.tms,h.nm.agree ha (fun k hk=>hM k (h.nm.lt k hk).1),⟨h.st.own.agree ha (fun k hk=>hM k (h.st.own.lt k hk).1),fun x hx=>(h.st.tms x hx).keep ha.1 fun a e=>ha.2 _ (h.st.lt x hx a e).2 (hM _ (h.st.lt x hx a e).1),h.st.sep,fun x hx a e=>⟨(h.st.lt x hx a e).1,AJ (h.st.lt x hx a e).2 ha.size⟩⟩,h.sep⟩
theorem ya {base D:Nat} {w:World} {b:Bd} {o:Int} {xs:List SV} {An At:Option Addr} {cn ct:Nat} {M:Nat→Prop} (h:BdQ base D w b xs An cn At ct) (hb:bG b=true) (hM:∀k,base≤k→¬M k):fJ M w (fun w'=>(nA (D+1)).rd w' w'.heap.size ⟨b,o⟩ (AnV.cs ⟨⟨b,o⟩,An,cn,At,ct⟩)):=fun w' ha=>by
 have h1:=dW.1 hb
 have h2:b.terms.length≤32:=by rw [←h1.1.len];exact h1.2
 have h3:=(uU h ha hM).reads (by have:=h1.2;omega) (by omega)
 exact ⟨An,cn,At,ct,rfl,h3.1,h3.2⟩
structure WkS (d:Nat) (w0:World) (baseS B:Nat) (k:WkC) (fs:List FV) (As:Option Addr) (cs:Nat) (body:List Pr) (Ab:Option Addr) (cb:Nat) (es:List (List OpD)) (Ae:Option Addr) (ce:Nat) (m:Int):Prop where
 st:StA baseS d w0 k.S fs As cs
 few:fs.length≤100000
 hB:B≤w0.heap.size
 bd:k.bd=.slice Ab body.length cb
 bdr:RL (PrR (d+1)) w0 B body Ab
 bn:body.length≤1000000
 may:∀p∈body,aE p=true
 ex:k.ex=.slice Ae es.length ce
 exr:RL (ExR (d+1)) w0 B es Ae
 en:es.length≤1000000
 m0:w0.cell? ⟨0,0,none⟩=some (.int .i64 m)
 pos:0<w0.heap.size
theorem sq {d baseS B base W:Nat} {w0:World} {k:WkC} {fs:List FV} {As:Option Addr} {cs:Nat} {body:List Pr} {Ab:Option Addr} {cb:Nat} {es:List (List OpD)} {Ae:Option Addr} {ce:Nat} {m:Int} (hst:WkS d w0 baseS B k fs As cs body Ab cb es Ae ce m) (hW:w0.heap.size≤W) :
 ∀(ps:List Pr) (i:Nat),body.drop i=ps→i≤body.length→∀(w:World) (held:Int) (xs:List AnV) (A:Option Addr) (c:Nat) (y:AnV),Below w0.heap.size w0 w→WkAt base d w W k held xs A c 0→fJ (StM W (.slice A xs.length c)) w (fun w'=>(nA (d+1)).rd w' w'.heap.size y.x y.cs)→bG y.x.b=true∧U32 y.x.o→(xs.length:Int)≤held→held≤100000 →
  Calls Tryz.prog 76 #[.pointer (some ⟨W,0,none⟩),.int .i64 i,.agg y.cs.toArray] w fun z w'=>WkE base d W k w w' A xs.length c (eJ (fs.map FV.f) k.tr es ps y.x ⟨held,xs.map AnV.x,0⟩) z:=by
 have HST:=AE hst
 clear hst
 intro ps
 induction ps with
 | nil=>
   intro i hi hil w held xs A c y hb0 hw hy hok hlen hheld
   have HW:=AE hw
   have HY:=AE hy
   have HOK:=AE hok
   have HB0:=AE hb0
   have hii:i=body.length:=by have:=List.drop_eq_nil_iff.1 hi;omega
   have hbl:=HST.out.bn
   subst hii
   obtain ⟨kh,kt,kb,ke,ks,kS,ktr⟩:=k
   have hbd:kb=.slice Ab body.length cb:=HST.out.bd
   subst hbd
   clear hw hy hok hb0 hi hil
   unfold AnV.cs anV
   go_enter Tryz.func76,Tryz.ntmps76
   go_upto_region 1 with fail
   generalize hWW:World.alloc _ _=w1
   obtain ⟨hb1,hz⟩:=al1 hWW
   have HA1:=AE (n11 hWW)
   have HB1:=AE hb1
   have HW1:=AE (HW.out.later hb1)
   have hsz1:=hb1.size
   clear hWW hb1
   have k_w:=HW1.out.hd.cell
   have l_w:=HW1.out.hd.lt
   have k_a:=HA1.out.cell
   have l_a:=HA1.out.lt
   unfold wkA at k_w
   go_wp2_with fail
   have HBx:=AE (aa HB0.out HB1.out)
   refine (uA (y:=y) (m:=m) HW1.out HST.out.ex (HST.out.exr.keep HBx.out HST.out.hB) (AF HST.out.hB hW) (HY.out.later HB1.out) HOK.out (by omega) ((HBx.out.cell (p:=⟨0,0,none⟩) HST.out.pos).trans HST.out.m0) (by have:=HST.out.pos;omega) HST.out.en).mono ?_
   rintro z w2 ⟨xs',A',c',rfl,h1,h2,h3,h4⟩
   have HE:=AE (And.intro h1 (And.intro h2 (And.intro h3 h4)))
   clear h1 h2 h3 h4 k_w l_w k_a l_a
   go_wp2_with fail
   refine bodyPost_ret (results_none rfl _ _ _) rfl ?_
   obtain ⟨h1,h2,h3,h4⟩:=HE.out
   refine ⟨xs',A',c',rfl,h1,h2,(al.of_below HB1.out).trans h3 (fun _ _ h=>h),?_⟩
   rcases h4 with h | ⟨q,h5,h6⟩
   ·exact .inl h
   ·exact .inr ⟨q,h5,by omega⟩
 | cons p ps ih=>
   intro i hi hil w held xs A c y hb0 hw hy hok hlen hheld
   have hlt:i<body.length:=by
    rcases Nat.lt_or_ge i body.length with h | h
    ·exact h
    ·rw [List.drop_eq_nil_of_le h] at hi;cases hi
   have hpe:body[i]=p∧body.drop (i+1)=ps:=by
    rw [List.drop_eq_getElem_cons hlt] at hi
    exact ⟨(List.cons.inj hi).1,(List.cons.inj hi).2⟩
   have HPE:=AE hpe
   have HW:=AE hw
   have HY:=AE hy
   have HOK:=AE hok
   have HB0:=AE hb0
   have HIH:=AE ih
   have hbl:=HST.out.bn
   have hWl:=hw.hd.lt
   have h0w:=hb0.size
   obtain ⟨kh,kt,kb,ke,ks,kS,ktr⟩:=k
   have hbd:kb=.slice Ab body.length cb:=HST.out.bd
   subst hbd
   have HMP:Hid (aE p=true):=AE (HST.out.may p (by rw [←hpe.1];exact List.getElem_mem hlt))
   clear hw hy hok hb0 hi ih hpe
   have hBw:B≤w.heap.size:=by have:=HST.out.hB;omega
   obtain ⟨bp_,offp,rfl,hobp⟩:=(HST.out.bdr.keep HB0.out HST.out.hB).base (AI _ _) hBw (by omega)
   obtain ⟨p',vs,hx,hlen',hcell,hr⟩:=(HST.out.bdr.keep HB0.out HST.out.hB).at_ (AI _ _) hBw hlt
   have HPp:Hid (p'=p):=AE (by rw [←HPE.out.1];rw [AO hlt] at hx;simpa using hx.symm)
   have HPR:Hid ((PrR (d+1)).rd w B p vs):=AE (HPp.out▸hr)
   have hr2:=HPR.out
   obtain ⟨_,rfl,hps,Ap,cp,rfl,hp1,hp2,hpl⟩:=hr2
   have c0:w.cell? ⟨bp_,offp+i*2,none⟩=some (.string p.name):=hcell 0 _ rfl
   have c1:w.cell? ⟨bp_,offp+i*2+1,none⟩=some (.slice Ap p.terms.length cp):=hcell 1 _ rfl
   have hp8:=(go HMP.out).1
   clear hcell hlen' hx hr hps hp1 hp2 hpl HPp
   have hI0:(0:Int)≤(i:Int):=Int.natCast_nonneg _
   have hI1:(i:Int)<(body.length:Int):=by omega
   have hne:((i:Int)==(body.length:Int))=false:=by simp;omega
   unfold AnV.cs anV
   go_enter Tryz.func76,Tryz.ntmps76
   go_upto_region 1 with fail
   generalize hWW:World.alloc _ _=w1
   obtain ⟨hb1,hz⟩:=al1 hWW
   have HA1:=AE (n11 hWW)
   have HB1:=AE hb1
   have HW1:=AE (HW.out.later hb1)
   have hsz1:=hb1.size
   have d0:=(hb1.cell (p:=⟨bp_,offp+i*2,none⟩) hobp).trans c0
   have d1:=(hb1.cell (p:=⟨bp_,offp+i*2+1,none⟩) hobp).trans c1
   clear hWW hb1 c0 c1
   have k_w:=HW1.out.hd.cell
   have l_w:=HW1.out.hd.lt
   unfold wkA at k_w
   go_upto_region 4 with fail
   clear k_w l_w hne d0 d1
   generalize hWW:World.alloc _ _=w2
   obtain ⟨hb2,hz2⟩:=al1 hWW
   have HP2:Hid (Blk w2 (w.heap.size+1) #[.string p.name,.slice Ap p.terms.length cp]):=AE (by have h:=n11 hWW;rwa [hz] at h)
   have HA2:=AE (HA1.out.later hb2)
   have HB2:=AE (aa HB1.out hb2)
   have HW2:=AE (HW1.out.later hb2)
   have hsz2:=hb2.size
   clear hWW hb2
   have HSL:Hid (∀{w':World},Below w2.heap.size w2 w'→(w'.cell? ⟨W,5,none⟩=some (.pointer (some ⟨kS,0,none⟩))∧w'.cell? ⟨w.heap.size+1,0,none⟩=some (.string p.name)∧w'.cell? ⟨w.heap.size+1,1,none⟩=some (.slice Ap p.terms.length cp))):=AE (fun hb=>⟨(HW2.out.hd.later hb).cell 5,(HP2.out.later hb).cell 0,(HP2.out.later hb).cell 1⟩)
   refine aM (fun w'=>w'.cell? ⟨W,5,none⟩=some (.pointer (some ⟨kS,0,none⟩))∧w'.cell? ⟨w.heap.size+1,0,none⟩=some (.string p.name)∧w'.cell? ⟨w.heap.size+1,1,none⟩=some (.slice Ap p.terms.length cp)) (by kernel_rfl) (HSL.out (AI _ _).drew) ?_
   refine ab 0 ?_
   refine ab 1 ?_
   refine ab 2 ?_
   refine ab 3 ?_
   refine ab 4 ?_
   refine ab 5 ?_
   refine ab 6 ?_
   refine ab 7 ?_
   refine ab 8 ?_
   refine ab 11 ?_
   generalize hD:World.drew w2=w3
   have HU3:Hid (Below w2.heap.size w2 w3):=AE (hD▸(AI w2.heap.size w2).drew)
   clear hD
   have HB3:=AE (aa HB2.out HU3.out)
   have HX3:=AE (aa HB0.out HB3.out)
   refine aw (rs:=[9]) (by kernel_rfl) rfl ?_
   refine ak.cons rfl (fun K hK=>?_) ak.nil
   go_simp
   refine (rN (name:=p.name) (n:=(p.terms.length:Int)) (HST.out.st.later HX3.out) HST.out.few).mono ?_
   rintro z w4 ⟨⟨ys,A2,c2,hys,rfl,hrow⟩,hb4⟩
   have HYS:=AE hys
   have HROW:=AE hrow
   have HB4:=AE (aa HB3.out hb4)
   have HY4:Hid (Below w2.heap.size w2 w4):=AE (aa HU3.out hb4)
   have hsz3:=HU3.out.size
   have hsz4:=hb4.size
   clear hys hrow hb4
   refine hK.out _ _ (HSL.out HY4.out) ?_
   clear hK
   refine ab 10 ?_
   refine bN (by kernel_rfl) ?_
   go_wp2_with fail
   have HXA:Hid (al (StM W (.slice A xs.length c)) w4 w4):=AE (al.refl _ _)
   have HW4:=AE (HW.out.later HB4.out)
   have hw4:=HB4.out.size
   have HML:Hid (∀k,StM W (.slice A xs.length c) k→k<w.heap.size):=AE (fun k hm=>by
    rcases hm with hm | hm
    ·rw [hm];exact HW.out.hd.lt
    ·exact (HW.out.row.lt k hm).2)
   have HP4:=AE (HP2.out.later HY4.out)
   have HA4:=AE (HA2.out.later HY4.out)
   have HYY:=AE (HY.out.later HB4.out)
   have hyl:ys.length≤100000:=by
    have h1:(ys.map FV.f).length=(bV (fs.map FV.f) p.name p.terms.length).length:=by rw [HYS.out]
    have h2:(bV (fs.map FV.f) p.name p.terms.length).length≤(fs.map FV.f).length:=List.length_filter_le _ _
    rw [AM] at h1 h2
    have:=HST.out.few
    omega
   clear HW1 HA1 HB1 HP2 HA2 HW2 HB2 HU3 HB3 HX3
   go_loopw [44] (fun i_ wr=>∃(j:Nat) (held':Int) (xs':List AnV) (A':Option Addr) (c':Nat),j≤ys.length∧i_=.int .i64 j∧Hid (fj ktr (fu (fs.map FV.f) ktr es p ps y.x) (bV (fs.map FV.f) p.name p.terms.length) ⟨held,xs.map AnV.x,0⟩=fj ktr (fu (fs.map FV.f) ktr es p ps y.x) ((bV (fs.map FV.f) p.name p.terms.length).drop j) ⟨held',xs'.map AnV.x,0⟩)∧Hid ((xs'.length:Int)≤held')∧held'≤100000∧0≤held'∧Hid (WkAt base d wr W ⟨kh,kt,.slice (some ⟨bp_,offp,none⟩) body.length cb,ke,ks,kS,ktr⟩ held' xs' A' c' 0)∧Hid (al (StM W (.slice A xs.length c)) w4 wr)∧Hid (bk w4 (.slice A xs.length c) (.slice A' xs'.length c'))) (fun i_ _=>ys.length-(intOf i_).toNat)
   case atStart=>exact ⟨0,held,xs,A,c,AH _,rfl,AE rfl,AE hlen,hheld,by omega,HW4,HXA,AE (.inl rfl)⟩
   case round=>
    obtain ⟨j,held',xs',A',c',hj,rfl,HEQ,HLEN,hheld',hh0,HWr,HAG,HFV⟩:=hrel
    have HNM:Hid (∀k,w.heap.size≤k→¬StM W (.slice A xs.length c) k):=AE (fun k hk hm=>by have:=HML.out k hm;omega)
    have HAr:=AE (HAG.out.blk HA4.out (HNM.out _ (AG _)))
    have HPr:=AE (HAG.out.blk HP4.out (HNM.out _ (by omega)))
    have hszr:=HAG.out.size
    by_cases hjl:j<ys.length
    ·have HRr:=AE (HROW.out.agree HAG.out (fun k _ hm=>by have:=HML.out k hm;omega))
     obtain ⟨g,c9,e9,h1,h2,h3,h4,h5,h6,_⟩:=HRr.out.own.sh aU (by omega)
     simp only [AR,true_and] at e9
     obtain ⟨rfl,rfl⟩:=e9
     obtain ⟨x,hx⟩:∃x,x=ys[j]:=⟨_,rfl⟩
     have q0:wr.cell? ⟨g,j*3,none⟩=some (.string x.f.pr.name):=by rw [hx];exact h5 j hjl 0 _ rfl
     have q1:wr.cell? ⟨g,j*3+1,none⟩=some (.slice x.a x.f.pr.terms.length x.c):=by rw [hx];exact h5 j hjl 1 _ rfl
     have q2:wr.cell? ⟨g,j*3+2,none⟩=some (.int .u32 x.f.o):=by rw [hx];exact h5 j hjl 2 _ rfl
     have HXR:Hid ((ay (d+1)).rd wr wr.heap.size x.f x.cs):=AE (by rw [hx];exact (HRr.out.deep _ (List.getElem_mem hjl)).2.here)
     have HXO:Hid (FcOk x.f):=AE (by rw [hx];exact (HRr.out.deep _ (List.getElem_mem hjl)).1)
     have HXL:Hid (x.f∈bV (fs.map FV.f) p.name p.terms.length∧(bV (fs.map FV.f) p.name p.terms.length).drop j=x.f::(bV (fs.map FV.f) p.name p.terms.length).drop (j+1)):=AE (by
      have hl:(ys.map FV.f).length=ys.length:=AM _
      rw [←HYS.out]
      refine ⟨List.mem_map_of_mem (hx▸List.getElem_mem hjl),?_⟩
      rw [List.drop_eq_getElem_cons (by rw [hl];exact hjl),List.getElem_map,hx])
     have hI2:(0:Int)≤(j:Int):=Int.natCast_nonneg _
     have hI3:(j:Int)<(ys.length:Int):=by omega
     have HGL:Hid (g<wr.heap.size):=AE h1
     have HXS:Hid (∀w',al (StM W (.slice A xs.length c)) w4 w'→(ay (d+1)).rd w' w'.heap.size x.f x.cs):=AE (fun w' h=>by
      rw [hx]
      exact ((HROW.out.deep _ (List.getElem_mem hjl)).2 w' (h.mono fun k hk hm=>.inl (by have:=HML.out k hm;omega))))
     clear h1 h2 h3 h4 h5 h6 hx
     go_upto_region 7 with fail
     generalize hWW:World.alloc _ _=w5
     obtain ⟨hb5,hz5⟩:=al1 hWW
     have HT5:=AE (n11 hWW)
     have HA5:=AE (HAr.out.later hb5)
     have HP5:=AE (HPr.out.later hb5)
     have HW5:=AE (HWr.out.later hb5)
     have HU5:=AE hb5
     have hsz5:=hb5.size
     clear hWW hb5 q0 q1 q2
     have q_t:=HT5.out.regrown
     have q_w:=HW5.out.hd.regrown
     unfold wkA at q_w
     have HAG5:Hid (al (StM W (.slice A xs.length c)) w4 w5):=AE (HAG.out.trans (N:=fun _=>False) (al.of_below HU5.out) (fun _ _ h=>h.elim))
     by_cases hbad:zB ktr x.f=true
     ·have HGOON:Hid (fj ktr (fu (fs.map FV.f) ktr es p ps y.x) (bV (fs.map FV.f) p.name p.terms.length) ⟨held,xs.map AnV.x,0⟩=fj ktr (fu (fs.map FV.f) ktr es p ps y.x) ((bV (fs.map FV.f) p.name p.terms.length).drop (j+1)) ⟨held',xs'.map AnV.x,0⟩):=AE (by rw [HEQ.out,HXL.out.2,fj,if_pos hbad])
      unfold zB at hbad
      refine wp_region_quiet_below (by kernel_rfl) (by kernel_rfl) ?_
      repeat (go_big_quiet_step (fail))
      refine wpQuiet_nil ?_
      intro w6 hw_
      have hb:Below w5.heap.size w5 w6:=by obtain ⟨p_,rfl⟩:=hw_;exact below_regrown _ _ _
      have HU6:=AE hb
      clear hw_ q_t q_w hb
      go_wp2_with fail
      go_roundw
      case rel=>exact ⟨j+1,held',xs',A',c',by omega,by go_num,HGOON,HLEN,hheld',hh0,AE (HW5.out.later HU6.out),AE (HAG5.out.trans (N:=fun _=>False) (al.of_below HU6.out) (fun _ _ h=>h.elim)),HFV⟩
      case measure=>simp [intOf];omega
     ·have HBAD:=AE hbad
      have hbad':(bits .andNot .u32 x.f.o ktr !=0)=false:=by unfold zB at hbad;simpa using hbad
      clear hbad
      refine wp_region_quiet_below (by kernel_rfl) (by kernel_rfl) ?_
      repeat (go_big_quiet_step (fail))
      refine wpQuiet_nil ?_
      intro w6 hw_
      have hb:Below w5.heap.size w5 w6:=by obtain ⟨p_,rfl⟩:=hw_;exact below_regrown _ _ _
      have HU6:=AE hb
      have hsz6:=hb.size
      clear hw_ q_t q_w hb
      have HW6:=AE (HW5.out.later HU6.out)
      have HA6:=AE (HA5.out.later HU6.out)
      have HP6:=AE (HP5.out.later HU6.out)
      have HT6:=AE (HT5.out.later HU6.out)
      have HAG6:Hid (al (StM W (.slice A xs.length c)) w4 w6):=AE (HAG5.out.trans (N:=fun _=>False) (al.of_below HU6.out) (fun _ _ h=>h.elim))
      clear HAG5 HW5 HA5 HP5 HT5
      have k_w:=HW6.out.hd.cell
      have l_w:=HW6.out.hd.lt
      have f_w:=HW6.out.hd.free
      unfold wkA at k_w
      by_cases hmost:100000≤held'
      ·have g1:decide (held'≥100000)=true:=by simpa using hmost
       have g2:decide ((100000:Int)≤held')=true:=by simpa using hmost
       have HEND:Hid (fj ktr (fu (fs.map FV.f) ktr es p ps y.x) (bV (fs.map FV.f) p.name p.terms.length) ⟨held,xs.map AnV.x,0⟩=⟨held',xs'.map AnV.x,4⟩):=AE (by rw [HEQ.out,HXL.out.2,fj,if_neg HBAD.out,if_pos hmost])
       clear hmost
       go_wp2_with fail
       refine bodyPost_ret (results_none rfl _ _ _) rfl ?_
       rw [gO,HEND.out]
       exact ⟨xs',A',c',rfl,rfl,HW6.out.put rfl,((al.of_below HB4.out).trans HAG6.out (fun _ _ h=>h)).set_ (fun _=>.inl rfl) 9 _,HFV.out.imp id (fun ⟨q,e1,e2⟩=>⟨q,e1,by omega⟩)⟩
      ·have g1:decide (held'≥100000)=false:=by simpa using hmost
       have g2:decide ((100000:Int)≤held')=false:=by simpa using hmost
       have hlt9:held'<100000:=by omega
       have HGOON:Hid (fj ktr (fu (fs.map FV.f) ktr es p ps y.x) (bV (fs.map FV.f) p.name p.terms.length) ⟨held,xs.map AnV.x,0⟩=if ((fu (fs.map FV.f) ktr es p ps y.x) x.f ⟨held'+1,xs'.map AnV.x,0⟩).e≠0 then (fu (fs.map FV.f) ktr es p ps y.x) x.f ⟨held'+1,xs'.map AnV.x,0⟩ else fj ktr (fu (fs.map FV.f) ktr es p ps y.x) ((bV (fs.map FV.f) p.name p.terms.length).drop (j+1)) ((fu (fs.map FV.f) ktr es p ps y.x) x.f ⟨held'+1,xs'.map AnV.x,0⟩)):=AE (by rw [HEQ.out,HXL.out.2,fj,if_neg HBAD.out,if_neg hmost])
       clear hmost
       go_upto_region 11 with fail
       clear g1 g2 k_w l_w f_w
       have HW7:Hid (WkAt base d (w6.setCell ⟨W,7,none⟩ (.int .i64 (held'+1))) W ⟨kh,kt,.slice (some ⟨bp_,offp,none⟩) body.length cb,ke,ks,kS,ktr⟩ (held'+1) xs' A' c' 0):=AE (HW6.out.put rfl)
       have HA7:=AE (HA6.out.far (c:=W) (by omega) 7 (.int .i64 (held'+1)))
       have HP7:=AE (HP6.out.far (c:=W) (by omega) 7 (.int .i64 (held'+1)))
       have HT7:=AE (HT6.out.far (c:=W) (by omega) 7 (.int .i64 (held'+1)))
       have HAG7:Hid (al (StM W (.slice A xs.length c)) w4 (w6.setCell ⟨W,7,none⟩ (.int .i64 (held'+1)))):=AE (HAG6.out.set_ (fun _=>.inl rfl) 7 _)
       have hsz7:w6.heap.size≤(w6.setCell ⟨W,7,none⟩ (.int .i64 (held'+1))).heap.size:=by rw [World.size_setCell];exact AG _
       generalize w6.setCell ⟨W,7,none⟩ (.int .i64 (held'+1))=w7 at *
       have HBB7:Hid (Below B w4 w7):=AE (HAG7.out.below (fun k hk hm=>by
        have h0:=HST.out.hB
        rcases hm with hm | hm
        ·omega
        ·have h1:=(HW.out.row.lt k hm).1
         have h2:=HW.out.lt
         omega) (by omega))
       have HPR7:Hid ((PrR (d+1)).rd w7 B p [.string p.name,.slice Ap p.terms.length cp]):=AE ((PrR (d+1)).keep HBB7.out (AG _) ((PrR (d+1)).keep (HB4.out.mono hBw) (AG _) HPR.out))
       have HXF7:Hid ((PrR (d+1)).rd w7 w7.heap.size x.f.pr [.string x.f.pr.name,.slice x.a x.f.pr.terms.length x.c]):=AE (fact_pr (HXS.out w7 HAG7.out))
       have HY7:=AE (nG (HYY.out w7 HAG7.out))
       have HMF:Hid (gP x.f.pr=true):=AE (nX HMP.out HXO.out (tR HXL.out.1).2)
       have hB7:B≤w7.heap.size:=by omega
       have k_a:=HA7.out.cell
       have l_a:=HA7.out.lt
       have k_p:=HP7.out.cell
       have l_p:=HP7.out.lt
       have k_t:=HT7.out.cell
       have l_t:=HT7.out.lt
       go_wp2_with fail
       refine (yA (d:=d) (cn:=y.cn) (ct:=y.ct) (vp:=[_,_]) (vf:=[_,_]) ((PrR (d+1)).wide hB7 HPR7.out) HXF7.out HY7.out.1 HY7.out.2 HMP.out HMF.out HOK.out.1 (AG _)).mono ?_
       rintro z w8 ⟨⟨An2,cn2,At2,ct2,zs,rfl,hq⟩,hb8⟩
       have HQ:=AE hq
       have HU8:=AE hb8
       have HW8:=AE (HW7.out.later hb8)
       have HA8:=AE (HA7.out.later hb8)
       have HT8:=AE (HT7.out.later hb8)
       have hsz8:=hb8.size
       clear hq hb8 k_a l_a k_p l_p k_t l_t
       go_upto_region 12 with fail
       generalize hWW:World.alloc _ _=w9
       obtain ⟨hb9,hz9⟩:=al1 hWW
       have HU9:=AE (aa HU8.out hb9)
       have HW9:=AE (HW8.out.later hb9)
       have HD9:=AE (n11 hWW)
       have HA9:=AE (HA8.out.later hb9)
       have HT9:=AE (HT8.out.later hb9)
       have HQ9:=AE (HQ.out.later hb9)
       have hsz9:=hb9.size
       have HAG9:Hid (al (StM W (.slice A xs.length c)) w4 w9):=AE (HAG7.out.trans (N:=fun _=>False) (al.of_below HU9.out) (fun _ _ h=>h.elim))
       clear hWW hb9
       rcases hfit:gZ p x.f.pr y.x.b with _ | cb2
       ·have HS1:Hid ((fu (fs.map FV.f) ktr es p ps y.x) x.f ⟨held'+1,xs'.map AnV.x,0⟩=⟨held'+1,xs'.map AnV.x,0⟩):=AE (by unfold fu;rw [hfit])
        rw [hfit] at HD9
        simp only [Option.getD_none,Option.isSome_none] at HD9 ⊢
        clear hfit HQ HQ9
        have k_w:=HW9.out.hd.cell
        have l_w:=HW9.out.hd.lt
        unfold wkA at k_w
        go_wp2_with fail
        go_roundw
        case rel=>exact ⟨j+1,held'+1,xs',A',c',by omega,by go_num,AE (by rw [HGOON.out,HS1.out];rfl),AE (by have:=HLEN.out;omega),by omega,by omega,HW9,HAG9,HFV⟩
        case measure=>simp [intOf];omega
       ·have HS1:Hid ((fu (fs.map FV.f) ktr es p ps y.x) x.f ⟨held'+1,xs'.map AnV.x,0⟩=eJ (fs.map FV.f) ktr es ps ⟨cb2,orO y.x.o x.f.o⟩ ⟨held'+1,xs'.map AnV.x,0⟩):=AE (by unfold fu;rw [hfit])
        have HCB:=AE (yy hfit)
        rw [hfit] at HQ9 HD9
        simp only [Option.getD_some,Option.isSome_some] at HQ9 HD9 ⊢
        clear hfit HQ
        have k_d:=HD9.out.cell
        have l_d:=HD9.out.lt
        have k_a:=HA9.out.cell
        have l_a:=HA9.out.lt
        have k_t:=HT9.out.cell
        have l_t:=HT9.out.lt
        have HB09:Hid (Below w0.heap.size w0 w9):=AE ((aa HB0.out HB4.out).trans (HAG9.out.below (fun k hk hm=>by
         rcases hm with hm | hm
         ·omega
         ·have h1:=(HW.out.row.lt k hm).1
          have h2:=HW.out.lt
          omega) (by omega)))
        go_wp2_with fail
        refine (HIH.out (i+1) HPE.out.2 (by omega) w9 (held'+1) xs' A' c' ⟨⟨cb2,orO y.x.o x.f.o⟩,An2,cn2,At2,ct2⟩ HB09.out HW9.out (ya HQ9.out HCB.out (fun k hk hm=>by
         rcases hm with hm | hm
         ·omega
         ·have:=(HW7.out.row.lt k hm).2;omega)) ⟨HCB.out,or_u32 HOK.out.2 HXO.out.o⟩ (by have:=HLEN.out;omega) (by omega)).mono ?_
        rintro z w10 ⟨xs2,A3,c3,rfl,e1,e2,e3,e4⟩
        have HR1:=AE e1
        have HR2:=AE e2
        have HR3:=AE e3
        have HR4:=AE e4
        clear e1 e2 e3 e4 k_d l_d k_a l_a k_t l_t
        obtain ⟨s,hs⟩:∃s,s=eJ (fs.map FV.f) ktr es ps ⟨cb2,orO y.x.o x.f.o⟩ ⟨held'+1,xs'.map AnV.x,0⟩:=⟨_,rfl⟩
        rw [←hs] at HR1 HR2 HS1
        have HSF:Hid (Few ⟨held'+1,xs'.map AnV.x,0⟩ s 1):=AE (hs▸fZ)
        clear hs
        have HAG10:Hid (al (StM W (.slice A xs.length c)) w4 w10):=AE (HAG9.out.trans HR3.out (fun k hk hm=>by
         rcases hm with hm | hm
         ·exact .inl hm
         ·rcases HFV.out with h | ⟨q,h5,h6⟩
          ·exact .inr (h▸hm)
          ·rw [h5] at hm
           simp only [AP] at hm
           omega))
        have HFV2:Hid (bk w4 (.slice A xs.length c) (.slice A3 xs2.length c3)):=AE (by
         rcases HR4.out with h | ⟨q,h5,h6⟩
         ·rcases HFV.out with h2 | ⟨q,h5,h6⟩
          ·exact .inl (h.trans h2)
          ·exact .inr ⟨q,h.trans h5,h6⟩
         ·exact .inr ⟨q,h5,by have:=HAG9.out.size;omega⟩)
        have k_w:=HR2.out.hd.cell
        have l_w:=HR2.out.hd.lt
        unfold wkA at k_w
        by_cases he:s.e=0
        ·have q1:(s.e !=0)=false:=by simpa using he
         have HE:=AE he
         clear he
         go_wp2_with fail
         go_roundw
         case rel=>exact ⟨j+1,s.held,xs2,A3,c3,by omega,by go_num,AE (by
          rw [HGOON.out,HS1.out,if_neg (by simpa using HE.out)]
          obtain ⟨sh,so,se⟩:=s
          have he:se=0:=HE.out
          subst he
          rw [show xs2.map AnV.x=so from HR1.out]),AE (by
          have h1:=HSF.out.2.2
          have h2:=HLEN.out
          have h3:(xs2.map AnV.x).length=s.out.length:=by rw [HR1.out]
          rw [AM] at h3
          simp only [AM] at h1
          omega),HSF.out.2.1 (by show held'+1≤100000;omega),by have:=HSF.out.1;simp only at this;omega,AE (by have h:=HR2.out;rw [HE.out] at h;exact h),HAG10,HFV2⟩
         case measure=>simp [intOf];omega
        ·have q1:(s.e !=0)=true:=by simpa using he
         have HEND:Hid (fj ktr (fu (fs.map FV.f) ktr es p ps y.x) (bV (fs.map FV.f) p.name p.terms.length) ⟨held,xs.map AnV.x,0⟩=s):=AE (by rw [HGOON.out,HS1.out,if_pos he])
         clear he
         go_wp2_with fail
         refine bodyPost_ret (results_none rfl _ _ _) rfl ?_
         rw [gO,HEND.out]
         exact ⟨xs2,A3,c3,rfl,HR1.out,HR2.out,(al.of_below HB4.out).trans HAG10.out (fun _ _ h=>h),HFV2.out.imp id (fun ⟨q,e1,e2⟩=>⟨q,e1,by omega⟩)⟩
    ·have HEND:Hid (fj ktr (fu (fs.map FV.f) ktr es p ps y.x) (bV (fs.map FV.f) p.name p.terms.length) ⟨held,xs.map AnV.x,0⟩=⟨held',xs'.map AnV.x,0⟩):=AE (by
      have hl:(ys.map FV.f).length=ys.length:=AM _
      rw [HEQ.out,List.drop_eq_nil_of_le (by rw [←HYS.out,hl];omega)];rfl)
     go_wp2_with fail
     go_end0
     rw [gO,HEND.out]
     exact ⟨xs',A',c',rfl,rfl,HWr.out,(al.of_below HB4.out).trans HAG.out (fun _ _ h=>h),HFV.out.imp id (fun ⟨q,e1,e2⟩=>⟨q,e1,by omega⟩)⟩
theorem tS (e:List OpD):(fE e).length≤32:=by
 unfold fE
 split
 ·rename_i h
  unfold aP at h
  simp only [AN,AT] at h
  exact AF (eH _) (AF (iu e) h.1)
 ·simp
def zV (e:List OpD):Prop:=∀o∈e,o.term.s.size≤140737488351232
theorem pJ {e:List OpD} (h:zV e):∀l∈fE e,l.length≤140737488351232:=by
 intro l hl
 unfold fE at hl
 split at hl
 ·rw [lN] at hl
  unfold bY at hl
  simp only [List.mem_map,List.mem_filter] at hl
  obtain ⟨o,⟨ho,_⟩,rfl⟩:=hl
  rw [iK]
  exact h o ho
 ·simp at hl
theorem ExR.small {d B:Nat} {e:List OpD} {vs:List Value} {w:World} (he:(ExR d).rd w B e vs):zV e:=by
 obtain ⟨_,_,A,c,_,_,_,hl⟩:=he
 intro o ho
 obtain ⟨i,hi,rfl⟩:=List.getElem_of_mem ho
 obtain ⟨b,off,rfl,hb,hc⟩:=hl (by omega)
 obtain ⟨vs,_,⟨x,hx,hr⟩,_⟩:=hc i hi
 obtain ⟨ts,_,_,_,_,ht⟩:=hr
 obtain ⟨_,_,_,_,_,hs,_⟩:=RTm.cells ht
 rw [AO hi] at hx
 simp only [AP] at hx
 rw [hx];exact hs
theorem qL (d:Nat) (L:List aZ) (A:Option Addr) (c B G:Nat) (w:World) (hl:RL cX w B (L.map mkS) A) (hB:B≤w.heap.size) (hn:L.length≤1000000) (hs:L.Pairwise (· < ·))
 (hG:w.cell? ⟨G,0,none⟩=some (.slice A L.length c)) :
 bW Tryz.prog (ExR d) cY B w 113 #[.pointer (some ⟨G,0,none⟩)] (fun e=>!iY (fE e) L):=by
 intro e vs w1 hb hr
 have hr0:=hr
 have hsm:=ExR.small hr
 obtain ⟨v,rfl,h3⟩:=hr
 obtain ⟨A1,c1,rfl,_⟩:=h3
 have hGl:G<w.heap.size:=block_lt_of_cell hG
 have hG1:w1.cell? ⟨G,0,none⟩=some (.slice A L.length c):=(hb.cell (p:=⟨G,0,none⟩) hGl).trans hG
 have hGl1:G<w1.heap.size:=by have:=hb.size;omega
 have HL:=AE (hl.keep hb hB)
 have HR:=AE hr0
 have HSM:=AE (pJ hsm)
 have hNL:=tS e
 have HS:=AE hs
 have HB:=AE (fun o:Obj=>(AI w1.heap.size w1).alloc (AG _) o)
 have hB1:B≤w1.heap.size:=by have:=hb.size;omega
 clear hl hG hb hs hr0
 show Calls Tryz.prog 113 #[.agg #[.slice A1 e.length c1],.pointer (some ⟨G,0,none⟩)] w1 _
 go_enter Tryz.func113,Tryz.ntmps113
 go_wp2_with fail
 have HW:=AE (HB.out (.cells #[.slice A1 e.length c1] 102))
 have x0:(w1.alloc (.cells #[.slice A1 e.length c1] 102)).cell? ⟨w1.heap.size,0,none⟩=some (.slice A1 e.length c1):=by go_simp
 have x1:(w1.alloc (.cells #[.slice A1 e.length c1] 102)).cell? ⟨G,0,none⟩=some (.slice A L.length c):=by go_simp
 generalize (w1.alloc (.cells #[.slice A1 e.length c1] 102))=W at *
 have q0:=cell_regrown x0
 have q1:=cell_regrown x1
 refine cU (eC W) (by kernel_rfl) (by kernel_rfl) (eC.drew W) ?_
 repeat (refine aY rfl rfl (fun K hK=>?_);unfold eC;go_big_quiet_op;refine hK _ ?_;clear hK K)
 refine cB rfl rfl (fun K hK=>?_)
 go_wp2_with fail
 refine (nP (d:=d) (B:=B) (e:=e) (vs:=[_]) ((ExR d).keep HW.out.drew hB1 HR.out) (AF hB1 HW.out.size)).mono ?_
 rintro x w2 ⟨v2,rfl,hown,hb2⟩
 obtain ⟨A2,c2,rfl,hc2,hrl⟩:=hown.reads HSM.out (by omega)
 have HB2:=AE (HW.out.trans ((AI _ W).drew.trans (hb2.mono (AG _)) |>.mono HW.out.size))
 have HC:=AE (eC.of ((AI W.heap.size W).drew.trans (hb2.mono (AG _))))
 have HRL:=AE hrl
 clear hown hb2 hrl
 go_wp2_with fail
 refine ⟨HC.out,?_⟩
 repeat (refine aY rfl rfl (fun K hK=>?_);unfold eC;go_big_quiet_op;refine hK _ ?_;clear hK K)
 refine cB rfl rfl (fun K hK=>?_)
 go_wp2_with fail
 refine (pB (fE e) L A2 A c2 c w2.heap.size w2 HRL.out ((HL.out.keep HB2.out hB1).wide (AF hB1 HB2.out.size)) (AG _) (by omega) hn HS.out).mono ?_
 rintro x w3 ⟨rfl,hb3⟩
 have HC3:=AE (eC.of (HC.out.below.trans (hb3.mono HC.out.below.size)))
 have HB3:=AE (HB2.out.trans (hb3.mono HB2.out.size))
 clear hb3
 go_wp2_with fail
 refine ⟨HC3.out,?_⟩
 repeat (refine aY rfl rfl (fun K hK=>?_);unfold eC;go_big_quiet_op;refine hK _ ?_;clear hK K)
 refine lQ (fun _=>?_)
 go_wp2_with fail
 go_ret
 exact ⟨rfl,HB3.out⟩
theorem jr {d B:Nat} {w:World} (hB:B≤w.heap.size):bW Tryz.prog (PrR d) cY B w 81 #[] aE:=fun x vs w1 hb hr=>by
 obtain ⟨v,rfl,_⟩:=id hr
 exact dm (d:=d) (B:=B) (vs:=[_,_]) hr (by have:=hb.size;omega)
theorem jq {d B:Nat} {w:World} (hB:B≤w.heap.size):bW Tryz.prog (ExR d) cY B w 109 #[] aP:=fun x vs w1 hb hr=>by
 obtain ⟨v,rfl,_⟩:=id hr
 exact dl (d:=d) (B:=B) (vs:=[_]) hr (by have:=hb.size;omega)
theorem ic {B:Nat} {w:World}:bW Tryz.prog ScR cY B w 111 #[] cO:=fun x vs w1 hb hr=>by
 obtain ⟨rfl,_⟩:=id hr
 exact pG (B:=B) (vs:=[_,_]) hr
def pK (ps:List Pr):List aZ:=eB (az ps)
def gU (r:Ru):Bool:=(decide (r.body.length≤4)&&r.body.all aE)&&(decide (r.exprs.length≤4)&&r.exprs.all aP)&&(decide (r.scopes.length≤4)&&r.scopes.all cO)&&r.exprs.all (fun e=>iY (fE e) (pK r.body))
theorem yj {r:Ru} (t1:(decide ((r.body.length:Int)≤4)&&r.body.all aE)=true) (t2:(decide ((r.exprs.length:Int)≤4)&&r.exprs.all aP)=true)
 (t3:(decide ((r.scopes.length:Int)≤4)&&r.scopes.all cO)=true):gU r = !r.exprs.any (fun e=>!iY (fE e) (eB (az r.body))):=by
 unfold gU pK
 simp only [kL] at t1 t2 t3
 rw [t1,t2,t3,Bool.true_and,Bool.true_and,Bool.true_and,List.not_any_eq_all_not]
 simp only [Bool.not_not]
theorem tf {r:Ru} (t1:(decide ((r.body.length:Int)≤4)&&r.body.all aE)=false):gU r=false:=by
 unfold gU;simp only [kL] at t1;rw [t1];simp only [Bool.false_and]
theorem tg {r:Ru} (t2:(decide ((r.exprs.length:Int)≤4)&&r.exprs.all aP)=false):gU r=false:=by
 unfold gU;simp only [kL] at t2;rw [t2];simp only [Bool.false_and,Bool.and_false]
theorem th {r:Ru} (t3:(decide ((r.scopes.length:Int)≤4)&&r.scopes.all cO)=false):gU r=false:=by
 unfold gU;simp only [kL] at t3;rw [t3];simp only [Bool.false_and,Bool.and_false]
theorem fv:∀(ps:List Pr),(∀p∈ps,p.terms.length≤8)→(az ps).length≤8*ps.length
 | [],_=>by simp [az]
 | p::ps,h=>by
   have h1:=fv ps (fun q hq=>h q (by simp [hq]))
   have h2:=h p (by simp)
   have h3:(cA p.terms).length≤p.terms.length:=by unfold cA;rw [AM];exact List.length_filter_le _ _
   have:az (p::ps)=cA p.terms++az ps:=by simp [az]
   rw [this,AK,AV]
   omega
theorem gm {p:Pr} (h:aE p=true):p.terms.length≤8:=by
 unfold aE at h
 simp only [AN,AT] at h
 exact h.2.1
def smallP (ps:List Pr):Prop:=∀p∈ps,∀t∈p.terms,t.s.size≤140737488351232
theorem RSl.smallT {d B:Nat} {ts:List Tm} {v:Value} {w:World} (h:RSl (TmR d) w B ts v):∀t∈ts,t.s.size≤140737488351232:=by
 obtain ⟨A,c,_,_,_,hl⟩:=h
 intro t ht
 obtain ⟨i,hi,rfl⟩:=List.getElem_of_mem ht
 obtain ⟨b,off,rfl,hb,hc⟩:=hl (by omega)
 obtain ⟨vs,_,⟨x,hx,hr⟩,_⟩:=hc i hi
 obtain ⟨_,_,_,_,_,hs,_⟩:=RTm.cells hr
 rw [AO hi] at hx
 simp only [AP] at hx
 rw [hx];exact hs
theorem RL.smallP {d B:Nat} {ps:List Pr} {A:Option Addr} {w:World} (h:RL (PrR d) w B ps A):smallP ps:=by
 intro p hp
 obtain ⟨i,hi,rfl⟩:=List.getElem_of_mem hp
 obtain ⟨b,off,rfl,hb,hc⟩:=h (by omega)
 obtain ⟨vs,_,⟨x,hx,hr⟩,_⟩:=hc i hi
 obtain ⟨_,_,_,ht⟩:=hr
 rw [AO hi] at hx
 simp only [AP] at hx
 rw [hx];exact RSl.smallT ht
theorem gp {ps:List Pr} (h:smallP ps):∀l∈pK ps,l.length≤140737488351232:=by
 intro l hl
 unfold pK at hl
 rw [lN] at hl
 unfold az cA at hl
 simp only [List.mem_flatMap,List.mem_map,List.mem_filter] at hl
 obtain ⟨p,hp,t,⟨ht,_⟩,rfl⟩:=hl
 rw [iK]
 exact h p hp t ht
theorem nI {d B:Nat} {r:Ru} {vs:List Value} {w:World} (hr:(RuR d).rd w B r vs) (hB:B≤w.heap.size) :
 Calls Tryz.prog 88 #[.agg vs.toArray] w fun x w'=>x=.returned (.bool (gU r))∧Below w.heap.size w w':=by
 obtain ⟨_,_,_,_,rfl,hs,⟨A0,c0,rfl,h01,h02,hl0⟩,⟨A1,c1,rfl,h11,h12,hl1⟩,⟨A2,c2,rfl,h21,h22,hl2⟩,⟨A3,c3,rfl,h31,h32,hl3⟩⟩:=hr
 simp only [PrR,ExR,ScR] at h12 h22 h32
 have HB:=AE (fun o:Obj=>(AI w.heap.size w).alloc (AG _) o)
 have HL1:=AE hl1
 have HL2:=AE hl2
 have HL3:=AE hl3
 have HSM:=AE (gp (RL.smallP hl1))
 clear hl0 hl1 hl2 hl3
 by_cases t1:(decide ((r.body.length:Int)≤4)&&r.body.all aE)=true
 ·go_enter Tryz.func88,Tryz.ntmps88
  go_wp2_with fail
  refine (lx d 81 aE 4 r.body A1 c1 B _ (ent Tryz.func81 (by kernel_rfl) rfl) (HL1.out.keep (HB.out _) hB) (AF hB (HB.out _).size) (by omega) (jr (AF hB (HB.out _).size))).mono ?_
  rintro x w1 ⟨rfl,hb1⟩
  have hc1:=jy hb1
  have hz1:w.heap.size<w1.heap.size:=(by have:=hb1.size;simp at this;omega)
  have HB1:=AE ((HB.out _).trans (hb1.mono (HB.out _).size))
  clear hb1
  by_cases t2:(decide ((r.exprs.length:Int)≤4)&&r.exprs.all aP)=true
  ·go_wp2_with fail
   refine (lv d 109 aP 4 r.exprs A2 c2 B _ (ent Tryz.func109 (by kernel_rfl) rfl) (HL2.out.keep HB1.out hB) (AF hB HB1.out.size) (by omega) (jq (AF hB HB1.out.size))).mono ?_
   rintro x w2 ⟨rfl,hb2⟩
   have hc2:=jy hb2
   have hz2:w.heap.size<w2.heap.size:=(by have:=hb2.size;omega)
   have HB2:=AE (HB1.out.trans (hb2.mono HB1.out.size))
   clear hb2
   by_cases t3:(decide ((r.scopes.length:Int)≤4)&&r.scopes.all cO)=true
   ·go_wp2_with fail
    refine (ki 111 cO 4 r.scopes A3 c3 B _ (ent Tryz.func111 (by kernel_rfl) rfl) (HL3.out.keep HB2.out hB) (AF hB HB2.out.size) (by omega) ic).mono ?_
    rintro x w3 ⟨rfl,hb3⟩
    have hc3:=jy hb3
    have hz3:w.heap.size<w3.heap.size:=(by have:=hb3.size;omega)
    have HB3:=AE (HB2.out.trans (hb3.mono HB2.out.size))
    clear hb3
    have hcount:(az r.body).length≤32:=by
     simp only [AN,AT,List.all_eq_true] at t1
     have:=fv r.body (fun p hp=>gm (t1.2 p hp))
     omega
    have hlen:(pK r.body).length≤32:=AF (eH _) hcount
    go_wp2_with fail
    refine (lT d r.body A1 c1 B _ (HL1.out.keep HB3.out hB) (AF hB HB3.out.size) (by omega) (by omega)).mono ?_
    rintro x w4 ⟨v4,rfl,hown,hb4⟩
    obtain ⟨A4,c4,rfl,hc4,hrl⟩:=hown.reads HSM.out (by exact AF hlen (by omega))
    have hc4':=jy hb4
    have hz4:w.heap.size<w4.heap.size:=(by have:=hb4.size;omega)
    have HB4:=AE (HB3.out.trans (hb4.mono HB3.out.size))
    have HRL:=AE hrl
    clear hown hb4 hrl
    go_wp2_with fail
    have HW:=AE (HB4.out.trans ((AI w4.heap.size w4).alloc (AG _) (.cells #[.slice A4 (eB (az r.body)).length c4] 112) |>.mono HB4.out.size))
    have x0:(w4.alloc (.cells #[.slice A4 (eB (az r.body)).length c4] 112)).cell? ⟨w4.heap.size,0,none⟩=some (.slice A4 (eB (az r.body)).length c4):=by go_simp
    have hsz:=((AI w4.heap.size w4).alloc (AG _) (.cells #[.slice A4 (eB (az r.body)).length c4] 112)).size
    have HRL':=AE (((HRL.out.keep ((AI w4.heap.size w4).alloc (AG _) (.cells #[.slice A4 (eB (az r.body)).length c4] 112)) (AG _))))
    refine (dN d 113 #[.pointer (some ⟨w4.heap.size,0,none⟩)] (fun e=>!iY (fE e) (eB (az r.body))) r.exprs A2 c2 _ _ (ent Tryz.func113 (by kernel_rfl) rfl) ((HL2.out.keep HW.out hB).wide (AF hB HW.out.size)) (AG _) (by omega) (qL d (eB (az r.body)) A4 c4 _ _ _ (HRL'.out.wide hsz) (AG _) (by exact AF hlen (by omega)) (kp _) x0)).mono ?_
    rintro x w5 ⟨rfl,hb5⟩
    have HB5:=AE (HW.out.trans (hb5.mono HW.out.size))
    clear hb5
    go_wp2_with fail
    go_ret
    refine ⟨?_,HB5.out⟩
    rw [yj t1 t2 t3]
    rfl
   ·simp only [Bool.not_eq_true] at t3
    go_wp2_with fail
    refine (ki 111 cO 4 r.scopes A3 c3 B _ (ent Tryz.func111 (by kernel_rfl) rfl) (HL3.out.keep HB2.out hB) (AF hB HB2.out.size) (by omega) ic).mono ?_
    rintro x w3 ⟨rfl,hb3⟩
    have HB3:=AE (HB2.out.trans (hb3.mono HB2.out.size))
    clear hb3
    go_wp2_with fail
    go_ret
    refine ⟨?_,HB3.out⟩
    rw [th t3]
    rfl
  ·simp only [Bool.not_eq_true] at t2
   go_wp2_with fail
   refine (lv d 109 aP 4 r.exprs A2 c2 B _ (ent Tryz.func109 (by kernel_rfl) rfl) (HL2.out.keep HB1.out hB) (AF hB HB1.out.size) (by omega) (jq (AF hB HB1.out.size))).mono ?_
   rintro x w2 ⟨rfl,hb2⟩
   have HB2:=AE (HB1.out.trans (hb2.mono HB1.out.size))
   clear hb2
   go_wp2_with fail
   go_ret
   refine ⟨?_,HB2.out⟩
   rw [tg t2]
   rfl
 ·simp only [Bool.not_eq_true] at t1
  go_enter Tryz.func88,Tryz.ntmps88
  go_wp2_with fail
  refine (lx d 81 aE 4 r.body A1 c1 B _ (ent Tryz.func81 (by kernel_rfl) rfl) (HL1.out.keep (HB.out _) hB) (AF hB (HB.out _).size) (by omega) (jr (AF hB (HB.out _).size))).mono ?_
  rintro x w1 ⟨rfl,hb1⟩
  have HB1:=AE ((HB.out _).trans (hb1.mono (HB.out _).size))
  clear hb1
  go_wp2_with fail
  go_ret
  refine ⟨?_,HB1.out⟩
  rw [tf t1]
  rfl
end Go.Proofs.YtjpndglegpcdnaaGreat
