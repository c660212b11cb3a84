/- (*join.walk).goes. -/
import Derived.Test.YtdphibjibnffeaaGreatAnSort
import Derived.Laws.BitsAllLaws
set_option linter.unusedVariables false
set_option linter.unusedSimpArgs false
set_option maxRecDepth 100000
set_option maxHeartbeats 8000000
namespace Go.Proofs.YtdphibjibnffeaaGreat
open Go.ChangeShapes Go.WideShapes Go.ChangeAt Go.RowKit
def yc (tr:Int) (f:Fc):Bool:=bits .andNot .u32 f.o tr !=0
def orO (a b:Int):Int:=bits .or .u32 a b
def bS (tr:Int) (step:Fc→Wst→Wst):List Fc→Wst→Wst
 | [],s=>s
 | f::fs,s=>if yc tr f=true then bS tr step fs s else if 100000≤s.held then ⟨s.held,s.out,4⟩ else
  if (step f ⟨s.held+1,s.out,s.e⟩).e≠0 then step f ⟨s.held+1,s.out,s.e⟩ else bS tr step fs (step f ⟨s.held+1,s.out,s.e⟩)
def cU (fs:List Fc) (tr:Int) (es:List (List OpD)):List Pr→Ans→Wst→Wst
 | [],x,s=>dI es x s
 | p::ps,x,s=>bS tr (fun f s1=>match gJ p f.pr x.b with | some c=>cU fs tr es ps ⟨c,orO x.o f.o⟩ s1 | none=>s1) (bE fs p.name p.terms.length) s
def ee (fs:List Fc) (tr:Int) (es:List (List OpD)) (p:Pr) (ps:List Pr) (x:Ans) (f:Fc) (s1:Wst):Wst:=match gJ p f.pr x.b with | some c=>cU fs tr es ps ⟨c,orO x.o f.o⟩ s1 | none=>s1
theorem bR {fs:List Fc} {tr:Int} {es:List (List OpD)} {p:Pr} {ps:List Pr} {x:Ans} {s:Wst}:cU fs tr es (p::ps) x s=bS tr (ee fs tr es p ps x) (bE fs p.name p.terms.length) s:=rfl
def Few (s s':Wst) (k:Nat):Prop:=s.held≤s'.held∧(s.held≤100000→s'.held≤100000)∧(s'.out.length:Int)+s.held≤s.out.length+s'.held+k
theorem nS {x:Ans}:∀{es:List (List OpD)} {s:Wst},Few s (dI es x s) 1
 | [],s=>⟨Int.le_refl _,fun h=>h,by simp [dI];omega⟩
 | q::qs,s=>by
   unfold dI
   split
   ·exact ⟨Int.le_refl _,fun h=>h,by simp;omega⟩
   ·split
    ·exact nS
    ·exact ⟨Int.le_refl _,fun h=>h,by omega⟩
theorem kX {tr:Int} {step:Fc→Wst→Wst} (hs:∀f s,Few s (step f s) 1):∀{fs:List Fc} {s:Wst},Few s (bS tr step fs s) 0
 | [],s=>⟨Int.le_refl _,fun h=>h,by simp [bS]⟩
 | f::fs,s=>by
   unfold bS
   split
   ·exact kX hs
   ·split
    ·exact ⟨Int.le_refl _,fun h=>h,by simp⟩
    ·rename_i h1 h2
     obtain ⟨a1,a2,a3⟩:=hs f ⟨s.held+1,s.out,s.e⟩
     simp only at a1 a2 a3
     split
     ·exact ⟨by omega,fun _=>a2 (by omega),by omega⟩
     ·obtain ⟨b1,b2,b3⟩:=kX hs (fs:=fs) (s:=step f ⟨s.held+1,s.out,s.e⟩)
      exact ⟨by omega,fun _=>b2 (a2 (by omega)),by omega⟩
theorem iu {fs:List Fc} {tr:Int} {es:List (List OpD)}:∀{ps:List Pr} {x:Ans} {s:Wst},Few s (cU fs tr es ps x s) 1
 | [],x,s=>nS
 | p::ps,x,s=>by
   have h:=kX (tr:=tr) (step:=ee fs tr es p ps x) (fun f s=>by
    unfold ee
    split
    ·exact iu
    ·exact ⟨Int.le_refl _,fun h=>h,by omega⟩) (fs:=bE fs p.name p.terms.length) (s:=s)
   rw [bR]
   exact ⟨h.1,h.2.1,by have:=h.2.2;omega⟩
theorem sE {fs:List Fc} {f:Fc} {name:ByteArray} {n:Int} (h:f∈bE fs name n):f∈fs∧f.pr.name=name:=by
 unfold bE at h
 rw [List.mem_filter,decide_eq_true_eq] at h
 refine ⟨h.1,?_⟩
 have h2:=h.2
 unfold dy at h2
 rw [orL2] at h2
 split at h2
 ·rename_i h3;exact tP (nI.1 h3)
 ·rename_i h3;exact absurd h2 h3
theorem mV {p:Pr} {f:Fc} (hp:aK p=true) (hf:FcOk f) (hn:f.pr.name=p.name):gC f.pr=true:=by
 unfold aK at hp
 simp only [Bool.and_eq_true,decide_eq_true_eq] at hp
 unfold gC aK
 rw [hn]
 simp only [Bool.and_eq_true,decide_eq_true_eq,List.all_eq_true]
 exact ⟨⟨hp.1,hf.few,fun x hx=>by have:=hf.fix x hx;unfold af at this;simp only [Bool.and_eq_true] at this;exact this.2⟩,hf.few,hf.fix⟩
theorem wY {p f:Pr} {b c:Bd} (h:gJ p f b=some c):cr c=true:=by
 unfold gJ at h
 split at h
 ·unfold okB at h
  split at h
  ·split at h
   ·simp only [Option.some.injEq] at h;subst h;assumption
   ·cases h
  ·cases h
 ·cases h
theorem or_u32 {a b:Int} (ha:U32 a) (hb:U32 b):U32 (orO a b):=by
 unfold orO
 rw [u32_or a b ha.1 ha.2 hb.1 hb.2]
 refine ⟨Int.natCast_nonneg _,?_⟩
 have h1:a.toNat<2 ^ 32:=by have:=ha.2;have:=ha.1;omega
 have h2:b.toNat<2 ^ 32:=by have:=hb.2;have:=hb.1;omega
 have:=Nat.or_lt_two_pow h1 h2
 omega
theorem fact_pr {d B:Nat} {w:World} {x:FV} (h:(ax d).rd w B x.f x.cs):(PrR d).rd w B x.f.pr [.string x.f.pr.name,.slice x.a x.f.pr.terms.length x.c]:=by
 obtain ⟨v,e,h1,_⟩:=h
 simp only [FV.cs,fcV,List.cons.injEq,true_and,and_true] at e
 rw [e];exact h1
theorem tJ {base D:Nat} {w w':World} {b:Bd} {xs:List SV} {An At:Option Addr} {cn ct:Nat} {M:Nat→Prop} (h:BdQ base D w b xs An cn At ct) (ha:aw M w w') (hM:∀k,base≤k→¬M k):BdQ base D w' b xs An cn At ct:=
 ⟨h.tms,h.nm.agree ha (fun k hk=>hM k (h.nm.lt k hk).1),⟨h.st.own.agree ha (fun k hk=>hM k (h.st.own.lt k hk).1),fun x hx=>(h.st.tms x hx).keep ha.1 fun a e=>ha.2 _ (h.st.lt x hx a e).2 (hM _ (h.st.lt x hx a e).1),h.st.sep,fun x hx a e=>⟨(h.st.lt x hx a e).1,zb (h.st.lt x hx a e).2 ha.size⟩⟩,h.sep⟩
theorem wF {base D:Nat} {w:World} {b:Bd} {o:Int} {xs:List SV} {An At:Option Addr} {cn ct:Nat} {M:Nat→Prop} (h:BdQ base D w b xs An cn At ct) (hb:cr b=true) (hM:∀k,base≤k→¬M k):ie M w (fun w'=>(mC (D+1)).rd w' w'.heap.size ⟨b,o⟩ (AnV.cs ⟨⟨b,o⟩,An,cn,At,ct⟩)):=fun w' ha=>by
 have h1:=fC.1 hb
 have h2:b.terms.length≤32:=by rw [←h1.1.len];exact h1.2
 have h3:=(tJ h ha hM).reads (by have:=h1.2;omega) (by omega)
 exact ⟨An,cn,At,ct,rfl,h3.1,h3.2⟩
structure WkS (d:Nat) (w0:World) (baseS B:Nat) (k:WkC) (fs:List FV) (As:Option Addr) (cs:Nat) (body:List Pr) (Ab:Option Addr) (cb:Nat) (es:List (List OpD)) (Ae:Option Addr) (ce:Nat) (m:Int):Prop where
 st:StA baseS d w0 k.S fs As cs
 few:fs.length≤100000
 hB:B≤w0.heap.size
 bd:k.bd=.slice Ab body.length cb
 bdr:RL (PrR (d+1)) w0 B body Ab
 bn:body.length≤1000000
 may:∀p∈body,aK p=true
 ex:k.ex=.slice Ae es.length ce
 exr:RL (ExR (d+1)) w0 B es Ae
 en:es.length≤1000000
 m0:w0.cell? ⟨0,0,none⟩=some (.int .i64 m)
 pos:0<w0.heap.size
theorem re {d baseS B base W:Nat} {w0:World} {k:WkC} {fs:List FV} {As:Option Addr} {cs:Nat} {body:List Pr} {Ab:Option Addr} {cb:Nat} {es:List (List OpD)} {Ae:Option Addr} {ce:Nat} {m:Int} (hst:WkS d w0 baseS B k fs As cs body Ab cb es Ae ce m) (hW:w0.heap.size≤W) :
 ∀(ps:List Pr) (i:Nat),body.drop i=ps→i≤body.length→∀(w:World) (held:Int) (xs:List AnV) (A:Option Addr) (c:Nat) (y:AnV),Below w0.heap.size w0 w→WkAt base d w W k held xs A c 0→ie (StM W (.slice A xs.length c)) w (fun w'=>(mC (d+1)).rd w' w'.heap.size y.x y.cs)→cr y.x.b=true∧U32 y.x.o→(xs.length:Int)≤held→held≤100000 →
  Calls Tryz.prog 55 #[.pointer (some ⟨W,0,none⟩),.int .i64 i,.agg y.cs.toArray] w fun z w'=>WkE base d W k w w' A xs.length c (cU (fs.map FV.f) k.tr es ps y.x ⟨held,xs.map AnV.x,0⟩) z:=by
 have HST:=yW hst
 clear hst
 intro ps
 induction ps with
 | nil=>
   intro i hi hil w held xs A c y hb0 hw hy hok hlen hheld
   have HW:=yW hw
   have HY:=yW hy
   have HOK:=yW hok
   have HB0:=yW hb0
   have hii:i=body.length:=by have:=List.drop_eq_nil_iff.1 hi;omega
   have hbl:=HST.out.bn
   subst hii
   obtain ⟨kh,kt,kb,ke,ks,kS,ktr⟩:=k
   have hbd:kb=.slice Ab body.length cb:=HST.out.bd
   subst hbd
   clear hw hy hok hb0 hi hil
   unfold AnV.cs anV
   go_enter Tryz.func55,Tryz.ntmps55
   go_upto_region 1 with fail
   generalize hWW:World.alloc _ _=w1
   obtain ⟨hb1,hz⟩:=al1 hWW
   have HA1:=yW (n11 hWW)
   have HB1:=yW hb1
   have HW1:=yW (HW.out.later hb1)
   have hsz1:=hb1.size
   clear hWW hb1
   have k_w:=HW1.out.hd.cell
   have l_w:=HW1.out.hd.lt
   have k_a:=HA1.out.cell
   have l_a:=HA1.out.lt
   unfold wkA at k_w
   go_wp2_with fail
   have HBx:=yW (ab HB0.out HB1.out)
   refine (ti (y:=y) (m:=m) HW1.out HST.out.ex (HST.out.exr.keep HBx.out HST.out.hB) (yX HST.out.hB hW) (HY.out.later HB1.out) HOK.out (by omega) ((HBx.out.cell (p:=⟨0,0,none⟩) HST.out.pos).trans HST.out.m0) (by have:=HST.out.pos;omega) HST.out.en).mono ?_
   rintro z w2 ⟨xs',A',c',rfl,h1,h2,h3,h4⟩
   have HE:=yW (And.intro h1 (And.intro h2 (And.intro h3 h4)))
   clear h1 h2 h3 h4 k_w l_w k_a l_a
   go_wp2_with fail
   refine bodyPost_ret (results_none rfl _ _ _) rfl ?_
   obtain ⟨h1,h2,h3,h4⟩:=HE.out
   refine ⟨xs',A',c',rfl,h1,h2,(aw.of_below HB1.out).trans h3 (fun _ _ h=>h),?_⟩
   rcases h4 with h | ⟨q,h5,h6⟩
   ·exact .inl h
   ·exact .inr ⟨q,h5,by omega⟩
 | cons p ps ih=>
   intro i hi hil w held xs A c y hb0 hw hy hok hlen hheld
   have hlt:i<body.length:=by
    rcases Nat.lt_or_ge i body.length with h | h
    ·exact h
    ·rw [List.drop_eq_nil_of_le h] at hi;cases hi
   have hpe:body[i]=p∧body.drop (i+1)=ps:=by
    rw [List.drop_eq_getElem_cons hlt] at hi
    exact ⟨(List.cons.inj hi).1,(List.cons.inj hi).2⟩
   have HPE:=yW hpe
   have HW:=yW hw
   have HY:=yW hy
   have HOK:=yW hok
   have HB0:=yW hb0
   have HIH:=yW ih
   have hbl:=HST.out.bn
   have hWl:=hw.hd.lt
   have h0w:=hb0.size
   obtain ⟨kh,kt,kb,ke,ks,kS,ktr⟩:=k
   have hbd:kb=.slice Ab body.length cb:=HST.out.bd
   subst hbd
   have HMP:Hid (aK p=true):=yW (HST.out.may p (by rw [←hpe.1];exact List.getElem_mem hlt))
   clear hw hy hok hb0 hi ih hpe
   have hBw:B≤w.heap.size:=by have:=HST.out.hB;omega
   obtain ⟨bp_,offp,rfl,hobp⟩:=(HST.out.bdr.keep HB0.out HST.out.hB).base (za _ _) hBw (by omega)
   obtain ⟨p',vs,hx,hlen',hcell,hr⟩:=(HST.out.bdr.keep HB0.out HST.out.hB).at_ (za _ _) hBw hlt
   have HPp:Hid (p'=p):=yW (by rw [←HPE.out.1];rw [List.getElem?_eq_getElem hlt] at hx;simpa using hx.symm)
   have HPR:Hid ((PrR (d+1)).rd w B p vs):=yW (HPp.out▸hr)
   have hr2:=HPR.out
   obtain ⟨_,rfl,hps,Ap,cp,rfl,hp1,hp2,hpl⟩:=hr2
   have c0:w.cell? ⟨bp_,offp+i*2,none⟩=some (.string p.name):=hcell 0 _ rfl
   have c1:w.cell? ⟨bp_,offp+i*2+1,none⟩=some (.slice Ap p.terms.length cp):=hcell 1 _ rfl
   have hp8:=(ox HMP.out).1
   clear hcell hlen' hx hr hps hp1 hp2 hpl HPp
   have hI0:(0:Int)≤(i:Int):=Int.natCast_nonneg _
   have hI1:(i:Int)<(body.length:Int):=by omega
   have hne:((i:Int)==(body.length:Int))=false:=by simp;omega
   unfold AnV.cs anV
   go_enter Tryz.func55,Tryz.ntmps55
   go_upto_region 1 with fail
   generalize hWW:World.alloc _ _=w1
   obtain ⟨hb1,hz⟩:=al1 hWW
   have HA1:=yW (n11 hWW)
   have HB1:=yW hb1
   have HW1:=yW (HW.out.later hb1)
   have hsz1:=hb1.size
   have d0:=(hb1.cell (p:=⟨bp_,offp+i*2,none⟩) hobp).trans c0
   have d1:=(hb1.cell (p:=⟨bp_,offp+i*2+1,none⟩) hobp).trans c1
   clear hWW hb1 c0 c1
   have k_w:=HW1.out.hd.cell
   have l_w:=HW1.out.hd.lt
   unfold wkA at k_w
   go_upto_region 4 with fail
   clear k_w l_w hne d0 d1
   generalize hWW:World.alloc _ _=w2
   obtain ⟨hb2,hz2⟩:=al1 hWW
   have HP2:Hid (Blk w2 (w.heap.size+1) #[.string p.name,.slice Ap p.terms.length cp]):=yW (by have h:=n11 hWW;rwa [hz] at h)
   have HA2:=yW (HA1.out.later hb2)
   have HB2:=yW (ab HB1.out hb2)
   have HW2:=yW (HW1.out.later hb2)
   have hsz2:=hb2.size
   clear hWW hb2
   have HSL:Hid (∀{w':World},Below w2.heap.size w2 w'→(w'.cell? ⟨W,5,none⟩=some (.pointer (some ⟨kS,0,none⟩))∧w'.cell? ⟨w.heap.size+1,0,none⟩=some (.string p.name)∧w'.cell? ⟨w.heap.size+1,1,none⟩=some (.slice Ap p.terms.length cp))):=yW (fun hb=>⟨(HW2.out.hd.later hb).cell 5,(HP2.out.later hb).cell 0,(HP2.out.later hb).cell 1⟩)
   refine aG (fun w'=>w'.cell? ⟨W,5,none⟩=some (.pointer (some ⟨kS,0,none⟩))∧w'.cell? ⟨w.heap.size+1,0,none⟩=some (.string p.name)∧w'.cell? ⟨w.heap.size+1,1,none⟩=some (.slice Ap p.terms.length cp)) (by kernel_rfl) (HSL.out (za _ _).drew) ?_
   refine aa (i:=0) (v:=?v1_) rfl (by kernel_rfl) (by kernel_rfl) (by kernel_rfl) ?hq1_ ?hw1_ ?hy1_ ?rest1_
   case hq1_=>exact fun _ _ _ h=>h
   case hw1_=>rfl
   case hy1_=>(intro w' hS';(try dsimp only at hS');go_simp;(try with_reducible rfl))
   refine aa (i:=1) (v:=?v2_) rfl (by kernel_rfl) (by kernel_rfl) (by kernel_rfl) ?hq2_ ?hw2_ ?hy2_ ?rest2_
   case hq2_=>exact fun _ _ _ h=>h
   case hw2_=>rfl
   case hy2_=>(intro w' hS';(try dsimp only at hS');go_simp;(try with_reducible rfl))
   refine aa (i:=2) (v:=?v3_) rfl (by kernel_rfl) (by kernel_rfl) (by kernel_rfl) ?hq3_ ?hw3_ ?hy3_ ?rest3_
   case hq3_=>exact fun _ _ _ h=>h
   case hw3_=>rfl
   case hy3_=>(intro w' hS';(try dsimp only at hS');go_simp;(try with_reducible rfl))
   refine aa (i:=3) (v:=?v4_) rfl (by kernel_rfl) (by kernel_rfl) (by kernel_rfl) ?hq4_ ?hw4_ ?hy4_ ?rest4_
   case hq4_=>exact fun _ _ _ h=>h
   case hw4_=>rfl
   case hy4_=>(intro w' hS';(try dsimp only at hS');go_simp;(try with_reducible rfl))
   refine aa (i:=4) (v:=?v5_) rfl (by kernel_rfl) (by kernel_rfl) (by kernel_rfl) ?hq5_ ?hw5_ ?hy5_ ?rest5_
   case hq5_=>exact fun _ _ _ h=>h
   case hw5_=>rfl
   case hy5_=>(intro w' hS';(try dsimp only at hS');go_simp;(try with_reducible rfl))
   refine aa (i:=5) (v:=?v6_) rfl (by kernel_rfl) (by kernel_rfl) (by kernel_rfl) ?hq6_ ?hw6_ ?hy6_ ?rest6_
   case hq6_=>exact fun _ _ _ h=>h
   case hw6_=>rfl
   case hy6_=>(intro w' hS';(try dsimp only at hS');go_simp;(try with_reducible rfl))
   refine aa (i:=6) (v:=?v7_) rfl (by kernel_rfl) (by kernel_rfl) (by kernel_rfl) ?hq7_ ?hw7_ ?hy7_ ?rest7_
   case hq7_=>exact fun _ _ _ h=>h
   case hw7_=>rfl
   case hy7_=>(intro w' hS';(try dsimp only at hS');go_simp;(try with_reducible rfl))
   refine aa (i:=7) (v:=?v8_) rfl (by kernel_rfl) (by kernel_rfl) (by kernel_rfl) ?hq8_ ?hw8_ ?hy8_ ?rest8_
   case hq8_=>exact fun _ _ _ h=>h
   case hw8_=>rfl
   case hy8_=>(intro w' hS';(try dsimp only at hS');go_simp;(try with_reducible rfl))
   refine aa (i:=8) (v:=?v9_) rfl (by kernel_rfl) (by kernel_rfl) (by kernel_rfl) ?hq9_ ?hw9_ ?hy9_ ?rest9_
   case hq9_=>exact fun _ _ _ h=>h
   case hw9_=>rfl
   case hy9_=>(intro w' hS';(try dsimp only at hS');go_simp;(try with_reducible rfl))
   refine aa (i:=11) (v:=?v10_) rfl (by kernel_rfl) (by kernel_rfl) (by kernel_rfl) ?hq10_ ?hw10_ ?hy10_ ?rest10_
   case hq10_=>exact fun _ _ _ h=>h
   case hw10_=>rfl
   case hy10_=>(intro w' hS';(try dsimp only at hS');go_simp;(try with_reducible rfl))
   generalize hD:World.drew w2=w3
   have HU3:Hid (Below w2.heap.size w2 w3):=yW (hD▸(za w2.heap.size w2).drew)
   clear hD
   have HB3:=yW (ab HB2.out HU3.out)
   have HX3:=yW (ab HB0.out HB3.out)
   refine au (rs:=[9]) (by kernel_rfl) rfl ?_
   refine ak.cons rfl (fun K hK=>?_) ak.nil
   go_simp
   refine (qC (name:=p.name) (n:=(p.terms.length:Int)) (HST.out.st.later HX3.out) HST.out.few).mono ?_
   rintro z w4 ⟨⟨ys,A2,c2,hys,rfl,hrow⟩,hb4⟩
   have HYS:=yW hys
   have HROW:=yW hrow
   have HB4:=yW (ab HB3.out hb4)
   have HY4:Hid (Below w2.heap.size w2 w4):=yW (ab HU3.out hb4)
   have hsz3:=HU3.out.size
   have hsz4:=hb4.size
   clear hys hrow hb4
   refine hK.out _ _ (HSL.out HY4.out) ?_
   clear hK
   refine aa (i:=10) (v:=?v11_) rfl (by kernel_rfl) (by kernel_rfl) (by kernel_rfl) ?hq11_ ?hw11_ ?hy11_ ?rest11_
   case hq11_=>exact fun _ _ _ h=>h
   case hw11_=>rfl
   case hy11_=>(intro w' hS';(try dsimp only at hS');go_simp;(try with_reducible rfl))
   refine bG (by kernel_rfl) ?_
   go_wp2_with fail
   have HXA:Hid (aw (StM W (.slice A xs.length c)) w4 w4):=yW (aw.refl _ _)
   have HW4:=yW (HW.out.later HB4.out)
   have hw4:=HB4.out.size
   have HML:Hid (∀k,StM W (.slice A xs.length c) k→k<w.heap.size):=yW (fun k hm=>by
    rcases hm with hm | hm
    ·rw [hm];exact HW.out.hd.lt
    ·exact (HW.out.row.lt k hm).2)
   have HP4:=yW (HP2.out.later HY4.out)
   have HA4:=yW (HA2.out.later HY4.out)
   have HYY:=yW (HY.out.later HB4.out)
   have hyl:ys.length≤100000:=by
    have h1:(ys.map FV.f).length=(bE (fs.map FV.f) p.name p.terms.length).length:=by rw [HYS.out]
    have h2:(bE (fs.map FV.f) p.name p.terms.length).length≤(fs.map FV.f).length:=List.length_filter_le _ _
    rw [List.length_map] at h1 h2
    have:=HST.out.few
    omega
   clear HW1 HA1 HB1 HP2 HA2 HW2 HB2 HU3 HB3 HX3
   go_loopw [44] (fun i_ wr=>∃(j:Nat) (held':Int) (xs':List AnV) (A':Option Addr) (c':Nat),j≤ys.length∧i_=.int .i64 j∧Hid (bS ktr (ee (fs.map FV.f) ktr es p ps y.x) (bE (fs.map FV.f) p.name p.terms.length) ⟨held,xs.map AnV.x,0⟩=bS ktr (ee (fs.map FV.f) ktr es p ps y.x) ((bE (fs.map FV.f) p.name p.terms.length).drop j) ⟨held',xs'.map AnV.x,0⟩)∧Hid ((xs'.length:Int)≤held')∧held'≤100000∧0≤held'∧Hid (WkAt base d wr W ⟨kh,kt,.slice (some ⟨bp_,offp,none⟩) body.length cb,ke,ks,kS,ktr⟩ held' xs' A' c' 0)∧Hid (aw (StM W (.slice A xs.length c)) w4 wr)∧Hid (bl w4 (.slice A xs.length c) (.slice A' xs'.length c'))) (fun i_ _=>ys.length-(intOf i_).toNat)
   case atStart=>exact ⟨0,held,xs,A,c,yZ _,rfl,yW rfl,yW hlen,hheld,by omega,HW4,HXA,yW (.inl rfl)⟩
   case round=>
    obtain ⟨j,held',xs',A',c',hj,rfl,HEQ,HLEN,hheld',hh0,HWr,HAG,HFV⟩:=hrel
    have HNM:Hid (∀k,w.heap.size≤k→¬StM W (.slice A xs.length c) k):=yW (fun k hk hm=>by have:=HML.out k hm;omega)
    have HAr:=yW (HAG.out.blk HA4.out (HNM.out _ (yY _)))
    have HPr:=yW (HAG.out.blk HP4.out (HNM.out _ (by omega)))
    have hszr:=HAG.out.size
    by_cases hjl:j<ys.length
    ·have HRr:=yW (HROW.out.agree HAG.out (fun k _ hm=>by have:=HML.out k hm;omega))
     obtain ⟨g,c9,e9,h1,h2,h3,h4,h5,h6,_⟩:=HRr.out.own.sh bF (by omega)
     simp only [Value.slice.injEq,true_and] at e9
     obtain ⟨rfl,rfl⟩:=e9
     obtain ⟨x,hx⟩:∃x,x=ys[j]:=⟨_,rfl⟩
     have q0:wr.cell? ⟨g,j*3,none⟩=some (.string x.f.pr.name):=by rw [hx];exact h5 j hjl 0 _ rfl
     have q1:wr.cell? ⟨g,j*3+1,none⟩=some (.slice x.a x.f.pr.terms.length x.c):=by rw [hx];exact h5 j hjl 1 _ rfl
     have q2:wr.cell? ⟨g,j*3+2,none⟩=some (.int .u32 x.f.o):=by rw [hx];exact h5 j hjl 2 _ rfl
     have HXR:Hid ((ax (d+1)).rd wr wr.heap.size x.f x.cs):=yW (by rw [hx];exact (HRr.out.deep _ (List.getElem_mem hjl)).2.here)
     have HXO:Hid (FcOk x.f):=yW (by rw [hx];exact (HRr.out.deep _ (List.getElem_mem hjl)).1)
     have HXL:Hid (x.f∈bE (fs.map FV.f) p.name p.terms.length∧(bE (fs.map FV.f) p.name p.terms.length).drop j=x.f::(bE (fs.map FV.f) p.name p.terms.length).drop (j+1)):=yW (by
      have hl:(ys.map FV.f).length=ys.length:=List.length_map _
      rw [←HYS.out]
      refine ⟨List.mem_map_of_mem (hx▸List.getElem_mem hjl),?_⟩
      rw [List.drop_eq_getElem_cons (by rw [hl];exact hjl),List.getElem_map,hx])
     have hI2:(0:Int)≤(j:Int):=Int.natCast_nonneg _
     have hI3:(j:Int)<(ys.length:Int):=by omega
     have HGL:Hid (g<wr.heap.size):=yW h1
     have HXS:Hid (∀w',aw (StM W (.slice A xs.length c)) w4 w'→(ax (d+1)).rd w' w'.heap.size x.f x.cs):=yW (fun w' h=>by
      rw [hx]
      exact ((HROW.out.deep _ (List.getElem_mem hjl)).2 w' (h.mono fun k hk hm=>.inl (by have:=HML.out k hm;omega))))
     clear h1 h2 h3 h4 h5 h6 hx
     go_upto_region 7 with fail
     generalize hWW:World.alloc _ _=w5
     obtain ⟨hb5,hz5⟩:=al1 hWW
     have HT5:=yW (n11 hWW)
     have HA5:=yW (HAr.out.later hb5)
     have HP5:=yW (HPr.out.later hb5)
     have HW5:=yW (HWr.out.later hb5)
     have HU5:=yW hb5
     have hsz5:=hb5.size
     clear hWW hb5 q0 q1 q2
     have q_t:=HT5.out.regrown
     have q_w:=HW5.out.hd.regrown
     unfold wkA at q_w
     have HAG5:Hid (aw (StM W (.slice A xs.length c)) w4 w5):=yW (HAG.out.trans (N:=fun _=>False) (aw.of_below HU5.out) (fun _ _ h=>h.elim))
     by_cases hbad:yc ktr x.f=true
     ·have HGOON:Hid (bS ktr (ee (fs.map FV.f) ktr es p ps y.x) (bE (fs.map FV.f) p.name p.terms.length) ⟨held,xs.map AnV.x,0⟩=bS ktr (ee (fs.map FV.f) ktr es p ps y.x) ((bE (fs.map FV.f) p.name p.terms.length).drop (j+1)) ⟨held',xs'.map AnV.x,0⟩):=yW (by rw [HEQ.out,HXL.out.2,bS,if_pos hbad])
      unfold yc at hbad
      refine wp_region_quiet_below (by kernel_rfl) (by kernel_rfl) ?_
      repeat (go_big_quiet_step (fail))
      refine wpQuiet_nil ?_
      intro w6 hw_
      have hb:Below w5.heap.size w5 w6:=by obtain ⟨p_,rfl⟩:=hw_;exact below_regrown _ _ _
      have HU6:=yW hb
      clear hw_ q_t q_w hb
      go_wp2_with fail
      go_roundw
      case rel=>exact ⟨j+1,held',xs',A',c',by omega,by go_num,HGOON,HLEN,hheld',hh0,yW (HW5.out.later HU6.out),yW (HAG5.out.trans (N:=fun _=>False) (aw.of_below HU6.out) (fun _ _ h=>h.elim)),HFV⟩
      case measure=>simp [intOf];omega
     ·have HBAD:=yW hbad
      have hbad':(bits .andNot .u32 x.f.o ktr !=0)=false:=by unfold yc at hbad;simpa using hbad
      clear hbad
      refine wp_region_quiet_below (by kernel_rfl) (by kernel_rfl) ?_
      repeat (go_big_quiet_step (fail))
      refine wpQuiet_nil ?_
      intro w6 hw_
      have hb:Below w5.heap.size w5 w6:=by obtain ⟨p_,rfl⟩:=hw_;exact below_regrown _ _ _
      have HU6:=yW hb
      have hsz6:=hb.size
      clear hw_ q_t q_w hb
      have HW6:=yW (HW5.out.later HU6.out)
      have HA6:=yW (HA5.out.later HU6.out)
      have HP6:=yW (HP5.out.later HU6.out)
      have HT6:=yW (HT5.out.later HU6.out)
      have HAG6:Hid (aw (StM W (.slice A xs.length c)) w4 w6):=yW (HAG5.out.trans (N:=fun _=>False) (aw.of_below HU6.out) (fun _ _ h=>h.elim))
      clear HAG5 HW5 HA5 HP5 HT5
      have k_w:=HW6.out.hd.cell
      have l_w:=HW6.out.hd.lt
      have f_w:=HW6.out.hd.free
      unfold wkA at k_w
      by_cases hmost:100000≤held'
      ·have g1:decide (held'≥100000)=true:=by simpa using hmost
       have g2:decide ((100000:Int)≤held')=true:=by simpa using hmost
       have HEND:Hid (bS ktr (ee (fs.map FV.f) ktr es p ps y.x) (bE (fs.map FV.f) p.name p.terms.length) ⟨held,xs.map AnV.x,0⟩=⟨held',xs'.map AnV.x,4⟩):=yW (by rw [HEQ.out,HXL.out.2,bS,if_neg HBAD.out,if_pos hmost])
       clear hmost
       go_wp2_with fail
       refine bodyPost_ret (results_none rfl _ _ _) rfl ?_
       rw [bR,HEND.out]
       exact ⟨xs',A',c',rfl,rfl,HW6.out.put rfl,((aw.of_below HB4.out).trans HAG6.out (fun _ _ h=>h)).set_ (fun _=>.inl rfl) 9 _,HFV.out.imp id (fun ⟨q,e1,e2⟩=>⟨q,e1,by omega⟩)⟩
      ·have g1:decide (held'≥100000)=false:=by simpa using hmost
       have g2:decide ((100000:Int)≤held')=false:=by simpa using hmost
       have hlt9:held'<100000:=by omega
       have HGOON:Hid (bS ktr (ee (fs.map FV.f) ktr es p ps y.x) (bE (fs.map FV.f) p.name p.terms.length) ⟨held,xs.map AnV.x,0⟩=if ((ee (fs.map FV.f) ktr es p ps y.x) x.f ⟨held'+1,xs'.map AnV.x,0⟩).e≠0 then (ee (fs.map FV.f) ktr es p ps y.x) x.f ⟨held'+1,xs'.map AnV.x,0⟩ else bS ktr (ee (fs.map FV.f) ktr es p ps y.x) ((bE (fs.map FV.f) p.name p.terms.length).drop (j+1)) ((ee (fs.map FV.f) ktr es p ps y.x) x.f ⟨held'+1,xs'.map AnV.x,0⟩)):=yW (by rw [HEQ.out,HXL.out.2,bS,if_neg HBAD.out,if_neg hmost])
       clear hmost
       go_upto_region 11 with fail
       clear g1 g2 k_w l_w f_w
       have HW7:Hid (WkAt base d (w6.setCell ⟨W,7,none⟩ (.int .i64 (held'+1))) W ⟨kh,kt,.slice (some ⟨bp_,offp,none⟩) body.length cb,ke,ks,kS,ktr⟩ (held'+1) xs' A' c' 0):=yW (HW6.out.put rfl)
       have HA7:=yW (HA6.out.far (c:=W) (by omega) 7 (.int .i64 (held'+1)))
       have HP7:=yW (HP6.out.far (c:=W) (by omega) 7 (.int .i64 (held'+1)))
       have HT7:=yW (HT6.out.far (c:=W) (by omega) 7 (.int .i64 (held'+1)))
       have HAG7:Hid (aw (StM W (.slice A xs.length c)) w4 (w6.setCell ⟨W,7,none⟩ (.int .i64 (held'+1)))):=yW (HAG6.out.set_ (fun _=>.inl rfl) 7 _)
       have hsz7:w6.heap.size≤(w6.setCell ⟨W,7,none⟩ (.int .i64 (held'+1))).heap.size:=by rw [World.size_setCell];exact yY _
       generalize w6.setCell ⟨W,7,none⟩ (.int .i64 (held'+1))=w7 at *
       have HBB7:Hid (Below B w4 w7):=yW (HAG7.out.below (fun k hk hm=>by
        have h0:=HST.out.hB
        rcases hm with hm | hm
        ·omega
        ·have h1:=(HW.out.row.lt k hm).1
         have h2:=HW.out.lt
         omega) (by omega))
       have HPR7:Hid ((PrR (d+1)).rd w7 B p [.string p.name,.slice Ap p.terms.length cp]):=yW ((PrR (d+1)).keep HBB7.out (yY _) ((PrR (d+1)).keep (HB4.out.mono hBw) (yY _) HPR.out))
       have HXF7:Hid ((PrR (d+1)).rd w7 w7.heap.size x.f.pr [.string x.f.pr.name,.slice x.a x.f.pr.terms.length x.c]):=yW (fact_pr (HXS.out w7 HAG7.out))
       have HY7:=yW (mG (HYY.out w7 HAG7.out))
       have HMF:Hid (gC x.f.pr=true):=yW (mV HMP.out HXO.out (sE HXL.out.1).2)
       have hB7:B≤w7.heap.size:=by omega
       have k_a:=HA7.out.cell
       have l_a:=HA7.out.lt
       have k_p:=HP7.out.cell
       have l_p:=HP7.out.lt
       have k_t:=HT7.out.cell
       have l_t:=HT7.out.lt
       go_wp2_with fail
       refine (xc (d:=d) (cn:=y.cn) (ct:=y.ct) (vp:=[_,_]) (vf:=[_,_]) ((PrR (d+1)).wide hB7 HPR7.out) HXF7.out HY7.out.1 HY7.out.2 HMP.out HMF.out HOK.out.1 (yY _)).mono ?_
       rintro z w8 ⟨⟨An2,cn2,At2,ct2,zs,rfl,hq⟩,hb8⟩
       have HQ:=yW hq
       have HU8:=yW hb8
       have HW8:=yW (HW7.out.later hb8)
       have HA8:=yW (HA7.out.later hb8)
       have HT8:=yW (HT7.out.later hb8)
       have hsz8:=hb8.size
       clear hq hb8 k_a l_a k_p l_p k_t l_t
       go_upto_region 12 with fail
       generalize hWW:World.alloc _ _=w9
       obtain ⟨hb9,hz9⟩:=al1 hWW
       have HU9:=yW (ab HU8.out hb9)
       have HW9:=yW (HW8.out.later hb9)
       have HD9:=yW (n11 hWW)
       have HA9:=yW (HA8.out.later hb9)
       have HT9:=yW (HT8.out.later hb9)
       have HQ9:=yW (HQ.out.later hb9)
       have hsz9:=hb9.size
       have HAG9:Hid (aw (StM W (.slice A xs.length c)) w4 w9):=yW (HAG7.out.trans (N:=fun _=>False) (aw.of_below HU9.out) (fun _ _ h=>h.elim))
       clear hWW hb9
       rcases hfit:gJ p x.f.pr y.x.b with _ | cb2
       ·have HS1:Hid ((ee (fs.map FV.f) ktr es p ps y.x) x.f ⟨held'+1,xs'.map AnV.x,0⟩=⟨held'+1,xs'.map AnV.x,0⟩):=yW (by unfold ee;rw [hfit])
        rw [hfit] at HD9
        simp only [Option.getD_none,Option.isSome_none] at HD9 ⊢
        clear hfit HQ HQ9
        have k_w:=HW9.out.hd.cell
        have l_w:=HW9.out.hd.lt
        unfold wkA at k_w
        go_wp2_with fail
        go_roundw
        case rel=>exact ⟨j+1,held'+1,xs',A',c',by omega,by go_num,yW (by rw [HGOON.out,HS1.out];rfl),yW (by have:=HLEN.out;omega),by omega,by omega,HW9,HAG9,HFV⟩
        case measure=>simp [intOf];omega
       ·have HS1:Hid ((ee (fs.map FV.f) ktr es p ps y.x) x.f ⟨held'+1,xs'.map AnV.x,0⟩=cU (fs.map FV.f) ktr es ps ⟨cb2,orO y.x.o x.f.o⟩ ⟨held'+1,xs'.map AnV.x,0⟩):=yW (by unfold ee;rw [hfit])
        have HCB:=yW (wY hfit)
        rw [hfit] at HQ9 HD9
        simp only [Option.getD_some,Option.isSome_some] at HQ9 HD9 ⊢
        clear hfit HQ
        have k_d:=HD9.out.cell
        have l_d:=HD9.out.lt
        have k_a:=HA9.out.cell
        have l_a:=HA9.out.lt
        have k_t:=HT9.out.cell
        have l_t:=HT9.out.lt
        have HB09:Hid (Below w0.heap.size w0 w9):=yW ((ab HB0.out HB4.out).trans (HAG9.out.below (fun k hk hm=>by
         rcases hm with hm | hm
         ·omega
         ·have h1:=(HW.out.row.lt k hm).1
          have h2:=HW.out.lt
          omega) (by omega)))
        go_wp2_with fail
        refine (HIH.out (i+1) HPE.out.2 (by omega) w9 (held'+1) xs' A' c' ⟨⟨cb2,orO y.x.o x.f.o⟩,An2,cn2,At2,ct2⟩ HB09.out HW9.out (wF HQ9.out HCB.out (fun k hk hm=>by
         rcases hm with hm | hm
         ·omega
         ·have:=(HW7.out.row.lt k hm).2;omega)) ⟨HCB.out,or_u32 HOK.out.2 HXO.out.o⟩ (by have:=HLEN.out;omega) (by omega)).mono ?_
        rintro z w10 ⟨xs2,A3,c3,rfl,e1,e2,e3,e4⟩
        have HR1:=yW e1
        have HR2:=yW e2
        have HR3:=yW e3
        have HR4:=yW e4
        clear e1 e2 e3 e4 k_d l_d k_a l_a k_t l_t
        obtain ⟨s,hs⟩:∃s,s=cU (fs.map FV.f) ktr es ps ⟨cb2,orO y.x.o x.f.o⟩ ⟨held'+1,xs'.map AnV.x,0⟩:=⟨_,rfl⟩
        rw [←hs] at HR1 HR2 HS1
        have HSF:Hid (Few ⟨held'+1,xs'.map AnV.x,0⟩ s 1):=yW (hs▸iu)
        clear hs
        have HAG10:Hid (aw (StM W (.slice A xs.length c)) w4 w10):=yW (HAG9.out.trans HR3.out (fun k hk hm=>by
         rcases hm with hm | hm
         ·exact .inl hm
         ·rcases HFV.out with h | ⟨q,h5,h6⟩
          ·exact .inr (h▸hm)
          ·rw [h5] at hm
           simp only [Option.some.injEq] at hm
           omega))
        have HFV2:Hid (bl w4 (.slice A xs.length c) (.slice A3 xs2.length c3)):=yW (by
         rcases HR4.out with h | ⟨q,h5,h6⟩
         ·rcases HFV.out with h2 | ⟨q,h5,h6⟩
          ·exact .inl (h.trans h2)
          ·exact .inr ⟨q,h.trans h5,h6⟩
         ·exact .inr ⟨q,h5,by have:=HAG9.out.size;omega⟩)
        have k_w:=HR2.out.hd.cell
        have l_w:=HR2.out.hd.lt
        unfold wkA at k_w
        by_cases he:s.e=0
        ·have q1:(s.e !=0)=false:=by simpa using he
         have HE:=yW he
         clear he
         go_wp2_with fail
         go_roundw
         case rel=>exact ⟨j+1,s.held,xs2,A3,c3,by omega,by go_num,yW (by
          rw [HGOON.out,HS1.out,if_neg (by simpa using HE.out)]
          obtain ⟨sh,so,se⟩:=s
          have he:se=0:=HE.out
          subst he
          rw [show xs2.map AnV.x=so from HR1.out]),yW (by
          have h1:=HSF.out.2.2
          have h2:=HLEN.out
          have h3:(xs2.map AnV.x).length=s.out.length:=by rw [HR1.out]
          rw [List.length_map] at h3
          simp only [List.length_map] at h1
          omega),HSF.out.2.1 (by show held'+1≤100000;omega),by have:=HSF.out.1;simp only at this;omega,yW (by have h:=HR2.out;rw [HE.out] at h;exact h),HAG10,HFV2⟩
         case measure=>simp [intOf];omega
        ·have q1:(s.e !=0)=true:=by simpa using he
         have HEND:Hid (bS ktr (ee (fs.map FV.f) ktr es p ps y.x) (bE (fs.map FV.f) p.name p.terms.length) ⟨held,xs.map AnV.x,0⟩=s):=yW (by rw [HGOON.out,HS1.out,if_pos he])
         clear he
         go_wp2_with fail
         refine bodyPost_ret (results_none rfl _ _ _) rfl ?_
         rw [bR,HEND.out]
         exact ⟨xs2,A3,c3,rfl,HR1.out,HR2.out,(aw.of_below HB4.out).trans HAG10.out (fun _ _ h=>h),HFV2.out.imp id (fun ⟨q,e1,e2⟩=>⟨q,e1,by omega⟩)⟩
    ·have HEND:Hid (bS ktr (ee (fs.map FV.f) ktr es p ps y.x) (bE (fs.map FV.f) p.name p.terms.length) ⟨held,xs.map AnV.x,0⟩=⟨held',xs'.map AnV.x,0⟩):=yW (by
      have hl:(ys.map FV.f).length=ys.length:=List.length_map _
      rw [HEQ.out,List.drop_eq_nil_of_le (by rw [←HYS.out,hl];omega)];rfl)
     go_wp2_with fail
     go_end0
     rw [bR,HEND.out]
     exact ⟨xs',A',c',rfl,rfl,HWr.out,(aw.of_below HB4.out).trans HAG.out (fun _ _ h=>h),HFV.out.imp id (fun ⟨q,e1,e2⟩=>⟨q,e1,by omega⟩)⟩
end Go.Proofs.YtdphibjibnffeaaGreat
