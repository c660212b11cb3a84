/- fix.Owned.may, fix.all. -/
import Derived.Test.YtdphibjibnffeaaGreatScope
set_option linter.unusedVariables false
set_option linter.unusedSimpArgs false
set_option maxRecDepth 100000
set_option maxHeartbeats 8000000
namespace Go.Proofs.YtdphibjibnffeaaGreat
open Go.ChangeShapes Go.WideShapes Go.ChangeAt Go.RowKit
structure OwD where
 rule:Ru
 block:Int
 trusted:Int
def iU (o:OwD):Bool:=aP o.rule&&(decide (0≤o.block)&&decide (o.block<8)||decide (o.block=15))
theorem ra {o:OwD} (h:iU o=true):aP o.rule=true∧0≤o.block∧o.block.toNat<16:=by
 unfold iU at h
 simp only [Bool.and_eq_true,Bool.or_eq_true,decide_eq_true_eq] at h
 refine ⟨h.1,?_,?_⟩<;>omega
def jv (o:OwD) (a:Ans):Option Fc:=match gV o.rule.head a.b with | some p=>some ⟨p,orO a.o (jn o.block.toNat)⟩ | none=>none
def aD (fs:List Fc) (o:OwD):List Fc × Int:=((aH fs o.trusted o.rule).1.filterMap (jv o),(aH fs o.trusted o.rule).2)
def fh (fs:List Fc):List OwD→List Fc × Int
 | []=>([],0)
 | o::rs=>if (aD fs o).2≠0 then ([],(aD fs o).2) else if (fh fs rs).2≠0 then ([],(fh fs rs).2) else ((aD fs o).1.filter (fun f=>!fW fs f)++(fh fs rs).1,0)
def az (fs:List Fc) (rs:List OwD):List Fc × Int:=if rs.all iU=true then (if (fh fs rs).2≠0 then ([],(fh fs rs).2) else (setL aW (fh fs rs).1,0)) else ([],1)
def kj (rs:List OwD) (lf lr:Int):Nat→List Fc→Int→Option (List Fc) × Int × Int
 | 0,_,_=>(none,0,11)
 | n+1,fs,k=>if (az fs rs).2≠0 then (none,0,(az fs rs).2) else if (az fs rs).1.length=0 then (some fs,k,0) else if k=lr then (none,0,11) else if lf<fs.length+(az fs rs).1.length then (none,0,10) else kj rs lf lr n ((az fs rs).1.foldl ft fs) (k+1)
def vN (lf lr:Int):Bool:=(decide (1≤lf)&&decide (lf≤1000))&&(decide (1≤lr)&&decide (lr≤100))
def eE (l:List Fc) (rs:List OwD) (lf lr:Int):Option (List Fc) × Int × Int:=
 if vN lf lr=true then (if (l.all aT&&rs.all iU)=true then (if lf<(stL l).length then (none,0,10) else kj rs lf lr 101 (stL l) 0) else (none,0,1)) else (none,0,1)
/-! Numbers. -/
theorem wh (a b:Int):orO a b=((BitVec.ofInt 32 a ||| BitVec.ofInt 32 b).toNat:Int):=by
 have h:=(BitVec.ofInt 32 a ||| BitVec.ofInt 32 b).isLt
 have e:orO a b=((BitVec.ofInt 32 a ||| BitVec.ofInt 32 b).toNat:Int) % 4294967296:=rfl
 rw [e]
 exact Int.emod_eq_of_lt (Int.natCast_nonneg _) (by omega)
theorem zh (a b:Int):U32 (orO a b):=by
 have h:=(BitVec.ofInt 32 a ||| BitVec.ofInt 32 b).isLt
 rw [wh]
 exact ⟨Int.natCast_nonneg _,by omega⟩
theorem wg {a:Int} {k:Nat} (hk:k<16):(orO a (jn k)).toNat.testBit k=true:=by
 rw [wh,Int.toNat_natCast,BitVec.toNat_or,Nat.testBit_or,Bool.or_eq_true]
 right
 have h1:BitVec.ofInt 32 (jn k)=BitVec.ofNat 32 (2 ^ k):=by unfold jn;exact BitVec.ofInt_natCast _ _
 have h2:(2:Nat) ^ k≤2 ^ 15:=Nat.pow_le_pow_right (by omega) (by omega)
 rw [h1,BitVec.toNat_ofNat,Nat.mod_eq_of_lt (by omega),Nat.testBit_two_pow_self]
theorem orO_ne {a:Int} {k:Nat} (hk:k<16):orO a (jn k)≠0:=fun h=>by
 have:=wg (a:=a) hk
 rw [h] at this
 simp at this
/-! Answers. -/
theorem mJ {fs:List Fc} {tr:Int} {es:List (List OpD)}:∀{ps:List Pr} {x:Ans} {s:Wst} {y:Ans},U32 x.o→y∈(du fs tr es ps x s).out→y∈s.out∨U32 y.o
 | [],x,s,y,hx,h=>(kY h).imp id (fun e=>by rw [e];exact hx)
 | p::ps,x,s,y,hx,h=>by
   rw [bW] at h
   refine iO (P:=fun y=>U32 y.o) (fun f s y h=>?_) h
   unfold dK at h
   split at h
   ·exact mJ (zh _ _) h
   ·exact .inl h
theorem mA {fs:List Fc} {tr:Int} {r:Ru} {x:Ans} (h:x∈(aH fs tr r).1):bj x.b=true∧U32 x.o:=by
 rw [dR] at h
 split at h
 ·split at h
  ·have h1:=(dQ _).2.2 x h
   have h0:U32 gZ.o:=by unfold U32;exact ⟨by decide,by decide⟩
   refine ⟨?_,?_⟩
   ·rcases pc (x:=gZ) rfl h1 with h2 | h2
    ·cases h2
    ·exact h2
   ·rcases mJ (x:=gZ) h0 h1 with h2 | h2
    ·cases h2
    ·exact h2
  ·cases h
 ·cases h
theorem oN:∀{ys:List Ans} {p:Ans},(ek eqA p ys).length≤ys.length
 | [],_=>zG _
 | y::ys,p=>by
   rw [ek]
   have:=oN (ys:=ys) (p:=y)
   split<;>simp only [List.length_cons]<;>omega
theorem yK (L:List Ans):(lU L).length≤L.length:=by
 have h:=(gP L).length_eq
 unfold lU
 cases hs:jc L with
 | nil=>simp [cpt]
 | cons p ys=>
   rw [hs] at h
   have:=oN (ys:=ys) (p:=p)
   rw [cpt]
   simp only [List.length_cons] at h ⊢
   omega
theorem ic (fs:List Fc) (tr:Int) (r:Ru):(aH fs tr r).1.length≤1000000:=by
 rw [dR]
 split
 ·split
  ·have h1:=fV (fs:=fs) (tr:=tr) (es:=r.exprs) (ps:=r.body) (x:=gZ) (s:=⟨0,[],0⟩)
   have h2:=h1.2.1 (by decide)
   have h3:=h1.2.2
   have h4:=yK (tP fs tr r).out
   simp at h3
   show (lU _).length≤_
   unfold tP at h4 ⊢
   omega
  ·simp
 ·simp
theorem rM {b:Bd} (hb:OkN b):∀{xs zs:List Tm},(∀x∈xs,lx x=true)→gU b xs=some zs→zs.length=xs.length∧∀z∈zs,af z=true
 | [],zs,_,h=>by cases h;exact ⟨rfl,by simp⟩
 | x::xs,zs,hx,h=>by
   rw [gU] at h
   split at h
   ·rename_i z hz
    split at h
    ·rename_i zs' hzs
     cases h
     obtain ⟨h1,h2⟩:=rM hb (fun y hy=>hx y (by simp [hy])) hzs
     refine ⟨by simp [h1],fun u hu=>?_⟩
     rcases List.mem_cons.1 hu with rfl | hu
     ·unfold nE at hz
      split at hz
      ·exact mN hb hz
      ·rename_i hk
       cases hz
       unfold af
       rw [decide_eq_true hk,hx _ (by simp)];rfl
     ·exact h2 u hu
    ·cases h
   ·cases h
theorem fill_ok {p q:Pr} {b:Bd} (h:gV p b=some q):q.name=p.name∧q.terms.length=p.terms.length∧aE p=true∧∀t∈q.terms,af t=true:=by
 unfold gV at h
 split at h
 ·rename_i hm
  split at h
  ·rename_i zs hz
   cases h
   obtain ⟨h1,h2⟩:=rM (dS.1 hm.2).1 (gi hm.1).2 hz
   exact ⟨rfl,h1,hm.1,h2⟩
  ·cases h
 ·cases h
structure HeadOf (o:OwD) (f:Fc):Prop where
 name:f.pr.name=o.rule.head.name
 len:f.pr.terms.length=o.rule.head.terms.length
 bit:f.o.toNat.testBit o.block.toNat=true
theorem vq {o:OwD} {a:Ans} {f:Fc} (ho:iU o=true) (h:jv o a=some f):aT f=true∧FcOk f∧HeadOf o f:=by
 unfold jv at h
 split at h
 ·rename_i p hp
  cases h
  obtain ⟨h1,h2,h3,h4⟩:=fill_ok hp
  have hk:=(ra ho).2.2
  have hn:fC (bs o.rule.head.name)=true:=by
   unfold aE at h3
   simp only [Bool.and_eq_true] at h3
   exact h3.1.1.1
  have h8:=(gi h3).1
  have hst:aT ⟨p,orO a.o (jn o.block.toNat)⟩=true:=by
   unfold aT
   rw [decide_eq_true (orO_ne hk),h1,hn,h2,decide_eq_true h8,List.all_eq_true.2 h4];rfl
  have hs:p.name.size≤140737488351232:=by
   rw [h1]
   have:=(gj _).1 hn
   omega
  exact ⟨hst,kE hst hs (zh _ _),⟨h1,h2,wg hk⟩⟩
 ·cases h
section
variable {fs gs:List Fc} {rs rs':List OwD} {f:Fc} {lf lr:Int}
theorem td {o:OwD} (ho:iU o=true) (h:f∈(aD fs o).1):aT f=true∧FcOk f∧HeadOf o f:=by
 obtain ⟨a,_,h2⟩:=List.mem_filterMap.1 h
 exact vq ho h2
theorem fi:∀{rs:List OwD},(fh fs rs).2=0↔∀o∈rs,(aD fs o).2=0
 | []=>by simp [fh]
 | o::rs=>by
   rw [fh]
   split
   ·rename_i h
    constructor
    ·intro h1;exact absurd h1 h
    ·intro h1;exact h1 o (by simp)
   ·rename_i h
    split
    ·rename_i h2
     constructor
     ·intro h1;exact absurd h1 h2
     ·intro h1;exact fi.2 (fun p hp=>h1 p (by simp [hp]))
    ·rename_i h2
     refine ⟨fun _ p hp=>?_,fun _=>rfl⟩
     rcases List.mem_cons.1 hp with rfl | hp
     ·exact Classical.not_not.1 h
     ·exact fi.1 (Classical.not_not.1 h2) p hp
theorem kB:∀{rs:List OwD},(fh fs rs).2=0→(f∈(fh fs rs).1↔∃o∈rs,f∈(aD fs o).1∧fW fs f=false)
 | [],_=>by simp [fh]
 | o::rs,h=>by
   have h0:=fi.1 h
   have h1:(aD fs o).2=0:=h0 o (by simp)
   have h2:(fh fs rs).2=0:=fi.2 fun p hp=>h0 p (by simp [hp])
   rw [fh,if_neg (by simp [h1]),if_neg (by simp [h2])]
   show f∈_++_↔_
   rw [List.mem_append,kB h2,List.mem_filter]
   constructor
   ·rintro (⟨a,b⟩ | ⟨p,a,b⟩)
    ·exact ⟨o,by simp,a,by simpa using b⟩
    ·exact ⟨p,by simp [a],b⟩
   ·rintro ⟨p,a,b⟩
    rcases List.mem_cons.1 a with rfl | a
    ·exact .inl ⟨b.1,by simp [b.2]⟩
    ·exact .inr ⟨p,a,b⟩
theorem iZ:(az fs rs).2=0↔rs.all iU=true∧∀o∈rs,(aD fs o).2=0:=by
 unfold az
 split
 ·rename_i h1
  split
  ·rename_i h2
   constructor
   ·intro h;exact absurd h h2
   ·intro h;exact fi.2 h.2
  ·rename_i h2
   exact ⟨fun _=>⟨h1,fi.1 (Classical.not_not.1 h2)⟩,fun _=>rfl⟩
 ·rename_i h1
  constructor
  ·intro h;cases h
  ·intro h;exact absurd h.1 h1
theorem eR (h:(az fs rs).2=0):(az fs rs).1=setL aW (fh fs rs).1∧(fh fs rs).2=0:=by
 have h1:=iZ.1 h
 have h2:=fi.2 h1.2
 unfold az
 rw [if_pos h1.1,if_neg (by simp [h2])]
 exact ⟨rfl,h2⟩
theorem we (h:(az fs rs).2=0) (hf:f∈(fh fs rs).1):aT f=true∧FcOk f∧∃o∈rs,HeadOf o f:=by
 obtain ⟨o,h1,h2,_⟩:=(kB (eR h).2).1 hf
 obtain ⟨h3,h4,h5⟩:=td (List.all_eq_true.1 (iZ.1 h).1 o h1) h2
 exact ⟨h3,h4,o,h1,h5⟩
theorem vZ (h:(az fs rs).2=0):∀a∈(fh fs rs).1,∀b∈(fh fs rs).1,aW a b=0→a=b:=fun a ha b hb e=>(gH (we h ha).2.1 (we h hb).2.1).1 e
theorem pN (h:(az fs rs).2=0):bi (az fs rs).1:=by rw [(eR h).1];exact lQ aS (vZ h)
theorem ja (h:(az fs rs).2=0):f∈(az fs rs).1↔∃o∈rs,f∈(aD fs o).1∧fW fs f=false:=by
 rw [(eR h).1,sq aS (vZ h),kB (eR h).2]
theorem fl (h:(az fs rs).2=0) (hf:f∈(az fs rs).1):aT f=true∧FcOk f∧∃o∈rs,HeadOf o f:=
 we h ((kB (eR h).2).2 ((ja h).1 hf))
structure StF (fs:List Fc):Prop where
 sort:bi fs
 ok:∀x∈fs,FcOk x
 st:∀x∈fs,aT x=true
theorem StF.has (h:StF fs) (hf:FcOk f):fW fs f=true↔f∈fs:=rV h.sort h.ok hf
theorem StF.more (h:StF fs) (hr:(az fs rs).2=0):StF ((az fs rs).1.foldl ft fs)∧∀x,x∈(az fs rs).1.foldl ft fs↔x∈fs∨x∈(az fs rs).1:=by
 have hin:∀f∈(az fs rs).1,sA f:=fun f hf=>⟨(fl hr hf).2.1.name,(fl hr hf).2.1.o⟩
 obtain ⟨h1,h2,h3⟩:=jd (az fs rs).1 fs h.sort h.ok hin
 have h4:∀x,x∈(az fs rs).1.foldl ft fs↔x∈fs∨x∈(az fs rs).1:=fun x=>by
  rw [h3]
  exact or_congr_right ⟨fun k=>k.1,fun k=>⟨k,(fl hr k).1⟩⟩
 refine ⟨⟨h1,h2,fun x hx=>?_⟩,h4⟩
 rcases (h4 x).1 hx with k | k
 ·exact h.st x k
 ·exact (fl hr k).1
theorem StF.of {l:List Fc} (hl:∀f∈l,sA f):StF (stL l):=⟨tU hl,zm hl,fun x hx=>((nY hl).1 hx).2⟩
theorem eS:∀{a b:List Fc},bi a→bi b→(∀x∈a,x∈b)→a.Sublist b
 | [],b,_,_,_=>List.nil_sublist b
 | x::a,[],_,_,h=>absurd (h x (by simp)) (by simp)
 | x::a,y::b,ha,hb,h=>by
   unfold bi at ha hb
   rw [List.pairwise_cons] at ha hb
   have hy:∀z∈a,z≠y:=by
    rintro z hz rfl
    rcases List.mem_cons.1 (h x (by simp)) with e | e
    ·have:=ha.1 z hz;rw [e,aS.self] at this;omega
    ·have h1:=ha.1 z hz
     have h2:=hb.1 x e
     have:=aS.anti x z
     omega
   by_cases e:x=y
   ·subst e
    exact (eS ha.2 hb.2 fun z hz=>(List.mem_cons.1 (h z (by simp [hz]))).resolve_left (hy z hz)).cons_cons x
   ·refine (eS (List.pairwise_cons.2 ha) hb.2 fun z hz=>?_).cons y
    rcases List.mem_cons.1 hz with rfl | hz
    ·exact (List.mem_cons.1 (h z (by simp))).resolve_left e
    ·exact (List.mem_cons.1 (h z (by simp [hz]))).resolve_left (hy z hz)
structure RunOk (rs:List OwD) (lf lr:Int) (fs gs:List Fc) (m:Int):Prop where
 st:StF gs
 done:az gs rs=([],0)
 few:(gs.length:Int)≤lf
 rounds:m≤lr
 sub:∀x∈fs,x∈gs
 heads:∀x∈gs,x∈fs∨∃o∈rs,HeadOf o x
theorem vj:∀{n:Nat} {fs:List Fc} {k:Int},StF fs→k≤lr→(fs.length:Int)≤lf→(kj rs lf lr n fs k).2.2=0→∃gs m,kj rs lf lr n fs k=(some gs,m,0)∧0≤m-k∧RunOk rs lf lr fs gs m
 | 0,fs,k,_,_,_,h=>by cases h
 | n+1,fs,k,hs,hk,hf,h=>by
   rw [kj] at h ⊢
   split
   ·rename_i h1;rw [if_pos h1] at h;exact absurd h h1
   ·rename_i h1
    rw [if_neg h1] at h
    have h1':=Classical.not_not.1 h1
    split
    ·rename_i h2
     refine ⟨fs,k,rfl,by omega,hs,Prod.ext (List.eq_nil_of_length_eq_zero h2) h1',hf,hk,fun _ hx=>hx,fun _ hx=>.inl hx⟩
    ·rename_i h2
     rw [if_neg h2] at h
     split
     ·rename_i h3;rw [if_pos h3] at h;cases h
     ·rename_i h3
      rw [if_neg h3] at h
      split
      ·rename_i h4;rw [if_pos h4] at h;cases h
      ·rename_i h4
       rw [if_neg h4] at h
       obtain ⟨k1,k2⟩:=hs.more h1'
       have k3:=rt (az fs rs).1 fs
       obtain ⟨gs,m,e,h5,h6⟩:=vj k1 (by omega) (by omega) h
       refine ⟨gs,m,e,by omega,h6.st,h6.done,h6.few,h6.rounds,fun x hx=>h6.sub x ((k2 x).2 (.inl hx)),fun x hx=>?_⟩
       rcases h6.heads x hx with h7 | h7
       ·exact ((k2 x).1 h7).imp id fun h8=>(fl h1' h8).2.2
       ·exact .inr h7
theorem pO {l:List Fc} (hl:∀f∈l,sA f) (h:(eE l rs lf lr).2.2=0):∃gs m,eE l rs lf lr=(some gs,m,0)∧0≤m∧RunOk rs lf lr (stL l) gs m∧l.all aT=true∧rs.all iU=true∧vN lf lr=true∧kj rs lf lr 101 (stL l) 0=(some gs,m,0):=by
 unfold eE at h ⊢
 split
 ·rename_i h1
  rw [if_pos h1] at h
  split
  ·rename_i h2
   rw [if_pos h2] at h
   rw [Bool.and_eq_true] at h2
   split
   ·rename_i h3;rw [if_pos h3] at h;cases h
   ·rename_i h3
    rw [if_neg h3] at h
    have h1':=h1
    simp only [vN,Bool.and_eq_true,decide_eq_true_eq] at h1'
    obtain ⟨gs,m,e,h4,h5⟩:=vj (StF.of hl) (by omega) (by omega) h
    exact ⟨gs,m,e,by omega,h5,h2.1,h2.2,h1,e⟩
  ·rename_i h2;rw [if_neg h2] at h;cases h
 ·rename_i h1;rw [if_neg h1] at h;cases h
theorem qK {o:OwD} (hf:fs.Sublist gs) (he:(aD gs o).2=0) (h:f∈(aD fs o).1):f∈(aD gs o).1:=by
 obtain ⟨a,h1,h2⟩:=List.mem_filterMap.1 h
 obtain ⟨_,_,_,h3⟩:=ox hf he
 obtain ⟨y,h4,h5⟩:=h3 a h1
 obtain rfl:=yZ (mA h4).1 (mA h1).1 h5
 exact List.mem_filterMap.2 ⟨y,h4,h2⟩
theorem rQ (hg:StF gs) (hd:az gs rs=([],0)):∀{n:Nat} {fs hs:List Fc} {k m:Int},StF fs→(∀x∈fs,x∈gs)→kj rs lf lr n fs k=(some hs,m,0)→∀x∈hs,x∈gs
 | 0,fs,hs,k,m,_,_,h=>by cases h
 | n+1,fs,hs,k,m,h0,h1,h=>by
   rw [kj] at h
   split at h
   ·cases h
   ·rename_i h2
    have h2':=Classical.not_not.1 h2
    split at h
    ·cases h;exact h1
    ·split at h
     ·cases h
     ·split at h
      ·cases h
      ·obtain ⟨k1,k2⟩:=h0.more h2'
       refine rQ hg hd k1 (fun x hx=>?_) h
       rcases (k2 x).1 hx with k3 | k3
       ·exact h1 x k3
       ·have hd2:(az gs rs).2=0:=by rw [hd]
        obtain ⟨o,ho,k4,_⟩:=(ja h2').1 k3
        have k5:=qK (eS h0.sort hg.sort h1) ((iZ.1 hd2).2 o ho) k4
        have k6:=(fl h2' k3).2.1
        rw [←hg.has k6]
        by_cases k7:fW gs x=true
        ·exact k7
        ·have:=(ja hd2).2 ⟨o,ho,k5,by simpa using k7⟩
         rw [hd] at this
         cases this
theorem yC {l:List Fc} {g:Fc} {s t:List Fc} {m k:Int} (hl:∀f∈l++[g],sA f) (h1:eE l rs lf lr=(some s,m,0)) (h2:eE (l++[g]) rs lf lr=(some t,k,0)) :
 StF s∧StF t∧(∀x∈s,x∈t)∧g∈t∧FcOk g∧∃u,eE l [] lf lr=(some u,0,0)∧StF u∧(∀x∈u,x∈s)∧u.length≤s.length:=by
 have hl1:∀f∈l,sA f:=fun f hf=>hl f (by simp [hf])
 obtain ⟨s',m',e1,_,a1,a2,a3,a4,a5⟩:=pO hl1 (by rw [h1])
 obtain ⟨t',k',e2,_,b1,b2,b3,b4,b5⟩:=pO hl (by rw [h2])
 rw [h1] at e1
 rw [h2] at e2
 cases e1
 cases e2
 have hsub:∀x∈stL l,x∈stL (l++[g]):=fun x hx=>by
  rw [nY hl1] at hx
  rw [nY hl]
  exact ⟨by simp [hx.1],hx.2⟩
 have hg:g∈stL (l++[g]):=(nY hl).2 ⟨by simp,List.all_eq_true.1 b2 g (by simp)⟩
 refine ⟨a1.st,b1.st,rQ b1.st b1.done (StF.of hl1) (fun x hx=>b1.sub x (hsub x hx)) a5,b1.sub g hg,zm hl g hg,stL l,?_,StF.of hl1,a1.sub,(eS (StF.of hl1).sort a1.st.sort a1.sub).length_le⟩
 have h3:¬lf<((stL l).length:Int):=by
  have h4:=(eS (StF.of hl1).sort a1.st.sort a1.sub).length_le
  have:=a1.few
  omega
 unfold eE
 rw [if_pos a4,a2,if_pos (show (true&&List.all [] iU)=true from rfl),if_neg h3,kj]
 rfl
end
def rawR (fs:List Fc) (o:OwD):List Fc:=(tP fs o.trusted o.rule).out.filterMap (jv o)
def okR (fs:List Fc) (o:OwD):Bool:=decide ((tP fs o.trusted o.rule).e=0)&&(tP fs o.trusted o.rule).out.all fun x=>bj x.b
theorem sx {L:List Ans} (h:L.all (fun x=>bj x.b)=true) {x:Ans}:x∈lU L↔x∈L:=by
 obtain ⟨_,h1,h2⟩:=dQ L
 refine ⟨h2 x,fun hx=>?_⟩
 obtain ⟨y,hy,e⟩:=h1 x hx
 have h3:=List.all_eq_true.1 h
 obtain rfl:=yZ (h3 y (h2 y hy)) (h3 x hx) e
 exact hy
theorem rk {fs:List Fc} {o:OwD} (h1:iU o=true) (h:okR fs o=true):(aD fs o).2=0∧∀f,f∈(aD fs o).1↔f∈rawR fs o:=by
 unfold okR at h
 simp only [Bool.and_eq_true,decide_eq_true_eq] at h
 obtain ⟨h2,h3⟩:=h
 have hm:=(ra h1).1
 have e:aH fs o.trusted o.rule=(lU (tP fs o.trusted o.rule).out,0):=by
  rw [dR,if_pos (by rw [hm];rfl),if_pos h2]
 unfold aD
 rw [e]
 refine ⟨rfl,fun f=>?_⟩
 unfold rawR
 rw [List.mem_filterMap,List.mem_filterMap]
 exact ⟨fun ⟨a,ha,k⟩=>⟨a,(sx h3).1 ha,k⟩,fun ⟨a,ha,k⟩=>⟨a,(sx h3).2 ha,k⟩⟩
theorem nT {fs X:List Fc} {rs:List OwD} (h0:rs.all iU=true) (h1:rs.all (okR fs)=true) (hX:(rs.flatMap fun o=>(rawR fs o).filter fun f=>!fW fs f)=X) (hs:bi X):az fs rs=(X,0):=by
 have h2:∀o∈rs,_:=fun o ho=>rk (List.all_eq_true.1 h0 o ho) (List.all_eq_true.1 h1 o ho)
 have h3:(az fs rs).2=0:=iZ.2 ⟨h0,fun o ho=>(h2 o ho).1⟩
 refine Prod.ext (mZ (pN h3) hs fun f=>?_) h3
 rw [ja h3,←hX,List.mem_flatMap]
 constructor
 ·rintro ⟨o,ho,h4,h5⟩
  exact ⟨o,ho,List.mem_filter.2 ⟨((h2 o ho).2 f).1 h4,by rw [h5];rfl⟩⟩
 ·rintro ⟨o,ho,h4⟩
  obtain ⟨h5,h6⟩:=List.mem_filter.1 h4
  exact ⟨o,ho,((h2 o ho).2 f).2 h5,by simpa using h6⟩
theorem vi {fs gs X:List Fc} {rs:List OwD} {lf lr k k':Int} {n:Nat} (h:az fs rs=(X,0)) (h1:X.length≠0) (h2:k≠lr) (h3:¬lf<(fs.length:Int)+(X.length:Int)) (h4:X.foldl ft fs=gs) (hk:k+1=k'):kj rs lf lr (n+1) fs k=kj rs lf lr n gs k':=by
 subst hk
 rw [kj,h,if_neg (show ¬((X,(0:Int)).2≠0) by simp),if_neg h1,if_neg h2,if_neg h3,h4]
theorem xQ {fs:List Fc} {rs:List OwD} {lf lr k:Int} {n:Nat} (h:az fs rs=([],0)):kj rs lf lr (n+1) fs k=(some fs,k,0):=by
 rw [kj,h,if_neg (show ¬((([]:List Fc),(0:Int)).2≠0) by simp),if_pos (by rfl)]
def pwP:ByteArray:=⟨#[112,97,116,104]⟩
def pwE:ByteArray:=⟨#[101,100,103,101]⟩
def pwV (b:UInt8):Tm:=⟨1,0,⟨#[b]⟩,[]⟩
def pwN (n:Int):Tm:=⟨2,n,⟨#[]⟩,[]⟩
def pwQ (s:ByteArray) (a b:Tm):Pr:=⟨s,[a,b]⟩
def pwF (s:ByteArray) (a b:Int):Fc:=⟨pwQ s (pwN a) (pwN b),1⟩
def ww:Ru:=⟨pwQ pwP (pwV 120) (pwV 121),[pwQ pwE (pwV 120) (pwV 121)],[],[]⟩
def wy:Ru:=⟨pwQ pwP (pwV 120) (pwV 122),[pwQ pwP (pwV 120) (pwV 121),pwQ pwE (pwV 121) (pwV 122)],[],[]⟩
def pwO (t:Int):List OwD:=[⟨ww,0,t⟩,⟨wy,0,t⟩]
def pw0:List Fc:=[pwF pwE 1 2,pwF pwE 2 3]
def pw1:List Fc:=[pwF pwE 1 2,pwF pwE 2 3,pwF pwP 1 2,pwF pwP 2 3]
def pw2:List Fc:=[pwF pwE 1 2,pwF pwE 2 3,pwF pwP 1 2,pwF pwP 1 3,pwF pwP 2 3]
theorem mK (L M:List aZ):iM (ep L) (ep M)=L.all (fun s=>decide (s∈M)):=by
 unfold iM
 rw [Bool.eq_iff_iff,List.all_eq_true,List.all_eq_true]
 simp only [decide_eq_true_eq,lA]
theorem pw_may1:aP ww=true:=by
 unfold aP
 rw [mK]
 kernel_rfl
theorem pw_may2:aP wy=true:=by
 unfold aP
 rw [mK]
 kernel_rfl
theorem sn (t:Int):(pwO t).all iU=true:=by
 simp only [pwO,List.all_cons,List.all_nil,iU,pw_may1,pw_may2]
 rfl
theorem pw_r0:az pw0 (pwO 1)=([pwF pwP 1 2,pwF pwP 2 3],0):=
 nT (sn 1) (by kernel_rfl) (by kernel_rfl) (List.pairwise_cons.2 ⟨fun x hx=>by
  obtain rfl:=List.mem_singleton.1 hx
  exact of_decide_eq_true (by kernel_rfl),List.pairwise_singleton _ _⟩)
theorem pw_r1:az pw1 (pwO 1)=([pwF pwP 1 3],0):=
 nT (sn 1) (by kernel_rfl) (by kernel_rfl) (List.pairwise_singleton _ _)
theorem pw_r2:az pw2 (pwO 1)=([],0):=
 nT (sn 1) (by kernel_rfl) (by kernel_rfl) List.Pairwise.nil
theorem pw_fix:eE pw0 (pwO 1) 10 5=(some pw2,2,0):=by
 have e0:stL pw0=pw0:=by kernel_rfl
 have e1:[pwF pwP 1 2,pwF pwP 2 3].foldl ft pw0=pw1:=by kernel_rfl
 have e2:[pwF pwP 1 3].foldl ft pw1=pw2:=by kernel_rfl
 have g:kj (pwO 1) 10 5 101 pw0 0=(some pw2,2,0):=by
  rw [vi (n:=100) (k':=1) pw_r0 (by decide) (by decide) (by decide) e1 rfl,vi (n:=99) (k':=2) pw_r1 (by decide) (by decide) (by decide) e2 rfl,xQ (n:=98) pw_r2]
 unfold eE
 rw [if_pos (by kernel_rfl),if_pos (by rw [sn];kernel_rfl),e0,if_neg (by decide),g]
theorem pw_has:fW pw2 (pwF pwP 1 3)=true:=by kernel_rfl
def OwR (d:Nat):Reader OwD where
 k:=7
 rd:=fun w B o vs=>∃v,vs=v++[.int .i64 o.block,.int .u32 o.trusted]∧(RuR d).rd w B o.rule v∧I64 o.block∧U32 o.trusted
 keep:=fun hw hB ⟨v,e,h,ho⟩=>⟨v,e,(RuR _).keep hw hB h,ho⟩
 wide:=fun hB ⟨v,e,h,ho⟩=>⟨v,e,(RuR _).wide hB h,ho⟩
 len:=fun ⟨_,e,h,_⟩=>by rw [e,List.length_append,(RuR _).len h];rfl
theorem jB {d B:Nat} {w:World} {o:OwD} {vs:List Value} (h:(OwR d).rd w B o vs):∃A0 c0 A1 c1 A2 c2 A3 c3,
 vs=[.string o.rule.head.name,.slice A0 o.rule.head.terms.length c0,.slice A1 o.rule.body.length c1,.slice A2 o.rule.exprs.length c2,.slice A3 o.rule.scopes.length c3,.int .i64 o.block,.int .u32 o.trusted] ∧
 (RuR d).rd w B o.rule [.string o.rule.head.name,.slice A0 o.rule.head.terms.length c0,.slice A1 o.rule.body.length c1,.slice A2 o.rule.exprs.length c2,.slice A3 o.rule.scopes.length c3]∧I64 o.block∧U32 o.trusted:=by
 obtain ⟨v,rfl,hr,h1,h2⟩:=h
 have hr':=hr
 obtain ⟨_,_,_,_,rfl,_,⟨A0,c0,rfl,_⟩,⟨A1,c1,rfl,_⟩,⟨A2,c2,rfl,_⟩,⟨A3,c3,rfl,_⟩⟩:=hr
 exact ⟨A0,c0,A1,c1,A2,c2,A3,c3,rfl,hr',h1,h2⟩
theorem yY {α:Type} {l:List α} {p:α→Bool} {k:Nat} {x:α} (h:l[k]? = some x) (hp:p x=false):l.all p=false:=by
 rw [List.all_eq_false]
 exact ⟨x,List.mem_of_getElem? h,by rw [hp];simp⟩
theorem allT3_ {α:Type} {l:List α} {p:α→Bool} {k:Nat} (hk:l.length≤k) (h:∀i (hi:i<k) (hi':i<l.length),p l[i]=true):l.all p=true:=by
 rw [List.all_eq_true]
 intro x hx
 obtain ⟨i,hi,rfl⟩:=List.getElem_of_mem hx
 exact h i (by omega) hi
theorem eU {base d B S c:Nat} {xs:List FV} {A:Option Addr} {f:Fc} {vf:List Value} {w:World} (hs:StA base d w S xs A c) (hf:(ay (d+1)).rd w B f vf) (hB:B≤w.heap.size) (hn:xs.length≤100000) (hft:f.pr.terms.length*40≤140737488351232) :
 Calls Tryz.prog 43 #[.pointer (some ⟨S,0,none⟩),.agg vf.toArray] w fun z w'=>z=.returned (.bool (fW (xs.map FV.f) f))∧Below w.heap.size w w':=by
 obtain ⟨Af,cf,rfl,hsz,h1,h2,h3,hl,ho⟩:=aO hf
 have HS:=zE hs
 have HF:=zE hf
 have HL:=zE hl
 have HO:=zE ho
 clear hs hf hl ho
 go_enter Tryz.func43,Tryz.ntmps43
 have k_s:=HS.out.hd.cell
 have l_s:=HS.out.hd.lt
 go_upto_region 3 with fail
 generalize hW:World.alloc _ _=w2
 obtain ⟨hb,hz⟩:=al1 hW
 have HBA2:=zE (n11 hW)
 have HB2:=zE hb
 have hsz2:=hb.size
 clear hW hb hz k_s l_s
 have HS2:=zE (HS.out.later HB2.out)
 have HRL:=zE (HS2.out.rl (by omega))
 have HLM:Hid ((xs.map FV.f).length=xs.length):=zE (List.length_map _)
 have HF2:=zE ((ay (d+1)).keep HB2.out hB HF.out)
 have hB2:B≤w2.heap.size:=by omega
 have HBS:Hid (∀w9,Below w2.heap.size w2 w9→Calls Tryz.prog 94 #[.slice A xs.length c,.agg #[.string f.pr.name,.slice Af f.pr.terms.length cf,.int .u32 f.o],.func (.func 95) #[] #[]] w9 fun z w'=>z=.returned (.tuple #[.int .i64 (kD (xs.map FV.f) f),.bool (fW (xs.map FV.f) f)])∧Below w9.heap.size w9 w'):=zE (fun w9 hb9=>by
  have h:=kN (d:=d) (e:=d) (B:=w2.heap.size) (c:=c) (fs:=xs.map FV.f) (t:=f) (vt:=[_,_,_]) (A:=A) (w:=w9) (HRL.out.keep hb9 (zG _)) ((ay (d+1)).keep hb9 (zG _) ((ay (d+1)).wide hB2 HF2.out)) (fun x hx=>by
   obtain ⟨y,hy,rfl⟩:=List.mem_map.1 hx
   exact HS.out.ok y hy) (by omega) (by rw [HLM.out];omega) hb9.size (csF (xs.map FV.f) f) (fun i hi=>jP hi) (fun i j hij hj h=>nA HS.out.sort hij hj h)
  rw [HLM.out] at h
  refine h.mono fun z w' ⟨h1,h2⟩=>⟨?_,h2⟩
  rw [h1]
  unfold fW kD
  rw [HLM.out,Bool.decide_and])
 have q_s:=HS2.out.hd.regrown
 have q_a:=HBA2.out.regrown
 generalize kD (xs.map FV.f) f=p at *
 generalize hq:fW (xs.map FV.f) f=q at *
 have HQ:=zE hq
 clear hq
 refine wp_region_quiet_below (by kernel_rfl) (by kernel_rfl) ?_
 repeat (go_big_quiet_step ((go_at_call 94;exact Calls.regrown_of (HBS.out _ (below_regrown _ _ _)))))
 refine wpQuiet_nil ?_
 intro w3 hw_
 have hb:Below w2.heap.size w2 w3:=by obtain ⟨p_,rfl⟩:=hw_;exact below_regrown _ _ _
 clear hw_ q_s q_a
 go_wp2_with fail
 go_ret
 exact ⟨by rw [HQ.out];rfl,ab HB2.out hb⟩
theorem gt {base d S c:Nat} {xs:List FV} {A:Option Addr} {w:World} (hs:StA base d w S xs A c) :
 Calls Tryz.prog 40 #[.pointer (some ⟨S,0,none⟩)] w fun z w'=>z=.returned (.int .i64 xs.length)∧w=w':=by
 have k_s:=hs.hd.cell
 go_enter Tryz.func40,Tryz.ntmps40
 go_wp2_with fail
 go_ret
 exact ⟨rfl,rfl⟩
theorem pU {base d S c:Nat} {xs:List FV} {A:Option Addr} {w:World} (hs:StA base d w S xs A c) (hn:xs.length≤100000) :
 Calls Tryz.prog 22 #[.pointer (some ⟨S,0,none⟩)] w fun z w'=>(∃ys A' c',ys.map FV.f=xs.map FV.f∧z=.returned (.slice A' ys.length c')∧FRow w.heap.size d w' ys A' c')∧Below w.heap.size w w':=by
 have HS:=zE hs
 have k_s:=hs.hd.cell
 clear hs
 go_enter Tryz.func22,Tryz.ntmps22
 go_wp2_with fail
 have h:=fQ (d:=d) (c:=c) (HS.out.rl (by omega)) (fun f hf=>by
  obtain ⟨y,hy,rfl⟩:=List.mem_map.1 hf
  exact HS.out.ok y hy) (by rw [List.length_map];omega) (zG _)
 rw [List.length_map] at h
 refine h.mono ?_
 rintro z w' ⟨⟨ys,A',c',h1,rfl,h2⟩,hb⟩
 have hl:ys.length=xs.length:=by simpa using congrArg List.length h1
 have H:=zE (And.intro h1 (And.intro h2 hb))
 clear h1 h2 hb h
 go_wp2_with fail
 go_ret
 exact ⟨⟨ys,A',c',H.out.1,by rw [hl];rfl,H.out.2.1⟩,H.out.2.2⟩
theorem tC {d B:Nat} {o:OwD} {vo:List Value} {w:World} (ho:(OwR d).rd w B o vo) (hB:B≤w.heap.size) :
 Calls Tryz.prog 145 #[.agg vo.toArray] w fun z w'=>z=.returned (.bool (iU o))∧Below w.heap.size w w':=by
 obtain ⟨A0,c0,A1,c1,A2,c2,A3,c3,rfl,hr,_,_⟩:=jB ho
 have HR:=zE hr
 clear ho hr
 go_enter Tryz.func145,Tryz.ntmps145
 go_upto_region 1 with fail
 generalize hW:World.alloc _ _=w1
 obtain ⟨hb1,hz⟩:=al1 hW
 have HK1:=zE (n11 hW)
 have HB1:=zE hb1
 have hsz1:=hb1.size
 clear hW hb1 hz
 have k_o:=HK1.out.cell
 have l_o:=HK1.out.lt
 go_wp2_with fail
 refine (ly (vs:=[_,_,_,_,_]) ((RuR d).keep HB1.out hB HR.out) (zF hB hsz1)).mono ?_
 rintro z w2 ⟨rfl,hb2⟩
 have HK2:=zE (HK1.out.later hb2)
 have HB2:=zE (ab HB1.out hb2)
 clear hb2 k_o l_o
 have k_o:=HK2.out.cell
 have l_o:=HK2.out.lt
 have HV:Hid (iU o=(aP o.rule&&(decide (0≤o.block)&&decide (o.block<8)||decide (o.block=15)))):=zE rfl
 cases hm:aP o.rule
 ·rw [hm] at HV
  clear hm
  go_wp2_with fail
  go_ret
  exact ⟨ae HV.out.symm,HB2.out⟩
 rw [hm] at HV
 clear hm
 by_cases h0:0≤o.block
 ·by_cases h8:o.block<8
  ·have e:iU o=true:=by rw [HV.out];simp [h0,h8]
   have HE:=zE e
   clear HV e
   go_wp2_with fail
   go_ret
   exact ⟨ae HE.out.symm,HB2.out⟩
  ·have e:iU o=(decide (o.block<8)||o.block==15):=by rw [HV.out,decide_eq_true h0,decide_eq_false h8];by_cases h:o.block=15<;>simp [h]
   have HE:=zE e
   clear HV e
   go_wp2_with fail
   go_ret
   exact ⟨ae HE.out.symm,HB2.out⟩
 ·have e:iU o=false:=by
   rw [HV.out]
   have h15:¬o.block=15:=by omega
   simp [h0,h15]
  have h15:(o.block==15)=false:=by rw [beq_eq_false_iff_ne];omega
  have HE:=zE e
  clear HV e
  go_wp2_with fail
  go_ret
  exact ⟨ae HE.out.symm,HB2.out⟩
theorem mT {d B c:Nat} {rs:List OwD} {A:Option Addr} {w:World} (hl:RL (OwR d) w B rs A) (hn:rs.length≤140737488351232) (hB:B≤w.heap.size) :
 Calls Tryz.prog 88 #[.slice A rs.length c] w fun z w'=>z=.returned (.bool (rs.all iU))∧Below w.heap.size w w':=by
 have HL:=zE hl
 clear hl
 go_enter Tryz.func88,Tryz.ntmps88
 go_upto_region 2 with fail
 go_loopw [7] (fun i wr=>∃k:Nat,k≤rs.length∧i=.int .i64 k∧Hid (Below w.heap.size w wr)∧Hid (∀i (hi:i<k) (hi':i<rs.length),iU rs[i]=true)) (fun i _=>rs.length-(intOf i).toNat)
 case atStart=>exact ⟨0,zH _,rfl,zE (zI _ _),zE (fun i h=>absurd h (by omega))⟩
 case round=>
  obtain ⟨k,hk,rfl,HW,HALL⟩:=hrel
  have hszr:=HW.out.size
  have hBr:B≤wr.heap.size:=zF hB hszr
  by_cases hlt:k<rs.length
  ·obtain ⟨b,off,rfl,hob⟩:=(HL.out.keep HW.out hB).base (zI _ _) hBr (by omega)
   obtain ⟨x,vs,hx,hlen,hcell,hr⟩:=(HL.out.keep HW.out hB).at_ (zI _ _) hBr hlt
   have HX:=zE hx
   have HRX:=zE hr
   obtain ⟨A0,c0,A1,c1,A2,c2,A3,c3,rfl,_,_,_⟩:=jB hr
   have p0:wr.cell? ⟨b,off+k*7,none⟩=some (.string x.rule.head.name):=hcell 0 _ rfl
   have p1:wr.cell? ⟨b,off+k*7+1,none⟩=some (.slice A0 x.rule.head.terms.length c0):=hcell 1 _ rfl
   have p2:wr.cell? ⟨b,off+k*7+2,none⟩=some (.slice A1 x.rule.body.length c1):=hcell 2 _ rfl
   have p3:wr.cell? ⟨b,off+k*7+3,none⟩=some (.slice A2 x.rule.exprs.length c2):=hcell 3 _ rfl
   have p4:wr.cell? ⟨b,off+k*7+4,none⟩=some (.slice A3 x.rule.scopes.length c3):=hcell 4 _ rfl
   have p5:wr.cell? ⟨b,off+k*7+5,none⟩=some (.int .i64 x.block):=hcell 5 _ rfl
   have p6:wr.cell? ⟨b,off+k*7+6,none⟩=some (.int .u32 x.trusted):=hcell 6 _ rfl
   clear hcell hlen hx hr
   go_upto_region 4 with fail
   generalize hW:World.alloc _ _=w3
   obtain ⟨hb3,hz3⟩:=al1 hW
   have HK3:=zE (n11 hW)
   have HB3:=zE (ab HW.out hb3)
   have HR3:=zE ((OwR d).keep hb3 hBr HRX.out)
   have hsz3:=hb3.size
   clear hW hb3 hz3 p0 p1 p2 p3 p4 p5 p6
   have k_r:=HK3.out.cell
   have l_r:=HK3.out.lt
   go_wp2_with fail
   refine (tC (d:=d) (B:=B) (o:=x) (vo:=[_,_,_,_,_,_,_]) ((OwR d).wide (zG _) HR3.out) (by omega)).mono ?_
   rintro z w4 ⟨rfl,hb4⟩
   have HB4:=zE (ab HB3.out hb4)
   clear hb4 k_r l_r
   by_cases hq:iU x=true
   ·have HQ:=zE hq
    rw [hq]
    clear hq
    go_wp2_with fail
    go_roundw
    case rel=>exact ⟨k+1,by omega,by go_num,HB4,zE (fun i hi hi'=>by
     rcases Nat.lt_or_ge i k with h1 | h1
     ·exact HALL.out i h1 hi'
     ·obtain rfl:i=k:=by omega
      rw [(List.getElem?_eq_some_iff.1 HX.out).2];exact HQ.out)⟩
    case measure=>simp [intOf];omega
   ·simp only [Bool.not_eq_true] at hq
    have HV:Hid (rs.all iU=false):=zE (yY HX.out hq)
    rw [hq]
    clear hq
    go_wp2_with fail
    go_ret
    exact ⟨ae HV.out.symm,HB4.out⟩
  ·have HV:Hid (rs.all iU=true):=zE (allT3_ (k:=k) (by omega) HALL.out)
   go_wp2_with fail
   go_ret
   exact ⟨ae HV.out.symm,HW.out⟩
end Go.Proofs.YtdphibjibnffeaaGreat
