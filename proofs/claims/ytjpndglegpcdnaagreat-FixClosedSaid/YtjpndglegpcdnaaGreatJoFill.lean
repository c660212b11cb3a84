/- join.Fill. -/
import Derived.Test.YtjpndglegpcdnaaGreatScopeL
import Derived.Test.YtjpndglegpcdnaaGreatJoFits
set_option linter.unusedVariables false
set_option linter.unusedSimpArgs false
set_option maxRecDepth 100000
set_option maxHeartbeats 8000000
namespace Go.Proofs.YtjpndglegpcdnaaGreat
open Go.ChangeShapes Go.WideShapes Go.ChangeAt Go.RowKit
structure OwD where
 rule:Ru
 block:Int
 trusted:Int
def iF (o:OwD):Bool:=aQ o.rule&&(decide (0≤o.block)&&decide (o.block<8)||decide (o.block=15))
theorem oc {o:OwD} (h:iF o=true):aQ o.rule=true∧0≤o.block∧o.block.toNat<16:=by
 unfold iF at h
 simp only [AN,Bool.or_eq_true,AT] at h
 refine ⟨h.1,?_,?_⟩<;>omega
def jG (o:OwD) (a:Ans):Option Fc:=match gY o.rule.head a.b with | some p=>some ⟨p,orO a.o (jz o.block.toNat)⟩ | none=>none
def aC (fs:List Fc) (o:OwD):List Fc × Int:=((be fs o.trusted o.rule).1.filterMap (jG o),(be fs o.trusted o.rule).2)
def fm (fs:List Fc):List OwD→List Fc × Int
 | []=>([],0)
 | o::rs=>if (aC fs o).2≠0 then ([],(aC fs o).2) else if (fm fs rs).2≠0 then ([],(fm fs rs).2) else ((aC fs o).1.filter (fun f=>!fe fs f)++(fm fs rs).1,0)
def aA (fs:List Fc) (rs:List OwD):List Fc × Int:=if rs.all iF=true then (if (fm fs rs).2≠0 then ([],(fm fs rs).2) else (setL aF (fm fs rs).1,0)) else ([],1)
def kj (rs:List OwD) (lf lr:Int):Nat→List Fc→Int→Option (List Fc) × Int × Int
 | 0,_,_=>(none,0,11)
 | n+1,fs,k=>if (aA fs rs).2≠0 then (none,0,(aA fs rs).2) else if (aA fs rs).1.length=0 then (some fs,k,0) else if k=lr then (none,0,11) else if lf<fs.length+(aA fs rs).1.length then (none,0,10) else kj rs lf lr n ((aA fs rs).1.foldl fd fs) (k+1)
def wE (lf lr:Int):Bool:=(decide (1≤lf)&&decide (lf≤1000))&&(decide (1≤lr)&&decide (lr≤100))
def iv (l:List Fc) (rs:List OwD) (lf lr:Int):Option (List Fc) × Int × Int:=
 if wE lf lr=true then (if (l.all aD&&rs.all iF)=true then (if lf<(stL l).length then (none,0,10) else kj rs lf lr 101 (stL l) 0) else (none,0,1)) else (none,0,1)
/-! Numbers. -/
theorem wT (a b:Int):orO a b=((BitVec.ofInt 32 a ||| BitVec.ofInt 32 b).toNat:Int):=by
 have h:=(BitVec.ofInt 32 a ||| BitVec.ofInt 32 b).isLt
 have e:orO a b=((BitVec.ofInt 32 a ||| BitVec.ofInt 32 b).toNat:Int) % 4294967296:=rfl
 rw [e]
 exact Int.emod_eq_of_lt (Int.natCast_nonneg _) (by omega)
theorem orO_in (a b:Int):U32 (orO a b):=by
 have h:=(BitVec.ofInt 32 a ||| BitVec.ofInt 32 b).isLt
 rw [wT]
 exact ⟨Int.natCast_nonneg _,by omega⟩
theorem wR {a:Int} {k:Nat} (hk:k<16):(orO a (jz k)).toNat.testBit k=true:=by
 rw [wT,Int.toNat_natCast,BitVec.toNat_or,Nat.testBit_or,Bool.or_eq_true]
 right
 have h1:BitVec.ofInt 32 (jz k)=BitVec.ofNat 32 (2 ^ k):=by unfold jz;exact BitVec.ofInt_natCast _ _
 have h2:(2:Nat) ^ k≤2 ^ 15:=Nat.pow_le_pow_right (by omega) (by omega)
 rw [h1,BitVec.toNat_ofNat,Nat.mod_eq_of_lt (by omega),Nat.testBit_two_pow_self]
theorem orO_ne {a:Int} {k:Nat} (hk:k<16):orO a (jz k)≠0:=fun h=>by
 have:=wR (a:=a) hk
 rw [h] at this
 simp at this
/-! Answers. -/
theorem pd:∀{ys:List Ans} {p:Ans},(ey eqA p ys).length≤ys.length
 | [],_=>AG _
 | y::ys,p=>by
   rw [ey]
   have:=pd (ys:=ys) (p:=y)
   split<;>simp only [AV]<;>omega
theorem zr (L:List Ans):(ml L).length≤L.length:=by
 have h:=(gS L).length_eq
 unfold ml
 cases hs:jm L with
 | nil=>simp [cpt]
 | cons p ys=>
   rw [hs] at h
   have:=pd (ys:=ys) (p:=p)
   rw [cpt]
   simp only [AV] at h ⊢
   omega
theorem ii (fs:List Fc) (tr:Int) (r:Ru):(be fs tr r).1.length≤1000000:=by
 rw [lc]
 split
 ·split
  ·have h1:=fZ (fs:=fs) (tr:=tr) (es:=r.exprs) (ps:=r.body) (x:=ju) (s:=⟨0,[],0⟩)
   have h2:=h1.2.1 (by decide)
   have h3:=h1.2.2
   have h4:=zr (zj fs tr r).out
   simp at h3
   show (ml _).length≤_
   unfold zj at h4 ⊢
   omega
  ·simp
 ·simp
theorem si {b:Bd} (hb:OkN b):∀{xs zs:List Tm},(∀x∈xs,fD x=true)→gX b xs=some zs→zs.length=xs.length∧∀z∈zs,af z=true
 | [],zs,_,h=>by cases h;exact ⟨rfl,by simp⟩
 | x::xs,zs,hx,h=>by
   rw [gX] at h
   split at h
   ·rename_i z hz
    split at h
    ·rename_i zs' hzs
     cases h
     obtain ⟨h1,h2⟩:=si hb (fun y hy=>hx y (by simp [hy])) hzs
     refine ⟨by simp [h1],fun u hu=>?_⟩
     rcases List.mem_cons.1 hu with rfl | hu
     ·unfold nR at hz
      split at hz
      ·exact nf hb hz
      ·rename_i hk
       cases hz
       unfold af
       rw [decide_eq_true hk,hx _ (by simp)];rfl
     ·exact h2 u hu
    ·cases h
   ·cases h
theorem fill_ok {p q:Pr} {b:Bd} (h:gY p b=some q):q.name=p.name∧q.terms.length=p.terms.length∧aE p=true∧∀t∈q.terms,af t=true:=by
 unfold gY at h
 split at h
 ·rename_i hm
  split at h
  ·rename_i zs hz
   cases h
   obtain ⟨h1,h2⟩:=si (dW.1 hm.2).1 (go hm.1).2 hz
   exact ⟨rfl,h1,hm.1,h2⟩
  ·cases h
 ·cases h
structure HeadOf (o:OwD) (f:Fc):Prop where
 name:f.pr.name=o.rule.head.name
 len:f.pr.terms.length=o.rule.head.terms.length
 bit:f.o.toNat.testBit o.block.toNat=true
theorem vU {o:OwD} {a:Ans} {f:Fc} (ho:iF o=true) (h:jG o a=some f):aD f=true∧FcOk f∧HeadOf o f:=by
 unfold jG at h
 split at h
 ·rename_i p hp
  cases h
  obtain ⟨h1,h2,h3,h4⟩:=fill_ok hp
  have hk:=(oc ho).2.2
  have hn:dQ (bs o.rule.head.name)=true:=by
   unfold aE at h3
   simp only [AN] at h3
   exact h3.1.1.1
  have h8:=(go h3).1
  have hst:aD ⟨p,orO a.o (jz o.block.toNat)⟩=true:=by
   unfold aD
   rw [decide_eq_true (orO_ne hk),h1,hn,h2,decide_eq_true h8,List.all_eq_true.2 h4];rfl
  have hs:p.name.size≤140737488351232:=by
   rw [h1]
   have:=(ei _).1 hn
   omega
  exact ⟨hst,jp hst hs (orO_in _ _),⟨h1,h2,wR hk⟩⟩
 ·cases h
section
variable {fs gs:List Fc} {rs rs':List OwD} {f:Fc} {lf lr:Int}
theorem tB {o:OwD} (ho:iF o=true) (h:f∈(aC fs o).1):aD f=true∧FcOk f∧HeadOf o f:=by
 obtain ⟨a,_,h2⟩:=List.mem_filterMap.1 h
 exact vU ho h2
theorem fo:∀{rs:List OwD},(fm fs rs).2=0↔∀o∈rs,(aC fs o).2=0
 | []=>by simp [fm]
 | o::rs=>by
   rw [fm]
   split
   ·rename_i h
    constructor
    ·intro h1;exact absurd h1 h
    ·intro h1;exact h1 o (by simp)
   ·rename_i h
    split
    ·rename_i h2
     constructor
     ·intro h1;exact absurd h1 h2
     ·intro h1;exact fo.2 (fun p hp=>h1 p (by simp [hp]))
    ·rename_i h2
     refine ⟨fun _ p hp=>?_,fun _=>rfl⟩
     rcases List.mem_cons.1 hp with rfl | hp
     ·exact Classical.not_not.1 h
     ·exact fo.1 (Classical.not_not.1 h2) p hp
theorem kQ:∀{rs:List OwD},(fm fs rs).2=0→(f∈(fm fs rs).1↔∃o∈rs,f∈(aC fs o).1∧fe fs f=false)
 | [],_=>by simp [fm]
 | o::rs,h=>by
   have h0:=fo.1 h
   have h1:(aC fs o).2=0:=h0 o (by simp)
   have h2:(fm fs rs).2=0:=fo.2 fun p hp=>h0 p (by simp [hp])
   rw [fm,if_neg (by simp [h1]),if_neg (by simp [h2])]
   show f∈_++_↔_
   rw [List.mem_append,kQ h2,List.mem_filter]
   constructor
   ·rintro (⟨a,b⟩ | ⟨p,a,b⟩)
    ·exact ⟨o,by simp,a,by simpa using b⟩
    ·exact ⟨p,by simp [a],b⟩
   ·rintro ⟨p,a,b⟩
    rcases List.mem_cons.1 a with rfl | a
    ·exact .inl ⟨b.1,by simp [b.2]⟩
    ·exact .inr ⟨p,a,b⟩
theorem mc:(aA fs rs).2=0↔rs.all iF=true∧∀o∈rs,(aC fs o).2=0:=by
 unfold aA
 split
 ·rename_i h1
  split
  ·rename_i h2
   constructor
   ·intro h;exact absurd h h2
   ·intro h;exact fo.2 h.2
  ·rename_i h2
   exact ⟨fun _=>⟨h1,fo.1 (Classical.not_not.1 h2)⟩,fun _=>rfl⟩
 ·rename_i h1
  constructor
  ·intro h;cases h
  ·intro h;exact absurd h.1 h1
theorem eW (h:(aA fs rs).2=0):(aA fs rs).1=setL aF (fm fs rs).1∧(fm fs rs).2=0:=by
 have h1:=mc.1 h
 have h2:=fo.2 h1.2
 unfold aA
 rw [if_pos h1.1,if_neg (by simp [h2])]
 exact ⟨rfl,h2⟩
theorem wQ (h:(aA fs rs).2=0) (hf:f∈(fm fs rs).1):aD f=true∧FcOk f∧∃o∈rs,HeadOf o f:=by
 obtain ⟨o,h1,h2,_⟩:=(kQ (eW h).2).1 hf
 obtain ⟨h3,h4,h5⟩:=tB (List.all_eq_true.1 (mc.1 h).1 o h1) h2
 exact ⟨h3,h4,o,h1,h5⟩
theorem wP (h:(aA fs rs).2=0):∀a∈(fm fs rs).1,∀b∈(fm fs rs).1,aF a b=0→a=b:=fun a ha b hb e=>(gI (wQ h ha).2.1 (wQ h hb).2.1).1 e
theorem qc (h:(aA fs rs).2=0):bH (aA fs rs).1:=by rw [(eW h).1];exact me aW (wP h)
theorem qb (h:(aA fs rs).2=0):f∈(aA fs rs).1↔∃o∈rs,f∈(aC fs o).1∧fe fs f=false:=by
 rw [(eW h).1,sL aW (wP h),kQ (eW h).2]
theorem gR (h:(aA fs rs).2=0) (hf:f∈(aA fs rs).1):aD f=true∧FcOk f∧∃o∈rs,HeadOf o f:=
 wQ h ((kQ (eW h).2).2 ((qb h).1 hf))
structure StF (fs:List Fc):Prop where
 sort:bH fs
 ok:∀x∈fs,FcOk x
 st:∀x∈fs,aD x=true
theorem StF.has (h:StF fs) (hf:FcOk f):fe fs f=true↔f∈fs:=sr h.sort h.ok hf
theorem StF.more (h:StF fs) (hr:(aA fs rs).2=0):StF ((aA fs rs).1.foldl fd fs)∧∀x,x∈(aA fs rs).1.foldl fd fs↔x∈fs∨x∈(aA fs rs).1:=by
 have hin:∀f∈(aA fs rs).1,uG f:=fun f hf=>⟨(gR hr hf).2.1.name,(gR hr hf).2.1.o⟩
 obtain ⟨h1,h2,h3⟩:=jn (aA fs rs).1 fs h.sort h.ok hin
 have h4:∀x,x∈(aA fs rs).1.foldl fd fs↔x∈fs∨x∈(aA fs rs).1:=fun x=>by
  rw [h3]
  exact or_congr_right ⟨fun k=>k.1,fun k=>⟨k,(gR hr k).1⟩⟩
 refine ⟨⟨h1,h2,fun x hx=>?_⟩,h4⟩
 rcases (h4 x).1 hx with k | k
 ·exact h.st x k
 ·exact (gR hr k).1
theorem StF.of {l:List Fc} (hl:∀f∈l,uG f):StF (stL l):=⟨um hl,stL_ok hl,fun x hx=>((xy hl).1 hx).2⟩
structure RunOk (rs:List OwD) (lf lr:Int) (fs gs:List Fc) (m:Int):Prop where
 st:StF gs
 done:aA gs rs=([],0)
 few:(gs.length:Int)≤lf
 rounds:m≤lr
 sub:∀x∈fs,x∈gs
 heads:∀x∈gs,x∈fs∨∃o∈rs,HeadOf o x
theorem vO:∀{n:Nat} {fs:List Fc} {k:Int},StF fs→k≤lr→(fs.length:Int)≤lf→(kj rs lf lr n fs k).2.2=0→∃gs m,kj rs lf lr n fs k=(some gs,m,0)∧0≤m-k∧RunOk rs lf lr fs gs m
 | 0,fs,k,_,_,_,h=>by cases h
 | n+1,fs,k,hs,hk,hf,h=>by
   rw [kj] at h ⊢
   split
   ·rename_i h1;rw [if_pos h1] at h;exact absurd h h1
   ·rename_i h1
    rw [if_neg h1] at h
    have h1':=Classical.not_not.1 h1
    split
    ·rename_i h2
     refine ⟨fs,k,rfl,by omega,hs,Prod.ext (List.eq_nil_of_length_eq_zero h2) h1',hf,hk,fun _ hx=>hx,fun _ hx=>.inl hx⟩
    ·rename_i h2
     rw [if_neg h2] at h
     split
     ·rename_i h3;rw [if_pos h3] at h;cases h
     ·rename_i h3
      rw [if_neg h3] at h
      split
      ·rename_i h4;rw [if_pos h4] at h;cases h
      ·rename_i h4
       rw [if_neg h4] at h
       obtain ⟨k1,k2⟩:=hs.more h1'
       have k3:=mi (aA fs rs).1 fs
       obtain ⟨gs,m,e,h5,h6⟩:=vO k1 (by omega) (by omega) h
       refine ⟨gs,m,e,by omega,h6.st,h6.done,h6.few,h6.rounds,fun x hx=>h6.sub x ((k2 x).2 (.inl hx)),fun x hx=>?_⟩
       rcases h6.heads x hx with h7 | h7
       ·exact ((k2 x).1 h7).imp id fun h8=>(gR h1' h8).2.2
       ·exact .inr h7
theorem po:∀{n:Nat} {fs:List Fc} {k:Int},(kj rs lf lr n fs k).2.2≠0→(kj rs lf lr n fs k).1=none∧(kj rs lf lr n fs k).2.1=0
 | 0,fs,k,_=>⟨rfl,rfl⟩
 | n+1,fs,k,h=>by
   rw [kj] at h ⊢
   split
   ·exact ⟨rfl,rfl⟩
   ·rename_i h1
    rw [if_neg h1] at h
    split
    ·rename_i h2;rw [if_pos h2] at h;exact absurd rfl h
    ·rename_i h2
     rw [if_neg h2] at h
     split
     ·exact ⟨rfl,rfl⟩
     ·rename_i h3
      rw [if_neg h3] at h
      split
      ·exact ⟨rfl,rfl⟩
      ·rename_i h4
       rw [if_neg h4] at h
       exact po h
theorem sK {l:List Fc} (h:(iv l rs lf lr).2.2≠0):(iv l rs lf lr).1=none∧(iv l rs lf lr).2.1=0:=by
 unfold iv at h ⊢
 split
 ·rename_i h1
  rw [if_pos h1] at h
  split
  ·rename_i h2
   rw [if_pos h2] at h
   split
   ·exact ⟨rfl,rfl⟩
   ·rename_i h3
    rw [if_neg h3] at h
    exact po h
  ·exact ⟨rfl,rfl⟩
 ·exact ⟨rfl,rfl⟩
theorem xo {l:List Fc} (hl:∀f∈l,uG f) (h:(iv l rs lf lr).2.2=0):∃gs m,iv l rs lf lr=(some gs,m,0)∧0≤m∧RunOk rs lf lr (stL l) gs m∧l.all aD=true∧rs.all iF=true∧wE lf lr=true∧kj rs lf lr 101 (stL l) 0=(some gs,m,0):=by
 unfold iv at h ⊢
 split
 ·rename_i h1
  rw [if_pos h1] at h
  split
  ·rename_i h2
   rw [if_pos h2] at h
   rw [AN] at h2
   split
   ·rename_i h3;rw [if_pos h3] at h;cases h
   ·rename_i h3
    rw [if_neg h3] at h
    have h1':=h1
    simp only [wE,AN,AT] at h1'
    obtain ⟨gs,m,e,h4,h5⟩:=vO (StF.of hl) (by omega) (by omega) h
    exact ⟨gs,m,e,by omega,h5,h2.1,h2.2,h1,e⟩
  ·rename_i h2;rw [if_neg h2] at h;cases h
 ·rename_i h1;rw [if_neg h1] at h;cases h
end
def rawR (fs:List Fc) (o:OwD):List Fc:=(zj fs o.trusted o.rule).out.filterMap (jG o)
def okR (fs:List Fc) (o:OwD):Bool:=decide ((zj fs o.trusted o.rule).e=0)&&(zj fs o.trusted o.rule).out.all fun x=>bG x.b
theorem sR {L:List Ans} (h:L.all (fun x=>bG x.b)=true) {x:Ans}:x∈ml L↔x∈L:=by
 obtain ⟨_,h1,h2⟩:=ur L
 refine ⟨h2 x,fun hx=>?_⟩
 obtain ⟨y,hy,e⟩:=h1 x hx
 have h3:=List.all_eq_true.1 h
 obtain rfl:=ans_eq (h3 y (h2 y hy)) (h3 x hx) e
 exact hy
theorem rE {fs:List Fc} {o:OwD} (h1:iF o=true) (h:okR fs o=true):(aC fs o).2=0∧∀f,f∈(aC fs o).1↔f∈rawR fs o:=by
 unfold okR at h
 simp only [AN,AT] at h
 obtain ⟨h2,h3⟩:=h
 have hm:=(oc h1).1
 have e:be fs o.trusted o.rule=(ml (zj fs o.trusted o.rule).out,0):=by
  rw [lc,if_pos (by rw [hm];rfl),if_pos h2]
 unfold aC
 rw [e]
 refine ⟨rfl,fun f=>?_⟩
 unfold rawR
 rw [List.mem_filterMap,List.mem_filterMap]
 exact ⟨fun ⟨a,ha,k⟩=>⟨a,(sR h3).1 ha,k⟩,fun ⟨a,ha,k⟩=>⟨a,(sR h3).2 ha,k⟩⟩
theorem ou {fs X:List Fc} {rs:List OwD} (h0:rs.all iF=true) (h1:rs.all (okR fs)=true) (hX:(rs.flatMap fun o=>(rawR fs o).filter fun f=>!fe fs f)=X) (hs:bH X):aA fs rs=(X,0):=by
 have h2:∀o∈rs,_:=fun o ho=>rE (List.all_eq_true.1 h0 o ho) (List.all_eq_true.1 h1 o ho)
 have h3:(aA fs rs).2=0:=mc.2 ⟨h0,fun o ho=>(h2 o ho).1⟩
 refine Prod.ext (nx (qc h3) hs fun f=>?_) h3
 rw [qb h3,←hX,List.mem_flatMap]
 constructor
 ·rintro ⟨o,ho,h4,h5⟩
  exact ⟨o,ho,List.mem_filter.2 ⟨((h2 o ho).2 f).1 h4,by rw [h5];rfl⟩⟩
 ·rintro ⟨o,ho,h4⟩
  obtain ⟨h5,h6⟩:=List.mem_filter.1 h4
  exact ⟨o,ho,((h2 o ho).2 f).2 h5,by simpa using h6⟩
theorem vN {fs gs X:List Fc} {rs:List OwD} {lf lr k k':Int} {n:Nat} (h:aA fs rs=(X,0)) (h1:X.length≠0) (h2:k≠lr) (h3:¬lf<(fs.length:Int)+(X.length:Int)) (h4:X.foldl fd fs=gs) (hk:k+1=k'):kj rs lf lr (n+1) fs k=kj rs lf lr n gs k':=by
 subst hk
 rw [kj,h,if_neg (show ¬((X,(0:Int)).2≠0) by simp),if_neg h1,if_neg h2,if_neg h3,h4]
theorem yC {fs:List Fc} {rs:List OwD} {lf lr k:Int} {n:Nat} (h:aA fs rs=([],0)):kj rs lf lr (n+1) fs k=(some fs,k,0):=by
 rw [kj,h,if_neg (show ¬((([]:List Fc),(0:Int)).2≠0) by simp),if_pos (by rfl)]
def pwP:ByteArray:=⟨#[112,97,116,104]⟩
def pwE:ByteArray:=⟨#[101,100,103,101]⟩
def pwV (b:UInt8):Tm:=⟨1,0,⟨#[b]⟩,[]⟩
def pwN (n:Int):Tm:=⟨2,n,⟨#[]⟩,[]⟩
def pwQ (s:ByteArray) (a b:Tm):Pr:=⟨s,[a,b]⟩
def pwF (s:ByteArray) (a b:Int):Fc:=⟨pwQ s (pwN a) (pwN b),1⟩
def xe:Ru:=⟨pwQ pwP (pwV 120) (pwV 121),[pwQ pwE (pwV 120) (pwV 121)],[],[]⟩
def xf:Ru:=⟨pwQ pwP (pwV 120) (pwV 122),[pwQ pwP (pwV 120) (pwV 121),pwQ pwE (pwV 121) (pwV 122)],[],[]⟩
def pwO (t:Int):List OwD:=[⟨xe,0,t⟩,⟨xf,0,t⟩]
def pw0:List Fc:=[pwF pwE 1 2,pwF pwE 2 3]
def pw1:List Fc:=[pwF pwE 1 2,pwF pwE 2 3,pwF pwP 1 2,pwF pwP 2 3]
def pw2:List Fc:=[pwF pwE 1 2,pwF pwE 2 3,pwF pwP 1 2,pwF pwP 1 3,pwF pwP 2 3]
theorem na (L M:List aZ):iY (eB L) (eB M)=L.all (fun s=>decide (s∈M)):=by
 unfold iY
 rw [Bool.eq_iff_iff,List.all_eq_true,List.all_eq_true]
 simp only [AT,lN]
theorem pw_may1:aQ xe=true:=by
 unfold aQ
 rw [na]
 kernel_rfl
theorem pw_may2:aQ xf=true:=by
 unfold aQ
 rw [na]
 kernel_rfl
theorem sI (t:Int):(pwO t).all iF=true:=by
 simp only [pwO,List.all_cons,List.all_nil,iF,pw_may1,pw_may2]
 rfl
theorem pw_r0:aA pw0 (pwO 1)=([pwF pwP 1 2,pwF pwP 2 3],0):=
 ou (sI 1) (by kernel_rfl) (by kernel_rfl) (List.pairwise_cons.2 ⟨fun x hx=>by
  obtain rfl:=List.mem_singleton.1 hx
  exact of_decide_eq_true (by kernel_rfl),List.pairwise_singleton _ _⟩)
theorem pw_r1:aA pw1 (pwO 1)=([pwF pwP 1 3],0):=
 ou (sI 1) (by kernel_rfl) (by kernel_rfl) (List.pairwise_singleton _ _)
theorem pw_r2:aA pw2 (pwO 1)=([],0):=
 ou (sI 1) (by kernel_rfl) (by kernel_rfl) List.Pairwise.nil
theorem pw_fix:iv pw0 (pwO 1) 10 5=(some pw2,2,0):=by
 have e0:stL pw0=pw0:=by kernel_rfl
 have e1:[pwF pwP 1 2,pwF pwP 2 3].foldl fd pw0=pw1:=by kernel_rfl
 have e2:[pwF pwP 1 3].foldl fd pw1=pw2:=by kernel_rfl
 have g:kj (pwO 1) 10 5 101 pw0 0=(some pw2,2,0):=by
  rw [vN (n:=100) (k':=1) pw_r0 (by decide) (by decide) (by decide) e1 rfl,vN (n:=99) (k':=2) pw_r1 (by decide) (by decide) (by decide) e2 rfl,yC (n:=98) pw_r2]
 unfold iv
 rw [if_pos (by kernel_rfl),if_pos (by rw [sI];kernel_rfl),e0,if_neg (by decide),g]
theorem pw_has:fe pw2 (pwF pwP 1 3)=true:=by kernel_rfl
def OwR (d:Nat):Reader OwD where
 k:=7
 rd:=fun w B o vs=>∃v,vs=v++[.int .i64 o.block,.int .u32 o.trusted]∧(RuR d).rd w B o.rule v∧I64 o.block∧U32 o.trusted
 keep:=fun hw hB ⟨v,e,h,ho⟩=>⟨v,e,(RuR _).keep hw hB h,ho⟩
 wide:=fun hB ⟨v,e,h,ho⟩=>⟨v,e,(RuR _).wide hB h,ho⟩
 len:=fun ⟨_,e,h,_⟩=>by rw [e,AK,(RuR _).len h];rfl
theorem iA {d B:Nat} {w:World} {o:OwD} {vs:List Value} (h:(OwR d).rd w B o vs):∃A0 c0 A1 c1 A2 c2 A3 c3,
 vs=[.string o.rule.head.name,.slice A0 o.rule.head.terms.length c0,.slice A1 o.rule.body.length c1,.slice A2 o.rule.exprs.length c2,.slice A3 o.rule.scopes.length c3,.int .i64 o.block,.int .u32 o.trusted] ∧
 (RuR d).rd w B o.rule [.string o.rule.head.name,.slice A0 o.rule.head.terms.length c0,.slice A1 o.rule.body.length c1,.slice A2 o.rule.exprs.length c2,.slice A3 o.rule.scopes.length c3]∧I64 o.block∧U32 o.trusted:=by
 obtain ⟨v,rfl,hr,h1,h2⟩:=h
 have hr':=hr
 obtain ⟨_,_,_,_,rfl,_,⟨A0,c0,rfl,_⟩,⟨A1,c1,rfl,_⟩,⟨A2,c2,rfl,_⟩,⟨A3,c3,rfl,_⟩⟩:=hr
 exact ⟨A0,c0,A1,c1,A2,c2,A3,c3,rfl,hr',h1,h2⟩
theorem zG {α:Type} {l:List α} {p:α→Bool} {k:Nat} {x:α} (h:l[k]? = some x) (hp:p x=false):l.all p=false:=by
 rw [List.all_eq_false]
 exact ⟨x,List.mem_of_getElem? h,by rw [hp];simp⟩
theorem allT3_ {α:Type} {l:List α} {p:α→Bool} {k:Nat} (hk:l.length≤k) (h:∀i (hi:i<k) (hi':i<l.length),p l[i]=true):l.all p=true:=by
 rw [List.all_eq_true]
 intro x hx
 obtain ⟨i,hi,rfl⟩:=List.getElem_of_mem hx
 exact h i (by omega) hi
theorem gu {base d B S c:Nat} {xs:List FV} {A:Option Addr} {f:Fc} {vf:List Value} {w:World} (hs:StA base d w S xs A c) (hf:(ay (d+1)).rd w B f vf) (hB:B≤w.heap.size) (hn:xs.length≤100000) (hft:f.pr.terms.length*40≤140737488351232) :
 Calls Tryz.prog 16 #[.pointer (some ⟨S,0,none⟩),.agg vf.toArray] w fun z w'=>z=.returned (.bool (fe (xs.map FV.f) f))∧Below w.heap.size w w':=by
 obtain ⟨Af,cf,rfl,hsz,h1,h2,h3,hl,ho⟩:=aG hf
 have HS:=AE hs
 have HF:=AE hf
 have HL:=AE hl
 have HO:=AE ho
 clear hs hf hl ho
 go_enter Tryz.func16,Tryz.ntmps16
 have k_s:=HS.out.hd.cell
 have l_s:=HS.out.hd.lt
 go_upto_region 3 with fail
 generalize hW:World.alloc _ _=w2
 obtain ⟨hb,hz⟩:=al1 hW
 have HBA2:=AE (n11 hW)
 have HB2:=AE hb
 have hsz2:=hb.size
 clear hW hb hz k_s l_s
 have HS2:=AE (HS.out.later HB2.out)
 have HRL:=AE (HS2.out.rl (by omega))
 have HLM:Hid ((xs.map FV.f).length=xs.length):=AE (AM _)
 have HF2:=AE ((ay (d+1)).keep HB2.out hB HF.out)
 have hB2:B≤w2.heap.size:=by omega
 have HBS:Hid (∀w9,Below w2.heap.size w2 w9→Calls Tryz.prog 34 #[.slice A xs.length c,.agg #[.string f.pr.name,.slice Af f.pr.terms.length cf,.int .u32 f.o],.func (.func 35) #[] #[]] w9 fun z w'=>z=.returned (.tuple #[.int .i64 (jg (xs.map FV.f) f),.bool (fe (xs.map FV.f) f)])∧Below w9.heap.size w9 w'):=AE (fun w9 hb9=>by
  have h:=lh (d:=d) (e:=d) (B:=w2.heap.size) (c:=c) (fs:=xs.map FV.f) (t:=f) (vt:=[_,_,_]) (A:=A) (w:=w9) (HRL.out.keep hb9 (AG _)) ((ay (d+1)).keep hb9 (AG _) ((ay (d+1)).wide hB2 HF2.out)) (fun x hx=>by
   obtain ⟨y,hy,rfl⟩:=List.mem_map.1 hx
   exact HS.out.ok y hy) (by omega) (by rw [HLM.out];omega) hb9.size (csF (xs.map FV.f) f) (fun i hi=>iN hi) (fun i j hij hj h=>nN HS.out.sort hij hj h)
  rw [HLM.out] at h
  refine h.mono fun z w' ⟨h1,h2⟩=>⟨?_,h2⟩
  rw [h1]
  unfold fe jg
  rw [HLM.out,Bool.decide_and])
 have q_s:=HS2.out.hd.regrown
 have q_a:=HBA2.out.regrown
 generalize jg (xs.map FV.f) f=p at *
 generalize hq:fe (xs.map FV.f) f=q at *
 have HQ:=AE hq
 clear hq
 refine wp_region_quiet_below (by kernel_rfl) (by kernel_rfl) ?_
 repeat (go_big_quiet_step ((go_at_call 34;exact Calls.regrown_of (HBS.out _ (below_regrown _ _ _)))))
 refine wpQuiet_nil ?_
 intro w3 hw_
 have hb:Below w2.heap.size w2 w3:=by obtain ⟨p_,rfl⟩:=hw_;exact below_regrown _ _ _
 clear hw_ q_s q_a
 go_wp2_with fail
 go_ret
 exact ⟨by rw [HQ.out];rfl,aa HB2.out hb⟩
theorem jo {base d S c:Nat} {xs:List FV} {A:Option Addr} {w:World} (hs:StA base d w S xs A c) :
 Calls Tryz.prog 13 #[.pointer (some ⟨S,0,none⟩)] w fun z w'=>z=.returned (.int .i64 xs.length)∧w=w':=by
 have k_s:=hs.hd.cell
 go_enter Tryz.func13,Tryz.ntmps13
 go_wp2_with fail
 go_ret
 exact ⟨rfl,rfl⟩
theorem xx {base d S c:Nat} {xs:List FV} {A:Option Addr} {w:World} (hs:StA base d w S xs A c) (hn:xs.length≤100000) :
 Calls Tryz.prog 19 #[.pointer (some ⟨S,0,none⟩)] w fun z w'=>(∃ys A' c',ys.map FV.f=xs.map FV.f∧z=.returned (.slice A' ys.length c')∧FRow w.heap.size d w' ys A' c')∧Below w.heap.size w w':=by
 have HS:=AE hs
 have k_s:=hs.hd.cell
 clear hs
 go_enter Tryz.func19,Tryz.ntmps19
 go_wp2_with fail
 have h:=fV (d:=d) (c:=c) (HS.out.rl (by omega)) (fun f hf=>by
  obtain ⟨y,hy,rfl⟩:=List.mem_map.1 hf
  exact HS.out.ok y hy) (by rw [AM];omega) (AG _)
 rw [AM] at h
 refine h.mono ?_
 rintro z w' ⟨⟨ys,A',c',h1,rfl,h2⟩,hb⟩
 have hl:ys.length=xs.length:=by simpa using congrArg List.length h1
 have H:=AE (And.intro h1 (And.intro h2 hb))
 clear h1 h2 hb h
 go_wp2_with fail
 go_ret
 exact ⟨⟨ys,A',c',H.out.1,by rw [hl];rfl,H.out.2.1⟩,H.out.2.2⟩
theorem tU {d B:Nat} {o:OwD} {vo:List Value} {w:World} (ho:(OwR d).rd w B o vo) (hB:B≤w.heap.size) :
 Calls Tryz.prog 43 #[.agg vo.toArray] w fun z w'=>z=.returned (.bool (iF o))∧Below w.heap.size w w':=by
 obtain ⟨A0,c0,A1,c1,A2,c2,A3,c3,rfl,hr,_,_⟩:=iA ho
 have HR:=AE hr
 clear ho hr
 go_enter Tryz.func43,Tryz.ntmps43
 go_upto_region 1 with fail
 generalize hW:World.alloc _ _=w1
 obtain ⟨hb1,hz⟩:=al1 hW
 have HK1:=AE (n11 hW)
 have HB1:=AE hb1
 have hsz1:=hb1.size
 clear hW hb1 hz
 have k_o:=HK1.out.cell
 have l_o:=HK1.out.lt
 go_wp2_with fail
 refine (lL (vs:=[_,_,_,_,_]) ((RuR d).keep HB1.out hB HR.out) (AF hB hsz1)).mono ?_
 rintro z w2 ⟨rfl,hb2⟩
 have HK2:=AE (HK1.out.later hb2)
 have HB2:=AE (aa HB1.out hb2)
 clear hb2 k_o l_o
 have k_o:=HK2.out.cell
 have l_o:=HK2.out.lt
 have HV:Hid (iF o=(aQ o.rule&&(decide (0≤o.block)&&decide (o.block<8)||decide (o.block=15)))):=AE rfl
 cases hm:aQ o.rule
 ·rw [hm] at HV
  clear hm
  go_wp2_with fail
  go_ret
  exact ⟨ac HV.out.symm,HB2.out⟩
 rw [hm] at HV
 clear hm
 by_cases h0:0≤o.block
 ·by_cases h8:o.block<8
  ·have e:iF o=true:=by rw [HV.out];simp [h0,h8]
   have HE:=AE e
   clear HV e
   go_wp2_with fail
   go_ret
   exact ⟨ac HE.out.symm,HB2.out⟩
  ·have e:iF o=(decide (o.block<8)||o.block==15):=by rw [HV.out,decide_eq_true h0,decide_eq_false h8];by_cases h:o.block=15<;>simp [h]
   have HE:=AE e
   clear HV e
   go_wp2_with fail
   go_ret
   exact ⟨ac HE.out.symm,HB2.out⟩
 ·have e:iF o=false:=by
   rw [HV.out]
   have h15:¬o.block=15:=by omega
   simp [h0,h15]
  have h15:(o.block==15)=false:=by rw [beq_eq_false_iff_ne];omega
  have HE:=AE e
  clear HV e
  go_wp2_with fail
  go_ret
  exact ⟨ac HE.out.symm,HB2.out⟩
theorem nl {d B c:Nat} {rs:List OwD} {A:Option Addr} {w:World} (hl:RL (OwR d) w B rs A) (hn:rs.length≤140737488351232) (hB:B≤w.heap.size) :
 Calls Tryz.prog 23 #[.slice A rs.length c] w fun z w'=>z=.returned (.bool (rs.all iF))∧Below w.heap.size w w':=by
 have HL:=AE hl
 clear hl
 go_enter Tryz.func23,Tryz.ntmps23
 go_upto_region 2 with fail
 go_loopw [7] (fun i wr=>∃k:Nat,k≤rs.length∧i=.int .i64 k∧Hid (Below w.heap.size w wr)∧Hid (∀i (hi:i<k) (hi':i<rs.length),iF rs[i]=true)) (fun i _=>rs.length-(intOf i).toNat)
 case atStart=>exact ⟨0,AH _,rfl,AE (AI _ _),AE (fun i h=>absurd h (by omega))⟩
 case round=>
  obtain ⟨k,hk,rfl,HW,HALL⟩:=hrel
  have hszr:=HW.out.size
  have hBr:B≤wr.heap.size:=AF hB hszr
  by_cases hlt:k<rs.length
  ·obtain ⟨b,off,rfl,hob⟩:=(HL.out.keep HW.out hB).base (AI _ _) hBr (by omega)
   obtain ⟨x,vs,hx,hlen,hcell,hr⟩:=(HL.out.keep HW.out hB).at_ (AI _ _) hBr hlt
   have HX:=AE hx
   have HRX:=AE hr
   obtain ⟨A0,c0,A1,c1,A2,c2,A3,c3,rfl,_,_,_⟩:=iA hr
   have p0:wr.cell? ⟨b,off+k*7,none⟩=some (.string x.rule.head.name):=hcell 0 _ rfl
   have p1:wr.cell? ⟨b,off+k*7+1,none⟩=some (.slice A0 x.rule.head.terms.length c0):=hcell 1 _ rfl
   have p2:wr.cell? ⟨b,off+k*7+2,none⟩=some (.slice A1 x.rule.body.length c1):=hcell 2 _ rfl
   have p3:wr.cell? ⟨b,off+k*7+3,none⟩=some (.slice A2 x.rule.exprs.length c2):=hcell 3 _ rfl
   have p4:wr.cell? ⟨b,off+k*7+4,none⟩=some (.slice A3 x.rule.scopes.length c3):=hcell 4 _ rfl
   have p5:wr.cell? ⟨b,off+k*7+5,none⟩=some (.int .i64 x.block):=hcell 5 _ rfl
   have p6:wr.cell? ⟨b,off+k*7+6,none⟩=some (.int .u32 x.trusted):=hcell 6 _ rfl
   clear hcell hlen hx hr
   go_upto_region 4 with fail
   generalize hW:World.alloc _ _=w3
   obtain ⟨hb3,hz3⟩:=al1 hW
   have HK3:=AE (n11 hW)
   have HB3:=AE (aa HW.out hb3)
   have HR3:=AE ((OwR d).keep hb3 hBr HRX.out)
   have hsz3:=hb3.size
   clear hW hb3 hz3 p0 p1 p2 p3 p4 p5 p6
   have k_r:=HK3.out.cell
   have l_r:=HK3.out.lt
   go_wp2_with fail
   refine (tU (d:=d) (B:=B) (o:=x) (vo:=[_,_,_,_,_,_,_]) ((OwR d).wide (AG _) HR3.out) (by omega)).mono ?_
   rintro z w4 ⟨rfl,hb4⟩
   have HB4:=AE (aa HB3.out hb4)
   clear hb4 k_r l_r
   by_cases hq:iF x=true
   ·have HQ:=AE hq
    rw [hq]
    clear hq
    go_wp2_with fail
    go_roundw
    case rel=>exact ⟨k+1,by omega,by go_num,HB4,AE (fun i hi hi'=>by
     rcases Nat.lt_or_ge i k with h1 | h1
     ·exact HALL.out i h1 hi'
     ·obtain rfl:i=k:=by omega
      rw [(List.getElem?_eq_some_iff.1 HX.out).2];exact HQ.out)⟩
    case measure=>simp [intOf];omega
   ·simp only [Bool.not_eq_true] at hq
    have HV:Hid (rs.all iF=false):=AE (zG HX.out hq)
    rw [hq]
    clear hq
    go_wp2_with fail
    go_ret
    exact ⟨ac HV.out.symm,HB4.out⟩
  ·have HV:Hid (rs.all iF=true):=AE (allT3_ (k:=k) (by omega) HALL.out)
   go_wp2_with fail
   go_ret
   exact ⟨ac HV.out.symm,HW.out⟩
def noPr:Pr:=⟨⟨#[]⟩,[]⟩
def sW (d:Nat) (w w':World) (r:Option Pr) (z:Ending):Prop:=(∃A c xs,z=.returned (.tuple #[.agg #[.string (r.getD noPr).name,.slice A (r.getD noPr).terms.length c],.bool r.isSome])∧xs.map SV.t=(r.getD noPr).terms∧StkQ w.heap.size d w' xs A c)∧Below w.heap.size w w'
theorem sW.no {d:Nat} {w w':World} (h:Below w.heap.size w w'):sW d w w' none (.returned (.tuple #[.agg #[.string ⟨#[]⟩,.slice none 0 0],.bool false])):=
 ⟨⟨none,0,[],rfl,rfl,StkQ.nil _ _ _⟩,h⟩
theorem ot {fn:Func} {tmps:Array Value} {p u:Tmp} {g:Nat} {w:World} {cs:Array Value} (h:fn.results=#[.cell p 26,.tmp u]) (hp:tmps.getD p undef=.pointer (some ⟨g,0,none⟩)) (hb:Blk w g cs) (hn:cs.size=2) :
 (results fn tmps).run Tryz.prog w=.ok (.tuple #[.agg cs,tmps.getD u undef]) w:=by
 obtain ⟨T,hb⟩:=hb
 rw [results_cell_tmp h]
 have e:tmps[p]?.getD undef=.pointer (some ⟨g,0,none⟩):=by simpa using hp
 have e1:((asAddr (tmps.getD p undef)).run Tryz.prog w)=.ok ⟨g,0,none⟩ w:=by simp [e,asAddr]
 rw [e1,Result.andThen_ok,run_loadVar_row w g T 26 cs (0,0) _ hb Tryz.underlying26 rfl (by rw [hn];kernel_rfl),Result.andThen_ok]
theorem jD {b:Bd}:∀{xs zs:List Tm} {x z:Tm},gX b xs=some zs→nR b x=some z→gX b (xs++[x])=some (zs++[z])
 | [],zs,x,z,h,hz=>by
   simp only [gX,AP] at h
   subst h
   simp [gX,hz]
 | y::xs,zs,x,z,h,hz=>by
   simp only [gX] at h
   split at h
   ·rename_i u hu
    split at h
    ·rename_i us hus
     simp only [AP] at h
     subst h
     simp only [List.cons_append,gX,hu,jD hus hz]
    ·cases h
   ·cases h
theorem mX {b:Bd}:∀{xs:List Tm} {x:Tm},x∈xs→nR b x=none→gX b xs=none
 | y::xs,x,hx,hz=>by
   rcases List.mem_cons.1 hx with rfl | hx
   ·simp [gX,hz]
   ·simp only [gX]
    rw [mX hx hz]
    split<;>rfl
theorem yw {d B cn ct:Nat} {p:Pr} {b:Bd} {vp:List Value} {An At:Option Addr} {w:World} (hp:(PrR (d+1)).rd w B p vp) (hn:RL cX w B (b.names.map mkS) An) (ht:RL (TmR (d+1)) w B b.terms At) (hB:B≤w.heap.size) :
 Calls Tryz.prog 58 #[.agg vp.toArray,.agg (bdV An b.names.length cn At b.terms.length ct)] w fun z w'=>sW d w w' (gY p b) z:=by
 have HP:=AE hp
 have HN:=AE hn
 have HT:=AE ht
 obtain ⟨_,rfl,hps,Ap,cp,rfl,hp1,hp2,hpl⟩:=hp
 have HPL:=AE hpl
 obtain ⟨i0,hi0,hz0,hz1,hz2⟩:=info_parts hJ
 clear hn ht hpl
 unfold bdV
 go_enter Tryz.func58,Tryz.ntmps58
 go_wp2_with fail
 generalize hW:World.alloc _ _=w1
 obtain ⟨hb,hz⟩:=al3 hW
 have HBP1:=AE (n31 hW)
 have HBB1:=AE (n32 hW)
 have HBR1:=AE (n33 hW)
 have HB1:=AE hb
 have hsz1:=hb.size
 clear hW hb
 have hB1:=AF hB hsz1
 refine (dm (d:=d+1) (vs:=[_,_]) ((PrR (d+1)).keep HB1.out hB HP.out) hB1).mono ?_
 rintro e w1a ⟨rfl,hb⟩
 have HBPa:=AE (HBP1.out.later hb)
 have HBBa:=AE (HBB1.out.later hb)
 have HBRa:=AE (HBR1.out.later hb)
 have HBa:Hid (Below w.heap.size w w1a):=AE (HB1.out.trans (hb.mono hsz1))
 have hsza:=hb.size
 clear hb
 by_cases h1:aE p=true
 rotate_left
 ·simp only [Bool.not_eq_true] at h1
  rw [h1]
  have HNO:Hid (gY p b=none):=AE (by unfold gY;rw [if_neg];rintro ⟨q1,q2⟩;simp [h1] at *)
  clear h1
  have k_r:=HBRa.out.cell
  have f_r:=HBRa.out.free
  have l_r:=HBRa.out.lt
  go_wp2_with fail
  refine bodyPost_ret (ot rfl rfl (kB HBRa.out (.string ⟨#[]⟩) (.slice none 0 0)) rfl) rfl ?_
  rw [HNO.out]
  exact sW.no (kC HBa.out (by omega) _ _)
 have H1:=AE h1
 rw [h1]
 clear h1
 have k_b:=HBBa.out.cell
 have l_b:=HBBa.out.lt
 go_wp2_with fail
 refine (dn (d:=d) (cn:=cn) (ct:=ct) (HN.out.keep HBa.out hB) (HT.out.keep HBa.out hB) (AF hB HBa.out.size)).mono ?_
 rintro e w2 ⟨rfl,hb⟩
 have HBP2:=AE (HBPa.out.later hb)
 have HBB2:=AE (HBBa.out.later hb)
 have HBR2:=AE (HBRa.out.later hb)
 have HB2:Hid (Below w.heap.size w w2):=AE (HBa.out.trans (hb.mono HBa.out.size))
 have hsz2:=hb.size
 clear hb k_b l_b HBPa HBBa HBRa
 by_cases h2:bG b=true
 rotate_left
 ·simp only [Bool.not_eq_true] at h2
  rw [h2]
  have HNO:Hid (gY p b=none):=AE (by unfold gY;rw [if_neg];rintro ⟨q1,q2⟩;simp [h2] at *)
  clear h2
  have k_r:=HBR2.out.cell
  have f_r:=HBR2.out.free
  have l_r:=HBR2.out.lt
  go_wp2_with fail
  refine bodyPost_ret (ot rfl rfl (kB HBR2.out (.string ⟨#[]⟩) (.slice none 0 0)) rfl) rfl ?_
  rw [HNO.out]
  exact sW.no (kC HB2.out (by omega) _ _)
 have H2:=AE h2
 rw [h2]
 clear h2
 have HMT:=AE (go H1.out)
 have hp8:=HMT.out.1
 have HOKN:=AE (dW.1 H2.out)
 have HYES:Hid (∀zs,gX b p.terms=some zs→gY p b=some ⟨p.name,zs⟩):=AE (fun zs hz=>by unfold gY;rw [if_pos ⟨H1.out,H2.out⟩,hz])
 have HNON:Hid (gX b p.terms=none→gY p b=none):=AE (fun hz=>by unfold gY;rw [if_pos ⟨H1.out,H2.out⟩,hz])
 have hlr2:=HBR2.out.lt
 have k_p:=HBP2.out.cell
 have l_p:=HBP2.out.lt
 go_upto_region 4 with fail
 generalize hW:World.alloc _ _=w3
 obtain ⟨hb3,hz3⟩:=al1 hW
 have HBO3:=AE (n11 hW)
 have HB3:=AE hb3
 have HBP3:=AE (HBP2.out.later hb3)
 clear hW k_p l_p
 have k_p:=HBP3.out.cell
 have l_p:=HBP3.out.lt
 go_upto_region 5 with fail
 clear k_p l_p hb3
 go_loopw [25] (fun i wr=>∃(k:Nat) (xs:List SV) (A:Option Addr) (c:Nat),k≤p.terms.length∧i=.int .i64 k∧xs.length=k∧Hid (gX b (p.terms.take k)=some (xs.map SV.t))∧Hid (Below w2.heap.size w2 wr)∧Hid (Blk wr w2.heap.size #[.string p.name,.slice A k c])∧Hid (StkQ w3.heap.size d wr xs A c)) (fun i _=>p.terms.length-(intOf i).toNat)
 case atStart=>exact ⟨0,[],none,0,AH _,rfl,rfl,AE rfl,HB3,HBO3,AE (StkQ.nil _ _ _)⟩
 case round=>
  obtain ⟨k,xs,A,c,hk,rfl,hxl,HXT,HWR,HBO,HST⟩:=hrel
  subst hxl
  have hszr:=HWR.out.size
  have HLO:=AE HBO.out.lt
  have hlo:=HLO.out
  have HBw:Hid (Below w.heap.size w wr):=AE (HB2.out.trans (HWR.out.mono HB2.out.size))
  have hBr:B≤wr.heap.size:=AF hB HBw.out.size
  by_cases hlt:xs.length<p.terms.length
  ·obtain ⟨b_,off,rfl,hob⟩:=(HPL.out.keep HBw.out hB).base (AI _ _) hBr (by omega)
   obtain ⟨x,vs,hx,hlen,hcell,hr⟩:=(HPL.out.keep HBw.out hB).at_ (AI _ _) hBr hlt
   have HX:=AE hr
   obtain ⟨Ax,cx,rfl,g1,g2,g3,g4,g5,_⟩:=RTm.cells (show RTm wr B (d+1) x vs from hr)
   have c0:wr.cell? ⟨b_,off+xs.length*4,none⟩=some (.int .i64 x.kind):=hcell 0 _ rfl
   have c1:wr.cell? ⟨b_,off+xs.length*4+1,none⟩=some (.int .i64 x.n):=hcell 1 _ rfl
   have c2:wr.cell? ⟨b_,off+xs.length*4+2,none⟩=some (.string x.s):=hcell 2 _ rfl
   have c3:wr.cell? ⟨b_,off+xs.length*4+3,none⟩=some (.slice Ax x.l.length cx):=hcell 3 _ rfl
   have HXE:Hid (p.terms[xs.length]=x):=AE (by rw [AO hlt] at hx;simpa using hx)
   have HXI:Hid (x∈p.terms):=AE (List.mem_of_getElem? hx)
   have HXM:Hid (fD x=true):=AE (HMT.out.2 x HXI.out)
   clear hcell hlen hx hr
   go_upto_region 7 with fail
   generalize hW:World.alloc _ _=w4
   obtain ⟨hb4,hz4⟩:=al1 hW
   have HBT4:=AE (n11 hW)
   have HBO4:=AE (HBO.out.later hb4)
   have HST4:=AE (HST.out.later hb4)
   have HX4:=AE (RTm.below hb4 hBr HX.out)
   have HWR4:Hid (Below w2.heap.size w2 w4):=AE (HWR.out.trans (hb4.mono hszr))
   have hsz4:=hb4.size
   have HLQ:=AE HBT4.out.lt
   have hlq:=HLQ.out
   clear hW hb4 c0 c1 c2 c3
   by_cases hv:x.kind=1
   rotate_left
   ·have hk1:(x.kind==1)=false:=by simpa using hv
    have HFX:Hid (af x=true):=AE (by unfold af;rw [HXM.out];simpa using hv)
    have HFILL:Hid (nR b p.terms[xs.length]=some x):=AE (by rw [HXE.out];unfold nR;rw [if_neg hv])
    clear hv
    obtain ⟨hle,hl16⟩:=aO HFX.out
    have HLE:=AE hle
    clear hle
    have k_t:=HBT4.out.cell
    have l_t:=HBT4.out.lt
    go_upto_region 12 with fail
    clear k_t l_t
    have HWR6:=AE (HWR4.out)
    have HBT6:=HBT4
    have HBO6:=HBO4
    have HST6:=HST4
    have HU6:=AE (RTm.more (show B≤w4.heap.size by omega) HX4.out)
    have hsz6:wr.heap.size≤w4.heap.size:=hsz4
    generalize w4=w6 at *
    generalize x=u at *
    generalize Ax=Au at *
    generalize cx=cu at *
    have HSL:Hid (∀{w':World},Below w6.heap.size w6 w'→(w'.cell? ⟨w2.heap.size,1,none⟩=some (.slice A xs.length c)∧w'.cell? ⟨wr.heap.size,0,none⟩=some (.int .i64 u.kind)∧w'.cell? ⟨wr.heap.size,1,none⟩=some (.int .i64 u.n)∧w'.cell? ⟨wr.heap.size,2,none⟩=some (.string u.s)∧w'.cell? ⟨wr.heap.size,3,none⟩=some (.slice Au u.l.length cu))):=AE (fun hb=>have h:=(HBT6.out.later hb).cell;⟨(HBO6.out.later hb).cell 1,h 0,h 1,h 2,h 3⟩)
    refine bv (S:=fun w'=>w'.cell? ⟨w2.heap.size,1,none⟩=some (.slice A xs.length c)∧w'.cell? ⟨wr.heap.size,0,none⟩=some (.int .i64 u.kind)∧w'.cell? ⟨wr.heap.size,1,none⟩=some (.int .i64 u.n)∧w'.cell? ⟨wr.heap.size,2,none⟩=some (.string u.s)∧w'.cell? ⟨wr.heap.size,3,none⟩=some (.slice Au u.l.length cu)) 7 (by kernel_rfl) (by kernel_rfl) (by kernel_rfl) (by kernel_rfl) (HSL.out (AI _ _).drew) ?_
    refine ax 0 ?_
    refine ax 1 ?_
    refine ax 2 ?_
    refine aJ (rs:=[3]) (by kernel_rfl) rfl (by kernel_rfl) ?_
    refine aB.cons rfl (fun K hK=>?_) aB.nil
    go_simp
    refine (gK (B:=w6.heap.size) (t:=u) (vs:=[_,_,_,_]) (RTm.below (AI _ _).drew (AG _) HU6.out) (AG _) HLE.out hl16).mono ?_
    rintro e w7 ⟨⟨A5,c5,rfl,hown⟩,hb7⟩
    have HOWN:Hid (TmOwn d w6.heap.size w7 u A5 c5):=AE hown
    have HB7:Hid (Below w6.heap.size w6 w7):=AE ((AI w6.heap.size w6).drew.trans hb7)
    have hsz7:=HB7.out.size
    clear hown hb7
    refine hK.out _ _ (HSL.out HB7.out) ?_
    clear hK
    refine aJ (rs:=[4]) (by kernel_rfl) rfl (by kernel_rfl) ?_
    refine aB.cons rfl (fun K hK=>?_) aB.nil
    go_simp
    refine hK.out _ _ (HSL.out (HB7.out.alloc hsz7 _)) ?_
    clear hK
    refine aJ (rs:=[5]) (by kernel_rfl) rfl (by kernel_rfl) ?_
    refine aB.cons rfl (fun K hK=>?_) aB.nil
    refine cT (R:=SvR) (e:=29) rfl (.tmp 43) (.tmp 46) 24 rfl (bytes:=56) Tryz.underlying24 hi0 hz0 hz1 hz2 rfl (show 0<4 by omega) ck rfl (base:=w3.heap.size) (xs:=xs) (ys:=[⟨u,A5,c5⟩]) (HST6.out.own.later (HB7.out.alloc hsz7 _) (AH _)) rfl (xz (x:=⟨u,A5,c5⟩) Ac) rfl (by simp only [AV,List.length_nil];omega) (by omega) (by rw [World.size_alloc];omega) ?_
    intro v wn_ hown hg hf
    obtain ⟨An2,cn2,hv⟩:∃A c,v=.slice A (xs.length+1) c:=by have:=hown.form;rwa [AK,List.length_singleton] at this
    subst hv
    have happ:=(HST6.out.later (HB7.out.alloc hsz7 _)).app (x:=⟨u,A5,c5⟩) (HOWN.out.at_.later ((AI _ _).alloc (AG _) _)) (HST6.out.apart (AG _) fun a ha=>(HOWN.out.blk a ha).1) (fun a ha=>⟨by have:=(HOWN.out.blk a ha).1;omega,by have:=(HOWN.out.blk a ha).2;rw [World.size_alloc];omega⟩) (by rw [World.size_alloc];omega) hown hg hf
    have HQB:=AE (((HBT6.out.later (HB7.out.alloc hsz7 _)).grown hg (HST.out.own.own_lt (AG _)).symm).cell)
    have HBO9:=AE ((HBO6.out.later (HB7.out.alloc hsz7 _)).grown hg (HST.out.own_ge (by omega)).symm)
    have f_o:=HBO9.out.free
    have k_o9:=HBO9.out.cell
    have HAP:=AE happ.1
    have HWR9:Hid (Below w2.heap.size w2 wn_):=AE (HWR6.out.trans (((HB7.out.alloc hsz7 _).mono (by omega)).trans (happ.2.mono (by omega))))
    clear hown hg hf happ
    refine hK.out _ _ (⟨HBO9.out.cell 1,HQB.out 0,HQB.out 1,HQB.out 2,HQB.out 3⟩) ?_
    clear hK
    refine ax 6 ?_
    refine eu (by kernel_rfl) (by kernel_rfl) rfl (fun K hK=>?_)
    go_simp
    refine hK.out _ _ ?_
    go_wp2_with fail
    go_roundw
    case rel=>exact ⟨xs.length+1,xs++[⟨u,A5,c5⟩],An2,cn2,by omega,by go_num,by rw [AK,List.length_singleton],AE (by rw [List.map_append,List.map_singleton,←List.take_append_getElem hlt];exact jD HXT.out HFILL.out),AE (HWR9.out.setCell (p:=⟨w2.heap.size,1,none⟩) (AG _) _),AE (HBO9.out.set_ 1 _),AE (HAP.out.under (by omega) 1 _)⟩
    case measure=>simp [intOf];omega
   ·have hk1:(x.kind==1)=true:=by simpa using hv
    have HV:=AE hv
    clear hv
    have HBB4:=AE (HBB2.out.later HWR4.out)
    have k_t:=HBT4.out.cell
    have l_t:=HBT4.out.lt
    have k_b:=HBB4.out.cell
    have l_b:=HBB4.out.lt
    go_wp2_with fail
    refine (yK (d:=d) (cn:=cn) (ct:=ct) (HN.out.keep (HB2.out.trans (HWR4.out.mono HB2.out.size)) hB) (HT.out.keep (HB2.out.trans (HWR4.out.mono HB2.out.size)) hB) (by omega)).mono ?_
    rintro e w5 ⟨⟨Au,cu,rfl,htm⟩,hb5⟩
    have HTM:=AE htm
    have HBT5:=AE (HBT4.out.later hb5)
    have HBO5:=AE (HBO4.out.later hb5)
    have HST5:=AE (HST4.out.later hb5)
    have HWR5:Hid (Below w2.heap.size w2 w5):=AE (HWR4.out.trans (hb5.mono (by omega)))
    have HBR5:=AE (HBR2.out.later HWR5.out)
    have hsz5:=hb5.size
    clear k_t l_t k_b l_b htm hb5
    have HLK:Hid (nR b x=cZ b (bs x.s)):=AE (by unfold nR;rw [if_pos HV.out])
    rw [if_pos H2.out] at HTM ⊢
    rcases hl:cZ b (bs x.s) with _ | u
    ·have HNO:Hid (gY p b=none):=AE (HNON.out (mX HXI.out (HLK.out.trans hl)))
     simp only [Option.getD_none,Option.isSome_none]
     have k_t:=HBT5.out.cell
     have l_t:=HBT5.out.lt
     have f_t:=HBT5.out.free
     go_upto_region 10 with fail
     clear k_t l_t f_t
     have HBR6:=AE ((((HBR5.out.far (c:=wr.heap.size) (by omega) 0 (.int .i64 noT.kind)).far (c:=wr.heap.size) (by omega) 1 (.int .i64 noT.n)).far (c:=wr.heap.size) (by omega) 2 (.string noT.s)).far (c:=wr.heap.size) (by omega) 3 (.slice Au noT.l.length cu))
     have HWR6:Hid (Below w2.heap.size w2 ((((w5.setCell ⟨wr.heap.size,0,none⟩ (.int .i64 noT.kind)).setCell ⟨wr.heap.size,1,none⟩ (.int .i64 noT.n)).setCell ⟨wr.heap.size,2,none⟩ (.string noT.s)).setCell ⟨wr.heap.size,3,none⟩ (.slice Au noT.l.length cu))):=AE (cC HWR5.out (by omega) (.int .i64 noT.kind) (.int .i64 noT.n) (.string noT.s) (.slice Au noT.l.length cu))
     have HBw6:Hid (Below w.heap.size w ((((w5.setCell ⟨wr.heap.size,0,none⟩ (.int .i64 noT.kind)).setCell ⟨wr.heap.size,1,none⟩ (.int .i64 noT.n)).setCell ⟨wr.heap.size,2,none⟩ (.string noT.s)).setCell ⟨wr.heap.size,3,none⟩ (.slice Au noT.l.length cu))):=AE (cC (HB2.out.trans (HWR5.out.mono HB2.out.size)) (by omega) (.int .i64 noT.kind) (.int .i64 noT.n) (.string noT.s) (.slice Au noT.l.length cu))
     generalize (((w5.setCell ⟨wr.heap.size,0,none⟩ (.int .i64 noT.kind)).setCell ⟨wr.heap.size,1,none⟩ (.int .i64 noT.n)).setCell ⟨wr.heap.size,2,none⟩ (.string noT.s)).setCell ⟨wr.heap.size,3,none⟩ (.slice Au noT.l.length cu)=w6 at *
     have k_r:=HBR6.out.cell
     have l_r:=HBR6.out.lt
     have f_r:=HBR6.out.free
     go_wp2_with fail
     refine bodyPost_ret (ot rfl rfl (kB HBR6.out (.string ⟨#[]⟩) (.slice none 0 0)) rfl) rfl ?_
     rw [HNO.out]
     exact sW.no (kC HBw6.out (by omega) _ _)
    ·rw [hl] at HTM
     have HFILL:Hid (nR b p.terms[xs.length]=some u):=AE (by rw [HXE.out];exact HLK.out.trans hl)
     have HUF:Hid (af u=true):=AE (nf HOKN.out.1 hl)
     clear hl
     simp only [Option.getD_some,Option.isSome_some] at HTM ⊢
     obtain ⟨hle,hl16⟩:=aO HUF.out
     have HLE:=AE hle
     clear hle
     have k_t:=HBT5.out.cell
     have l_t:=HBT5.out.lt
     have f_t:=HBT5.out.free
     go_upto_region 10 with fail
     clear k_t l_t f_t
     have HBR6:=AE ((((HBR5.out.far (c:=wr.heap.size) (by omega) 0 (.int .i64 u.kind)).far (c:=wr.heap.size) (by omega) 1 (.int .i64 u.n)).far (c:=wr.heap.size) (by omega) 2 (.string u.s)).far (c:=wr.heap.size) (by omega) 3 (.slice Au u.l.length cu))
     have HWR6:Hid (Below w2.heap.size w2 ((((w5.setCell ⟨wr.heap.size,0,none⟩ (.int .i64 u.kind)).setCell ⟨wr.heap.size,1,none⟩ (.int .i64 u.n)).setCell ⟨wr.heap.size,2,none⟩ (.string u.s)).setCell ⟨wr.heap.size,3,none⟩ (.slice Au u.l.length cu))):=AE (cC HWR5.out (by omega) (.int .i64 u.kind) (.int .i64 u.n) (.string u.s) (.slice Au u.l.length cu))
     have HBw6:Hid (Below w.heap.size w ((((w5.setCell ⟨wr.heap.size,0,none⟩ (.int .i64 u.kind)).setCell ⟨wr.heap.size,1,none⟩ (.int .i64 u.n)).setCell ⟨wr.heap.size,2,none⟩ (.string u.s)).setCell ⟨wr.heap.size,3,none⟩ (.slice Au u.l.length cu))):=AE (cC (HB2.out.trans (HWR5.out.mono HB2.out.size)) (by omega) (.int .i64 u.kind) (.int .i64 u.n) (.string u.s) (.slice Au u.l.length cu))
     have HBT6:=AE (dA HBT5.out (.int .i64 u.kind) (.int .i64 u.n) (.string u.s) (.slice Au u.l.length cu))
     have HBO6:=AE ((((HBO5.out.far (c:=wr.heap.size) (by omega) 0 (.int .i64 u.kind)).far (c:=wr.heap.size) (by omega) 1 (.int .i64 u.n)).far (c:=wr.heap.size) (by omega) 2 (.string u.s)).far (c:=wr.heap.size) (by omega) 3 (.slice Au u.l.length cu))
     have HST6:Hid (StkQ w3.heap.size d ((((w5.setCell ⟨wr.heap.size,0,none⟩ (.int .i64 u.kind)).setCell ⟨wr.heap.size,1,none⟩ (.int .i64 u.n)).setCell ⟨wr.heap.size,2,none⟩ (.string u.s)).setCell ⟨wr.heap.size,3,none⟩ (.slice Au u.l.length cu)) xs A c):=AE ((HST5.out).far4 (HST.out.low (AG _)) (.int .i64 u.kind) (.int .i64 u.n) (.string u.s) (.slice Au u.l.length cu))
     have HU6:=AE ((HTM.out.put4 (g:=wr.heap.size) (by omega) (.int .i64 u.kind) (.int .i64 u.n) (.string u.s) (.slice Au u.l.length cu)).rtm)
     have hsz6:wr.heap.size≤((((w5.setCell ⟨wr.heap.size,0,none⟩ (.int .i64 u.kind)).setCell ⟨wr.heap.size,1,none⟩ (.int .i64 u.n)).setCell ⟨wr.heap.size,2,none⟩ (.string u.s)).setCell ⟨wr.heap.size,3,none⟩ (.slice Au u.l.length cu)).heap.size:=by simp only [World.size_setCell];omega
     generalize (((w5.setCell ⟨wr.heap.size,0,none⟩ (.int .i64 u.kind)).setCell ⟨wr.heap.size,1,none⟩ (.int .i64 u.n)).setCell ⟨wr.heap.size,2,none⟩ (.string u.s)).setCell ⟨wr.heap.size,3,none⟩ (.slice Au u.l.length cu)=w6 at *
     have k_t:=HBT6.out.cell
     have l_t:=HBT6.out.lt
     go_upto_region 12 with fail
     clear k_t l_t
     have HSL:Hid (∀{w':World},Below w6.heap.size w6 w'→(w'.cell? ⟨w2.heap.size,1,none⟩=some (.slice A xs.length c)∧w'.cell? ⟨wr.heap.size,0,none⟩=some (.int .i64 u.kind)∧w'.cell? ⟨wr.heap.size,1,none⟩=some (.int .i64 u.n)∧w'.cell? ⟨wr.heap.size,2,none⟩=some (.string u.s)∧w'.cell? ⟨wr.heap.size,3,none⟩=some (.slice Au u.l.length cu))):=AE (fun hb=>have h:=(HBT6.out.later hb).cell;⟨(HBO6.out.later hb).cell 1,h 0,h 1,h 2,h 3⟩)
     refine bv (S:=fun w'=>w'.cell? ⟨w2.heap.size,1,none⟩=some (.slice A xs.length c)∧w'.cell? ⟨wr.heap.size,0,none⟩=some (.int .i64 u.kind)∧w'.cell? ⟨wr.heap.size,1,none⟩=some (.int .i64 u.n)∧w'.cell? ⟨wr.heap.size,2,none⟩=some (.string u.s)∧w'.cell? ⟨wr.heap.size,3,none⟩=some (.slice Au u.l.length cu)) 7 (by kernel_rfl) (by kernel_rfl) (by kernel_rfl) (by kernel_rfl) (HSL.out (AI _ _).drew) ?_
     refine ax 0 ?_
     refine ax 1 ?_
     refine ax 2 ?_
     refine aJ (rs:=[3]) (by kernel_rfl) rfl (by kernel_rfl) ?_
     refine aB.cons rfl (fun K hK=>?_) aB.nil
     go_simp
     refine (gK (B:=w6.heap.size) (t:=u) (vs:=[_,_,_,_]) (RTm.below (AI _ _).drew (AG _) HU6.out) (AG _) HLE.out hl16).mono ?_
     rintro e w7 ⟨⟨A5,c5,rfl,hown⟩,hb7⟩
     have HOWN:Hid (TmOwn d w6.heap.size w7 u A5 c5):=AE hown
     have HB7:Hid (Below w6.heap.size w6 w7):=AE ((AI w6.heap.size w6).drew.trans hb7)
     have hsz7:=HB7.out.size
     clear hown hb7
     refine hK.out _ _ (HSL.out HB7.out) ?_
     clear hK
     refine aJ (rs:=[4]) (by kernel_rfl) rfl (by kernel_rfl) ?_
     refine aB.cons rfl (fun K hK=>?_) aB.nil
     go_simp
     refine hK.out _ _ (HSL.out (HB7.out.alloc hsz7 _)) ?_
     clear hK
     refine aJ (rs:=[5]) (by kernel_rfl) rfl (by kernel_rfl) ?_
     refine aB.cons rfl (fun K hK=>?_) aB.nil
     refine cT (R:=SvR) (e:=29) rfl (.tmp 43) (.tmp 46) 24 rfl (bytes:=56) Tryz.underlying24 hi0 hz0 hz1 hz2 rfl (show 0<4 by omega) ck rfl (base:=w3.heap.size) (xs:=xs) (ys:=[⟨u,A5,c5⟩]) (HST6.out.own.later (HB7.out.alloc hsz7 _) (AH _)) rfl (xz (x:=⟨u,A5,c5⟩) Ac) rfl (by simp only [AV,List.length_nil];omega) (by omega) (by rw [World.size_alloc];omega) ?_
     intro v wn_ hown hg hf
     obtain ⟨An2,cn2,hv⟩:∃A c,v=.slice A (xs.length+1) c:=by have:=hown.form;rwa [AK,List.length_singleton] at this
     subst hv
     have happ:=(HST6.out.later (HB7.out.alloc hsz7 _)).app (x:=⟨u,A5,c5⟩) (HOWN.out.at_.later ((AI _ _).alloc (AG _) _)) (HST6.out.apart (AG _) fun a ha=>(HOWN.out.blk a ha).1) (fun a ha=>⟨by have:=(HOWN.out.blk a ha).1;omega,by have:=(HOWN.out.blk a ha).2;rw [World.size_alloc];omega⟩) (by rw [World.size_alloc];omega) hown hg hf
     have HQB:=AE (((HBT6.out.later (HB7.out.alloc hsz7 _)).grown hg (HST.out.own.own_lt (AG _)).symm).cell)
     have HBO9:=AE ((HBO6.out.later (HB7.out.alloc hsz7 _)).grown hg (HST.out.own_ge (by omega)).symm)
     have f_o:=HBO9.out.free
     have k_o9:=HBO9.out.cell
     have HAP:=AE happ.1
     have HWR9:Hid (Below w2.heap.size w2 wn_):=AE (HWR6.out.trans (((HB7.out.alloc hsz7 _).mono (by omega)).trans (happ.2.mono (by omega))))
     clear hown hg hf happ
     refine hK.out _ _ (⟨HBO9.out.cell 1,HQB.out 0,HQB.out 1,HQB.out 2,HQB.out 3⟩) ?_
     clear hK
     refine ax 6 ?_
     refine eu (by kernel_rfl) (by kernel_rfl) rfl (fun K hK=>?_)
     go_simp
     refine hK.out _ _ ?_
     go_wp2_with fail
     go_roundw
     case rel=>exact ⟨xs.length+1,xs++[⟨u,A5,c5⟩],An2,cn2,by omega,by go_num,by rw [AK,List.length_singleton],AE (by rw [List.map_append,List.map_singleton,←List.take_append_getElem hlt];exact jD HXT.out HFILL.out),AE (HWR9.out.setCell (p:=⟨w2.heap.size,1,none⟩) (AG _) _),AE (HBO9.out.set_ 1 _),AE (HAP.out.under (by omega) 1 _)⟩
     case measure=>simp [intOf];omega
  ·have HXL:Hid (xs.length=p.terms.length):=AE (by omega)
   have HRS:Hid (gY p b=some ⟨p.name,xs.map SV.t⟩):=AE (HYES.out _ (by have:=HXT.out;rw [HXL.out,List.take_length] at this;exact this))
   have hlm:(xs.map SV.t).length=xs.length:=AM _
   have HBRr:=AE (HBR2.out.later HWR.out)
   have k_o:=HBO.out.cell
   have k_r:=HBRr.out.cell
   have f_r:=HBRr.out.free
   have l_r:=HBRr.out.lt
   go_wp2_with fail
   refine bodyPost_ret (ot rfl rfl (kB HBRr.out (.string p.name) (.slice A xs.length c)) rfl) rfl ?_
   rw [HRS.out]
   exact ⟨⟨A,c,xs,by simp,rfl,((HST.out.under (by omega) 0 _).under (by omega) 1 _).lower (by omega)⟩,kC HBw.out (by omega) _ _⟩
end Go.Proofs.YtjpndglegpcdnaaGreat
