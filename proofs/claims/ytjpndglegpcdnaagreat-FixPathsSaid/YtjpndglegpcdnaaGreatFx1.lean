/- fix.Owned.may, fix.all. -/
import Derived.Test.YtjpndglegpcdnaaGreatScopeL
set_option linter.unusedVariables false
set_option linter.unusedSimpArgs false
set_option maxRecDepth 100000
set_option maxHeartbeats 8000000
namespace Go.Proofs.YtjpndglegpcdnaaGreat
open Go.ChangeShapes Go.WideShapes Go.ChangeAt Go.RowKit
structure OwD where
 rule:Ru
 block:Int
 trusted:Int
def gL (o:OwD):Bool:=aM o.rule&&(decide (0≤o.block)&&decide (o.block<8)||decide (o.block=15))
theorem qh {o:OwD} (h:gL o=true):aM o.rule=true∧0≤o.block∧o.block.toNat<16:=by
 unfold gL at h
 simp only [yx,Bool.or_eq_true,yC] at h
 refine ⟨h.1,?_,?_⟩<;>omega
def iY (o:OwD) (a:Ans):Option Fc:=match gE o.rule.head a.b with | some p=>some ⟨p,orO a.o (iS o.block.toNat)⟩ | none=>none
def aA (fs:List Fc) (o:OwD):List Fc × Int:=((aX fs o.trusted o.rule).1.filterMap (iY o),(aX fs o.trusted o.rule).2)
def eV (fs:List Fc):List OwD→List Fc × Int
 | []=>([],0)
 | o::rs=>if (aA fs o).2≠0 then ([],(aA fs o).2) else if (eV fs rs).2≠0 then ([],(eV fs rs).2) else ((aA fs o).1.filter (fun f=>!gI fs f)++(eV fs rs).1,0)
def aw (fs:List Fc) (rs:List OwD):List Fc × Int:=if rs.all gL=true then (if (eV fs rs).2≠0 then ([],(eV fs rs).2) else (setL aS (eV fs rs).1,0)) else ([],1)
def jV (rs:List OwD) (lf lr:Int):Nat→List Fc→Int→Option (List Fc) × Int × Int
 | 0,_,_=>(none,0,11)
 | n+1,fs,k=>if (aw fs rs).2≠0 then (none,0,(aw fs rs).2) else if (aw fs rs).1.length=0 then (some fs,k,0) else if k=lr then (none,0,11) else if lf<fs.length+(aw fs rs).1.length then (none,0,10) else jV rs lf lr n ((aw fs rs).1.foldl eO fs) (k+1)
def qZ (lf lr:Int):Bool:=(decide (1≤lf)&&decide (lf≤1000))&&(decide (1≤lr)&&decide (lr≤100))
def gX (l:List Fc) (rs:List OwD) (lf lr:Int):Option (List Fc) × Int × Int:=
 if qZ lf lr=true then (if (l.all aL&&rs.all gL)=true then (if lf<(stL l).length then (none,0,10) else jV rs lf lr 101 (stL l) 0) else (none,0,1)) else (none,0,1)
/-! Numbers. -/
theorem uD (a b:Int):orO a b=((BitVec.ofInt 32 a ||| BitVec.ofInt 32 b).toNat:Int):=by
 have h:=(BitVec.ofInt 32 a ||| BitVec.ofInt 32 b).isLt
 have e:orO a b=((BitVec.ofInt 32 a ||| BitVec.ofInt 32 b).toNat:Int) % 4294967296:=rfl
 rw [e]
 exact Int.emod_eq_of_lt (Int.natCast_nonneg _) (by omega)
theorem orO_in (a b:Int):U32 (orO a b):=by
 have h:=(BitVec.ofInt 32 a ||| BitVec.ofInt 32 b).isLt
 rw [uD]
 exact ⟨Int.natCast_nonneg _,by omega⟩
theorem uC {a:Int} {k:Nat} (hk:k<16):(orO a (iS k)).toNat.testBit k=true:=by
 rw [uD,Int.toNat_natCast,BitVec.toNat_or,Nat.testBit_or,Bool.or_eq_true]
 right
 have h1:BitVec.ofInt 32 (iS k)=BitVec.ofNat 32 (2 ^ k):=by unfold iS;exact BitVec.ofInt_natCast _ _
 have h2:(2:Nat) ^ k≤2 ^ 15:=Nat.pow_le_pow_right (by omega) (by omega)
 rw [h1,BitVec.toNat_ofNat,Nat.mod_eq_of_lt (by omega),Nat.testBit_two_pow_self]
theorem orO_ne {a:Int} {k:Nat} (hk:k<16):orO a (iS k)≠0:=fun h=>by
 have:=uC (a:=a) hk
 rw [h] at this
 simp at this
/-! Answers. -/
theorem oa:∀{ys:List Ans} {p:Ans},(ec eqA p ys).length≤ys.length
 | [],_=>yo _
 | y::ys,p=>by
   rw [ec]
   have:=oa (ys:=ys) (p:=y)
   split<;>simp only [yE]<;>omega
theorem xr (L:List Ans):(lA L).length≤L.length:=by
 have h:=(gu L).length_eq
 unfold lA
 cases hs:iJ L with
 | nil=>simp [cpt]
 | cons p ys=>
   rw [hs] at h
   have:=oa (ys:=ys) (p:=p)
   rw [cpt]
   simp only [yE] at h ⊢
   omega
theorem gP (fs:List Fc) (tr:Int) (r:Ru):(aX fs tr r).1.length≤1000000:=by
 rw [kp]
 split
 ·split
  ·have h1:=fC (fs:=fs) (tr:=tr) (es:=r.exprs) (ps:=r.body) (x:=iO) (s:=⟨0,[],0⟩)
   have h2:=h1.2.1 (by decide)
   have h3:=h1.2.2
   have h4:=xr (xj fs tr r).out
   simp at h3
   show (lA _).length≤_
   unfold xj at h4 ⊢
   omega
  ·simp
 ·simp
theorem qO {b:Bd} (hb:OkN b):∀{xs zs:List Tm},(∀x∈xs,kc x=true)→gD b xs=some zs→zs.length=xs.length∧∀z∈zs,af z=true
 | [],zs,_,h=>by cases h;exact ⟨rfl,by simp⟩
 | x::xs,zs,hx,h=>by
   rw [gD] at h
   split at h
   ·rename_i z hz
    split at h
    ·rename_i zs' hzs
     cases h
     obtain ⟨h1,h2⟩:=qO hb (fun y hy=>hx y (by simp [hy])) hzs
     refine ⟨by simp [h1],fun u hu=>?_⟩
     rcases List.mem_cons.1 hu with rfl | hu
     ·unfold mZ at hz
      split at hz
      ·exact mr hb hz
      ·rename_i hk
       cases hz
       unfold af
       rw [decide_eq_true hk,hx _ (by simp)];rfl
     ·exact h2 u hu
    ·cases h
   ·cases h
theorem fill_ok {p q:Pr} {b:Bd} (h:gE p b=some q):q.name=p.name∧q.terms.length=p.terms.length∧aB p=true∧∀t∈q.terms,af t=true:=by
 unfold gE at h
 split at h
 ·rename_i hm
  split at h
  ·rename_i zs hz
   cases h
   obtain ⟨h1,h2⟩:=qO (dI.1 hm.2).1 (fO hm.1).2 hz
   exact ⟨rfl,h1,hm.1,h2⟩
  ·cases h
 ·cases h
structure HeadOf (o:OwD) (f:Fc):Prop where
 name:f.pr.name=o.rule.head.name
 len:f.pr.terms.length=o.rule.head.terms.length
 bit:f.o.toNat.testBit o.block.toNat=true
theorem tW {o:OwD} {a:Ans} {f:Fc} (ho:gL o=true) (h:iY o a=some f):aL f=true∧FcOk f∧HeadOf o f:=by
 unfold iY at h
 split at h
 ·rename_i p hp
  cases h
  obtain ⟨h1,h2,h3,h4⟩:=fill_ok hp
  have hk:=(qh ho).2.2
  have hn:fp (bs o.rule.head.name)=true:=by
   unfold aB at h3
   simp only [yx] at h3
   exact h3.1.1.1
  have h8:=(fO h3).1
  have hst:aL ⟨p,orO a.o (iS o.block.toNat)⟩=true:=by
   unfold aL
   rw [decide_eq_true (orO_ne hk),h1,hn,h2,decide_eq_true h8,List.all_eq_true.2 h4];rfl
  have hs:p.name.size≤140737488351232:=by
   rw [h1]
   have:=(fQ _).1 hn
   omega
  exact ⟨hst,kj hst hs (orO_in _ _),⟨h1,h2,uC hk⟩⟩
 ·cases h
section
variable {fs gs:List Fc} {rs rs':List OwD} {f:Fc} {lf lr:Int}
theorem mn {o:OwD} (ho:gL o=true) (h:f∈(aA fs o).1):aL f=true∧FcOk f∧HeadOf o f:=by
 obtain ⟨a,_,h2⟩:=List.mem_filterMap.1 h
 exact tW ho h2
theorem eW:∀{rs:List OwD},(eV fs rs).2=0↔∀o∈rs,(aA fs o).2=0
 | []=>by simp [eV]
 | o::rs=>by
   rw [eV]
   split
   ·rename_i h
    constructor
    ·intro h1;exact absurd h1 h
    ·intro h1;exact h1 o (by simp)
   ·rename_i h
    split
    ·rename_i h2
     constructor
     ·intro h1;exact absurd h1 h2
     ·intro h1;exact eW.2 (fun p hp=>h1 p (by simp [hp]))
    ·rename_i h2
     refine ⟨fun _ p hp=>?_,fun _=>rfl⟩
     rcases List.mem_cons.1 hp with rfl | hp
     ·exact Classical.not_not.1 h
     ·exact eW.1 (Classical.not_not.1 h2) p hp
theorem kf:∀{rs:List OwD},(eV fs rs).2=0→(f∈(eV fs rs).1↔∃o∈rs,f∈(aA fs o).1∧gI fs f=false)
 | [],_=>by simp [eV]
 | o::rs,h=>by
   have h0:=eW.1 h
   have h1:(aA fs o).2=0:=h0 o (by simp)
   have h2:(eV fs rs).2=0:=eW.2 fun p hp=>h0 p (by simp [hp])
   rw [eV,if_neg (by simp [h1]),if_neg (by simp [h2])]
   show f∈_++_↔_
   rw [List.mem_append,kf h2,List.mem_filter]
   constructor
   ·rintro (⟨a,b⟩ | ⟨p,a,b⟩)
    ·exact ⟨o,by simp,a,by simpa using b⟩
    ·exact ⟨p,by simp [a],b⟩
   ·rintro ⟨p,a,b⟩
    rcases List.mem_cons.1 a with rfl | a
    ·exact .inl ⟨b.1,by simp [b.2]⟩
    ·exact .inr ⟨p,a,b⟩
theorem iH:(aw fs rs).2=0↔rs.all gL=true∧∀o∈rs,(aA fs o).2=0:=by
 unfold aw
 split
 ·rename_i h1
  split
  ·rename_i h2
   constructor
   ·intro h;exact absurd h h2
   ·intro h;exact eW.2 h.2
  ·rename_i h2
   exact ⟨fun _=>⟨h1,eW.1 (Classical.not_not.1 h2)⟩,fun _=>rfl⟩
 ·rename_i h1
  constructor
  ·intro h;cases h
  ·intro h;exact absurd h.1 h1
theorem eI (h:(aw fs rs).2=0):(aw fs rs).1=setL aS (eV fs rs).1∧(eV fs rs).2=0:=by
 have h1:=iH.1 h
 have h2:=eW.2 h1.2
 unfold aw
 rw [if_pos h1.1,if_neg (by simp [h2])]
 exact ⟨rfl,h2⟩
theorem uB (h:(aw fs rs).2=0) (hf:f∈(eV fs rs).1):aL f=true∧FcOk f∧∃o∈rs,HeadOf o f:=by
 obtain ⟨o,h1,h2,_⟩:=(kf (eI h).2).1 hf
 obtain ⟨h3,h4,h5⟩:=mn (List.all_eq_true.1 (iH.1 h).1 o h1) h2
 exact ⟨h3,h4,o,h1,h5⟩
theorem uA (h:(aw fs rs).2=0):∀a∈(eV fs rs).1,∀b∈(eV fs rs).1,aS a b=0→a=b:=fun a ha b hb e=>(gh (uB h ha).2.1 (uB h hb).2.1).1 e
theorem jD (h:(aw fs rs).2=0):bD (aw fs rs).1:=by rw [(eI h).1];exact lv aT (uA h)
theorem lu (h:(aw fs rs).2=0):f∈(aw fs rs).1↔∃o∈rs,f∈(aA fs o).1∧gI fs f=false:=by
 rw [(eI h).1,ro aT (uA h),kf (eI h).2]
theorem gt (h:(aw fs rs).2=0) (hf:f∈(aw fs rs).1):aL f=true∧FcOk f∧∃o∈rs,HeadOf o f:=
 uB h ((kf (eI h).2).2 ((lu h).1 hf))
structure StF (fs:List Fc):Prop where
 sort:bD fs
 ok:∀x∈fs,FcOk x
 st:∀x∈fs,aL x=true
theorem StF.has (h:StF fs) (hf:FcOk f):gI fs f=true↔f∈fs:=qV h.sort h.ok hf
theorem StF.more (h:StF fs) (hr:(aw fs rs).2=0):StF ((aw fs rs).1.foldl eO fs)∧∀x,x∈(aw fs rs).1.foldl eO fs↔x∈fs∨x∈(aw fs rs).1:=by
 have hin:∀f∈(aw fs rs).1,sZ f:=fun f hf=>⟨(gt hr hf).2.1.name,(gt hr hf).2.1.o⟩
 obtain ⟨h1,h2,h3⟩:=iK (aw fs rs).1 fs h.sort h.ok hin
 have h4:∀x,x∈(aw fs rs).1.foldl eO fs↔x∈fs∨x∈(aw fs rs).1:=fun x=>by
  rw [h3]
  exact or_congr_right ⟨fun k=>k.1,fun k=>⟨k,(gt hr k).1⟩⟩
 refine ⟨⟨h1,h2,fun x hx=>?_⟩,h4⟩
 rcases (h4 x).1 hx with k | k
 ·exact h.st x k
 ·exact (gt hr k).1
theorem StF.of {l:List Fc} (hl:∀f∈l,sZ f):StF (stL l):=⟨mH hl,stL_ok hl,fun x hx=>((vd hl).1 hx).2⟩
structure RunOk (rs:List OwD) (lf lr:Int) (fs gs:List Fc) (m:Int):Prop where
 st:StF gs
 done:aw gs rs=([],0)
 few:(gs.length:Int)≤lf
 rounds:m≤lr
 sub:∀x∈fs,x∈gs
 heads:∀x∈gs,x∈fs∨∃o∈rs,HeadOf o x
theorem tR:∀{n:Nat} {fs:List Fc} {k:Int},StF fs→k≤lr→(fs.length:Int)≤lf→(jV rs lf lr n fs k).2.2=0→∃gs m,jV rs lf lr n fs k=(some gs,m,0)∧0≤m-k∧RunOk rs lf lr fs gs m
 | 0,fs,k,_,_,_,h=>by cases h
 | n+1,fs,k,hs,hk,hf,h=>by
   rw [jV] at h ⊢
   split
   ·rename_i h1;rw [if_pos h1] at h;exact absurd h h1
   ·rename_i h1
    rw [if_neg h1] at h
    have h1':=Classical.not_not.1 h1
    split
    ·rename_i h2
     refine ⟨fs,k,rfl,by omega,hs,Prod.ext (List.eq_nil_of_length_eq_zero h2) h1',hf,hk,fun _ hx=>hx,fun _ hx=>.inl hx⟩
    ·rename_i h2
     rw [if_neg h2] at h
     split
     ·rename_i h3;rw [if_pos h3] at h;cases h
     ·rename_i h3
      rw [if_neg h3] at h
      split
      ·rename_i h4;rw [if_pos h4] at h;cases h
      ·rename_i h4
       rw [if_neg h4] at h
       obtain ⟨k1,k2⟩:=hs.more h1'
       have k3:=qv (aw fs rs).1 fs
       obtain ⟨gs,m,e,h5,h6⟩:=tR k1 (by omega) (by omega) h
       refine ⟨gs,m,e,by omega,h6.st,h6.done,h6.few,h6.rounds,fun x hx=>h6.sub x ((k2 x).2 (.inl hx)),fun x hx=>?_⟩
       rcases h6.heads x hx with h7 | h7
       ·exact ((k2 x).1 h7).imp id fun h8=>(gt h1' h8).2.2
       ·exact .inr h7
theorem run_ok {l:List Fc} (hl:∀f∈l,sZ f) (h:(gX l rs lf lr).2.2=0):∃gs m,gX l rs lf lr=(some gs,m,0)∧0≤m∧RunOk rs lf lr (stL l) gs m∧l.all aL=true∧rs.all gL=true∧qZ lf lr=true∧jV rs lf lr 101 (stL l) 0=(some gs,m,0):=by
 unfold gX at h ⊢
 split
 ·rename_i h1
  rw [if_pos h1] at h
  split
  ·rename_i h2
   rw [if_pos h2] at h
   rw [yx] at h2
   split
   ·rename_i h3;rw [if_pos h3] at h;cases h
   ·rename_i h3
    rw [if_neg h3] at h
    have h1':=h1
    simp only [qZ,yx,yC] at h1'
    obtain ⟨gs,m,e,h4,h5⟩:=tR (StF.of hl) (by omega) (by omega) h
    exact ⟨gs,m,e,by omega,h5,h2.1,h2.2,h1,e⟩
  ·rename_i h2;rw [if_neg h2] at h;cases h
 ·rename_i h1;rw [if_neg h1] at h;cases h
end
def rawR (fs:List Fc) (o:OwD):List Fc:=(xj fs o.trusted o.rule).out.filterMap (iY o)
def okR (fs:List Fc) (o:OwD):Bool:=decide ((xj fs o.trusted o.rule).e=0)&&(xj fs o.trusted o.rule).out.all fun x=>bB x.b
theorem rv {L:List Ans} (h:L.all (fun x=>bB x.b)=true) {x:Ans}:x∈lA L↔x∈L:=by
 obtain ⟨_,h1,h2⟩:=sM L
 refine ⟨h2 x,fun hx=>?_⟩
 obtain ⟨y,hy,e⟩:=h1 x hx
 have h3:=List.all_eq_true.1 h
 obtain rfl:=ans_eq (h3 y (h2 y hy)) (h3 x hx) e
 exact hy
theorem hI {fs:List Fc} {o:OwD} (h1:gL o=true) (h:okR fs o=true):(aA fs o).2=0∧∀f,f∈(aA fs o).1↔f∈rawR fs o:=by
 unfold okR at h
 simp only [yx,yC] at h
 obtain ⟨h2,h3⟩:=h
 have hm:=(qh h1).1
 have e:aX fs o.trusted o.rule=(lA (xj fs o.trusted o.rule).out,0):=by
  rw [kp,if_pos (by rw [hm];rfl),if_pos h2]
 unfold aA
 rw [e]
 refine ⟨rfl,fun f=>?_⟩
 unfold rawR
 rw [List.mem_filterMap,List.mem_filterMap]
 exact ⟨fun ⟨a,ha,k⟩=>⟨a,(rv h3).1 ha,k⟩,fun ⟨a,ha,k⟩=>⟨a,(rv h3).2 ha,k⟩⟩
theorem nx {fs X:List Fc} {rs:List OwD} (h0:rs.all gL=true) (h1:rs.all (okR fs)=true) (hX:(rs.flatMap fun o=>(rawR fs o).filter fun f=>!gI fs f)=X) (hs:bD X):aw fs rs=(X,0):=by
 have h2:∀o∈rs,_:=fun o ho=>hI (List.all_eq_true.1 h0 o ho) (List.all_eq_true.1 h1 o ho)
 have h3:(aw fs rs).2=0:=iH.2 ⟨h0,fun o ho=>(h2 o ho).1⟩
 refine Prod.ext (jj (jD h3) hs fun f=>?_) h3
 rw [lu h3,←hX,List.mem_flatMap]
 constructor
 ·rintro ⟨o,ho,h4,h5⟩
  exact ⟨o,ho,List.mem_filter.2 ⟨((h2 o ho).2 f).1 h4,by rw [h5];rfl⟩⟩
 ·rintro ⟨o,ho,h4⟩
  obtain ⟨h5,h6⟩:=List.mem_filter.1 h4
  exact ⟨o,ho,((h2 o ho).2 f).2 h5,by simpa using h6⟩
theorem tQ {fs gs X:List Fc} {rs:List OwD} {lf lr k k':Int} {n:Nat} (h:aw fs rs=(X,0)) (h1:X.length≠0) (h2:k≠lr) (h3:¬lf<(fs.length:Int)+(X.length:Int)) (h4:X.foldl eO fs=gs) (hk:k+1=k'):jV rs lf lr (n+1) fs k=jV rs lf lr n gs k':=by
 subst hk
 rw [jV,h,if_neg (show ¬((X,(0:Int)).2≠0) by simp),if_neg h1,if_neg h2,if_neg h3,h4]
theorem wy {fs:List Fc} {rs:List OwD} {lf lr k:Int} {n:Nat} (h:aw fs rs=([],0)):jV rs lf lr (n+1) fs k=(some fs,k,0):=by
 rw [jV,h,if_neg (show ¬((([]:List Fc),(0:Int)).2≠0) by simp),if_pos (by rfl)]
def pwP:ByteArray:=⟨#[112,97,116,104]⟩
def pwE:ByteArray:=⟨#[101,100,103,101]⟩
def pwV (b:UInt8):Tm:=⟨1,0,⟨#[b]⟩,[]⟩
def pwN (n:Int):Tm:=⟨2,n,⟨#[]⟩,[]⟩
def pwQ (s:ByteArray) (a b:Tm):Pr:=⟨s,[a,b]⟩
def pwF (s:ByteArray) (a b:Int):Fc:=⟨pwQ s (pwN a) (pwN b),1⟩
def uM:Ru:=⟨pwQ pwP (pwV 120) (pwV 121),[pwQ pwE (pwV 120) (pwV 121)],[],[]⟩
def uN:Ru:=⟨pwQ pwP (pwV 120) (pwV 122),[pwQ pwP (pwV 120) (pwV 121),pwQ pwE (pwV 121) (pwV 122)],[],[]⟩
def pwO (t:Int):List OwD:=[⟨uM,0,t⟩,⟨uN,0,t⟩]
def pw0:List Fc:=[pwF pwE 1 2,pwF pwE 2 3]
def pw1:List Fc:=[pwF pwE 1 2,pwF pwE 2 3,pwF pwP 1 2,pwF pwP 2 3]
def pw2:List Fc:=[pwF pwE 1 2,pwF pwE 2 3,pwF pwP 1 2,pwF pwP 1 3,pwF pwP 2 3]
theorem mo (L M:List aW):iy (ef L) (ef M)=L.all (fun s=>decide (s∈M)):=by
 unfold iy
 rw [Bool.eq_iff_iff,List.all_eq_true,List.all_eq_true]
 simp only [yC,lc]
theorem pw_may1:aM uM=true:=by
 unfold aM
 rw [mo]
 kernel_rfl
theorem pw_may2:aM uN=true:=by
 unfold aM
 rw [mo]
 kernel_rfl
theorem jz (t:Int):(pwO t).all gL=true:=by
 simp only [pwO,List.all_cons,List.all_nil,gL,pw_may1,pw_may2]
 rfl
theorem pw_r0:aw pw0 (pwO 1)=([pwF pwP 1 2,pwF pwP 2 3],0):=
 nx (jz 1) (by kernel_rfl) (by kernel_rfl) (List.pairwise_cons.2 ⟨fun x hx=>by
  obtain rfl:=List.mem_singleton.1 hx
  exact of_decide_eq_true (by kernel_rfl),List.pairwise_singleton _ _⟩)
theorem pw_r1:aw pw1 (pwO 1)=([pwF pwP 1 3],0):=
 nx (jz 1) (by kernel_rfl) (by kernel_rfl) (List.pairwise_singleton _ _)
theorem pw_r2:aw pw2 (pwO 1)=([],0):=
 nx (jz 1) (by kernel_rfl) (by kernel_rfl) List.Pairwise.nil
theorem pw_fix:gX pw0 (pwO 1) 10 5=(some pw2,2,0):=by
 have e0:stL pw0=pw0:=by kernel_rfl
 have e1:[pwF pwP 1 2,pwF pwP 2 3].foldl eO pw0=pw1:=by kernel_rfl
 have e2:[pwF pwP 1 3].foldl eO pw1=pw2:=by kernel_rfl
 have g:jV (pwO 1) 10 5 101 pw0 0=(some pw2,2,0):=by
  rw [tQ (n:=100) (k':=1) pw_r0 (by decide) (by decide) (by decide) e1 rfl,tQ (n:=99) (k':=2) pw_r1 (by decide) (by decide) (by decide) e2 rfl,wy (n:=98) pw_r2]
 unfold gX
 rw [if_pos (by kernel_rfl),if_pos (by rw [jz];kernel_rfl),e0,if_neg (by decide),g]
theorem pw_has:gI pw2 (pwF pwP 1 3)=true:=by kernel_rfl
/-! Facts compared by looking. -/
def yi (fs:List Fc) (rs:List OwD):List Fc:=rs.flatMap fun o=>(rawR fs o).filter fun f=>!gI fs f
theorem rawA_in {fs:List Fc} {rs:List OwD} (h0:rs.all gL=true) (h1:rs.all (okR fs)=true):∀f∈yi fs rs,aL f=true∧sZ f:=fun f hf=>by
 obtain ⟨o,ho,h⟩:=List.mem_flatMap.1 hf
 have h2:=hI (List.all_eq_true.1 h0 o ho) (List.all_eq_true.1 h1 o ho)
 obtain ⟨h3,h4,_⟩:=mn (List.all_eq_true.1 h0 o ho) ((h2.2 f).2 (List.mem_filter.1 h).1)
 exact ⟨h3,⟨h4.name,h4.o⟩⟩
theorem round_c {fs:List Fc} {rs:List OwD} (h0:rs.all gL=true) (h1:rs.all (okR fs)=true):aw fs rs=(stL (yi fs rs),0):=by
 have hin:=rawA_in h0 h1
 have h2:∀o∈rs,_:=fun o ho=>hI (List.all_eq_true.1 h0 o ho) (List.all_eq_true.1 h1 o ho)
 have h3:(aw fs rs).2=0:=iH.2 ⟨h0,fun o ho=>(h2 o ho).1⟩
 refine Prod.ext (jj (jD h3) (mH fun f hf=>(hin f hf).2) fun f=>?_) h3
 rw [lu h3,vd fun f hf=>(hin f hf).2]
 constructor
 ·rintro ⟨o,ho,h4,h5⟩
  have h6:f∈yi fs rs:=List.mem_flatMap.2 ⟨o,ho,List.mem_filter.2 ⟨((h2 o ho).2 f).1 h4,by rw [h5];rfl⟩⟩
  exact ⟨h6,(hin f h6).1⟩
 ·rintro ⟨h4,_⟩
  obtain ⟨o,ho,h5⟩:=List.mem_flatMap.1 h4
  obtain ⟨h6,h7⟩:=List.mem_filter.1 h5
  exact ⟨o,ho,((h2 o ho).2 f).2 h6,by simpa using h7⟩
def vG (rs:List OwD) (lf lr:Int):Nat→List Fc→Int→Option (Option (List Fc) × Int × Int)
 | 0,_,_=>some (none,0,11)
 | n+1,fs,k=>if rs.all (okR fs)=true then
    (match stL (yi fs rs) with
     | []=>some (some fs,k,0)
     | x::X=>if k=lr then some (none,0,11) else if lf<(fs.length:Int)+((x::X).length:Int) then some (none,0,10) else vG rs lf lr n ((x::X).foldl eO fs) (k+1))
   else none
theorem tP {rs:List OwD} {lf lr:Int} (h0:rs.all gL=true):∀{n:Nat} {fs:List Fc} {k:Int} {R:Option (List Fc) × Int × Int},vG rs lf lr n fs k=some R→jV rs lf lr n fs k=R
 | 0,_,_,_,h=>Option.some.inj h
 | n+1,fs,k,R,h=>by
   rw [vG] at h
   split at h
   ·rename_i h1
    have hr:=round_c h0 h1
    rw [jV,hr,if_neg (show ¬((stL (yi fs rs),(0:Int)).2≠0) by simp)]
    show (if (stL (yi fs rs)).length=0 then _ else _)=R
    split at h
    ·rename_i h2
     rw [h2,if_pos (show ([]:List Fc).length=0 from rfl)]
     exact Option.some.inj h
    ·rename_i x X h2
     rw [h2,if_neg (by simp)]
     split at h
     ·rename_i h3
      rw [if_pos h3]
      exact Option.some.inj h
     ·rename_i h3
      rw [if_neg h3]
      split at h
      ·rename_i h4
       rw [if_pos h4]
       exact Option.some.inj h
      ·rename_i h4
       rw [if_neg h4]
       exact tP h0 h
   ·cases h
def rgL (n:Nat):List Fc:=(List.range n).map fun i=>pwF pwE (i:Nat) ((i+1) % n:Nat)
def okC (n k:Nat):Option (Option (List Fc) × Int × Int)→Bool
 | some (some S,r,e)=>decide (r=(k:Int))&&(decide (e=0)&&(decide (S.length=n+n*n)&&decide ((S.filter fun f=>decide (f.pr.name=pwP)&&decide (f.pr.terms.length=2)).length=n*n)))
 | _=>false
def yj (e:Int):Option (Option (List Fc) × Int × Int)→Bool
 | some (none,_,x)=>decide (x=e)
 | _=>false
def endC:Option (Option (List Fc) × Int × Int)→Bool
 | some (some _,_,x)=>decide (x=0)
 | _=>false
def nw (n:Nat):Bool:=(rgL n).all aL&&(decide ((stL (rgL n)).length=n)&&(okC n n (vG (pwO 1) (n+n*n:Nat) n 101 (stL (rgL n)) 0) &&
 (endC (vG (pwO 2) (n+n*n:Nat) n 101 (stL (rgL n)) 0)&&(decide (n=1)||(yj 11 (vG (pwO 1) (n+n*n:Nat) (n-1:Nat) 101 (stL (rgL n)) 0)&&yj 10 (vG (pwO 1) (n+n*n-1:Nat) n 101 (stL (rgL n)) 0))))))
theorem ring_1:nw 1=true:=by kernel_rfl
theorem ring_2:nw 2=true:=by kernel_rfl
theorem ring_3:nw 3=true:=by kernel_rfl
theorem ring_4:nw 4=true:=by kernel_rfl
theorem ring_5:nw 5=true:=by kernel_rfl
theorem ring_6:nw 6=true:=by kernel_rfl
theorem ring_7:nw 7=true:=by kernel_rfl
theorem xf {n:Nat} (h:n<7):nw (n+1)=true:=by
 match n,h with
 | 0,_=>exact ring_1
 | 1,_=>exact ring_2
 | 2,_=>exact ring_3
 | 3,_=>exact ring_4
 | 4,_=>exact ring_5
 | 5,_=>exact ring_6
 | 6,_=>exact ring_7
structure RingS (N:Nat):Prop where
 one:∃S,gX (rgL N) (pwO 1) (N+N*N:Nat) N=(some S,(N:Int),0)∧S.length=N+N*N∧(S.filter fun f=>decide (f.pr.name=pwP)&&decide (f.pr.terms.length=2)).length=N*N
 two:∃S k,gX (rgL N) (pwO 2) (N+N*N:Nat) N=(some S,k,0)
 nil:∃S,gX (rgL N) [] (N+N*N:Nat) N=(some S,0,0)∧S.length=N
 less:N≠1→(∃k,gX (rgL N) (pwO 1) (N+N*N:Nat) (N-1:Nat)=(none,k,11))∧∃k,gX (rgL N) (pwO 1) (N+N*N-1:Nat) N=(none,k,10)
theorem okC_out {n k:Nat}:∀{x:Option (Option (List Fc) × Int × Int)},okC n k x=true→∃S,x=some (some S,(k:Int),0)∧S.length=n+n*n∧(S.filter fun f=>decide (f.pr.name=pwP)&&decide (f.pr.terms.length=2)).length=n*n
 | some (some S,r,e),h=>by
   simp only [okC,yx,yC] at h
   obtain ⟨rfl,rfl,h1,h2⟩:=h
   exact ⟨S,rfl,h1,h2⟩
 | some (none,_,_),h=>absurd h (by simp [okC])
 | none,h=>absurd h (by simp [okC])
theorem qM {q:Int}:∀{x:Option (Option (List Fc) × Int × Int)},yj q x=true→∃k,x=some (none,k,q)
 | some (none,k,e),h=>⟨k,by rw [show e=q from of_decide_eq_true h]⟩
 | some (some _,_,_),h=>absurd h (by simp [yj])
 | none,h=>absurd h (by simp [yj])
theorem wh:∀{x:Option (Option (List Fc) × Int × Int)},endC x=true→∃S k,x=some (some S,k,0)
 | some (some S,k,e),h=>⟨S,k,by rw [show e=0 from of_decide_eq_true h]⟩
 | some (none,_,_),h=>absurd h (by simp [endC])
 | none,h=>absurd h (by simp [endC])
theorem lim_ok:∀n,n<7→qZ ((n+1+(n+1)*(n+1):Nat)) ((n+1:Nat))=true∧(n≠0→qZ ((n+1+(n+1)*(n+1):Nat)) ((n+1-1:Nat))=true∧qZ ((n+1+(n+1)*(n+1)-1:Nat)) ((n+1:Nat))=true):=by decide
theorem ot {N:Nat} {rs:List OwD} {lf lr:Int} {R:Option (List Fc) × Int × Int} (h0:rs.all gL=true) (hL:qZ lf lr=true) (hs:(rgL N).all aL=true) (hn:(stL (rgL N)).length=N) (hlf:(N:Int)≤lf) (hc:vG rs lf lr 101 (stL (rgL N)) 0=some R):gX (rgL N) rs lf lr=R:=by
 unfold gX
 rw [if_pos hL,hs,h0,hn,if_pos (show (true&&true)=true from rfl),if_neg (by omega)]
 exact tP h0 hc
theorem ww {lf lr:Int} {fs:List Fc}:vG [] lf lr 101 fs 0=some (some fs,0,0):=by
 rw [vG]
 rfl
theorem uP {n:Nat} (h:n<7):RingS (n+1):=by
 have hb:=xf h
 obtain ⟨hl,hl2⟩:=lim_ok n h
 have hnn:0≤(n+1)*(n+1):=yp _
 unfold nw at hb
 simp only [yx,Bool.or_eq_true,yC] at hb
 obtain ⟨hs,hn,h1,h2,h3⟩:=hb
 obtain ⟨S,e1,k1,k2⟩:=okC_out h1
 obtain ⟨T,k,e2⟩:=wh h2
 refine ⟨⟨S,ot (jz 1) hl hs hn (by omega) e1,k1,k2⟩,⟨T,k,ot (jz 2) hl hs hn (by omega) e2⟩,⟨_,ot rfl hl hs hn (by omega) ww,hn⟩,fun hne=>?_⟩
 rcases h3 with h3 | ⟨h3,h4⟩
 ·exact absurd h3 hne
 ·obtain ⟨a,e3⟩:=qM h3
  obtain ⟨b,e4⟩:=qM h4
  obtain ⟨l1,l2⟩:=hl2 (by omega)
  have:1≤(n+1)*(n+1):=Nat.mul_pos (by omega) (by omega)
  exact ⟨⟨a,ot (jz 1) l1 hs hn (by omega) e3⟩,⟨b,ot (jz 1) l2 hs hn (by omega) e4⟩⟩
theorem oX (N:Nat):(rgL N).length=N:=by simp [rgL]
theorem rg_take {N k:Nat} (hk:k<N):(rgL N).take (k+1)=(rgL N).take k++[pwF pwE (k:Nat) ((k+1) % N:Nat)]:=by
 rw [List.take_succ_eq_append_getElem (by rw [oX];exact hk)]
 simp [rgL]
def OwR (d:Nat):Reader OwD where
 k:=7
 rd:=fun w B o vs=>∃v,vs=v++[.int .i64 o.block,.int .u32 o.trusted]∧(RuR d).rd w B o.rule v∧I64 o.block∧U32 o.trusted
 keep:=fun hw hB ⟨v,e,h,ho⟩=>⟨v,e,(RuR _).keep hw hB h,ho⟩
 wide:=fun hB ⟨v,e,h,ho⟩=>⟨v,e,(RuR _).wide hB h,ho⟩
 len:=fun ⟨_,e,h,_⟩=>by rw [e,yv,(RuR _).len h];rfl
theorem nq {d B:Nat} {w:World} {o:OwD} {vs:List Value} (h:(OwR d).rd w B o vs):∃A0 c0 A1 c1 A2 c2 A3 c3,
 vs=[.string o.rule.head.name,.slice A0 o.rule.head.terms.length c0,.slice A1 o.rule.body.length c1,.slice A2 o.rule.exprs.length c2,.slice A3 o.rule.scopes.length c3,.int .i64 o.block,.int .u32 o.trusted] ∧
 (RuR d).rd w B o.rule [.string o.rule.head.name,.slice A0 o.rule.head.terms.length c0,.slice A1 o.rule.body.length c1,.slice A2 o.rule.exprs.length c2,.slice A3 o.rule.scopes.length c3]∧I64 o.block∧U32 o.trusted:=by
 obtain ⟨v,rfl,hr,h1,h2⟩:=h
 have hr':=hr
 obtain ⟨_,_,_,_,rfl,_,⟨A0,c0,rfl,_⟩,⟨A1,c1,rfl,_⟩,⟨A2,c2,rfl,_⟩,⟨A3,c3,rfl,_⟩⟩:=hr
 exact ⟨A0,c0,A1,c1,A2,c2,A3,c3,rfl,hr',h1,h2⟩
theorem xI {α:Type} {l:List α} {p:α→Bool} {k:Nat} {x:α} (h:l[k]? = some x) (hp:p x=false):l.all p=false:=by
 rw [List.all_eq_false]
 exact ⟨x,List.mem_of_getElem? h,by rw [hp];simp⟩
theorem allT3_ {α:Type} {l:List α} {p:α→Bool} {k:Nat} (hk:l.length≤k) (h:∀i (hi:i<k) (hi':i<l.length),p l[i]=true):l.all p=true:=by
 rw [List.all_eq_true]
 intro x hx
 obtain ⟨i,hi,rfl⟩:=List.getElem_of_mem hx
 exact h i (by omega) hi
theorem ly {base d B S c:Nat} {xs:List FV} {A:Option Addr} {f:Fc} {vf:List Value} {w:World} (hs:StA base d w S xs A c) (hf:(aC (d+1)).rd w B f vf) (hB:B≤w.heap.size) (hn:xs.length≤100000) (hft:f.pr.terms.length*40≤140737488351232) :
 Calls Tryz.prog 16 #[.pointer (some ⟨S,0,none⟩),.agg vf.toArray] w fun z w'=>z=.returned (.bool (gI (xs.map FV.f) f))∧Below w.heap.size w w':=by
 obtain ⟨Af,cf,rfl,hsz,h1,h2,h3,hl,ho⟩:=bh hf
 have HS:=ym hs
 have HF:=ym hf
 have HL:=ym hl
 have HO:=ym ho
 clear hs hf hl ho
 go_enter Tryz.func16,Tryz.ntmps16
 have k_s:=HS.out.hd.cell
 have l_s:=HS.out.hd.lt
 go_upto_region 3 with fail
 generalize hW:World.alloc _ _=w2
 obtain ⟨hb,hz⟩:=al1 hW
 have HBA2:=ym (n11 hW)
 have HB2:=ym hb
 have hsz2:=hb.size
 clear hW hb hz k_s l_s
 have HS2:=ym (HS.out.later HB2.out)
 have HRL:=ym (HS2.out.rl (by omega))
 have HLM:Hid ((xs.map FV.f).length=xs.length):=ym (yw _)
 have HF2:=ym ((aC (d+1)).keep HB2.out hB HF.out)
 have hB2:B≤w2.heap.size:=by omega
 have HBS:Hid (∀w9,Below w2.heap.size w2 w9→Calls Tryz.prog 34 #[.slice A xs.length c,.agg #[.string f.pr.name,.slice Af f.pr.terms.length cf,.int .u32 f.o],.func (.func 35) #[] #[]] w9 fun z w'=>z=.returned (.tuple #[.int .i64 (ki (xs.map FV.f) f),.bool (gI (xs.map FV.f) f)])∧Below w9.heap.size w9 w'):=ym (fun w9 hb9=>by
  have h:=kv (d:=d) (e:=d) (B:=w2.heap.size) (c:=c) (fs:=xs.map FV.f) (t:=f) (vt:=[_,_,_]) (A:=A) (w:=w9) (HRL.out.keep hb9 (yo _)) ((aC (d+1)).keep hb9 (yo _) ((aC (d+1)).wide hB2 HF2.out)) (fun x hx=>by
   obtain ⟨y,hy,rfl⟩:=List.mem_map.1 hx
   exact HS.out.ok y hy) (by omega) (by rw [HLM.out];omega) hb9.size (csF (xs.map FV.f) f) (fun i hi=>jt hi) (fun i j hij hj h=>mV HS.out.sort hij hj h)
  rw [HLM.out] at h
  refine h.mono fun z w' ⟨h1,h2⟩=>⟨?_,h2⟩
  rw [h1]
  unfold gI ki
  rw [HLM.out,Bool.decide_and])
 have q_s:=HS2.out.hd.regrown
 have q_a:=HBA2.out.regrown
 generalize ki (xs.map FV.f) f=p at *
 generalize hq:gI (xs.map FV.f) f=q at *
 have HQ:=ym hq
 clear hq
 refine wp_region_quiet_below (by kernel_rfl) (by kernel_rfl) ?_
 repeat (go_big_quiet_step ((go_at_call 34;exact Calls.regrown_of (HBS.out _ (below_regrown _ _ _)))))
 refine wpQuiet_nil ?_
 intro w3 hw_
 have hb:Below w2.heap.size w2 w3:=by obtain ⟨p_,rfl⟩:=hw_;exact below_regrown _ _ _
 clear hw_ q_s q_a
 go_wp2_with fail
 go_ret
 exact ⟨by rw [HQ.out];rfl,ac HB2.out hb⟩
theorem dW {base d S c:Nat} {xs:List FV} {A:Option Addr} {w:World} (hs:StA base d w S xs A c) :
 Calls Tryz.prog 13 #[.pointer (some ⟨S,0,none⟩)] w fun z w'=>z=.returned (.int .i64 xs.length)∧w=w':=by
 have k_s:=hs.hd.cell
 go_enter Tryz.func13,Tryz.ntmps13
 go_wp2_with fail
 go_ret
 exact ⟨rfl,rfl⟩
theorem sv {d B:Nat} {o:OwD} {vo:List Value} {w:World} (ho:(OwR d).rd w B o vo) (hB:B≤w.heap.size) :
 Calls Tryz.prog 43 #[.agg vo.toArray] w fun z w'=>z=.returned (.bool (gL o))∧Below w.heap.size w w':=by
 obtain ⟨A0,c0,A1,c1,A2,c2,A3,c3,rfl,hr,_,_⟩:=nq ho
 have HR:=ym hr
 clear ho hr
 go_enter Tryz.func43,Tryz.ntmps43
 go_upto_region 1 with fail
 generalize hW:World.alloc _ _=w1
 obtain ⟨hb1,hz⟩:=al1 hW
 have HK1:=ym (n11 hW)
 have HB1:=ym hb1
 have hsz1:=hb1.size
 clear hW hb1 hz
 have k_o:=HK1.out.cell
 have l_o:=HK1.out.lt
 go_wp2_with fail
 refine (kZ (vs:=[_,_,_,_,_]) ((RuR d).keep HB1.out hB HR.out) (yn hB hsz1)).mono ?_
 rintro z w2 ⟨rfl,hb2⟩
 have HK2:=ym (HK1.out.later hb2)
 have HB2:=ym (ac HB1.out hb2)
 clear hb2 k_o l_o
 have k_o:=HK2.out.cell
 have l_o:=HK2.out.lt
 have HV:Hid (gL o=(aM o.rule&&(decide (0≤o.block)&&decide (o.block<8)||decide (o.block=15)))):=ym rfl
 cases hm:aM o.rule
 ·rw [hm] at HV
  clear hm
  go_wp2_with fail
  go_ret
  exact ⟨ae HV.out.symm,HB2.out⟩
 rw [hm] at HV
 clear hm
 by_cases h0:0≤o.block
 ·by_cases h8:o.block<8
  ·have e:gL o=true:=by rw [HV.out];simp [h0,h8]
   have HE:=ym e
   clear HV e
   go_wp2_with fail
   go_ret
   exact ⟨ae HE.out.symm,HB2.out⟩
  ·have e:gL o=(decide (o.block<8)||o.block==15):=by rw [HV.out,decide_eq_true h0,decide_eq_false h8];by_cases h:o.block=15<;>simp [h]
   have HE:=ym e
   clear HV e
   go_wp2_with fail
   go_ret
   exact ⟨ae HE.out.symm,HB2.out⟩
 ·have e:gL o=false:=by
   rw [HV.out]
   have h15:¬o.block=15:=by omega
   simp [h0,h15]
  have h15:(o.block==15)=false:=by rw [beq_eq_false_iff_ne];omega
  have HE:=ym e
  clear HV e
  go_wp2_with fail
  go_ret
  exact ⟨ae HE.out.symm,HB2.out⟩
theorem mA {d B c:Nat} {rs:List OwD} {A:Option Addr} {w:World} (hl:RL (OwR d) w B rs A) (hn:rs.length≤140737488351232) (hB:B≤w.heap.size) :
 Calls Tryz.prog 23 #[.slice A rs.length c] w fun z w'=>z=.returned (.bool (rs.all gL))∧Below w.heap.size w w':=by
 have HL:=ym hl
 clear hl
 go_enter Tryz.func23,Tryz.ntmps23
 go_upto_region 2 with fail
 go_loopw [7] (fun i wr=>∃k:Nat,k≤rs.length∧i=.int .i64 k∧Hid (Below w.heap.size w wr)∧Hid (∀i (hi:i<k) (hi':i<rs.length),gL rs[i]=true)) (fun i _=>rs.length-(intOf i).toNat)
 case atStart=>exact ⟨0,yp _,rfl,ym (yq _ _),ym (fun i h=>absurd h (by omega))⟩
 case round=>
  obtain ⟨k,hk,rfl,HW,HALL⟩:=hrel
  have hszr:=HW.out.size
  have hBr:B≤wr.heap.size:=yn hB hszr
  by_cases hlt:k<rs.length
  ·obtain ⟨b,off,rfl,hob⟩:=(HL.out.keep HW.out hB).base (yq _ _) hBr (by omega)
   obtain ⟨x,vs,hx,hlen,hcell,hr⟩:=(HL.out.keep HW.out hB).at_ (yq _ _) hBr hlt
   have HX:=ym hx
   have HRX:=ym hr
   obtain ⟨A0,c0,A1,c1,A2,c2,A3,c3,rfl,_,_,_⟩:=nq hr
   have p0:wr.cell? ⟨b,off+k*7,none⟩=some (.string x.rule.head.name):=hcell 0 _ rfl
   have p1:wr.cell? ⟨b,off+k*7+1,none⟩=some (.slice A0 x.rule.head.terms.length c0):=hcell 1 _ rfl
   have p2:wr.cell? ⟨b,off+k*7+2,none⟩=some (.slice A1 x.rule.body.length c1):=hcell 2 _ rfl
   have p3:wr.cell? ⟨b,off+k*7+3,none⟩=some (.slice A2 x.rule.exprs.length c2):=hcell 3 _ rfl
   have p4:wr.cell? ⟨b,off+k*7+4,none⟩=some (.slice A3 x.rule.scopes.length c3):=hcell 4 _ rfl
   have p5:wr.cell? ⟨b,off+k*7+5,none⟩=some (.int .i64 x.block):=hcell 5 _ rfl
   have p6:wr.cell? ⟨b,off+k*7+6,none⟩=some (.int .u32 x.trusted):=hcell 6 _ rfl
   clear hcell hlen hx hr
   go_upto_region 4 with fail
   generalize hW:World.alloc _ _=w3
   obtain ⟨hb3,hz3⟩:=al1 hW
   have HK3:=ym (n11 hW)
   have HB3:=ym (ac HW.out hb3)
   have HR3:=ym ((OwR d).keep hb3 hBr HRX.out)
   have hsz3:=hb3.size
   clear hW hb3 hz3 p0 p1 p2 p3 p4 p5 p6
   have k_r:=HK3.out.cell
   have l_r:=HK3.out.lt
   go_wp2_with fail
   refine (sv (d:=d) (B:=B) (o:=x) (vo:=[_,_,_,_,_,_,_]) ((OwR d).wide (yo _) HR3.out) (by omega)).mono ?_
   rintro z w4 ⟨rfl,hb4⟩
   have HB4:=ym (ac HB3.out hb4)
   clear hb4 k_r l_r
   by_cases hq:gL x=true
   ·have HQ:=ym hq
    rw [hq]
    clear hq
    go_wp2_with fail
    go_roundw
    case rel=>exact ⟨k+1,by omega,by go_num,HB4,ym (fun i hi hi'=>by
     rcases Nat.lt_or_ge i k with h1 | h1
     ·exact HALL.out i h1 hi'
     ·obtain rfl:i=k:=by omega
      rw [(List.getElem?_eq_some_iff.1 HX.out).2];exact HQ.out)⟩
    case measure=>simp [intOf];omega
   ·simp only [Bool.not_eq_true] at hq
    have HV:Hid (rs.all gL=false):=ym (xI HX.out hq)
    rw [hq]
    clear hq
    go_wp2_with fail
    go_ret
    exact ⟨ae HV.out.symm,HB4.out⟩
  ·have HV:Hid (rs.all gL=true):=ym (allT3_ (k:=k) (by omega) HALL.out)
   go_wp2_with fail
   go_ret
   exact ⟨ae HV.out.symm,HW.out⟩
end Go.Proofs.YtjpndglegpcdnaaGreat
