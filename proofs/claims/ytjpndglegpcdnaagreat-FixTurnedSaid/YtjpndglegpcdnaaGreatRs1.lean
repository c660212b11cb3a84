/- viaticumref18: sign, CompareTerms. Printed by mk_rs1.py. -/
import Derived.Test.YtjpndglegpcdnaaGreatFx4
import Derived.Test.YtjpndglegpcdnaaGreatRead2
import Derived.Test.YtjpndglegpcdnaaGreatFc1
import Derived.Test.YtjpndglegpcdnaaGreatHeldA
import Derived.Deep.CutRange
set_option linter.unusedVariables false
set_option linter.unusedSimpArgs false
set_option maxRecDepth 100000
set_option maxHeartbeats 8000000
namespace Go.Proofs.YtjpndglegpcdnaaGreat
open Go.ChangeShapes Go.WideShapes Go.ChangeAt Go.RowKit
/-! What is the same as a fact is that fact. -/
theorem vX {d:Nat} {a b:Tm} (ha:jn a) (h:aY (d+1) a b=0):jn b:=by
 unfold aY at h
 split at h
 ·rw [show a.l=[] from ha] at h
  unfold jn
  cases hb:b.l with
  | nil=>rfl
  | cons y ys=>rw [hb] at h;simp [bL] at h
 ·rename_i k;exact absurd h k
theorem mU {d:Nat}:∀{xs ys:List Tm},(∀x∈xs,jn x)→bL (aY (d+1)) xs ys=0→∀y∈ys,jn y
 | [],[],_,_=>by simp
 | [],_::_,_,h=>by simp [bL] at h
 | _::_,[],_,h=>by simp [bL] at h
 | x::xs,y::ys,hx,h=>by
   rw [bL] at h
   split at h
   ·rename_i h0
    intro z hz
    rcases List.mem_cons.1 hz with rfl | hz
    ·exact vX (hx x (by simp)) h0
    ·exact mU (fun u hu=>hx u (by simp [hu])) h z hz
   ·rename_i k;exact absurd h k
theorem za {d:Nat} {a b:Tm} (ha:Two a) (h:aY (d+2) a b=0):Two b:=by
 unfold aY at h
 split at h
 ·exact mU ha h
 ·rename_i k;exact absurd h k
theorem qb:∀{xs ys:List Tm},(∀x∈xs,Two x)→bL (aY 3) xs ys=0→∀y∈ys,Two y
 | [],[],_,_=>by simp
 | [],_::_,_,h=>by simp [bL] at h
 | _::_,[],_,h=>by simp [bL] at h
 | x::xs,y::ys,hx,h=>by
   rw [bL] at h
   split at h
   ·rename_i h0
    intro z hz
    rcases List.mem_cons.1 hz with rfl | hz
    ·exact za (hx x (by simp)) h0
    ·exact qb (fun u hu=>hx u (by simp [hu])) h z hz
   ·rename_i k;exact absurd h k
theorem sZ {a b:Fc} (ha:FcOk a) (h:aE a b=0):a=b:=by
 simp only [aE,orL] at h
 split at h
 ·rename_i h1
  split at h
  ·rename_i h2
   split at h
   ·rename_i h3
    split at h
    ·rename_i h4
     obtain ⟨⟨an,at_⟩,ao⟩:=a
     obtain ⟨⟨bn,bt⟩,bo⟩:=b
     have hx:∀x∈at_,Two x:=fun x hx=>(aO (ha.fix x hx)).1
     have e1:an=bn:=oI (fJ.1 h1)
     have e3:at_=bt:=ov hx (qb hx h3) h3
     have e4:ao=bo:=dS.1 h4
     rw [e1,e3,e4]
    ·exact absurd h ‹_›
   ·exact absurd h ‹_›
  ·exact absurd h ‹_›
 ·exact absurd h ‹_›
theorem StF.not {fs:List Fc} {f:Fc} (h:StF fs) (hf:aR f=false):ip fs f=false:=by
 cases hh:ip fs f with
 | false=>rfl
 | true=>
   obtain ⟨x,hx,h0⟩:=(nQ h.sort).1 hh
   have e:=sZ (h.ok x hx) h0
   subst e
   rw [h.st x hx] at hf
   cases hf
theorem yT {l:List Fc} {k:Nat} {x:Fc} (h:l[k]? = some x):(l.take (k+1)).all aR=((l.take k).all aR&&aR x):=by
 obtain ⟨hk,rfl⟩:=List.getElem?_eq_some_iff.1 h
 rw [List.take_succ_eq_append_getElem hk,List.all_append]
 simp
theorem pZ {l:List Fc} {k:Nat} {x:Fc} (h:l[k]? = some x):stL (l.take (k+1))=fp (stL (l.take k)) x:=by
 obtain ⟨hk,rfl⟩:=List.getElem?_eq_some_iff.1 h
 rw [List.take_succ_eq_append_getElem hk,yQ]
theorem vE {ys fs:List Fc} {k:Nat} {x:Fc} (h:ys[k]? = some x):(ys.take (k+1)).foldl fp fs=fp ((ys.take k).foldl fp fs) x:=by
 obtain ⟨hk,rfl⟩:=List.getElem?_eq_some_iff.1 h
 rw [List.take_succ_eq_append_getElem hk,List.foldl_append];rfl
def BegE (d:Nat) (w w':World) (l:List Fc) (z:Ending):Prop:=
 ((l.all aR=true∧∃S base xs As cs,z=.returned (.tuple #[.pointer (some ⟨S,0,none⟩),.bool true])∧StA base d w' S xs As cs∧xs.map FV.f=stL l∧w.heap.size≤S∧(∀q,(Value.slice As xs.length cs).ownBlock=some q→w.heap.size≤q)) ∨
  (l.all aR=false∧z=.returned (.tuple #[.pointer none,.bool false])))∧Below w.heap.size w w'
theorem uI {d B c:Nat} {l:List Fc} {A:Option Addr} {w:World} (hl:RL (az (d+1)) w B l A) (hB:B≤w.heap.size) (hn:l.length≤100000) (h40:∀f∈l,f.pr.terms.length*40≤140737488351232) :
 Calls Tryz.prog 22 #[.slice A l.length c] w fun z w'=>BegE d w w' l z:=by
 have HL:=zT hl
 have HIN:Hid (∀f∈l,sI f):=zT (fun g hg=>by
  obtain ⟨i,hi,rfl⟩:=List.getElem_of_mem hg
  obtain ⟨b,off,_,_,hc⟩:=hl (by omega)
  obtain ⟨vs,_,⟨x,hx,hr⟩,_⟩:=hc i hi
  obtain ⟨_,rfl⟩:=List.getElem?_eq_some_iff.1 hx
  exact vm hr)
 have HTM:=zT h40
 clear hl h40
 go_enter Tryz.func22,Tryz.ntmps22
 go_wp2_with fail
 refine (xc d).mono ?_
 rintro z w1 ⟨rfl,hs1,hb1⟩
 have HS1:=zT hs1
 have HB1:=zT hb1
 have hsz1:=hb1.size
 clear hs1 hb1
 generalize hS:w.heap.size=S at *
 go_upto_region 3 with fail
 go_loopw [10] (fun i wr=>∃(k:Nat) (xs:List FV) (As:Option Addr) (cs:Nat),k≤l.length∧xs.length≤k∧i=.int .i64 k∧Hid (StA (S+1) d wr S xs As cs)∧Hid (xs.map FV.f=stL (l.take k))∧Hid ((l.take k).all aR=true)∧Hid (Below S w wr)∧Hid (∀q,(Value.slice As xs.length cs).ownBlock=some q→S≤q)) (fun i _=>l.length-(intOf i).toNat)
 case atStart=>exact ⟨0,[],none,0,zW _,zV _,rfl,HS1,zT rfl,zT rfl,HB1,zT (fun q h=>by cases h)⟩
 case round=>
  obtain ⟨k,xs,As,cs,hk,hxk,rfl,HS,HX,HAL,HW,HQ⟩:=hrel
  have hszr:=HW.out.size
  have hBr:B≤wr.heap.size:=by omega
  by_cases hlt:k<l.length
  ·have hBS:B≤S:=by omega
   obtain ⟨b,off,rfl,hob⟩:=(HL.out.keep HW.out hBS).base (zX _ _) hBr (by omega)
   obtain ⟨x,vs,hx,hlen,hcell,hr⟩:=(HL.out.keep HW.out hBS).at_ (zX _ _) hBr hlt
   have HXK:=zT hx
   have HR:=zT hr
   obtain ⟨Af,cf,rfl,_⟩:=aN hr
   have p0:wr.cell? ⟨b,off+k*3,none⟩=some (.string x.pr.name):=hcell 0 _ rfl
   have p1:wr.cell? ⟨b,off+k*3+1,none⟩=some (.slice Af x.pr.terms.length cf):=hcell 1 _ rfl
   have p2:wr.cell? ⟨b,off+k*3+2,none⟩=some (.int .u32 x.o):=hcell 2 _ rfl
   clear hcell hlen hx hr
   go_upto_region 5 with fail
   generalize hW:World.alloc _ _=w3
   obtain ⟨hb3,hz3⟩:=al1 hW
   have HK3:=zT (n11 hW)
   have HB3:Hid (Below S w w3):=zT (HW.out.trans (hb3.mono (by omega)))
   have HR3:=zT ((az (d+1)).keep hb3 hBr HR.out)
   have HS3:=zT (HS.out.later hb3)
   have hsz3:=hb3.size
   clear hW hb3 hz3 p0 p1 p2
   have k_r:=HK3.out.cell
   have l_r:=HK3.out.lt
   go_wp2_with fail
   refine (pX (f:=x) (vf:=[_,_,_]) (B:=B) HS3.out HR3.out (by omega) (by omega)).mono ?_
   rintro z w4 ⟨xs2,A2,c2,rfl,hx2,hs2,hag,hfr⟩
   have hl2:xs2.length≤k+1:=by
    have h1:=congrArg List.length hx2
    have h2:=ny (xs.map FV.f) x
    rw [Ad] at h1 h2
    omega
   have HX2:Hid (xs2.map FV.f=stL (l.take (k+1))):=zT (by rw [hx2,HX.out,pZ HXK.out])
   have HS4:=zT hs2
   have HQ4:Hid (∀q,(Value.slice A2 xs2.length c2).ownBlock=some q→S≤q):=zT (fun q hq=>by
    rcases hfr with e | ⟨q2,e,h⟩
    ·exact HQ.out q (e▸hq)
    ·rw [e] at hq;cases hq;omega)
   have HB34:Hid (Below S w3 w4):=zT (hag.below (fun q hq hm=>by
    rcases hm with rfl | hm
    ·omega
    ·have:=HQ.out q hm;omega) (by omega))
   have HB4:Hid (Below S w w4):=zT (HB3.out.trans HB34.out)
   have HK4:Hid (Blk w4 wr.heap.size #[.string x.pr.name,.slice Af x.pr.terms.length cf,.int .u32 x.o]):=zT (hag.blk HK3.out (fun hm=>by
    rcases hm with h | h
    ·have:=HS.out.hd.lt;omega
    ·have:=(HS.out.row.lt _ h).2;omega))
   have HFT:=zT (HTM.out x (List.mem_of_getElem? HXK.out))
   have HFF:Hid (StF (stL (l.take k))):=zT (StF.of (fun f hf=>HIN.out f (List.mem_of_mem_take hf)))
   have HSTK:=zT (yT HXK.out)
   have hsz4:=hag.size
   have hag0:=HX.out
   clear hx2 hs2 hag hfr k_r l_r
   rw [hag0]
   clear hag0
   cases ha:oE (stL (l.take k)) x
   ·have k_r:=HK4.out.cell
    have l_r:=HK4.out.lt
    have HR4:=zT ((az (d+1)).keep HB34.out hBS HR3.out)
    go_wp2_with fail
    refine (mb (f:=x) (vf:=[_,_,_]) (B:=B) HS4.out HR4.out (by omega) (by omega) HFT.out).mono ?_
    rintro z w5 ⟨rfl,hb5⟩
    have HB5:Hid (Below S w w5):=zT (HB4.out.trans (hb5.mono (by omega)))
    have HS5:=zT (HS4.out.later hb5)
    clear hb5 k_r l_r
    have haa:fp (stL (l.take k)) x=stL (l.take k):=by unfold fp;rw [ha];rfl
    rw [show xs2.map FV.f=stL (l.take k) by rw [HX2.out,pZ HXK.out,haa]]
    clear haa
    cases hh:ip (stL (l.take k)) x
    ·have HNO:Hid (l.all aR=false):=zT (zk HXK.out (by
      unfold oE at ha
      rw [hh] at ha
      simpa using ha))
     clear ha hh
     go_wp2_with fail
     go_ret2
     exact ⟨.inr ⟨HNO.out,rfl⟩,by rw [hS];exact HB5.out⟩
    ·have HAL2:Hid ((l.take (k+1)).all aR=true):=zT (by
      rw [HSTK.out,HAL.out,Bool.true_and]
      cases hst:aR x with
      | true=>rfl
      | false=>rw [HFF.out.not hst] at hh;cases hh)
     clear ha hh
     go_wp2_with fail
     go_roundw
     case rel=>exact ⟨k+1,xs2,A2,c2,by omega,hl2,by go_num,HS5,HX2,HAL2,HB5,HQ4⟩
     case measure=>simp [intOf];omega
   ·have HAL2:Hid ((l.take (k+1)).all aR=true):=zT (by
     rw [HSTK.out,HAL.out]
     unfold oE at ha
     rw [Ag] at ha
     exact ha.1)
    clear ha
    go_wp2_with fail
    go_roundw
    case rel=>exact ⟨k+1,xs2,A2,c2,by omega,hl2,by go_num,HS4,HX2,HAL2,HB4,HQ4⟩
    case measure=>simp [intOf];omega
  ·have HE:Hid (l.take k=l):=zT (List.take_of_length_le (by omega))
   go_wp2_with fail
   go_ret2
   exact ⟨.inl ⟨by rw [←HE.out];exact HAL.out,S,S+1,xs,As,cs,rfl,HS.out,by rw [HX.out,HE.out],by omega,by rw [hS];exact HQ.out⟩,by rw [hS];exact HW.out⟩
def uq (d:Nat) (w w':World) (R:Option (List Fc) × Int × Int) (z:Ending):Prop:=
 ((∃S base xs As cs,z=.returned (.tuple #[.pointer (some ⟨S,0,none⟩),.int .i64 R.2.1,.int .i64 R.2.2])∧StA base d w' S xs As cs∧R.1=some (xs.map FV.f)∧w.heap.size≤S∧(∀q,(Value.slice As xs.length cs).ownBlock=some q→w.heap.size≤q)) ∨
  (z=.returned (.tuple #[.pointer none,.int .i64 R.2.1,.int .i64 R.2.2])∧R.1=none))∧Below w.heap.size w w'
theorem uq.no {d:Nat} {w w':World} {R:Option (List Fc) × Int × Int} {e:Int} (hb:Below w.heap.size w w') (h:R=(none,0,e)):uq d w w' R (.returned (.tuple #[.pointer none,.int .i64 0,.int .i64 e])):=by
 subst h
 exact ⟨.inr ⟨rfl,rfl⟩,hb⟩
theorem vC {rs:List OwD} {lf lr:Int} {k:Nat} {fs:List Fc} (hk:k≤100):iJ rs lf lr (101-k) fs k=if (ax fs rs).2≠0 then (none,0,(ax fs rs).2) else if (ax fs rs).1.length=0 then (some fs,(k:Int),0) else if (k:Int)=lr then (none,0,11) else if lf<fs.length+(ax fs rs).1.length then (none,0,10) else iJ rs lf lr (101-(k+1)) ((ax fs rs).1.foldl fp fs) ((k+1:Nat):Int):=by
 rw [show 101-k=(100-k)+1 by omega,iJ,show 101-(k+1)=100-k by omega]
 rfl
theorem sq {fs:List Fc}:∀{rs:List OwD},(ff fs rs).1.length≤rs.length*1000000
 | []=>zW _
 | o::rs=>by
   have h1:=sq (fs:=fs) (rs:=rs)
   have h2:=ia fs o.trusted o.rule
   have h3:(aC fs o).1.length≤(be fs o.trusted o.rule).1.length:=List.length_filterMap_le _ _
   have h4:=List.length_filter_le (fun f=>!ip fs f) (aC fs o).1
   rw [ff]
   split
   ·exact zW _
   ·split
    ·exact zW _
    ·rw [Ac,Aw];omega
theorem wT {fs:List Fc} {rs:List OwD} (h:(ax fs rs).2=0):(ax fs rs).1.length≤rs.length*1000000:=by
 rw [(eR h).1]
 exact zU (rA aT (wu h)) sq
theorem rx {d B c cr:Nat} {l:List Fc} {rs:List OwD} {A Ar:Option Addr} {lf lr m:Int} {w:World} (hl:RL (az (d+1)) w B l A) (hr:RL (OwR (d+1)) w B rs Ar) (hB:B≤w.heap.size) (hn:l.length≤100000) (hrn:rs.length≤1000000) (h40:∀f∈l,f.pr.terms.length*40≤140737488351232) (hlf:I64 lf) (hlr:I64 lr) (hm:w.cell? ⟨0,0,none⟩=some (.int .i64 m)) (hp:0<w.heap.size) :
 Calls Tryz.prog 10 #[.slice A l.length c,.slice Ar rs.length cr,.agg #[.int .i64 lf,.int .i64 lr]] w fun z w'=>uq d w w' (el l rs lf lr) z:=by
 have HL:=zT hl
 have HR:=zT hr
 have HM:=zT hm
 have H40:=zT h40
 have HFX:Hid (el l rs lf lr=if vZ lf lr=true then (if (l.all aR&&rs.all jm)=true then (if lf<(stL l).length then (none,0,10) else iJ rs lf lr 101 (stL l) 0) else (none,0,1)) else (none,0,1)):=zT rfl
 clear hl hr hm h40
 go_enter Tryz.func10,Tryz.ntmps10
 go_upto_region 1 with fail
 generalize hW:World.alloc _ _=w1
 obtain ⟨hb1,hz⟩:=al1 hW
 have HK1:=zT (n11 hW)
 have HB1:=zT hb1
 have hsz1:=hb1.size
 clear hW hb1 hz
 have k_l:=HK1.out.cell
 have l_l:=HK1.out.lt
 by_cases hlim:vZ lf lr=true
 rotate_left
 ·have HV:Hid (el l rs lf lr=(none,0,1)):=zT (by rw [HFX.out,if_neg hlim])
  have hcs:lf<1∨(¬lf<1∧1000<lf)∨(¬lf<1∧¬1000<lf∧lr<1)∨(¬lf<1∧¬1000<lf∧¬lr<1∧100<lr):=by
   simp only [vZ,Ag,Am] at hlim
   omega
  clear hlim
  rcases hcs with h | ⟨h1,h⟩ | ⟨h1,h2,h⟩ | ⟨h1,h2,h3,h⟩
  all_goals
   go_wp2_with fail
   go_ret3
   exact uq.no HB1.out HV.out
 have hl1:¬lf<1:=by simp only [vZ,Ag,Am] at hlim;omega
 have hl2:¬(1000:Int)<lf:=by simp only [vZ,Ag,Am] at hlim;omega
 have hl3:¬lr<1:=by simp only [vZ,Ag,Am] at hlim;omega
 have hl4:¬(100:Int)<lr:=by simp only [vZ,Ag,Am] at hlim;omega
 have HF1:Hid (el l rs lf lr=if (l.all aR&&rs.all jm)=true then (if lf<(stL l).length then (none,0,10) else iJ rs lf lr 101 (stL l) 0) else (none,0,1)):=zT (by rw [HFX.out,if_pos hlim])
 clear hlim HFX
 go_wp2_with fail
 refine (uI (HL.out.keep HB1.out hB) (zU hB hsz1) hn H40.out).mono ?_
 rintro z w2 ⟨hbe,hb2⟩
 have HK2:=zT (HK1.out.later hb2)
 have HB2:=zT (ac HB1.out hb2)
 have hsz2:=HB2.out.size
 have hlw:=HK1.out.lt
 clear hb2 k_l l_l
 have k_l:=HK2.out.cell
 have l_l:=HK2.out.lt
 rcases hbe with ⟨hst,S,base,xs,As,cs,rfl,hS,hxs,hS1,hS2⟩ | ⟨hst,rfl⟩
 rotate_left
 ·have HV:Hid (el l rs lf lr=(none,0,1)):=zT (by rw [HF1.out,hst];rfl)
  clear hst
  go_wp2_with fail
  go_ret3
  exact uq.no HB2.out HV.out
 have HS:=zT hS
 have HXS:=zT hxs
 have HS2:=zT hS2
 have HSTB:=zT hst
 clear hS hxs hS2 hst
 go_wp2_with fail
 refine (nd (HR.out.keep HB2.out hB) (by omega) (zU hB hsz2)).mono ?_
 rintro z w3 ⟨rfl,hb3⟩
 have HK3:=zT (HK2.out.later hb3)
 have HB3:=zT (ac HB2.out hb3)
 have HS3:=zT (HS.out.later hb3)
 have hsz3:=HB3.out.size
 clear hb3 k_l l_l
 cases hall:rs.all jm
 ·have HV:Hid (el l rs lf lr=(none,0,1)):=zT (by rw [HF1.out,hall,Bool.and_false];rfl)
  clear hall
  go_wp2_with fail
  go_ret3
  exact uq.no HB3.out HV.out
 have HF2:Hid (el l rs lf lr=if lf<(stL l).length then (none,0,10) else iJ rs lf lr 101 (stL l) 0):=zT (by rw [HF1.out,HSTB.out,hall];rfl)
 have HLN:Hid ((stL l).length=xs.length):=zT (by rw [←HXS.out,Ad])
 have hxn:xs.length≤100000:=by
  have h1:=rC l []
  have h2:=HLN.out
  unfold stL at h2
  simp only [List.length_nil] at h1
  omega
 clear hall HF1
 have HLEN:Hid (∀w9,Below w3.heap.size w3 w9→Calls Tryz.prog 13 #[.pointer (some ⟨S,0,none⟩)] w9 fun z w'=>z=.returned (.int .i64 xs.length)∧Below w9.heap.size w9 w'):=zT (fun w9 h=>(mc (HS3.out.later h)).mono fun z w' ⟨h1,h2⟩=>⟨h1,h2▸zX _ _⟩)
 have q_l:=HK3.out.regrown
 by_cases hfl:lf<(xs.length:Int)
 ·have HV:Hid (el l rs lf lr=(none,0,10)):=zT (by rw [HF2.out,if_pos (by rw [HLN.out];exact hfl)])
  go_upto_region 6 with fail
  refine wp_region_quiet_below (by kernel_rfl) (by kernel_rfl) ?_
  repeat (go_big_quiet_step ((go_at_call 13;exact Calls.regrown_of (HLEN.out _ (below_regrown _ _ _)))))
  refine wpQuiet_nil ?_
  intro w4 hw_
  have hb:Below w3.heap.size w3 w4:=by obtain ⟨p_,rfl⟩:=hw_;exact below_regrown _ _ _
  clear hw_
  have HB4:=zT (ac HB3.out hb)
  clear hb q_l
  go_wp2_with fail
  go_ret3
  exact uq.no HB4.out HV.out
 have HF3:Hid (el l rs lf lr=iJ rs lf lr (101-0) (xs.map FV.f) ((0:Nat):Int)):=zT (by rw [HF2.out,if_neg (by rw [HLN.out];exact hfl),HXS.out];rfl)
 go_upto_region 6 with fail
 refine wp_region_quiet_below (by kernel_rfl) (by kernel_rfl) ?_
 repeat (go_big_quiet_step ((go_at_call 13;exact Calls.regrown_of (HLEN.out _ (below_regrown _ _ _)))))
 refine wpQuiet_nil ?_
 intro w4 hw_
 have hb:Below w3.heap.size w3 w4:=by obtain ⟨p_,rfl⟩:=hw_;exact below_regrown _ _ _
 clear hw_
 have HB4:=zT (ac HB3.out hb)
 have HK4:=zT (HK3.out.later hb)
 have HS4:=zT (HS3.out.later hb)
 have hsz4:=HB4.out.size
 have HFL:Hid ((xs.length:Int)≤lf):=zT (by omega)
 clear hb q_l HLEN HF2 HLN
 have HQ4:Hid (∀q,(Value.slice As xs.length cs).ownBlock=some q→w.heap.size<q):=zT (fun q hq=>by have:=HS2.out q hq;omega)
 have hSw:w.heap.size<S:=by omega
 go_upto_region 11 with fail
 clear hfl
 generalize w4=wa at *
 go_loopw [12] (fun u wr=>∃(k:Nat) (xs:List FV) (As:Option Addr) (cs:Nat),(k:Int)≤lr∧u=.int .i64 k∧Hid (el l rs lf lr=iJ rs lf lr (101-k) (xs.map FV.f) (k:Int))∧(xs.length:Int)≤lf∧Hid (StA base d wr S xs As cs)∧Hid (∀q,(Value.slice As xs.length cs).ownBlock=some q→w.heap.size<q)∧Hid (Blk wr w.heap.size #[.int .i64 lf,.int .i64 lr])∧Hid (Below w.heap.size w wr)) (fun u _=>(101-intOf u).toNat)
 case atStart=>exact ⟨0,xs,As,cs,by omega,rfl,HF3,by have:=HFL.out;omega,HS4,HQ4,HK4,HB4⟩
 case round=>
  obtain ⟨k,xs,As,cs,hk,rfl,HF,hxl,HS,HQ,HK,HW⟩:=hrel
  have hszr:=HW.out.size
  have hBr:B≤wr.heap.size:=zU hB hszr
  have HST:=zT (vC (rs:=rs) (lf:=lf) (lr:=lr) (fs:=xs.map FV.f) (k:=k) (by omega))
  have hkl:=HK.out.lt
  go_wp2_with fail
  refine (wQ (HR.out.keep HW.out hB) hrn hBr HS.out (by omega) ((HW.out.cell (p:=⟨0,0,none⟩) hp).trans HM.out) (zY hp hszr)).mono ?_
  rintro z w5 ⟨ys,Ay,cy,rfl,hys,hyr,hb5⟩
  have HYS:=zT hys
  have HYR:=zT hyr
  have HB5:=zT (ac HW.out hb5)
  have HK5:=zT (HK.out.later hb5)
  have HS5:=zT (HS.out.later hb5)
  have hsz5:=hb5.size
  have HYO:Hid ((ax (xs.map FV.f) rs).2=0→∀y∈ys,aR y.f=true):=zT (fun h y hy=>(gL h (by rw [←HYS.out];exact List.mem_map.2 ⟨y,hy,rfl⟩)).1)
  have HYL:Hid ((ax (xs.map FV.f) rs).1.length=ys.length):=zT (by rw [←HYS.out,Ad])
  clear hys hyr hb5
  by_cases he:(ax (xs.map FV.f) rs).2=0
  rotate_left
  ·have he':((ax (xs.map FV.f) rs).2 !=0)=true:=by simpa using he
   have HV:Hid (el l rs lf lr=(none,0,(ax (xs.map FV.f) rs).2)):=zT (by rw [HF.out,HST.out,if_pos he])
   generalize (ax (xs.map FV.f) rs).2=e5 at *
   clear he
   go_wp2_with fail
   go_ret3
   exact uq.no HB5.out HV.out
  have he':((ax (xs.map FV.f) rs).2 !=0)=false:=by simpa using he
  have HT1:Hid (el l rs lf lr=if ys.length=0 then (some (xs.map FV.f),(k:Int),0) else if (k:Int)=lr then (none,0,11) else if lf<(xs.length:Int)+(ys.length:Int) then (none,0,10) else iJ rs lf lr (101-(k+1)) ((ys.map FV.f).foldl fp (xs.map FV.f)) ((k+1:Nat):Int)):=zT (by
   rw [HF.out,HST.out,if_neg (by simpa using he),HYL.out,HYS.out,Ad])
  have HYT:=zT (HYO.out he)
  have hyn:ys.length≤1000000000000:=by have:=wT he;rw [HYL.out] at this;omega
  clear he HST HF HYO HYL HYS
  generalize (ax (xs.map FV.f) rs).2=e5 at *
  by_cases hy0:ys.length=0
  ·have HV:Hid (el l rs lf lr=(some (xs.map FV.f),(k:Int),0)):=zT (by rw [HT1.out,if_pos hy0])
   have hq0:((ys.length:Int)==0)=true:=by simp [hy0]
   clear hy0
   go_wp2_with fail
   go_ret3
   exact ⟨.inl ⟨S,base,xs,As,cs,by rw [HV.out];rfl,HS5.out,by rw [HV.out],by omega,fun q hq=>Nat.le_of_lt (HQ.out q hq)⟩,HB5.out⟩
  have hq0:((ys.length:Int)==0)=false:=by rw [beq_eq_false_iff_ne];omega
  have HT2:=zT (HT1.out.trans (if_neg hy0))
  clear hy0 HT1
  have k_l:=HK5.out.cell
  have l_l:=HK5.out.lt
  by_cases hkr:(k:Int)=lr
  ·have HV:=zT (HT2.out.trans (if_pos hkr))
   have hq1:((k:Int)==lr)=true:=by simpa using hkr
   clear hkr
   go_wp2_with fail
   go_ret3
   exact uq.no HB5.out HV.out
  have hq1:((k:Int)==lr)=false:=by simpa using hkr
  have HT3:=zT (HT2.out.trans (if_neg hkr))
  have HKR:Hid (((k+1:Nat):Int)≤lr):=zT (by omega)
  clear hkr HT2
  have HLEN:Hid (∀w9,Below w5.heap.size w5 w9→Calls Tryz.prog 13 #[.pointer (some ⟨S,0,none⟩)] w9 fun z w'=>z=.returned (.int .i64 xs.length)∧Below w9.heap.size w9 w'):=zT (fun w9 h=>(mc (HS5.out.later h)).mono fun z w' ⟨h1,h2⟩=>⟨h1,h2▸zX _ _⟩)
  have hI0:(0:Int)≤(xs.length:Int):=Int.natCast_nonneg _
  have hI1:(0:Int)≤(ys.length:Int):=Int.natCast_nonneg _
  have q_l:=HK5.out.regrown
  go_upto_region 18 with fail
  clear k_l l_l
  by_cases hbig:lf<(xs.length:Int)+(ys.length:Int)
  ·have HV:=zT (HT3.out.trans (if_pos hbig))
   refine wp_region_quiet_below (by kernel_rfl) (by kernel_rfl) ?_
   repeat (go_big_quiet_step ((go_at_call 13;exact Calls.regrown_of (HLEN.out _ (below_regrown _ _ _)))))
   refine wpQuiet_nil ?_
   intro w6 hw_
   have hb:Below w5.heap.size w5 w6:=by obtain ⟨p_,rfl⟩:=hw_;exact below_regrown _ _ _
   clear hw_
   have HB6:=zT (ac HB5.out hb)
   clear hb q_l
   go_wp2_with fail
   go_ret3
   exact uq.no HB6.out HV.out
  have HT4:=zT (HT3.out.trans (if_neg hbig))
  have HSUM:Hid ((xs.length:Int)+(ys.length:Int)≤lf):=zT (by omega)
  refine wp_region_quiet_below (by kernel_rfl) (by kernel_rfl) ?_
  repeat (go_big_quiet_step ((go_at_call 13;exact Calls.regrown_of (HLEN.out _ (below_regrown _ _ _)))))
  refine wpQuiet_nil ?_
  intro w6 hw_
  have hb:Below w5.heap.size w5 w6:=by obtain ⟨p_,rfl⟩:=hw_;exact below_regrown _ _ _
  clear hw_
  have HB6:=zT (ac HB5.out hb)
  have HK6:=zT (HK5.out.later hb)
  have HS6:=zT (HS5.out.later hb)
  have HY6:=zT (HYR.out.later hb)
  have hsz6:=hb.size
  have hSq:S<wr.heap.size:=HS.out.hd.lt
  have HG6:Hid (∀q,(Value.slice As xs.length cs).ownBlock=some q→q<wr.heap.size∨w6.heap.size≤q):=zT (fun q hq=>.inl (HS.out.row.lt q hq).2)
  clear hb q_l HLEN HT3
  go_upto_region 21 with fail
  clear hbig
  generalize wr=wq at *
  go_loopw [90] (fun i wr=>∃(j:Nat) (zs:List FV) (Az:Option Addr) (cz:Nat),j≤ys.length∧zs.length≤xs.length+j∧i=.int .i64 j∧Hid (zs.map FV.f=((ys.map FV.f).take j).foldl fp (xs.map FV.f))∧Hid (StA base d wr S zs Az cz)∧Hid (∀q,(Value.slice Az zs.length cz).ownBlock=some q→w.heap.size<q∧(q<wq.heap.size∨w6.heap.size≤q))∧Hid (Blk wr w.heap.size #[.int .i64 lf,.int .i64 lr])∧Hid (Below w.heap.size w wr)∧Hid (al (fun q=>q<wq.heap.size) w6 wr)) (fun i _=>ys.length-(intOf i).toNat)
  case atStart=>exact ⟨0,xs,As,cs,zW _,zV _,rfl,zT rfl,HS6,zT (fun q hq=>⟨HQ.out q hq,HG6.out q hq⟩),HK6,HB6,zT (al.refl _ _)⟩
  case round=>
   obtain ⟨j,zs,Az,cz,hj,hzj,rfl,HZ,HSZ,HQZ,HKZ,HWZ,HAG⟩:=hrel
   have hszz:=HAG.out.size
   have hsm:=HSUM.out
   have HYZ:=zT (HY6.out.agree HAG.out (fun q _ h=>h))
   by_cases hjl:j<ys.length
   ·obtain ⟨g,cg,eg,hg1,hg2,_⟩:=HYZ.out.own.sh bz (by omega)
    simp only [Ak,true_and] at eg
    obtain ⟨rfl,rfl⟩:=eg
    obtain ⟨a0,a1,a2⟩:=qM HYZ.out.own hjl
    have HYD:=zT (HYZ.out.deep _ (List.getElem_mem hjl)).2.here
    have HYJ:Hid ((ys.map FV.f)[j]? = some ys[j].f):=zT (by rw [List.getElem?_map,Ah hjl];rfl)
    have hJ0:(0:Int)≤(j:Int):=Int.natCast_nonneg _
    have hJ1:(j:Int)<(ys.length:Int):=by omega
    generalize ys[j]=y at *
    go_upto_region 23 with fail
    generalize hW:World.alloc _ _=w7
    obtain ⟨hb7,hz7⟩:=al1 hW
    have HT7:=zT (n11 hW)
    have HW7:=zT (ac HWZ.out hb7)
    have HS7:=zT (HSZ.out.later hb7)
    have HK7:=zT (HKZ.out.later hb7)
    have HAG7:=zT (HAG.out.trans (N:=fun _=>False) (al.of_below hb7) (fun _ _ h=>h.elim))
    have HYD7:=zT ((az (d+1)).keep hb7 (zV _) HYD.out)
    have hsz7:=hb7.size
    clear hW hb7 hz7 a0 a1 a2
    have k_t:=HT7.out.cell
    have l_t:=HT7.out.lt
    go_wp2_with fail
    refine (pX (f:=y.f) (vf:=[_,_,_]) (B:=wr.heap.size) HS7.out HYD7.out hsz7 (by omega)).mono ?_
    rintro z w8 ⟨zs2,A2,c2,rfl,hx2,hs2,hag,hfr⟩
    have hl2:zs2.length≤xs.length+(j+1):=by
     have h1:=congrArg List.length hx2
     have h2:=ny (zs.map FV.f) y.f
     rw [Ad] at h1 h2
     omega
    have HX2:Hid (zs2.map FV.f=((ys.map FV.f).take (j+1)).foldl fp (xs.map FV.f)):=zT (by rw [hx2,HZ.out,vE HYJ.out])
    have HS8:=zT hs2
    have HQ8:Hid (∀q,(Value.slice A2 zs2.length c2).ownBlock=some q→w.heap.size<q∧(q<wq.heap.size∨w6.heap.size≤q)):=zT (fun q hq=>by
     rcases hfr with e | ⟨q2,e,h⟩
     ·exact HQZ.out q (e▸hq)
     ·rw [e] at hq;cases hq;exact ⟨by omega,by omega⟩)
    have HW8:Hid (Below w.heap.size w w8):=zT (HW7.out.trans (hag.below (fun q hq hm=>by
     rcases hm with rfl | hm
     ·omega
     ·have:=(HQZ.out q hm).1;omega) (by omega)))
    have HK8:=zT (hag.blk HK7.out (fun hm=>by
     rcases hm with h | h
     ·omega
     ·have:=(HQZ.out _ h).1;omega))
    have HAG8:Hid (al (fun q=>q<wq.heap.size) w6 w8):=zT (HAG7.out.trans hag (fun q hq hm=>by
     rcases hm with rfl | hm
     ·exact hSq
     ·rcases (HQZ.out q hm).2 with h | h
      ·exact h
      ·omega))
    clear hx2 hs2 hag hfr k_t l_t
    go_wp2_with fail
    go_roundw
    case rel=>exact ⟨j+1,zs2,A2,c2,by omega,hl2,by go_num,HX2,HS8,HQ8,HK8,HW8,HAG8⟩
    case measure=>simp [intOf];omega
   ·have HFN:Hid (el l rs lf lr=iJ rs lf lr (101-(k+1)) (zs.map FV.f) ((k+1:Nat):Int)):=zT (by
     rw [HT4.out,HZ.out,List.take_of_length_le (by rw [Ad];omega)])
    have hkk:=HKR.out
    go_wp2_with fail
    go_roundw
    case rel=>exact ⟨k+1,zs,Az,cz,hkk,by go_num,HFN,by omega,HSZ,zT (fun q hq=>(HQZ.out q hq).1),HKZ,HWZ⟩
    case measure=>simp [intOf];omega
theorem iw (b:Bool) (w:World) :
 Calls Tryz.prog 139 #[.bool b] w fun e w'=>e=.returned (.int .i64 (if b then -1 else 1))∧w=w':=by
 cases b
 all_goals
  go_enter Tryz.func139,Tryz.ntmps139
  go_wp2_with fail
  go_ret
  exact ⟨rfl,rfl⟩
theorem nF {x y:Int} (h:x≠y):cT x y=if x<y then -1 else 1:=by
 unfold cT
 split
 ·rfl
 ·rw [if_pos (by omega)]
theorem dR (x:Int):cT x x=0:=by
 unfold cT
 rw [if_neg (by omega),if_neg (by omega)]
theorem qE {x y:List UInt8} (h:x≠y):de x y=if x<y then -1 else 1:=by
 unfold de
 split
 ·rfl
 ·rename_i h1
  rw [if_pos]
  rcases List.le_iff_lt_or_eq.1 (List.not_lt.1 h1) with h2 | h2
  ·exact h2
  ·exact absurd h2.symm h
theorem oR (x:List UInt8):de x x=0:=by
 unfold de
 rw [if_neg (List.lt_irrefl _),if_neg (List.lt_irrefl _)]
theorem qF {dp:Nat} {a b:Tm} (h:iz a b≠0):aY dp a b=iz a b:=by
 cases dp with
 | zero=>rfl
 | succ d=>unfold aY;rw [if_neg h]
theorem vc {dp:Nat} {a b:Tm} (h:a.kind≠b.kind):aY dp a b=if a.kind<b.kind then -1 else 1:=by
 have h1:cT a.kind b.kind≠0:=by rw [nF h];split<;>omega
 have h2:iz a b=cT a.kind b.kind:=by unfold iz or3;rw [if_neg h1]
 rw [qF (by rw [h2];exact h1),h2,nF h]
theorem cmpT_n {dp:Nat} {a b:Tm} (hk:a.kind=b.kind) (h:a.n≠b.n):aY dp a b=if a.n<b.n then -1 else 1:=by
 have h1:cT a.n b.n≠0:=by rw [nF h];split<;>omega
 have h2:iz a b=cT a.n b.n:=by unfold iz or3;rw [hk,dR,if_pos rfl,if_neg h1]
 rw [qF (by rw [h2];exact h1),h2,nF h]
theorem cmpT_s {dp:Nat} {a b:Tm} (hk:a.kind=b.kind) (hn:a.n=b.n) (h:bs a.s≠bs b.s):aY dp a b=if bs a.s<bs b.s then -1 else 1:=by
 have h1:de (bs a.s) (bs b.s)≠0:=by rw [qE h];split<;>omega
 have h2:iz a b=de (bs a.s) (bs b.s):=by unfold iz or3;rw [hk,dR,if_pos rfl,hn,dR,if_pos rfl]
 rw [qF (by rw [h2];exact h1),h2,qE h]
theorem uU {a b:Tm} (hk:a.kind=b.kind) (hn:a.n=b.n) (h:bs a.s=bs b.s):iz a b=0:=by
 unfold iz or3
 rw [hk,dR,if_pos rfl,hn,dR,if_pos rfl,h,oR]
theorem dw {m n:Int} (h:m=n):Ending.returned (.int .i64 m)=.returned (.int .i64 n):=by rw [h]
theorem jc (dp:Nat) (hdp:dp≤3)
 (ih:∀dp',dp=dp'+1→∀(d B:Nat) (a b:Tm) (va vb:List Value) (w:World),RTm w B d a va→RTm w B d b vb→B≤w.heap.size →
  Calls Tryz.prog 106 #[.agg va.toArray,.agg vb.toArray,.int .i64 (dp':Int)] w fun e w'=>e=.returned (.int .i64 (aY dp' a b))∧Below w.heap.size w w')
 (d B:Nat) (a b:Tm) (va vb:List Value) (w:World) (ha:RTm w B d a va) (hb:RTm w B d b vb) (hB:B≤w.heap.size) :
 Calls Tryz.prog 106 #[.agg va.toArray,.agg vb.toArray,.int .i64 (dp:Int)] w fun e w'=>e=.returned (.int .i64 (aY dp a b))∧Below w.heap.size w w':=by
 obtain ⟨Aa,ca,rfl,a1,a2,a3,a4,a5,hla⟩:=RTm.cells ha
 obtain ⟨Ab,cb,rfl,b1,b2,b3,b4,b5,hlb⟩:=RTm.cells hb
 have IH:=zT ih
 have HLA:=zT hla
 have HLB:=zT hlb
 have HW:=zT (((zX w.heap.size w).alloc (zV _) (.cells #[.int .i64 a.kind,.int .i64 a.n,.string a.s,.slice Aa a.l.length ca] 29)).alloc (by simp) (.cells #[.int .i64 b.kind,.int .i64 b.n,.string b.s,.slice Ab b.l.length cb] 29))
 clear ih ha hb hla hlb
 by_cases k1:a.kind=b.kind
 rotate_left
 ·have K1:=zT k1
  have k1':(a.kind==b.kind)=false:=by simpa using k1
  clear k1
  go_enter Tryz.func106,Tryz.ntmps106
  go_wp2_with fail
  refine (iw _ _).mono ?_
  rintro e w1 ⟨rfl,rfl⟩
  go_wp2_with fail
  all_goals
   go_ret
   exact ⟨dw (by rw [vc K1.out];first | rw [if_pos (by assumption)] | rw [if_neg (by omega)]),HW.out⟩
 by_cases k2:a.n=b.n
 rotate_left
 ·have K1:=zT k1
  have K2:=zT k2
  have k1':(a.kind==b.kind)=true:=by simpa using k1
  have k2':(a.n==b.n)=false:=by simpa using k2
  clear k1 k2
  go_enter Tryz.func106,Tryz.ntmps106
  go_wp2_with fail
  refine (iw _ _).mono ?_
  rintro e w1 ⟨rfl,rfl⟩
  go_wp2_with fail
  all_goals
   go_ret
   exact ⟨dw (by rw [cmpT_n K1.out K2.out];first | rw [if_pos (by assumption)] | rw [if_neg (by omega)]),HW.out⟩
 by_cases k3:bs a.s=bs b.s
 rotate_left
 ·have K1:=zT k1
  have K2:=zT k2
  have K3:=zT k3
  have k1':(a.kind==b.kind)=true:=by simpa using k1
  have k2':(a.n==b.n)=true:=by simpa using k2
  have k3':(a.s.toList==b.s.toList)=false:=by rw [dJ];simpa using k3
  clear k1 k2 k3
  go_enter Tryz.func106,Tryz.ntmps106
  go_wp2_with fail
  refine (iw _ _).mono ?_
  rintro e w1 ⟨rfl,rfl⟩
  go_wp2_with fail
  all_goals
   go_ret
   exact ⟨dw (by rw [cmpT_s K1.out K2.out K3.out];first | rw [if_pos ((iS _ _).1 (by assumption))] | rw [if_neg (fun h=>absurd ((iS _ _).2 h) (by assumption))]),HW.out⟩
 have K0:=zT (uU k1 k2 k3)
 have k1':(a.kind==b.kind)=true:=by simpa using k1
 have k2':(a.n==b.n)=true:=by simpa using k2
 have k3':(a.s.toList==b.s.toList)=true:=by rw [dJ];simpa using k3
 clear k1 k2 k3
 rcases dp with _ | dp
 ·go_enter Tryz.func106,Tryz.ntmps106
  go_wp2_with fail
  go_ret
  exact ⟨dw K0.out.symm,HW.out⟩
 ·have hd1:(((dp+1:Nat):Int)==0)=false:=by simp;omega
  have HC:=zT (show aY (dp+1) a b=bL (aY dp) a.l b.l by unfold aY;rw [if_pos K0.out])
  clear HW
  go_enter Tryz.func106,Tryz.ntmps106
  go_wp2_with fail
  generalize hW:World.alloc _ _=W
  obtain ⟨hb,hz⟩:=al2 hW
  have ba:=n21 hW
  have bb:=n22 hW
  have HB:=zT hb
  have HZ:w.heap.size<W.heap.size:=by omega
  have HB1:B≤W.heap.size:=by omega
  clear hW hb hz
  go_loopw [52] (fun i wr=>∃k:Nat,k≤a.l.length∧i=.int .i64 k∧Below W.heap.size W wr∧Hid (bL (aY dp) a.l b.l=bL (aY dp) (a.l.drop k) (b.l.drop k))) (fun i _=>a.l.length-(intOf i).toNat)
  case atStart=>exact ⟨0,zW _,rfl,zX _ _,rfl⟩
  case round=>
   obtain ⟨k,hk,rfl,hbw,HE⟩:=hrel
   have ca:=(ba.later hbw).cell
   have cb:=(bb.later hbw).cell
   have la:=(ba.later hbw).lt
   have lb:=(bb.later hbw).lt
   have hfin:=zT (ac HB.out hbw)
   by_cases hlt:k<a.l.length
   ·have hla:=HLA.out.below HB.out hB
    have hlb:=HLB.out.below HB.out hB
    obtain ⟨oa,ofa,rfl,hoa⟩:=hla.base hbw HB1 (by omega)
    obtain ⟨x,Ax,cx,hx,c0,c1,c2,c3,hr⟩:=hla.at_ hbw HB1 hlt
    by_cases hlt2:k<b.l.length
    ·obtain ⟨ob,ofb,rfl,hob⟩:=hlb.base hbw HB1 (by omega)
     obtain ⟨y,Ay,cy,hy,e0,e1,e2,e3,hr'⟩:=hlb.at_ hbw HB1 hlt2
     have HL:=zT (And.intro hla hlb)
     have HR:=zT (And.intro hr hr')
     have HXY:=zT (And.intro hx hy)
     clear hla hlb hr hr' hx hy
     have hz:aY dp x y=0∨aY dp x y≠0:=by omega
     have HE2:Hid (bL (aY dp) a.l b.l=if aY dp x y=0 then bL (aY dp) (a.l.drop (k+1)) (b.l.drop (k+1)) else aY dp x y):=by
      obtain ⟨h1,h2⟩:=List.getElem?_eq_some_iff.1 HXY.out.1
      obtain ⟨h3,h4⟩:=List.getElem?_eq_some_iff.1 HXY.out.2
      have:=HE.out
      rw [List.drop_eq_getElem_cons h1,List.drop_eq_getElem_cons h3,h2,h4] at this
      exact this
     have hszr:=hbw.size
     have HZ2:=zT hz
     clear hz HE
     go_wp2_with fail
     generalize hW2:World.alloc _ _=W2
     obtain ⟨hb2,hz2⟩:=al1 hW2
     have q0:=(n11 hW2).regrown
     have q1:=((bb.later hbw).later hb2).regrown
     have q5:=cell_regrown ((hb2.cell (p:=⟨ob,ofb+k*4,none⟩) hob).trans e0)
     have q6:=cell_regrown ((hb2.cell (p:=⟨ob,ofb+k*4+1,none⟩) hob).trans e1)
     have q7:=cell_regrown ((hb2.cell (p:=⟨ob,ofb+k*4+2,none⟩) hob).trans e2)
     have q8:=cell_regrown ((hb2.cell (p:=⟨ob,ofb+k*4+3,none⟩) hob).trans e3)
     have HB2:=zT hb2
     have hB2:B≤W2.heap.size:=by omega
     have hwrap:IntKind.i64.wrap (((dp+1:Nat):Int)-1)=(dp:Int):=by
      rw [show (((dp+1:Nat):Int)-1)=(dp:Int) by omega]
      exact IntWalk.i64_in _ (by omega)
     clear hW2 hz2 hb2 ca cb la lb c0 c1 c2 c3 e0 e1 e2 e3
     refine wp_region_quiet_below (by kernel_rfl) (by kernel_rfl) ?_
     repeat (go_big_quiet_step ((go_at_call 106;exact Calls.regrown_of (IH.out dp rfl (d-1) B x y [_,_,_,_] [_,_,_,_] _ ((HR.out.1.below HB2.out (by omega)).below (below_regrown _ _ _) hB2) ((HR.out.2.below HB2.out (by omega)).below (below_regrown _ _ _) hB2) (zU hB2 (below_regrown _ _ _).size)))))
     refine wpQuiet_nil ?_
     intro w3 hw3
     have hb3:Below W2.heap.size W2 w3:=by obtain ⟨p,rfl⟩:=hw3;exact below_regrown _ _ _
     clear hw3 q0 q1 q5 q6 q7 q8
     have HB3:=zT (ac hbw (ac HB2.out hb3))
     have hfin3:=zT (ac HB.out HB3.out)
     clear hb3
     rcases HZ2.out with hz | hz
     ·have hz1:(aY dp x y !=0)=false:=by simpa using hz
      have HZ3:=zT hz
      clear hz
      go_wp2_with fail
      go_roundw
      case rel=>exact ⟨k+1,by omega,by go_num,HB3.out,by rw [HE2.out,if_pos HZ3.out];exact zT rfl⟩
      case measure=>simp [intOf];omega
     ·have hz1:(aY dp x y !=0)=true:=by simpa using hz
      have HZ3:=zT hz
      clear hz
      go_wp2_with fail
      go_ret
      exact ⟨dw (by rw [HC.out,HE2.out,if_neg HZ3.out]),hfin3.out⟩
    ·have HE2:Hid (bL (aY dp) a.l b.l=1):=by
      obtain ⟨h1,h2⟩:=List.getElem?_eq_some_iff.1 hx
      have:=HE.out
      rw [List.drop_eq_getElem_cons h1,List.drop_eq_nil_iff.2 (show b.l.length≤k by omega)] at this
      exact this
     have hfin2:=zT (fun o:Obj=>HB.out.trans ((hbw.alloc hbw.size o).mono HB.out.size))
     clear hx HE
     go_wp2_with fail
     go_ret
     exact ⟨dw (by rw [HC.out,HE2.out]),hfin2.out _⟩
   ·have hz:a.l.drop k=[]:=List.drop_eq_nil_iff.2 (by omega)
    have HE2:=HE.out
    rw [hz] at HE2
    have HE3:=zT HE2
    clear HE HE2 hz
    by_cases hlt2:a.l.length<b.l.length
    ·go_wp2_with fail
     go_ret
     obtain rfl:k=a.l.length:=by omega
     exact ⟨dw (by rw [HC.out,HE3.out,List.drop_eq_getElem_cons hlt2];rfl),hfin.out⟩
    ·go_wp2_with fail
     go_ret
     obtain rfl:k=a.l.length:=by omega
     exact ⟨dw (by rw [HC.out,HE3.out,List.drop_eq_nil_iff.2 (by omega)];rfl),hfin.out⟩
theorem mD (dp:Nat):dp≤3→∀(d B:Nat) (a b:Tm) (va vb:List Value) (w:World),RTm w B d a va→RTm w B d b vb→B≤w.heap.size →
 Calls Tryz.prog 106 #[.agg va.toArray,.agg vb.toArray,.int .i64 (dp:Int)] w fun e w'=>e=.returned (.int .i64 (aY dp a b))∧Below w.heap.size w w':=by
 induction dp with
 | zero=>intro _ d B a b va vb w ha hb hB;exact jc 0 (by omega) (fun dp' h=>by omega) d B a b va vb w ha hb hB
 | succ dp ih=>intro h d B a b va vb w ha hb hB;exact jc (dp+1) h (fun dp' h'=>by obtain rfl:dp=dp':=(by omega);exact ih (by omega)) d B a b va vb w ha hb hB
theorem mE {d B:Nat} {a b:Tm} {va vb:List Value} {w:World} (ha:RTm w B d a va) (hb:RTm w B d b vb) (hB:B≤w.heap.size) :
 Calls Tryz.prog 87 #[.agg va.toArray,.agg vb.toArray] w fun e w'=>e=.returned (.int .i64 (aY 3 a b))∧Below w.heap.size w w':=by
 have HA:=zT (And.intro ha hb)
 obtain ⟨Aa,ca,rfl,a1,a2,a3,a4,a5,hla⟩:=RTm.cells ha
 obtain ⟨Ab,cb,rfl,b1,b2,b3,b4,b5,hlb⟩:=RTm.cells hb
 clear ha hb hla hlb
 go_enter Tryz.func87,Tryz.ntmps87
 go_wp2_with fail
 generalize hW:World.alloc _ _=W
 obtain ⟨hb,hz⟩:=al2 hW
 clear hW
 refine (mD 3 (zV _) d B a b [_,_,_,_] [_,_,_,_] W (HA.out.1.below hb hB) (HA.out.2.below hb hB) (by omega)).mono ?_
 rintro e w1 ⟨rfl,hb1⟩
 have hfin:=zT (ac hb hb1)
 clear hb hb1 hz
 go_wp2_with fail
 go_ret
 exact ⟨rfl,hfin.out⟩
theorem cI (b:Bool) (w:World):Calls Tryz.prog 62 #[.bool b] w fun z w'=>z=.returned (.int .i64 (if b=true then -1 else 1))∧w=w':=by
 cases b
 all_goals
  go_enter Tryz.func62,Tryz.ntmps62
  go_wp2_with fail
  go_ret
  exact ⟨rfl,rfl⟩
theorem cmpL_at {f:Tm→Tm→Int} {xs ys:List Tm} {k:Nat} {x y:Tm} (hx:xs[k]? = some x) (hy:ys[k]? = some y):bL f (xs.drop k) (ys.drop k)=if f x y=0 then bL f (xs.drop (k+1)) (ys.drop (k+1)) else f x y:=by
 obtain ⟨h1,rfl⟩:=List.getElem?_eq_some_iff.1 hx
 obtain ⟨h2,rfl⟩:=List.getElem?_eq_some_iff.1 hy
 rw [List.drop_eq_getElem_cons h1,List.drop_eq_getElem_cons h2,bL]
theorem uY {f:Tm→Tm→Int} {xs ys:List Tm} {k:Nat} (h1:k<xs.length) (h2:ys.length≤k):bL f (xs.drop k) (ys.drop k)=1:=by
 rw [List.drop_eq_getElem_cons h1,List.drop_eq_nil_iff.2 h2,bL]
theorem uX {f:Tm→Tm→Int} {xs ys:List Tm} {k:Nat} (h1:xs.length≤k) (h2:k<ys.length):bL f (xs.drop k) (ys.drop k)=-1:=by
 rw [List.drop_eq_getElem_cons h2,List.drop_eq_nil_iff.2 h1,bL]
theorem xQ {f:Tm→Tm→Int} {xs ys:List Tm} {k:Nat} (h1:xs.length≤k) (h2:ys.length≤k):bL f (xs.drop k) (ys.drop k)=0:=by
 rw [List.drop_eq_nil_iff.2 h1,List.drop_eq_nil_iff.2 h2,bL]
theorem pR {d B c c':Nat} {xs ys:List Tm} {A A':Option Addr} {w:World} (hA:jk w B d xs A) (hA':jk w B d ys A') (hB:B≤w.heap.size) (hn:xs.length*40≤140737488351232) (hn':ys.length*40≤140737488351232) :
 Calls Tryz.prog 63 #[.slice A xs.length c,.slice A' ys.length c'] w fun z w'=>z=.returned (.int .i64 (bL (aY 3) xs ys))∧Below w.heap.size w w':=by
 have HA:=zT hA
 have HA':=zT hA'
 clear hA hA'
 go_enter Tryz.func63,Tryz.ntmps63
 go_wp2_with fail
 go_loopw [10] (fun u wr=>∃k:Nat,k≤xs.length∧u=.int .i64 k∧Hid (Below w.heap.size w wr)∧Hid (bL (aY 3) xs ys=bL (aY 3) (xs.drop k) (ys.drop k))) (fun u _=>xs.length-(intOf u).toNat)
 case atStart=>exact ⟨0,zW _,rfl,zT (zX _ _),zT rfl⟩
 case round=>
  obtain ⟨k,hk,rfl,HW,HE⟩:=hrel
  have hszr:=HW.out.size
  have hK0:(0:Int)≤(k:Int):=Int.natCast_nonneg _
  by_cases hlt:k<xs.length
  ·obtain ⟨b,off,x,Ax,cx,rfl,hb,hx,c0,c1,c2,c3,hr⟩:=HA.out.elem HW.out hB hlt
   have HX:=zT hr
   have HXX:=zT hx
   have hK1:(k:Int)<(xs.length:Int):=by omega
   clear hr hx
   go_upto_region 4 with fail
   generalize hWW:World.alloc _ _=w1
   obtain ⟨hb1,hz⟩:=al1 hWW
   have HA1:=zT (n11 hWW)
   have HW1:=zT hb1
   have hsz1:=hb1.size
   clear hWW hb1 hz c0 c1 c2 c3
   have k_x:=HA1.out.cell
   have l_x:=HA1.out.lt
   by_cases hlt2:k<ys.length
   ·obtain ⟨bq,oq,y,Ay,cy,rfl,hbq,hy,c0,c1,c2,c3,hr⟩:=HA'.out.elem (HW.out.trans (HW1.out.mono hszr)) hB hlt2
    have HY:=zT hr
    have HE2:Hid (bL (aY 3) xs ys=if aY 3 x y=0 then bL (aY 3) (xs.drop (k+1)) (ys.drop (k+1)) else aY 3 x y):=zT (HE.out.trans (cmpL_at HXX.out hy))
    have hK2:(k:Int)<(ys.length:Int):=by omega
    have hK3:¬((ys.length:Int)≤(k:Int)):=by omega
    clear hr hy
    go_upto_region 6 with fail
    have HSL:Hid (∀{w':World},Below w1.heap.size w1 w'→(w'.cell? ⟨wr.heap.size,0,none⟩=some (.int .i64 x.kind)∧w'.cell? ⟨wr.heap.size,1,none⟩=some (.int .i64 x.n)∧w'.cell? ⟨wr.heap.size,2,none⟩=some (.string x.s)∧w'.cell? ⟨wr.heap.size,3,none⟩=some (.slice Ax x.l.length cx)∧w'.cell? ⟨bq,oq+k*4,none⟩=some (.int .i64 y.kind)∧w'.cell? ⟨bq,oq+k*4+1,none⟩=some (.int .i64 y.n)∧w'.cell? ⟨bq,oq+k*4+2,none⟩=some (.string y.s)∧w'.cell? ⟨bq,oq+k*4+3,none⟩=some (.slice Ay y.l.length cy))):=zT (fun hb=>⟨(hb.cell l_x).trans (k_x 0),(hb.cell l_x).trans (k_x 1),(hb.cell l_x).trans (k_x 2),(hb.cell l_x).trans (k_x 3),(hb.cell hbq).trans c0,(hb.cell hbq).trans c1,(hb.cell hbq).trans c2,(hb.cell hbq).trans c3⟩)
    clear c0 c1 c2 c3 k_x
    refine aL (fun w'=>w'.cell? ⟨wr.heap.size,0,none⟩=some (.int .i64 x.kind)∧w'.cell? ⟨wr.heap.size,1,none⟩=some (.int .i64 x.n)∧w'.cell? ⟨wr.heap.size,2,none⟩=some (.string x.s)∧w'.cell? ⟨wr.heap.size,3,none⟩=some (.slice Ax x.l.length cx)∧w'.cell? ⟨bq,oq+k*4,none⟩=some (.int .i64 y.kind)∧w'.cell? ⟨bq,oq+k*4+1,none⟩=some (.int .i64 y.n)∧w'.cell? ⟨bq,oq+k*4+2,none⟩=some (.string y.s)∧w'.cell? ⟨bq,oq+k*4+3,none⟩=some (.slice Ay y.l.length cy)) (by kernel_rfl) (HSL.out (zX _ _).drew) ?_
    refine aa 0 ?_
    refine aa 1 ?_
    refine aa 2 ?_
    refine aa 3 ?_
    refine aa 4 ?_
    generalize hD:World.drew w1=w2
    have HU:Hid (Below w1.heap.size w1 w2):=zT (hD▸(zX w1.heap.size w1).drew)
    clear hD
    refine aw (rs:=[5]) (by kernel_rfl) rfl ?_
    refine ak.cons rfl (fun K hK=>?_) ak.nil
    go_simp
    refine (mE (d:=d) (B:=B) (a:=x) (b:=y) (va:=[_,_,_,_]) (vb:=[_,_,_,_]) (HX.out.below (HW1.out.trans (HU.out.mono hsz1)) (by omega)) (HY.out.below HU.out (by omega)) (zU (by omega) HU.out.size)).mono ?_
    rintro z w3 ⟨rfl,hb3⟩
    have HU3:Hid (Below w1.heap.size w1 w3):=zT (HU.out.trans (hb3.mono HU.out.size))
    clear hb3
    refine hK.out _ _ (HSL.out HU3.out) ?_
    clear hK
    refine aa 6 ?_
    refine bM (by kernel_rfl) ?_
    have HW3:Hid (Below w.heap.size w w3):=zT (HW.out.trans ((HW1.out.trans (HU3.out.mono hsz1)).mono hszr))
    generalize aY 3 x y=n at *
    by_cases hn0:n=0
    ·subst hn0
     have HE3:Hid (bL (aY 3) xs ys=bL (aY 3) (xs.drop (k+1)) (ys.drop (k+1))):=zT (HE2.out.trans (if_pos rfl))
     go_wp2_with fail
     go_roundw
     case rel=>exact ⟨k+1,hlt,by go_num,HW3,HE3⟩
     case measure=>simp [intOf];omega
    ·have hn1:(n !=0)=true:=by simpa using hn0
     have HE3:Hid (bL (aY 3) xs ys=n):=zT (HE2.out.trans (if_neg hn0))
     clear HE2
     go_wp2_with fail
     go_ret
     exact ⟨av HE3.out.symm,HW3.out⟩
   ·have hK2':ys.length≤k:=by omega
    have hK2:(ys.length:Int)≤(k:Int):=by omega
    have HE3:Hid (bL (aY 3) xs ys=1):=zT (HE.out.trans (uY hlt hK2'))
    go_wp2_with fail
    go_ret
    exact ⟨av HE3.out.symm,HW.out.trans (HW1.out.mono hszr)⟩
  ·have hgd:decide ((k:Int)<(xs.length:Int))=false:=by simp;omega
   have hkx:k=xs.length:=by omega
   by_cases hll:(xs.length:Int)<(ys.length:Int)
   ·have HE3:Hid (bL (aY 3) xs ys=-1):=zT (HE.out.trans (uX (by omega) (by omega)))
    clear hkx
    go_wp2_with fail
    all_goals
     go_ret
     exact ⟨av HE3.out.symm,HW.out⟩
   ·have HE3:Hid (bL (aY 3) xs ys=0):=zT (HE.out.trans (xQ (by omega) (by omega)))
    clear hkx
    go_wp2_with fail
    all_goals
     go_ret
     exact ⟨av HE3.out.symm,HW.out⟩
end Go.Proofs.YtjpndglegpcdnaaGreat
