/- Data that the program writes down: what its cells read as. -/
import Derived.Test.YtjpndglegpcdnaaGreatFx4
import Derived.Test.YtjpndglegpcdnaaGreatTerm5
import Derived.Test.YtjpndglegpcdnaaGreatOwn
import Derived.Test.YtjpndglegpcdnaaGreatHeldA
import Derived.Deep.CutRange
import Derived.Test.YtjpndglegpcdnaaGreatRule1
import Derived.Test.YtjpndglegpcdnaaGreatHeapLaw
import Derived.Test.YtjpndglegpcdnaaGreatFc6
import Derived.Test.YtjpndglegpcdnaaGreatStab
import Derived.Test.YtjpndglegpcdnaaGreatPosts2
import Derived.Test.YtjpndglegpcdnaaGreatRule4
import Derived.Deep.Slices
import Derived.Deep.Fields
import Derived.ChangeSame
import Derived.SizedLaws
import Derived.Below
import Derived.Test.YtjpndglegpcdnaaGreatScopeL
set_option linter.unusedVariables false
set_option linter.unusedSimpArgs false
set_option maxRecDepth 100000
set_option maxHeartbeats 8000000
namespace Go.Proofs.YtjpndglegpcdnaaGreat
open Go.ChangeShapes Go.WideShapes Go.ChangeAt Go.RowKit
/-! What is the same as a fact is that fact. -/
theorem un {d:Nat} {a b:Tm} (ha:iP a) (h:cH (d+1) a b=0):iP b:=by
 unfold cH at h
 split at h
 ·rw [show a.l=[] from ha] at h
  unfold iP
  cases hb:b.l with
  | nil=>rfl
  | cons y ys=>rw [hb] at h;simp [dG] at h
 ·rename_i k;exact absurd h k
theorem mp {d:Nat}:∀{xs ys:List Tm},(∀x∈xs,iP x)→dG (cH (d+1)) xs ys=0→∀y∈ys,iP y
 | [],[],_,_=>by simp
 | [],_::_,_,h=>by simp [dG] at h
 | _::_,[],_,h=>by simp [dG] at h
 | x::xs,y::ys,hx,h=>by
   rw [dG] at h
   split at h
   ·rename_i h0
    intro z hz
    rcases List.mem_cons.1 hz with rfl | hz
    ·exact un (hx x (by simp)) h0
    ·exact mp (fun u hu=>hx u (by simp [hu])) h z hz
   ·rename_i k;exact absurd h k
theorem xy {d:Nat} {a b:Tm} (ha:Two a) (h:cH (d+2) a b=0):Two b:=by
 unfold cH at h
 split at h
 ·exact mp ha h
 ·rename_i k;exact absurd h k
theorem pi:∀{xs ys:List Tm},(∀x∈xs,Two x)→dG (cH 3) xs ys=0→∀y∈ys,Two y
 | [],[],_,_=>by simp
 | [],_::_,_,h=>by simp [dG] at h
 | _::_,[],_,h=>by simp [dG] at h
 | x::xs,y::ys,hx,h=>by
   rw [dG] at h
   split at h
   ·rename_i h0
    intro z hz
    rcases List.mem_cons.1 hz with rfl | hz
    ·exact xy (hx x (by simp)) h0
    ·exact pi (fun u hu=>hx u (by simp [hu])) h z hz
   ·rename_i k;exact absurd h k
theorem rN {a b:Fc} (ha:FcOk a) (h:aS a b=0):a=b:=by
 simp only [aS,orL] at h
 split at h
 ·rename_i h1
  split at h
  ·rename_i h2
   split at h
   ·rename_i h3
    split at h
    ·rename_i h4
     obtain ⟨⟨an,at_⟩,ao⟩:=a
     obtain ⟨⟨bn,bt⟩,bo⟩:=b
     have hx:∀x∈at_,Two x:=fun x hx=>(aJ (ha.fix x hx)).1
     have e1:an=bn:=mf (dM.1 h1)
     have e3:at_=bt:=nC hx (pi hx h3) h3
     have e4:ao=bo:=dL.1 h4
     rw [e1,e3,e4]
    ·exact absurd h ‹_›
   ·exact absurd h ‹_›
  ·exact absurd h ‹_›
 ·exact absurd h ‹_›
theorem StF.not {fs:List Fc} {f:Fc} (h:StF fs) (hf:aL f=false):gI fs f=false:=by
 cases hh:gI fs f with
 | false=>rfl
 | true=>
   obtain ⟨x,hx,h0⟩:=(nf h.sort).1 hh
   have e:=rN (h.ok x hx) h0
   subst e
   rw [h.st x hx] at hf
   cases hf
theorem xp {l:List Fc} {k:Nat} {x:Fc} (h:l[k]? = some x):(l.take (k+1)).all aL=((l.take k).all aL&&aL x):=by
 obtain ⟨hk,rfl⟩:=List.getElem?_eq_some_iff.1 h
 rw [List.take_succ_eq_append_getElem hk,List.all_append]
 simp
theorem pf {l:List Fc} {k:Nat} {x:Fc} (h:l[k]? = some x):stL (l.take (k+1))=eO (stL (l.take k)) x:=by
 obtain ⟨hk,rfl⟩:=List.getElem?_eq_some_iff.1 h
 rw [List.take_succ_eq_append_getElem hk,xm]
theorem tU {ys fs:List Fc} {k:Nat} {x:Fc} (h:ys[k]? = some x):(ys.take (k+1)).foldl eO fs=eO ((ys.take k).foldl eO fs) x:=by
 obtain ⟨hk,rfl⟩:=List.getElem?_eq_some_iff.1 h
 rw [List.take_succ_eq_append_getElem hk,List.foldl_append];rfl
def BegE (d:Nat) (w w':World) (l:List Fc) (z:Ending):Prop:=
 ((l.all aL=true∧∃S base xs As cs,z=.returned (.tuple #[.pointer (some ⟨S,0,none⟩),.bool true])∧StA base d w' S xs As cs∧xs.map FV.f=stL l∧w.heap.size≤S∧(∀q,(Value.slice As xs.length cs).ownBlock=some q→w.heap.size≤q)) ∨
  (l.all aL=false∧z=.returned (.tuple #[.pointer none,.bool false])))∧Below w.heap.size w w'
theorem tp {d B c:Nat} {l:List Fc} {A:Option Addr} {w:World} (hl:RL (aC (d+1)) w B l A) (hB:B≤w.heap.size) (hn:l.length≤100000) (h40:∀f∈l,f.pr.terms.length*40≤140737488351232) :
 Calls Tryz.prog 22 #[.slice A l.length c] w fun z w'=>BegE d w w' l z:=by
 have HL:=ym hl
 have HIN:Hid (∀f∈l,sZ f):=ym (fun g hg=>by
  obtain ⟨i,hi,rfl⟩:=List.getElem_of_mem hg
  obtain ⟨b,off,_,_,hc⟩:=hl (by omega)
  obtain ⟨vs,_,⟨x,hx,hr⟩,_⟩:=hc i hi
  obtain ⟨_,rfl⟩:=List.getElem?_eq_some_iff.1 hx
  exact fact_in hr)
 have HTM:=ym h40
 clear hl h40
 go_enter Tryz.func22,Tryz.ntmps22
 go_wp2_with fail
 refine (ve d).mono ?_
 rintro z w1 ⟨rfl,hs1,hb1⟩
 have HS1:=ym hs1
 have HB1:=ym hb1
 have hsz1:=hb1.size
 clear hs1 hb1
 generalize hS:w.heap.size=S at *
 go_upto_region 3 with fail
 go_loopw [10] (fun i wr=>∃(k:Nat) (xs:List FV) (As:Option Addr) (cs:Nat),k≤l.length∧xs.length≤k∧i=.int .i64 k∧Hid (StA (S+1) d wr S xs As cs)∧Hid (xs.map FV.f=stL (l.take k))∧Hid ((l.take k).all aL=true)∧Hid (Below S w wr)∧Hid (∀q,(Value.slice As xs.length cs).ownBlock=some q→S≤q)) (fun i _=>l.length-(intOf i).toNat)
 case atStart=>exact ⟨0,[],none,0,yp _,yo _,rfl,HS1,ym rfl,ym rfl,HB1,ym (fun q h=>by cases h)⟩
 case round=>
  obtain ⟨k,xs,As,cs,hk,hxk,rfl,HS,HX,HAL,HW,HQ⟩:=hrel
  have hszr:=HW.out.size
  have hBr:B≤wr.heap.size:=by omega
  by_cases hlt:k<l.length
  ·have hBS:B≤S:=by omega
   obtain ⟨b,off,rfl,hob⟩:=(HL.out.keep HW.out hBS).base (yq _ _) hBr (by omega)
   obtain ⟨x,vs,hx,hlen,hcell,hr⟩:=(HL.out.keep HW.out hBS).at_ (yq _ _) hBr hlt
   have HXK:=ym hx
   have HR:=ym hr
   obtain ⟨Af,cf,rfl,_⟩:=bh hr
   have p0:wr.cell? ⟨b,off+k*3,none⟩=some (.string x.pr.name):=hcell 0 _ rfl
   have p1:wr.cell? ⟨b,off+k*3+1,none⟩=some (.slice Af x.pr.terms.length cf):=hcell 1 _ rfl
   have p2:wr.cell? ⟨b,off+k*3+2,none⟩=some (.int .u32 x.o):=hcell 2 _ rfl
   clear hcell hlen hx hr
   go_upto_region 5 with fail
   generalize hW:World.alloc _ _=w3
   obtain ⟨hb3,hz3⟩:=al1 hW
   have HK3:=ym (n11 hW)
   have HB3:Hid (Below S w w3):=ym (HW.out.trans (hb3.mono (by omega)))
   have HR3:=ym ((aC (d+1)).keep hb3 hBr HR.out)
   have HS3:=ym (HS.out.later hb3)
   have hsz3:=hb3.size
   clear hW hb3 hz3 p0 p1 p2
   have k_r:=HK3.out.cell
   have l_r:=HK3.out.lt
   go_wp2_with fail
   refine (pd (f:=x) (vf:=[_,_,_]) (B:=B) HS3.out HR3.out (by omega) (by omega)).mono ?_
   rintro z w4 ⟨xs2,A2,c2,rfl,hx2,hs2,hag,hfr⟩
   have hl2:xs2.length≤k+1:=by
    have h1:=congrArg List.length hx2
    have h2:=mN (xs.map FV.f) x
    rw [yw] at h1 h2
    omega
   have HX2:Hid (xs2.map FV.f=stL (l.take (k+1))):=ym (by rw [hx2,HX.out,pf HXK.out])
   have HS4:=ym hs2
   have HQ4:Hid (∀q,(Value.slice A2 xs2.length c2).ownBlock=some q→S≤q):=ym (fun q hq=>by
    rcases hfr with e | ⟨q2,e,h⟩
    ·exact HQ.out q (e▸hq)
    ·rw [e] at hq;cases hq;omega)
   have HB34:Hid (Below S w3 w4):=ym (hag.below (fun q hq hm=>by
    rcases hm with rfl | hm
    ·omega
    ·have:=HQ.out q hm;omega) (by omega))
   have HB4:Hid (Below S w w4):=ym (HB3.out.trans HB34.out)
   have HK4:Hid (Blk w4 wr.heap.size #[.string x.pr.name,.slice Af x.pr.terms.length cf,.int .u32 x.o]):=ym (hag.blk HK3.out (fun hm=>by
    rcases hm with h | h
    ·have:=HS.out.hd.lt;omega
    ·have:=(HS.out.row.lt _ h).2;omega))
   have HFT:=ym (HTM.out x (List.mem_of_getElem? HXK.out))
   have HFF:Hid (StF (stL (l.take k))):=ym (StF.of (fun f hf=>HIN.out f (List.mem_of_mem_take hf)))
   have HSTK:=ym (xp HXK.out)
   have hsz4:=hag.size
   have hag0:=HX.out
   clear hx2 hs2 hag hfr k_r l_r
   rw [hag0]
   clear hag0
   cases ha:nN (stL (l.take k)) x
   ·have k_r:=HK4.out.cell
    have l_r:=HK4.out.lt
    have HR4:=ym ((aC (d+1)).keep HB34.out hBS HR3.out)
    go_wp2_with fail
    refine (ly (f:=x) (vf:=[_,_,_]) (B:=B) HS4.out HR4.out (by omega) (by omega) HFT.out).mono ?_
    rintro z w5 ⟨rfl,hb5⟩
    have HB5:Hid (Below S w w5):=ym (HB4.out.trans (hb5.mono (by omega)))
    have HS5:=ym (HS4.out.later hb5)
    clear hb5 k_r l_r
    have haa:eO (stL (l.take k)) x=stL (l.take k):=by unfold eO;rw [ha];rfl
    rw [show xs2.map FV.f=stL (l.take k) by rw [HX2.out,pf HXK.out,haa]]
    clear haa
    cases hh:gI (stL (l.take k)) x
    ·have HNO:Hid (l.all aL=false):=ym (xI HXK.out (by
      unfold nN at ha
      rw [hh] at ha
      simpa using ha))
     clear ha hh
     go_wp2_with fail
     go_ret2
     exact ⟨.inr ⟨HNO.out,rfl⟩,by rw [hS];exact HB5.out⟩
    ·have HAL2:Hid ((l.take (k+1)).all aL=true):=ym (by
      rw [HSTK.out,HAL.out,Bool.true_and]
      cases hst:aL x with
      | true=>rfl
      | false=>rw [HFF.out.not hst] at hh;cases hh)
     clear ha hh
     go_wp2_with fail
     go_roundw
     case rel=>exact ⟨k+1,xs2,A2,c2,by omega,hl2,by go_num,HS5,HX2,HAL2,HB5,HQ4⟩
     case measure=>simp [intOf];omega
   ·have HAL2:Hid ((l.take (k+1)).all aL=true):=ym (by
     rw [HSTK.out,HAL.out]
     unfold nN at ha
     rw [yx] at ha
     exact ha.1)
    clear ha
    go_wp2_with fail
    go_roundw
    case rel=>exact ⟨k+1,xs2,A2,c2,by omega,hl2,by go_num,HS4,HX2,HAL2,HB4,HQ4⟩
    case measure=>simp [intOf];omega
  ·have HE:Hid (l.take k=l):=ym (List.take_of_length_le (by omega))
   go_wp2_with fail
   go_ret2
   exact ⟨.inl ⟨by rw [←HE.out];exact HAL.out,S,S+1,xs,As,cs,rfl,HS.out,by rw [HX.out,HE.out],by omega,by rw [hS];exact HQ.out⟩,by rw [hS];exact HW.out⟩
def nM (d:Nat) (w w':World) (R:Option (List Fc) × Int × Int) (z:Ending):Prop:=
 ((∃S base xs As cs,z=.returned (.tuple #[.pointer (some ⟨S,0,none⟩),.int .i64 R.2.1,.int .i64 R.2.2])∧StA base d w' S xs As cs∧R.1=some (xs.map FV.f)∧w.heap.size≤S∧(∀q,(Value.slice As xs.length cs).ownBlock=some q→w.heap.size≤q)) ∨
  (z=.returned (.tuple #[.pointer none,.int .i64 R.2.1,.int .i64 R.2.2])∧R.1=none))∧Below w.heap.size w w'
theorem nM.no {d:Nat} {w w':World} {R:Option (List Fc) × Int × Int} {e:Int} (hb:Below w.heap.size w w') (h:R=(none,0,e)):nM d w w' R (.returned (.tuple #[.pointer none,.int .i64 0,.int .i64 e])):=by
 subst h
 exact ⟨.inr ⟨rfl,rfl⟩,hb⟩
theorem tS {rs:List OwD} {lf lr:Int} {k:Nat} {fs:List Fc} (hk:k≤100):jV rs lf lr (101-k) fs k=if (aw fs rs).2≠0 then (none,0,(aw fs rs).2) else if (aw fs rs).1.length=0 then (some fs,(k:Int),0) else if (k:Int)=lr then (none,0,11) else if lf<fs.length+(aw fs rs).1.length then (none,0,10) else jV rs lf lr (101-(k+1)) ((aw fs rs).1.foldl eO fs) ((k+1:Nat):Int):=by
 rw [show 101-k=(100-k)+1 by omega,jV,show 101-(k+1)=100-k by omega]
 rfl
theorem rh {fs:List Fc}:∀{rs:List OwD},(eV fs rs).1.length≤rs.length*1000000
 | []=>yp _
 | o::rs=>by
   have h1:=rh (fs:=fs) (rs:=rs)
   have h2:=gP fs o.trusted o.rule
   have h3:(aA fs o).1.length≤(aX fs o.trusted o.rule).1.length:=List.length_filterMap_le _ _
   have h4:=List.length_filter_le (fun f=>!gI fs f) (aA fs o).1
   rw [eV]
   split
   ·exact yp _
   ·split
    ·exact yp _
    ·rw [yv,yE];omega
theorem uU {fs:List Fc} {rs:List OwD} (h:(aw fs rs).2=0):(aw fs rs).1.length≤rs.length*1000000:=by
 rw [(eI h).1]
 exact yn (qt aT (uA h)) rh
theorem uW {d B c cr:Nat} {l:List Fc} {rs:List OwD} {A Ar:Option Addr} {lf lr m:Int} {w:World} (hl:RL (aC (d+1)) w B l A) (hr:RL (OwR (d+1)) w B rs Ar) (hB:B≤w.heap.size) (hn:l.length≤100000) (hrn:rs.length≤1000000) (h40:∀f∈l,f.pr.terms.length*40≤140737488351232) (hlf:I64 lf) (hlr:I64 lr) (hm:w.cell? ⟨0,0,none⟩=some (.int .i64 m)) (hp:0<w.heap.size) :
 Calls Tryz.prog 10 #[.slice A l.length c,.slice Ar rs.length cr,.agg #[.int .i64 lf,.int .i64 lr]] w fun z w'=>nM d w w' (gX l rs lf lr) z:=by
 have HL:=ym hl
 have HR:=ym hr
 have HM:=ym hm
 have H40:=ym h40
 have HFX:Hid (gX l rs lf lr=if qZ lf lr=true then (if (l.all aL&&rs.all gL)=true then (if lf<(stL l).length then (none,0,10) else jV rs lf lr 101 (stL l) 0) else (none,0,1)) else (none,0,1)):=ym rfl
 clear hl hr hm h40
 go_enter Tryz.func10,Tryz.ntmps10
 go_upto_region 1 with fail
 generalize hW:World.alloc _ _=w1
 obtain ⟨hb1,hz⟩:=al1 hW
 have HK1:=ym (n11 hW)
 have HB1:=ym hb1
 have hsz1:=hb1.size
 clear hW hb1 hz
 have k_l:=HK1.out.cell
 have l_l:=HK1.out.lt
 by_cases hlim:qZ lf lr=true
 rotate_left
 ·have HV:Hid (gX l rs lf lr=(none,0,1)):=ym (by rw [HFX.out,if_neg hlim])
  have hcs:lf<1∨(¬lf<1∧1000<lf)∨(¬lf<1∧¬1000<lf∧lr<1)∨(¬lf<1∧¬1000<lf∧¬lr<1∧100<lr):=by
   simp only [qZ,yx,yC] at hlim
   omega
  clear hlim
  rcases hcs with h | ⟨h1,h⟩ | ⟨h1,h2,h⟩ | ⟨h1,h2,h3,h⟩
  all_goals
   go_wp2_with fail
   go_ret3
   exact nM.no HB1.out HV.out
 have hl1:¬lf<1:=by simp only [qZ,yx,yC] at hlim;omega
 have hl2:¬(1000:Int)<lf:=by simp only [qZ,yx,yC] at hlim;omega
 have hl3:¬lr<1:=by simp only [qZ,yx,yC] at hlim;omega
 have hl4:¬(100:Int)<lr:=by simp only [qZ,yx,yC] at hlim;omega
 have HF1:Hid (gX l rs lf lr=if (l.all aL&&rs.all gL)=true then (if lf<(stL l).length then (none,0,10) else jV rs lf lr 101 (stL l) 0) else (none,0,1)):=ym (by rw [HFX.out,if_pos hlim])
 clear hlim HFX
 go_wp2_with fail
 refine (tp (HL.out.keep HB1.out hB) (yn hB hsz1) hn H40.out).mono ?_
 rintro z w2 ⟨hbe,hb2⟩
 have HK2:=ym (HK1.out.later hb2)
 have HB2:=ym (ac HB1.out hb2)
 have hsz2:=HB2.out.size
 have hlw:=HK1.out.lt
 clear hb2 k_l l_l
 have k_l:=HK2.out.cell
 have l_l:=HK2.out.lt
 rcases hbe with ⟨hst,S,base,xs,As,cs,rfl,hS,hxs,hS1,hS2⟩ | ⟨hst,rfl⟩
 rotate_left
 ·have HV:Hid (gX l rs lf lr=(none,0,1)):=ym (by rw [HF1.out,hst];rfl)
  clear hst
  go_wp2_with fail
  go_ret3
  exact nM.no HB2.out HV.out
 have HS:=ym hS
 have HXS:=ym hxs
 have HS2:=ym hS2
 have HSTB:=ym hst
 clear hS hxs hS2 hst
 go_wp2_with fail
 refine (mA (HR.out.keep HB2.out hB) (by omega) (yn hB hsz2)).mono ?_
 rintro z w3 ⟨rfl,hb3⟩
 have HK3:=ym (HK2.out.later hb3)
 have HB3:=ym (ac HB2.out hb3)
 have HS3:=ym (HS.out.later hb3)
 have hsz3:=HB3.out.size
 clear hb3 k_l l_l
 cases hall:rs.all gL
 ·have HV:Hid (gX l rs lf lr=(none,0,1)):=ym (by rw [HF1.out,hall,Bool.and_false];rfl)
  clear hall
  go_wp2_with fail
  go_ret3
  exact nM.no HB3.out HV.out
 have HF2:Hid (gX l rs lf lr=if lf<(stL l).length then (none,0,10) else jV rs lf lr 101 (stL l) 0):=ym (by rw [HF1.out,HSTB.out,hall];rfl)
 have HLN:Hid ((stL l).length=xs.length):=ym (by rw [←HXS.out,yw])
 have hxn:xs.length≤100000:=by
  have h1:=qv l []
  have h2:=HLN.out
  unfold stL at h2
  simp only [List.length_nil] at h1
  omega
 clear hall HF1
 have HLEN:Hid (∀w9,Below w3.heap.size w3 w9→Calls Tryz.prog 13 #[.pointer (some ⟨S,0,none⟩)] w9 fun z w'=>z=.returned (.int .i64 xs.length)∧Below w9.heap.size w9 w'):=ym (fun w9 h=>(dW (HS3.out.later h)).mono fun z w' ⟨h1,h2⟩=>⟨h1,h2▸yq _ _⟩)
 have q_l:=HK3.out.regrown
 by_cases hfl:lf<(xs.length:Int)
 ·have HV:Hid (gX l rs lf lr=(none,0,10)):=ym (by rw [HF2.out,if_pos (by rw [HLN.out];exact hfl)])
  go_upto_region 6 with fail
  refine wp_region_quiet_below (by kernel_rfl) (by kernel_rfl) ?_
  repeat (go_big_quiet_step ((go_at_call 13;exact Calls.regrown_of (HLEN.out _ (below_regrown _ _ _)))))
  refine wpQuiet_nil ?_
  intro w4 hw_
  have hb:Below w3.heap.size w3 w4:=by obtain ⟨p_,rfl⟩:=hw_;exact below_regrown _ _ _
  clear hw_
  have HB4:=ym (ac HB3.out hb)
  clear hb q_l
  go_wp2_with fail
  go_ret3
  exact nM.no HB4.out HV.out
 have HF3:Hid (gX l rs lf lr=jV rs lf lr (101-0) (xs.map FV.f) ((0:Nat):Int)):=ym (by rw [HF2.out,if_neg (by rw [HLN.out];exact hfl),HXS.out];rfl)
 go_upto_region 6 with fail
 refine wp_region_quiet_below (by kernel_rfl) (by kernel_rfl) ?_
 repeat (go_big_quiet_step ((go_at_call 13;exact Calls.regrown_of (HLEN.out _ (below_regrown _ _ _)))))
 refine wpQuiet_nil ?_
 intro w4 hw_
 have hb:Below w3.heap.size w3 w4:=by obtain ⟨p_,rfl⟩:=hw_;exact below_regrown _ _ _
 clear hw_
 have HB4:=ym (ac HB3.out hb)
 have HK4:=ym (HK3.out.later hb)
 have HS4:=ym (HS3.out.later hb)
 have hsz4:=HB4.out.size
 have HFL:Hid ((xs.length:Int)≤lf):=ym (by omega)
 clear hb q_l HLEN HF2 HLN
 have HQ4:Hid (∀q,(Value.slice As xs.length cs).ownBlock=some q→w.heap.size<q):=ym (fun q hq=>by have:=HS2.out q hq;omega)
 have hSw:w.heap.size<S:=by omega
 go_upto_region 11 with fail
 clear hfl
 generalize w4=wa at *
 go_loopw [12] (fun u wr=>∃(k:Nat) (xs:List FV) (As:Option Addr) (cs:Nat),(k:Int)≤lr∧u=.int .i64 k∧Hid (gX l rs lf lr=jV rs lf lr (101-k) (xs.map FV.f) (k:Int))∧(xs.length:Int)≤lf∧Hid (StA base d wr S xs As cs)∧Hid (∀q,(Value.slice As xs.length cs).ownBlock=some q→w.heap.size<q)∧Hid (Blk wr w.heap.size #[.int .i64 lf,.int .i64 lr])∧Hid (Below w.heap.size w wr)) (fun u _=>(101-intOf u).toNat)
 case atStart=>exact ⟨0,xs,As,cs,by omega,rfl,HF3,by have:=HFL.out;omega,HS4,HQ4,HK4,HB4⟩
 case round=>
  obtain ⟨k,xs,As,cs,hk,rfl,HF,hxl,HS,HQ,HK,HW⟩:=hrel
  have hszr:=HW.out.size
  have hBr:B≤wr.heap.size:=yn hB hszr
  have HST:=ym (tS (rs:=rs) (lf:=lf) (lr:=lr) (fs:=xs.map FV.f) (k:=k) (by omega))
  have hkl:=HK.out.lt
  go_wp2_with fail
  refine (uS (HR.out.keep HW.out hB) hrn hBr HS.out (by omega) ((HW.out.cell (p:=⟨0,0,none⟩) hp).trans HM.out) (yr hp hszr)).mono ?_
  rintro z w5 ⟨ys,Ay,cy,rfl,hys,hyr,hb5⟩
  have HYS:=ym hys
  have HYR:=ym hyr
  have HB5:=ym (ac HW.out hb5)
  have HK5:=ym (HK.out.later hb5)
  have HS5:=ym (HS.out.later hb5)
  have hsz5:=hb5.size
  have HYO:Hid ((aw (xs.map FV.f) rs).2=0→∀y∈ys,aL y.f=true):=ym (fun h y hy=>(gt h (by rw [←HYS.out];exact List.mem_map.2 ⟨y,hy,rfl⟩)).1)
  have HYL:Hid ((aw (xs.map FV.f) rs).1.length=ys.length):=ym (by rw [←HYS.out,yw])
  clear hys hyr hb5
  by_cases he:(aw (xs.map FV.f) rs).2=0
  rotate_left
  ·have he':((aw (xs.map FV.f) rs).2 !=0)=true:=by simpa using he
   have HV:Hid (gX l rs lf lr=(none,0,(aw (xs.map FV.f) rs).2)):=ym (by rw [HF.out,HST.out,if_pos he])
   generalize (aw (xs.map FV.f) rs).2=e5 at *
   clear he
   go_wp2_with fail
   go_ret3
   exact nM.no HB5.out HV.out
  have he':((aw (xs.map FV.f) rs).2 !=0)=false:=by simpa using he
  have HT1:Hid (gX l rs lf lr=if ys.length=0 then (some (xs.map FV.f),(k:Int),0) else if (k:Int)=lr then (none,0,11) else if lf<(xs.length:Int)+(ys.length:Int) then (none,0,10) else jV rs lf lr (101-(k+1)) ((ys.map FV.f).foldl eO (xs.map FV.f)) ((k+1:Nat):Int)):=ym (by
   rw [HF.out,HST.out,if_neg (by simpa using he),HYL.out,HYS.out,yw])
  have HYT:=ym (HYO.out he)
  have hyn:ys.length≤1000000000000:=by have:=uU he;rw [HYL.out] at this;omega
  clear he HST HF HYO HYL HYS
  generalize (aw (xs.map FV.f) rs).2=e5 at *
  by_cases hy0:ys.length=0
  ·have HV:Hid (gX l rs lf lr=(some (xs.map FV.f),(k:Int),0)):=ym (by rw [HT1.out,if_pos hy0])
   have hq0:((ys.length:Int)==0)=true:=by simp [hy0]
   clear hy0
   go_wp2_with fail
   go_ret3
   exact ⟨.inl ⟨S,base,xs,As,cs,by rw [HV.out];rfl,HS5.out,by rw [HV.out],by omega,fun q hq=>Nat.le_of_lt (HQ.out q hq)⟩,HB5.out⟩
  have hq0:((ys.length:Int)==0)=false:=by rw [beq_eq_false_iff_ne];omega
  have HT2:=ym (HT1.out.trans (if_neg hy0))
  clear hy0 HT1
  have k_l:=HK5.out.cell
  have l_l:=HK5.out.lt
  by_cases hkr:(k:Int)=lr
  ·have HV:=ym (HT2.out.trans (if_pos hkr))
   have hq1:((k:Int)==lr)=true:=by simpa using hkr
   clear hkr
   go_wp2_with fail
   go_ret3
   exact nM.no HB5.out HV.out
  have hq1:((k:Int)==lr)=false:=by simpa using hkr
  have HT3:=ym (HT2.out.trans (if_neg hkr))
  have HKR:Hid (((k+1:Nat):Int)≤lr):=ym (by omega)
  clear hkr HT2
  have HLEN:Hid (∀w9,Below w5.heap.size w5 w9→Calls Tryz.prog 13 #[.pointer (some ⟨S,0,none⟩)] w9 fun z w'=>z=.returned (.int .i64 xs.length)∧Below w9.heap.size w9 w'):=ym (fun w9 h=>(dW (HS5.out.later h)).mono fun z w' ⟨h1,h2⟩=>⟨h1,h2▸yq _ _⟩)
  have hI0:(0:Int)≤(xs.length:Int):=Int.natCast_nonneg _
  have hI1:(0:Int)≤(ys.length:Int):=Int.natCast_nonneg _
  have q_l:=HK5.out.regrown
  go_upto_region 18 with fail
  clear k_l l_l
  by_cases hbig:lf<(xs.length:Int)+(ys.length:Int)
  ·have HV:=ym (HT3.out.trans (if_pos hbig))
   refine wp_region_quiet_below (by kernel_rfl) (by kernel_rfl) ?_
   repeat (go_big_quiet_step ((go_at_call 13;exact Calls.regrown_of (HLEN.out _ (below_regrown _ _ _)))))
   refine wpQuiet_nil ?_
   intro w6 hw_
   have hb:Below w5.heap.size w5 w6:=by obtain ⟨p_,rfl⟩:=hw_;exact below_regrown _ _ _
   clear hw_
   have HB6:=ym (ac HB5.out hb)
   clear hb q_l
   go_wp2_with fail
   go_ret3
   exact nM.no HB6.out HV.out
  have HT4:=ym (HT3.out.trans (if_neg hbig))
  have HSUM:Hid ((xs.length:Int)+(ys.length:Int)≤lf):=ym (by omega)
  refine wp_region_quiet_below (by kernel_rfl) (by kernel_rfl) ?_
  repeat (go_big_quiet_step ((go_at_call 13;exact Calls.regrown_of (HLEN.out _ (below_regrown _ _ _)))))
  refine wpQuiet_nil ?_
  intro w6 hw_
  have hb:Below w5.heap.size w5 w6:=by obtain ⟨p_,rfl⟩:=hw_;exact below_regrown _ _ _
  clear hw_
  have HB6:=ym (ac HB5.out hb)
  have HK6:=ym (HK5.out.later hb)
  have HS6:=ym (HS5.out.later hb)
  have HY6:=ym (HYR.out.later hb)
  have hsz6:=hb.size
  have hSq:S<wr.heap.size:=HS.out.hd.lt
  have HG6:Hid (∀q,(Value.slice As xs.length cs).ownBlock=some q→q<wr.heap.size∨w6.heap.size≤q):=ym (fun q hq=>.inl (HS.out.row.lt q hq).2)
  clear hb q_l HLEN HT3
  go_upto_region 21 with fail
  clear hbig
  generalize wr=wq at *
  go_loopw [90] (fun i wr=>∃(j:Nat) (zs:List FV) (Az:Option Addr) (cz:Nat),j≤ys.length∧zs.length≤xs.length+j∧i=.int .i64 j∧Hid (zs.map FV.f=((ys.map FV.f).take j).foldl eO (xs.map FV.f))∧Hid (StA base d wr S zs Az cz)∧Hid (∀q,(Value.slice Az zs.length cz).ownBlock=some q→w.heap.size<q∧(q<wq.heap.size∨w6.heap.size≤q))∧Hid (Blk wr w.heap.size #[.int .i64 lf,.int .i64 lr])∧Hid (Below w.heap.size w wr)∧Hid (ak (fun q=>q<wq.heap.size) w6 wr)) (fun i _=>ys.length-(intOf i).toNat)
  case atStart=>exact ⟨0,xs,As,cs,yp _,yo _,rfl,ym rfl,HS6,ym (fun q hq=>⟨HQ.out q hq,HG6.out q hq⟩),HK6,HB6,ym (ak.refl _ _)⟩
  case round=>
   obtain ⟨j,zs,Az,cz,hj,hzj,rfl,HZ,HSZ,HQZ,HKZ,HWZ,HAG⟩:=hrel
   have hszz:=HAG.out.size
   have hsm:=HSUM.out
   have HYZ:=ym (HY6.out.agree HAG.out (fun q _ h=>h))
   by_cases hjl:j<ys.length
   ·obtain ⟨g,cg,eg,hg1,hg2,_⟩:=HYZ.out.own.sh bm (by omega)
    simp only [yB,true_and] at eg
    obtain ⟨rfl,rfl⟩:=eg
    obtain ⟨a0,a1,a2⟩:=pO HYZ.out.own hjl
    have HYD:=ym (HYZ.out.deep _ (List.getElem_mem hjl)).2.here
    have HYJ:Hid ((ys.map FV.f)[j]? = some ys[j].f):=ym (by rw [List.getElem?_map,yy hjl];rfl)
    have hJ0:(0:Int)≤(j:Int):=Int.natCast_nonneg _
    have hJ1:(j:Int)<(ys.length:Int):=by omega
    generalize ys[j]=y at *
    go_upto_region 23 with fail
    generalize hW:World.alloc _ _=w7
    obtain ⟨hb7,hz7⟩:=al1 hW
    have HT7:=ym (n11 hW)
    have HW7:=ym (ac HWZ.out hb7)
    have HS7:=ym (HSZ.out.later hb7)
    have HK7:=ym (HKZ.out.later hb7)
    have HAG7:=ym (HAG.out.trans (N:=fun _=>False) (ak.of_below hb7) (fun _ _ h=>h.elim))
    have HYD7:=ym ((aC (d+1)).keep hb7 (yo _) HYD.out)
    have hsz7:=hb7.size
    clear hW hb7 hz7 a0 a1 a2
    have k_t:=HT7.out.cell
    have l_t:=HT7.out.lt
    go_wp2_with fail
    refine (pd (f:=y.f) (vf:=[_,_,_]) (B:=wr.heap.size) HS7.out HYD7.out hsz7 (by omega)).mono ?_
    rintro z w8 ⟨zs2,A2,c2,rfl,hx2,hs2,hag,hfr⟩
    have hl2:zs2.length≤xs.length+(j+1):=by
     have h1:=congrArg List.length hx2
     have h2:=mN (zs.map FV.f) y.f
     rw [yw] at h1 h2
     omega
    have HX2:Hid (zs2.map FV.f=((ys.map FV.f).take (j+1)).foldl eO (xs.map FV.f)):=ym (by rw [hx2,HZ.out,tU HYJ.out])
    have HS8:=ym hs2
    have HQ8:Hid (∀q,(Value.slice A2 zs2.length c2).ownBlock=some q→w.heap.size<q∧(q<wq.heap.size∨w6.heap.size≤q)):=ym (fun q hq=>by
     rcases hfr with e | ⟨q2,e,h⟩
     ·exact HQZ.out q (e▸hq)
     ·rw [e] at hq;cases hq;exact ⟨by omega,by omega⟩)
    have HW8:Hid (Below w.heap.size w w8):=ym (HW7.out.trans (hag.below (fun q hq hm=>by
     rcases hm with rfl | hm
     ·omega
     ·have:=(HQZ.out q hm).1;omega) (by omega)))
    have HK8:=ym (hag.blk HK7.out (fun hm=>by
     rcases hm with h | h
     ·omega
     ·have:=(HQZ.out _ h).1;omega))
    have HAG8:Hid (ak (fun q=>q<wq.heap.size) w6 w8):=ym (HAG7.out.trans hag (fun q hq hm=>by
     rcases hm with rfl | hm
     ·exact hSq
     ·rcases (HQZ.out q hm).2 with h | h
      ·exact h
      ·omega))
    clear hx2 hs2 hag hfr k_t l_t
    go_wp2_with fail
    go_roundw
    case rel=>exact ⟨j+1,zs2,A2,c2,by omega,hl2,by go_num,HX2,HS8,HQ8,HK8,HW8,HAG8⟩
    case measure=>simp [intOf];omega
   ·have HFN:Hid (gX l rs lf lr=jV rs lf lr (101-(k+1)) (zs.map FV.f) ((k+1:Nat):Int)):=ym (by
     rw [HT4.out,HZ.out,List.take_of_length_le (by rw [yw];omega)])
    have hkk:=HKR.out
    go_wp2_with fail
    go_roundw
    case rel=>exact ⟨k+1,zs,Az,cz,hkk,by go_num,HFN,by omega,HSZ,ym (fun q hq=>(HQZ.out q hq).1),HKZ,HWZ⟩
    case measure=>simp [intOf];omega
section
variable {a b:Fc}
end
structure DSt (base d B:Nat) (w:World) (M:Nat) (xs:List FV) (A:Option Addr) (c:Nat):Prop where
 hd:Blk w M #[.slice A xs.length c]
 lt:M<base
 bw:base≤w.heap.size
 row:am FvR 33 w base 0 (.slice A xs.length c) xs
 ok:∀x∈xs,FcOk x.f
 deep:∀x∈xs,(aC (d+1)).rd w B x.f x.cs
 sort:bD (xs.map FV.f)
 hB:B≤M
section
variable {base d B M c:Nat} {w w':World} {xs:List FV} {A:Option Addr} {K:Nat→Prop}
theorem DSt.agree (h:DSt base d B w M xs A c) (ha:ak K w w') (hK:∀k,K k→k<w.heap.size→B≤k∧¬StM M (.slice A xs.length c) k):DSt base d B w' M xs A c:=by
 have hs:=h.hd.lt
 have hBw:B≤w.heap.size:=by have:=h.hB;omega
 have hb:Below B w w':=ha.below (fun k hk hm=>by have:=h.hB;have:=(hK k hm (by omega)).1;omega) hBw
 exact ⟨ha.blk h.hd (fun hm=>(hK M hm hs).2 (.inl rfl)),h.lt,yn h.bw ha.size,h.row.agree ha (fun k hk hm=>(hK k hm (h.row.lt k hk).2).2 (.inr hk)),h.ok,fun x hx=>(aC (d+1)).keep hb (yo _) (h.deep x hx),h.sort,h.hB⟩
theorem DSt.later (h:DSt base d B w M xs A c) (hb:Below w.heap.size w w'):DSt base d B w' M xs A c:=h.agree (K:=fun _=>False) (ak.of_below hb) (fun _ h=>h.elim)
theorem DSt.rl (h:DSt base d B w M xs A c) (hn:xs.length≤1000000):RL (aC (d+1)) w w.heap.size (xs.map FV.f) A:=by
 obtain ⟨A3,c3,e3,h1,h2,r3⟩:=h.row.reads (yp _) (by show xs.length*(8*3)≤_;omega)
 simp only [yB] at e3
 obtain ⟨rfl,_,rfl⟩:=e3
 have hBw:B≤w.heap.size:=by have:=h.hB;have:=h.hd.lt;omega
 intro h0
 rw [yw] at h0
 obtain ⟨b,off,e,hb,hc⟩:=r3 h0
 refine ⟨b,off,e,hb,fun i hi=>?_⟩
 rw [yw] at hi
 obtain ⟨vs,hl,⟨x,hx,hr⟩,hv⟩:=hc i hi
 obtain rfl:vs=x.cs:=hr
 exact ⟨x.cs,hl,⟨x.f,by rw [List.getElem?_map,hx];rfl,(aC (d+1)).wide hBw (h.deep x (List.mem_of_getElem? hx))⟩,hv⟩
end
def DAddE (base d B M:Nat) (w w':World) (xs:List FV) (A:Option Addr) (c:Nat) (f:Fc) (z:Ending):Prop:=
 ∃xs' A' c',z=.returned (.bool (nN (xs.map FV.f) f))∧xs'.map FV.f=eO (xs.map FV.f) f∧DSt base d B w' M xs' A' c'∧ak (fun k=>k=M) w w'∧bC w (.slice A xs.length c) (.slice A' xs'.length c')
theorem DAddE.no {base d B M c:Nat} {w w':World} {xs:List FV} {A:Option Addr} {f:Fc} (h:DSt base d B w M xs A c) (hb:Below w.heap.size w w') (hn:nN (xs.map FV.f) f=false):DAddE base d B M w w' xs A c f (.returned (.bool false)):=
 ⟨xs,A,c,by rw [hn],by unfold eO;rw [hn];rfl,h.later hb,(ak.of_below (M:=fun _=>False) hb).mono (fun _ _ h=>h.elim),.inl rfl⟩
theorem RTm.deep {w:World} {B:Nat}:∀{d:Nat} {t:Tm} {vs:List Value},RTm w B d t vs→RTm w B (d+1) t vs
 | 0,_,_,h=>h.elim
 | d+1,t,vs,⟨A,c,e,h1,h2,h3,h4,h5,h6⟩=>⟨A,c,e,h1,h2,h3,h4,h5,h6.mono fun i vs _ ⟨x,hx,hr⟩=>⟨x,hx,RTm.deep hr⟩⟩
def Ok {H:Type} (P:Program) (t:TypeId) (d:DataW H):Prop:=∀n∈d.weights P t,n≤reachBytes
section
variable {H:Type} {enc:TypeId × Value→H} {P:Program} {w:World} {base:Nat} {held:Bool}
theorem open_int {t:TypeId} {fuel:Nat} {cs:List Value} {x:DataW H × List MemPlace} (ht:P.underlying t=some (.int .i64)) (h:DataW.trod enc P w base (fun _=>true) held fuel t cs=some x):∃n,cs=[.int .i64 n]∧I64 n:=by
 obtain ⟨n,hcs,_,hwf⟩:=DataW.trod_int ht h
 refine ⟨n,hcs,?_⟩
 simp only [Lit.wf] at hwf
 unfold I64
 revert hwf
 have e1:IntKind.i64.signed=true:=rfl
 have e2:IntKind.i64.bits=64:=rfl
 simp [IntKind.min,IntKind.max,e1,e2]
end
structure TwoS (d B:Nat) (w:World) (S:Nat) (xs:List FV) (A:Option Addr) (c M:Nat) (ys:List FV) (A':Option Addr) (c':Nat):Prop where
 s:StA (M+1) d w S xs A c
 m:DSt (M+1) d B w M ys A' c'
 ap:∀k,(Value.slice A xs.length c).ownBlock=some k→(Value.slice A' ys.length c').ownBlock≠some k
 ne:S<M
 hB:B≤S
section
variable {d B S M c c' c2:Nat} {w w':World} {xs ys xs2 ys2:List FV} {A A' A2:Option Addr}
theorem TwoS.later (h:TwoS d B w S xs A c M ys A' c') (hb:Below w.heap.size w w'):TwoS d B w' S xs A c M ys A' c':=⟨h.s.later hb,h.m.later hb,h.ap,h.ne,h.hB⟩
end
def xH (n m:Nat) (z:Ending):Prop:=∃q:Bool,z=.returned (.bool q)∧(q=true→n≤60∧m≤400)
theorem xH.no {n m:Nat}:xH n m (.returned (.bool false)):=⟨false,rfl,fun h=>by cases h⟩
section
variable {w:World} {B d c:Nat}
theorem fj {k n:Int} {s:ByteArray} (hk:I64 k) (hn:I64 n) (hs:s.size≤140737488351232):RTm w B (d+1) ⟨k,n,s,[]⟩ [.int .i64 k,.int .i64 n,.string s,.slice none 0 0]:=
 ⟨none,0,rfl,yo _,⟨by simp,by omega⟩,hs,hk,hn,fun h=>absurd h (by simp)⟩
theorem mq {α:Type} {R:Reader α} {xs:List α} {A:Option Addr} (h:RL R w B xs A) (h1:xs.length≤c) (h2:xs.length*(8*R.k)≤140737488351232) (h3:c≤9223372036854775807):RSl R w B xs (.slice A xs.length c):=⟨A,c,rfl,h1,⟨h2,h3⟩,h⟩
theorem ra {nm:ByteArray} {ts:List Tm} {v:Value} (hn:nm.size≤140737488351232) (h:RSl (TmR d) w B ts v):(PrR d).rd w B ⟨nm,ts⟩ [.string nm,v]:=⟨v,rfl,hn,h⟩
theorem lit_fc {f:Fc} {v:Value} (h:(PrR d).rd w B f.pr [.string f.pr.name,v]) (ho:U32 f.o):(aC d).rd w B f [.string f.pr.name,v,.int .u32 f.o]:=⟨v,rfl,h,ho⟩
theorem lit_ru {r:Ru} {v0 v1 v2 v3:Value} (hn:r.head.name.size≤140737488351232) (h0:RSl (TmR d) w B r.head.terms v0) (h1:RSl (PrR d) w B r.body v1) (h2:RSl (ExR d) w B r.exprs v2) (h3:RSl ScR w B r.scopes v3):(RuR d).rd w B r [.string r.head.name,v0,v1,v2,v3]:=⟨v0,v1,v2,v3,rfl,hn,h0,h1,h2,h3⟩
theorem uq {α:Type} {R:Reader α}:RSl R w B [] (.slice none 0 0):=⟨none,0,rfl,by simp,by simp,fun h=>absurd h (by simp)⟩
end
end Go.Proofs.YtjpndglegpcdnaaGreat
