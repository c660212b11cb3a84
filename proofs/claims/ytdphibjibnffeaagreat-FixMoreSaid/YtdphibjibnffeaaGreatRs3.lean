/- The document's store: place, MayFact, Add. Printed by mk_rs3.py. -/
import Derived.Test.YtdphibjibnffeaaGreatFx4
import Derived.Test.YtdphibjibnffeaaGreatFnTerm
import Derived.Test.YtdphibjibnffeaaGreatFc1
import Derived.Test.YtdphibjibnffeaaGreatHeldA
import Derived.Deep.CutRange
import Derived.Test.YtdphibjibnffeaaGreatHeap1
import Derived.Test.YtdphibjibnffeaaGreatSort
import Derived.Test.YtdphibjibnffeaaGreatOp3
import Derived.Test.YtdphibjibnffeaaGreatStkQ
import Derived.Test.YtdphibjibnffeaaGreatFx2
set_option linter.unusedVariables false
set_option linter.unusedSimpArgs false
set_option maxRecDepth 100000
set_option maxHeartbeats 8000000
namespace Go.Proofs.YtdphibjibnffeaaGreat
open Go.ChangeShapes Go.WideShapes Go.ChangeAt Go.RowKit
/-! What is the same as a fact is that fact. -/
theorem vL {d:Nat} {a b:Tm} (ha:ji a) (h:cM (d+1) a b=0):ji b:=by
 unfold cM at h
 split at h
 ·rw [show a.l=[] from ha] at h
  unfold ji
  cases hb:b.l with
  | nil=>rfl
  | cons y ys=>rw [hb] at h;simp [dN] at h
 ·rename_i k;exact absurd h k
theorem mL {d:Nat}:∀{xs ys:List Tm},(∀x∈xs,ji x)→dN (cM (d+1)) xs ys=0→∀y∈ys,ji y
 | [],[],_,_=>by simp
 | [],_::_,_,h=>by simp [dN] at h
 | _::_,[],_,h=>by simp [dN] at h
 | x::xs,y::ys,hx,h=>by
   rw [dN] at h
   split at h
   ·rename_i h0
    intro z hz
    rcases List.mem_cons.1 hz with rfl | hz
    ·exact vL (hx x (by simp)) h0
    ·exact mL (fun u hu=>hx u (by simp [hu])) h z hz
   ·rename_i k;exact absurd h k
theorem yP {d:Nat} {a b:Tm} (ha:Two a) (h:cM (d+2) a b=0):Two b:=by
 unfold cM at h
 split at h
 ·exact mL ha h
 ·rename_i k;exact absurd h k
theorem pX:∀{xs ys:List Tm},(∀x∈xs,Two x)→dN (cM 3) xs ys=0→∀y∈ys,Two y
 | [],[],_,_=>by simp
 | [],_::_,_,h=>by simp [dN] at h
 | _::_,[],_,h=>by simp [dN] at h
 | x::xs,y::ys,hx,h=>by
   rw [dN] at h
   split at h
   ·rename_i h0
    intro z hz
    rcases List.mem_cons.1 hz with rfl | hz
    ·exact yP (hx x (by simp)) h0
    ·exact pX (fun u hu=>hx u (by simp [hu])) h z hz
   ·rename_i k;exact absurd h k
theorem sQ {a b:Fc} (ha:FcOk a) (h:aW a b=0):a=b:=by
 simp only [aW,orL] at h
 split at h
 ·rename_i h1
  split at h
  ·rename_i h2
   split at h
   ·rename_i h3
    split at h
    ·rename_i h4
     obtain ⟨⟨an,at_⟩,ao⟩:=a
     obtain ⟨⟨bn,bt⟩,bo⟩:=b
     have hx:∀x∈at_,Two x:=fun x hx=>(aM (ha.fix x hx)).1
     have e1:an=bn:=oA (fN.1 h1)
     have e3:at_=bt:=od hx (pX hx h3) h3
     have e4:ao=bo:=fM.1 h4
     rw [e1,e3,e4]
    ·exact absurd h ‹_›
   ·exact absurd h ‹_›
  ·exact absurd h ‹_›
 ·exact absurd h ‹_›
theorem StF.not {fs:List Fc} {f:Fc} (h:StF fs) (hf:aT f=false):fW fs f=false:=by
 cases hh:fW fs f with
 | false=>rfl
 | true=>
   obtain ⟨x,hx,h0⟩:=(nH h.sort).1 hh
   have e:=sQ (h.ok x hx) h0
   subst e
   rw [h.st x hx] at hf
   cases hf
theorem yI {l:List Fc} {k:Nat} {x:Fc} (h:l[k]? = some x):(l.take (k+1)).all aT=((l.take k).all aT&&aT x):=by
 obtain ⟨hk,rfl⟩:=List.getElem?_eq_some_iff.1 h
 rw [List.take_succ_eq_append_getElem hk,List.all_append]
 simp
theorem pV {l:List Fc} {k:Nat} {x:Fc} (h:l[k]? = some x):stL (l.take (k+1))=ft (stL (l.take k)) x:=by
 obtain ⟨hk,rfl⟩:=List.getElem?_eq_some_iff.1 h
 rw [List.take_succ_eq_append_getElem hk,yF]
theorem vm {ys fs:List Fc} {k:Nat} {x:Fc} (h:ys[k]? = some x):(ys.take (k+1)).foldl ft fs=ft ((ys.take k).foldl ft fs) x:=by
 obtain ⟨hk,rfl⟩:=List.getElem?_eq_some_iff.1 h
 rw [List.take_succ_eq_append_getElem hk,List.foldl_append];rfl
def BegE (d:Nat) (w w':World) (l:List Fc) (z:Ending):Prop:=
 ((l.all aT=true∧∃S base xs As cs,z=.returned (.tuple #[.pointer (some ⟨S,0,none⟩),.bool true])∧StA base d w' S xs As cs∧xs.map FV.f=stL l∧w.heap.size≤S∧(∀q,(Value.slice As xs.length cs).ownBlock=some q→w.heap.size≤q)) ∨
  (l.all aT=false∧z=.returned (.tuple #[.pointer none,.bool false])))∧Below w.heap.size w w'
theorem uE {d B c:Nat} {l:List Fc} {A:Option Addr} {w:World} (hl:RL (ay (d+1)) w B l A) (hB:B≤w.heap.size) (hn:l.length≤100000) (h40:∀f∈l,f.pr.terms.length*40≤140737488351232) :
 Calls Tryz.prog 87 #[.slice A l.length c] w fun z w'=>BegE d w w' l z:=by
 have HL:=zE hl
 have HIN:Hid (∀f∈l,sA f):=zE (fun g hg=>by
  obtain ⟨i,hi,rfl⟩:=List.getElem_of_mem hg
  obtain ⟨b,off,_,_,hc⟩:=hl (by omega)
  obtain ⟨vs,_,⟨x,hx,hr⟩,_⟩:=hc i hi
  obtain ⟨_,rfl⟩:=List.getElem?_eq_some_iff.1 hx
  exact qH hr)
 have HTM:=zE h40
 clear hl h40
 go_enter Tryz.func87,Tryz.ntmps87
 go_wp2_with fail
 refine (wM d).mono ?_
 rintro z w1 ⟨rfl,hs1,hb1⟩
 have HS1:=zE hs1
 have HB1:=zE hb1
 have hsz1:=hb1.size
 clear hs1 hb1
 generalize hS:w.heap.size=S at *
 go_upto_region 3 with fail
 go_loopw [10] (fun i wr=>∃(k:Nat) (xs:List FV) (As:Option Addr) (cs:Nat),k≤l.length∧xs.length≤k∧i=.int .i64 k∧Hid (StA (S+1) d wr S xs As cs)∧Hid (xs.map FV.f=stL (l.take k))∧Hid ((l.take k).all aT=true)∧Hid (Below S w wr)∧Hid (∀q,(Value.slice As xs.length cs).ownBlock=some q→S≤q)) (fun i _=>l.length-(intOf i).toNat)
 case atStart=>exact ⟨0,[],none,0,zH _,zG _,rfl,HS1,zE rfl,zE rfl,HB1,zE (fun q h=>by cases h)⟩
 case round=>
  obtain ⟨k,xs,As,cs,hk,hxk,rfl,HS,HX,HAL,HW,HQ⟩:=hrel
  have hszr:=HW.out.size
  have hBr:B≤wr.heap.size:=by omega
  by_cases hlt:k<l.length
  ·have hBS:B≤S:=by omega
   obtain ⟨b,off,rfl,hob⟩:=(HL.out.keep HW.out hBS).base (zI _ _) hBr (by omega)
   obtain ⟨x,vs,hx,hlen,hcell,hr⟩:=(HL.out.keep HW.out hBS).at_ (zI _ _) hBr hlt
   have HXK:=zE hx
   have HR:=zE hr
   obtain ⟨Af,cf,rfl,_⟩:=aO hr
   have p0:wr.cell? ⟨b,off+k*3,none⟩=some (.string x.pr.name):=hcell 0 _ rfl
   have p1:wr.cell? ⟨b,off+k*3+1,none⟩=some (.slice Af x.pr.terms.length cf):=hcell 1 _ rfl
   have p2:wr.cell? ⟨b,off+k*3+2,none⟩=some (.int .u32 x.o):=hcell 2 _ rfl
   clear hcell hlen hx hr
   go_upto_region 5 with fail
   generalize hW:World.alloc _ _=w3
   obtain ⟨hb3,hz3⟩:=al1 hW
   have HK3:=zE (n11 hW)
   have HB3:Hid (Below S w w3):=zE (HW.out.trans (hb3.mono (by omega)))
   have HR3:=zE ((ay (d+1)).keep hb3 hBr HR.out)
   have HS3:=zE (HS.out.later hb3)
   have hsz3:=hb3.size
   clear hW hb3 hz3 p0 p1 p2
   have k_r:=HK3.out.cell
   have l_r:=HK3.out.lt
   go_wp2_with fail
   refine (pT (f:=x) (vf:=[_,_,_]) (B:=B) HS3.out HR3.out (by omega) (by omega)).mono ?_
   rintro z w4 ⟨xs2,A2,c2,rfl,hx2,hs2,hag,hfr⟩
   have hl2:xs2.length≤k+1:=by
    have h1:=congrArg List.length hx2
    have h2:=nq (xs.map FV.f) x
    rw [List.length_map] at h1 h2
    omega
   have HX2:Hid (xs2.map FV.f=stL (l.take (k+1))):=zE (by rw [hx2,HX.out,pV HXK.out])
   have HS4:=zE hs2
   have HQ4:Hid (∀q,(Value.slice A2 xs2.length c2).ownBlock=some q→S≤q):=zE (fun q hq=>by
    rcases hfr with e | ⟨q2,e,h⟩
    ·exact HQ.out q (e▸hq)
    ·rw [e] at hq;cases hq;omega)
   have HB34:Hid (Below S w3 w4):=zE (hag.below (fun q hq hm=>by
    rcases hm with rfl | hm
    ·omega
    ·have:=HQ.out q hm;omega) (by omega))
   have HB4:Hid (Below S w w4):=zE (HB3.out.trans HB34.out)
   have HK4:Hid (Blk w4 wr.heap.size #[.string x.pr.name,.slice Af x.pr.terms.length cf,.int .u32 x.o]):=zE (hag.blk HK3.out (fun hm=>by
    rcases hm with h | h
    ·have:=HS.out.hd.lt;omega
    ·have:=(HS.out.row.lt _ h).2;omega))
   have HFT:=zE (HTM.out x (List.mem_of_getElem? HXK.out))
   have HFF:Hid (StF (stL (l.take k))):=zE (StF.of (fun f hf=>HIN.out f (List.mem_of_mem_take hf)))
   have HSTK:=zE (yI HXK.out)
   have hsz4:=hag.size
   have hag0:=HX.out
   clear hx2 hs2 hag hfr k_r l_r
   rw [hag0]
   clear hag0
   cases ha:ow (stL (l.take k)) x
   ·have k_r:=HK4.out.cell
    have l_r:=HK4.out.lt
    have HR4:=zE ((ay (d+1)).keep HB34.out hBS HR3.out)
    go_wp2_with fail
    refine (eU (f:=x) (vf:=[_,_,_]) (B:=B) HS4.out HR4.out (by omega) (by omega) HFT.out).mono ?_
    rintro z w5 ⟨rfl,hb5⟩
    have HB5:Hid (Below S w w5):=zE (HB4.out.trans (hb5.mono (by omega)))
    have HS5:=zE (HS4.out.later hb5)
    clear hb5 k_r l_r
    have haa:ft (stL (l.take k)) x=stL (l.take k):=by unfold ft;rw [ha];rfl
    rw [show xs2.map FV.f=stL (l.take k) by rw [HX2.out,pV HXK.out,haa]]
    clear haa
    cases hh:fW (stL (l.take k)) x
    ·have HNO:Hid (l.all aT=false):=zE (yY HXK.out (by
      unfold ow at ha
      rw [hh] at ha
      simpa using ha))
     clear ha hh
     go_wp2_with fail
     go_ret2
     exact ⟨.inr ⟨HNO.out,rfl⟩,by rw [hS];exact HB5.out⟩
    ·have HAL2:Hid ((l.take (k+1)).all aT=true):=zE (by
      rw [HSTK.out,HAL.out,Bool.true_and]
      cases hst:aT x with
      | true=>rfl
      | false=>rw [HFF.out.not hst] at hh;cases hh)
     clear ha hh
     go_wp2_with fail
     go_roundw
     case rel=>exact ⟨k+1,xs2,A2,c2,by omega,hl2,by go_num,HS5,HX2,HAL2,HB5,HQ4⟩
     case measure=>simp [intOf];omega
   ·have HAL2:Hid ((l.take (k+1)).all aT=true):=zE (by
     rw [HSTK.out,HAL.out]
     unfold ow at ha
     rw [Bool.and_eq_true] at ha
     exact ha.1)
    clear ha
    go_wp2_with fail
    go_roundw
    case rel=>exact ⟨k+1,xs2,A2,c2,by omega,hl2,by go_num,HS4,HX2,HAL2,HB4,HQ4⟩
    case measure=>simp [intOf];omega
  ·have HE:Hid (l.take k=l):=zE (List.take_of_length_le (by omega))
   go_wp2_with fail
   go_ret2
   exact ⟨.inl ⟨by rw [←HE.out];exact HAL.out,S,S+1,xs,As,cs,rfl,HS.out,by rw [HX.out,HE.out],by omega,by rw [hS];exact HQ.out⟩,by rw [hS];exact HW.out⟩
def ui (d:Nat) (w w':World) (R:Option (List Fc) × Int × Int) (z:Ending):Prop:=
 ((∃S base xs As cs,z=.returned (.tuple #[.pointer (some ⟨S,0,none⟩),.int .i64 R.2.1,.int .i64 R.2.2])∧StA base d w' S xs As cs∧R.1=some (xs.map FV.f)∧w.heap.size≤S∧(∀q,(Value.slice As xs.length cs).ownBlock=some q→w.heap.size≤q)) ∨
  (z=.returned (.tuple #[.pointer none,.int .i64 R.2.1,.int .i64 R.2.2])∧R.1=none))∧Below w.heap.size w w'
theorem ui.no {d:Nat} {w w':World} {R:Option (List Fc) × Int × Int} {e:Int} (hb:Below w.heap.size w w') (h:R=(none,0,e)):ui d w w' R (.returned (.tuple #[.pointer none,.int .i64 0,.int .i64 e])):=by
 subst h
 exact ⟨.inr ⟨rfl,rfl⟩,hb⟩
theorem vk {rs:List OwD} {lf lr:Int} {k:Nat} {fs:List Fc} (hk:k≤100):kj rs lf lr (101-k) fs k=if (az fs rs).2≠0 then (none,0,(az fs rs).2) else if (az fs rs).1.length=0 then (some fs,(k:Int),0) else if (k:Int)=lr then (none,0,11) else if lf<fs.length+(az fs rs).1.length then (none,0,10) else kj rs lf lr (101-(k+1)) ((az fs rs).1.foldl ft fs) ((k+1:Nat):Int):=by
 rw [show 101-k=(100-k)+1 by omega,kj,show 101-(k+1)=100-k by omega]
 rfl
theorem sg {fs:List Fc}:∀{rs:List OwD},(fh fs rs).1.length≤rs.length*1000000
 | []=>zH _
 | o::rs=>by
   have h1:=sg (fs:=fs) (rs:=rs)
   have h2:=ic fs o.trusted o.rule
   have h3:(aD fs o).1.length≤(aH fs o.trusted o.rule).1.length:=List.length_filterMap_le _ _
   have h4:=List.length_filter_le (fun f=>!fW fs f) (aD fs o).1
   rw [fh]
   split
   ·exact zH _
   ·split
    ·exact zH _
    ·rw [List.length_append,List.length_cons];omega
theorem wF {fs:List Fc} {rs:List OwD} (h:(az fs rs).2=0):(az fs rs).1.length≤rs.length*1000000:=by
 rw [(eR h).1]
 exact zF (rp aS (vZ h)) sg
theorem nV {d B c cr:Nat} {l:List Fc} {rs:List OwD} {A Ar:Option Addr} {lf lr m:Int} {w:World} (hl:RL (ay (d+1)) w B l A) (hr:RL (OwR (d+1)) w B rs Ar) (hB:B≤w.heap.size) (hn:l.length≤100000) (hrn:rs.length≤1000000) (h40:∀f∈l,f.pr.terms.length*40≤140737488351232) (hlf:I64 lf) (hlr:I64 lr) (hm:w.cell? ⟨0,0,none⟩=some (.int .i64 m)) (hp:0<w.heap.size) :
 Calls Tryz.prog 37 #[.slice A l.length c,.slice Ar rs.length cr,.agg #[.int .i64 lf,.int .i64 lr]] w fun z w'=>ui d w w' (eE l rs lf lr) z:=by
 have HL:=zE hl
 have HR:=zE hr
 have HM:=zE hm
 have H40:=zE h40
 have HFX:Hid (eE l rs lf lr=if vN lf lr=true then (if (l.all aT&&rs.all iU)=true then (if lf<(stL l).length then (none,0,10) else kj rs lf lr 101 (stL l) 0) else (none,0,1)) else (none,0,1)):=zE rfl
 clear hl hr hm h40
 go_enter Tryz.func37,Tryz.ntmps37
 go_upto_region 1 with fail
 generalize hW:World.alloc _ _=w1
 obtain ⟨hb1,hz⟩:=al1 hW
 have HK1:=zE (n11 hW)
 have HB1:=zE hb1
 have hsz1:=hb1.size
 clear hW hb1 hz
 have k_l:=HK1.out.cell
 have l_l:=HK1.out.lt
 by_cases hlim:vN lf lr=true
 rotate_left
 ·have HV:Hid (eE l rs lf lr=(none,0,1)):=zE (by rw [HFX.out,if_neg hlim])
  have hcs:lf<1∨(¬lf<1∧1000<lf)∨(¬lf<1∧¬1000<lf∧lr<1)∨(¬lf<1∧¬1000<lf∧¬lr<1∧100<lr):=by
   simp only [vN,Bool.and_eq_true,decide_eq_true_eq] at hlim
   omega
  clear hlim
  rcases hcs with h | ⟨h1,h⟩ | ⟨h1,h2,h⟩ | ⟨h1,h2,h3,h⟩
  all_goals
   go_wp2_with fail
   go_ret3
   exact ui.no HB1.out HV.out
 have hl1:¬lf<1:=by simp only [vN,Bool.and_eq_true,decide_eq_true_eq] at hlim;omega
 have hl2:¬(1000:Int)<lf:=by simp only [vN,Bool.and_eq_true,decide_eq_true_eq] at hlim;omega
 have hl3:¬lr<1:=by simp only [vN,Bool.and_eq_true,decide_eq_true_eq] at hlim;omega
 have hl4:¬(100:Int)<lr:=by simp only [vN,Bool.and_eq_true,decide_eq_true_eq] at hlim;omega
 have HF1:Hid (eE l rs lf lr=if (l.all aT&&rs.all iU)=true then (if lf<(stL l).length then (none,0,10) else kj rs lf lr 101 (stL l) 0) else (none,0,1)):=zE (by rw [HFX.out,if_pos hlim])
 clear hlim HFX
 go_wp2_with fail
 refine (uE (HL.out.keep HB1.out hB) (zF hB hsz1) hn H40.out).mono ?_
 rintro z w2 ⟨hbe,hb2⟩
 have HK2:=zE (HK1.out.later hb2)
 have HB2:=zE (ab HB1.out hb2)
 have hsz2:=HB2.out.size
 have hlw:=HK1.out.lt
 clear hb2 k_l l_l
 have k_l:=HK2.out.cell
 have l_l:=HK2.out.lt
 rcases hbe with ⟨hst,S,base,xs,As,cs,rfl,hS,hxs,hS1,hS2⟩ | ⟨hst,rfl⟩
 rotate_left
 ·have HV:Hid (eE l rs lf lr=(none,0,1)):=zE (by rw [HF1.out,hst];rfl)
  clear hst
  go_wp2_with fail
  go_ret3
  exact ui.no HB2.out HV.out
 have HS:=zE hS
 have HXS:=zE hxs
 have HS2:=zE hS2
 have HSTB:=zE hst
 clear hS hxs hS2 hst
 go_wp2_with fail
 refine (mT (HR.out.keep HB2.out hB) (by omega) (zF hB hsz2)).mono ?_
 rintro z w3 ⟨rfl,hb3⟩
 have HK3:=zE (HK2.out.later hb3)
 have HB3:=zE (ab HB2.out hb3)
 have HS3:=zE (HS.out.later hb3)
 have hsz3:=HB3.out.size
 clear hb3 k_l l_l
 cases hall:rs.all iU
 ·have HV:Hid (eE l rs lf lr=(none,0,1)):=zE (by rw [HF1.out,hall,Bool.and_false];rfl)
  clear hall
  go_wp2_with fail
  go_ret3
  exact ui.no HB3.out HV.out
 have HF2:Hid (eE l rs lf lr=if lf<(stL l).length then (none,0,10) else kj rs lf lr 101 (stL l) 0):=zE (by rw [HF1.out,HSTB.out,hall];rfl)
 have HLN:Hid ((stL l).length=xs.length):=zE (by rw [←HXS.out,List.length_map])
 have hxn:xs.length≤100000:=by
  have h1:=rt l []
  have h2:=HLN.out
  unfold stL at h2
  simp only [List.length_nil] at h1
  omega
 clear hall HF1
 have HLEN:Hid (∀w9,Below w3.heap.size w3 w9→Calls Tryz.prog 40 #[.pointer (some ⟨S,0,none⟩)] w9 fun z w'=>z=.returned (.int .i64 xs.length)∧Below w9.heap.size w9 w'):=zE (fun w9 h=>(gt (HS3.out.later h)).mono fun z w' ⟨h1,h2⟩=>⟨h1,h2▸zI _ _⟩)
 have q_l:=HK3.out.regrown
 by_cases hfl:lf<(xs.length:Int)
 ·have HV:Hid (eE l rs lf lr=(none,0,10)):=zE (by rw [HF2.out,if_pos (by rw [HLN.out];exact hfl)])
  go_upto_region 6 with fail
  refine wp_region_quiet_below (by kernel_rfl) (by kernel_rfl) ?_
  repeat (go_big_quiet_step ((go_at_call 40;exact Calls.regrown_of (HLEN.out _ (below_regrown _ _ _)))))
  refine wpQuiet_nil ?_
  intro w4 hw_
  have hb:Below w3.heap.size w3 w4:=by obtain ⟨p_,rfl⟩:=hw_;exact below_regrown _ _ _
  clear hw_
  have HB4:=zE (ab HB3.out hb)
  clear hb q_l
  go_wp2_with fail
  go_ret3
  exact ui.no HB4.out HV.out
 have HF3:Hid (eE l rs lf lr=kj rs lf lr (101-0) (xs.map FV.f) ((0:Nat):Int)):=zE (by rw [HF2.out,if_neg (by rw [HLN.out];exact hfl),HXS.out];rfl)
 go_upto_region 6 with fail
 refine wp_region_quiet_below (by kernel_rfl) (by kernel_rfl) ?_
 repeat (go_big_quiet_step ((go_at_call 40;exact Calls.regrown_of (HLEN.out _ (below_regrown _ _ _)))))
 refine wpQuiet_nil ?_
 intro w4 hw_
 have hb:Below w3.heap.size w3 w4:=by obtain ⟨p_,rfl⟩:=hw_;exact below_regrown _ _ _
 clear hw_
 have HB4:=zE (ab HB3.out hb)
 have HK4:=zE (HK3.out.later hb)
 have HS4:=zE (HS3.out.later hb)
 have hsz4:=HB4.out.size
 have HFL:Hid ((xs.length:Int)≤lf):=zE (by omega)
 clear hb q_l HLEN HF2 HLN
 have HQ4:Hid (∀q,(Value.slice As xs.length cs).ownBlock=some q→w.heap.size<q):=zE (fun q hq=>by have:=HS2.out q hq;omega)
 have hSw:w.heap.size<S:=by omega
 go_upto_region 11 with fail
 clear hfl
 generalize w4=wa at *
 go_loopw [12] (fun u wr=>∃(k:Nat) (xs:List FV) (As:Option Addr) (cs:Nat),(k:Int)≤lr∧u=.int .i64 k∧Hid (eE l rs lf lr=kj rs lf lr (101-k) (xs.map FV.f) (k:Int))∧(xs.length:Int)≤lf∧Hid (StA base d wr S xs As cs)∧Hid (∀q,(Value.slice As xs.length cs).ownBlock=some q→w.heap.size<q)∧Hid (Blk wr w.heap.size #[.int .i64 lf,.int .i64 lr])∧Hid (Below w.heap.size w wr)) (fun u _=>(101-intOf u).toNat)
 case atStart=>exact ⟨0,xs,As,cs,by omega,rfl,HF3,by have:=HFL.out;omega,HS4,HQ4,HK4,HB4⟩
 case round=>
  obtain ⟨k,xs,As,cs,hk,rfl,HF,hxl,HS,HQ,HK,HW⟩:=hrel
  have hszr:=HW.out.size
  have hBr:B≤wr.heap.size:=zF hB hszr
  have HST:=zE (vk (rs:=rs) (lf:=lf) (lr:=lr) (fs:=xs.map FV.f) (k:=k) (by omega))
  have hkl:=HK.out.lt
  go_wp2_with fail
  refine (wD (HR.out.keep HW.out hB) hrn hBr HS.out (by omega) ((HW.out.cell (p:=⟨0,0,none⟩) hp).trans HM.out) (zJ hp hszr)).mono ?_
  rintro z w5 ⟨ys,Ay,cy,rfl,hys,hyr,hb5⟩
  have HYS:=zE hys
  have HYR:=zE hyr
  have HB5:=zE (ab HW.out hb5)
  have HK5:=zE (HK.out.later hb5)
  have HS5:=zE (HS.out.later hb5)
  have hsz5:=hb5.size
  have HYO:Hid ((az (xs.map FV.f) rs).2=0→∀y∈ys,aT y.f=true):=zE (fun h y hy=>(fl h (by rw [←HYS.out];exact List.mem_map.2 ⟨y,hy,rfl⟩)).1)
  have HYL:Hid ((az (xs.map FV.f) rs).1.length=ys.length):=zE (by rw [←HYS.out,List.length_map])
  clear hys hyr hb5
  by_cases he:(az (xs.map FV.f) rs).2=0
  rotate_left
  ·have he':((az (xs.map FV.f) rs).2 !=0)=true:=by simpa using he
   have HV:Hid (eE l rs lf lr=(none,0,(az (xs.map FV.f) rs).2)):=zE (by rw [HF.out,HST.out,if_pos he])
   generalize (az (xs.map FV.f) rs).2=e5 at *
   clear he
   go_wp2_with fail
   go_ret3
   exact ui.no HB5.out HV.out
  have he':((az (xs.map FV.f) rs).2 !=0)=false:=by simpa using he
  have HT1:Hid (eE l rs lf lr=if ys.length=0 then (some (xs.map FV.f),(k:Int),0) else if (k:Int)=lr then (none,0,11) else if lf<(xs.length:Int)+(ys.length:Int) then (none,0,10) else kj rs lf lr (101-(k+1)) ((ys.map FV.f).foldl ft (xs.map FV.f)) ((k+1:Nat):Int)):=zE (by
   rw [HF.out,HST.out,if_neg (by simpa using he),HYL.out,HYS.out,List.length_map])
  have HYT:=zE (HYO.out he)
  have hyn:ys.length≤1000000000000:=by have:=wF he;rw [HYL.out] at this;omega
  clear he HST HF HYO HYL HYS
  generalize (az (xs.map FV.f) rs).2=e5 at *
  by_cases hy0:ys.length=0
  ·have HV:Hid (eE l rs lf lr=(some (xs.map FV.f),(k:Int),0)):=zE (by rw [HT1.out,if_pos hy0])
   have hq0:((ys.length:Int)==0)=true:=by simp [hy0]
   clear hy0
   go_wp2_with fail
   go_ret3
   exact ⟨.inl ⟨S,base,xs,As,cs,by rw [HV.out];rfl,HS5.out,by rw [HV.out],by omega,fun q hq=>Nat.le_of_lt (HQ.out q hq)⟩,HB5.out⟩
  have hq0:((ys.length:Int)==0)=false:=by rw [beq_eq_false_iff_ne];omega
  have HT2:=zE (HT1.out.trans (if_neg hy0))
  clear hy0 HT1
  have k_l:=HK5.out.cell
  have l_l:=HK5.out.lt
  by_cases hkr:(k:Int)=lr
  ·have HV:=zE (HT2.out.trans (if_pos hkr))
   have hq1:((k:Int)==lr)=true:=by simpa using hkr
   clear hkr
   go_wp2_with fail
   go_ret3
   exact ui.no HB5.out HV.out
  have hq1:((k:Int)==lr)=false:=by simpa using hkr
  have HT3:=zE (HT2.out.trans (if_neg hkr))
  have HKR:Hid (((k+1:Nat):Int)≤lr):=zE (by omega)
  clear hkr HT2
  have HLEN:Hid (∀w9,Below w5.heap.size w5 w9→Calls Tryz.prog 40 #[.pointer (some ⟨S,0,none⟩)] w9 fun z w'=>z=.returned (.int .i64 xs.length)∧Below w9.heap.size w9 w'):=zE (fun w9 h=>(gt (HS5.out.later h)).mono fun z w' ⟨h1,h2⟩=>⟨h1,h2▸zI _ _⟩)
  have hI0:(0:Int)≤(xs.length:Int):=Int.natCast_nonneg _
  have hI1:(0:Int)≤(ys.length:Int):=Int.natCast_nonneg _
  have q_l:=HK5.out.regrown
  go_upto_region 18 with fail
  clear k_l l_l
  by_cases hbig:lf<(xs.length:Int)+(ys.length:Int)
  ·have HV:=zE (HT3.out.trans (if_pos hbig))
   refine wp_region_quiet_below (by kernel_rfl) (by kernel_rfl) ?_
   repeat (go_big_quiet_step ((go_at_call 40;exact Calls.regrown_of (HLEN.out _ (below_regrown _ _ _)))))
   refine wpQuiet_nil ?_
   intro w6 hw_
   have hb:Below w5.heap.size w5 w6:=by obtain ⟨p_,rfl⟩:=hw_;exact below_regrown _ _ _
   clear hw_
   have HB6:=zE (ab HB5.out hb)
   clear hb q_l
   go_wp2_with fail
   go_ret3
   exact ui.no HB6.out HV.out
  have HT4:=zE (HT3.out.trans (if_neg hbig))
  have HSUM:Hid ((xs.length:Int)+(ys.length:Int)≤lf):=zE (by omega)
  refine wp_region_quiet_below (by kernel_rfl) (by kernel_rfl) ?_
  repeat (go_big_quiet_step ((go_at_call 40;exact Calls.regrown_of (HLEN.out _ (below_regrown _ _ _)))))
  refine wpQuiet_nil ?_
  intro w6 hw_
  have hb:Below w5.heap.size w5 w6:=by obtain ⟨p_,rfl⟩:=hw_;exact below_regrown _ _ _
  clear hw_
  have HB6:=zE (ab HB5.out hb)
  have HK6:=zE (HK5.out.later hb)
  have HS6:=zE (HS5.out.later hb)
  have HY6:=zE (HYR.out.later hb)
  have hsz6:=hb.size
  have hSq:S<wr.heap.size:=HS.out.hd.lt
  have HG6:Hid (∀q,(Value.slice As xs.length cs).ownBlock=some q→q<wr.heap.size∨w6.heap.size≤q):=zE (fun q hq=>.inl (HS.out.row.lt q hq).2)
  clear hb q_l HLEN HT3
  go_upto_region 21 with fail
  clear hbig
  generalize wr=wq at *
  go_loopw [90] (fun i wr=>∃(j:Nat) (zs:List FV) (Az:Option Addr) (cz:Nat),j≤ys.length∧zs.length≤xs.length+j∧i=.int .i64 j∧Hid (zs.map FV.f=((ys.map FV.f).take j).foldl ft (xs.map FV.f))∧Hid (StA base d wr S zs Az cz)∧Hid (∀q,(Value.slice Az zs.length cz).ownBlock=some q→w.heap.size<q∧(q<wq.heap.size∨w6.heap.size≤q))∧Hid (Blk wr w.heap.size #[.int .i64 lf,.int .i64 lr])∧Hid (Below w.heap.size w wr)∧Hid (am (fun q=>q<wq.heap.size) w6 wr)) (fun i _=>ys.length-(intOf i).toNat)
  case atStart=>exact ⟨0,xs,As,cs,zH _,zG _,rfl,zE rfl,HS6,zE (fun q hq=>⟨HQ.out q hq,HG6.out q hq⟩),HK6,HB6,zE (am.refl _ _)⟩
  case round=>
   obtain ⟨j,zs,Az,cz,hj,hzj,rfl,HZ,HSZ,HQZ,HKZ,HWZ,HAG⟩:=hrel
   have hszz:=HAG.out.size
   have hsm:=HSUM.out
   have HYZ:=zE (HY6.out.agree HAG.out (fun q _ h=>h))
   by_cases hjl:j<ys.length
   ·obtain ⟨g,cg,eg,hg1,hg2,_⟩:=HYZ.out.own.sh bA (by omega)
    simp only [Value.slice.injEq,true_and] at eg
    obtain ⟨rfl,rfl⟩:=eg
    obtain ⟨a0,a1,a2⟩:=qF HYZ.out.own hjl
    have HYD:=zE (HYZ.out.deep _ (List.getElem_mem hjl)).2.here
    have HYJ:Hid ((ys.map FV.f)[j]? = some ys[j].f):=zE (by rw [List.getElem?_map,List.getElem?_eq_getElem hjl];rfl)
    have hJ0:(0:Int)≤(j:Int):=Int.natCast_nonneg _
    have hJ1:(j:Int)<(ys.length:Int):=by omega
    generalize ys[j]=y at *
    go_upto_region 23 with fail
    generalize hW:World.alloc _ _=w7
    obtain ⟨hb7,hz7⟩:=al1 hW
    have HT7:=zE (n11 hW)
    have HW7:=zE (ab HWZ.out hb7)
    have HS7:=zE (HSZ.out.later hb7)
    have HK7:=zE (HKZ.out.later hb7)
    have HAG7:=zE (HAG.out.trans (N:=fun _=>False) (am.of_below hb7) (fun _ _ h=>h.elim))
    have HYD7:=zE ((ay (d+1)).keep hb7 (zG _) HYD.out)
    have hsz7:=hb7.size
    clear hW hb7 hz7 a0 a1 a2
    have k_t:=HT7.out.cell
    have l_t:=HT7.out.lt
    go_wp2_with fail
    refine (pT (f:=y.f) (vf:=[_,_,_]) (B:=wr.heap.size) HS7.out HYD7.out hsz7 (by omega)).mono ?_
    rintro z w8 ⟨zs2,A2,c2,rfl,hx2,hs2,hag,hfr⟩
    have hl2:zs2.length≤xs.length+(j+1):=by
     have h1:=congrArg List.length hx2
     have h2:=nq (zs.map FV.f) y.f
     rw [List.length_map] at h1 h2
     omega
    have HX2:Hid (zs2.map FV.f=((ys.map FV.f).take (j+1)).foldl ft (xs.map FV.f)):=zE (by rw [hx2,HZ.out,vm HYJ.out])
    have HS8:=zE hs2
    have HQ8:Hid (∀q,(Value.slice A2 zs2.length c2).ownBlock=some q→w.heap.size<q∧(q<wq.heap.size∨w6.heap.size≤q)):=zE (fun q hq=>by
     rcases hfr with e | ⟨q2,e,h⟩
     ·exact HQZ.out q (e▸hq)
     ·rw [e] at hq;cases hq;exact ⟨by omega,by omega⟩)
    have HW8:Hid (Below w.heap.size w w8):=zE (HW7.out.trans (hag.below (fun q hq hm=>by
     rcases hm with rfl | hm
     ·omega
     ·have:=(HQZ.out q hm).1;omega) (by omega)))
    have HK8:=zE (hag.blk HK7.out (fun hm=>by
     rcases hm with h | h
     ·omega
     ·have:=(HQZ.out _ h).1;omega))
    have HAG8:Hid (am (fun q=>q<wq.heap.size) w6 w8):=zE (HAG7.out.trans hag (fun q hq hm=>by
     rcases hm with rfl | hm
     ·exact hSq
     ·rcases (HQZ.out q hm).2 with h | h
      ·exact h
      ·omega))
    clear hx2 hs2 hag hfr k_t l_t
    go_wp2_with fail
    go_roundw
    case rel=>exact ⟨j+1,zs2,A2,c2,by omega,hl2,by go_num,HX2,HS8,HQ8,HK8,HW8,HAG8⟩
    case measure=>simp [intOf];omega
   ·have HFN:Hid (eE l rs lf lr=kj rs lf lr (101-(k+1)) (zs.map FV.f) ((k+1:Nat):Int)):=zE (by
     rw [HT4.out,HZ.out,List.take_of_length_le (by rw [List.length_map];omega)])
    have hkk:=HKR.out
    go_wp2_with fail
    go_roundw
    case rel=>exact ⟨k+1,zs,Az,cz,hkk,by go_num,HFN,by omega,HSZ,zE (fun q hq=>(HQZ.out q hq).1),HKZ,HWZ⟩
    case measure=>simp [intOf];omega
section
variable {a b:Fc}
end
structure DSt (base d B:Nat) (w:World) (M:Nat) (xs:List FV) (A:Option Addr) (c:Nat):Prop where
 hd:Blk w M #[.slice A xs.length c]
 lt:M<base
 bw:base≤w.heap.size
 row:ar FvR 33 w base 0 (.slice A xs.length c) xs
 ok:∀x∈xs,FcOk x.f
 deep:∀x∈xs,(ay (d+1)).rd w B x.f x.cs
 sort:bi (xs.map FV.f)
 hB:B≤M
section
variable {base d B M c:Nat} {w w':World} {xs:List FV} {A:Option Addr} {K:Nat→Prop}
theorem DSt.agree (h:DSt base d B w M xs A c) (ha:am K w w') (hK:∀k,K k→k<w.heap.size→B≤k∧¬StM M (.slice A xs.length c) k):DSt base d B w' M xs A c:=by
 have hs:=h.hd.lt
 have hBw:B≤w.heap.size:=by have:=h.hB;omega
 have hb:Below B w w':=ha.below (fun k hk hm=>by have:=h.hB;have:=(hK k hm (by omega)).1;omega) hBw
 exact ⟨ha.blk h.hd (fun hm=>(hK M hm hs).2 (.inl rfl)),h.lt,zF h.bw ha.size,h.row.agree ha (fun k hk hm=>(hK k hm (h.row.lt k hk).2).2 (.inr hk)),h.ok,fun x hx=>(ay (d+1)).keep hb (zG _) (h.deep x hx),h.sort,h.hB⟩
theorem DSt.later (h:DSt base d B w M xs A c) (hb:Below w.heap.size w w'):DSt base d B w' M xs A c:=h.agree (K:=fun _=>False) (am.of_below hb) (fun _ h=>h.elim)
theorem DSt.rl (h:DSt base d B w M xs A c) (hn:xs.length≤1000000):RL (ay (d+1)) w w.heap.size (xs.map FV.f) A:=by
 obtain ⟨A3,c3,e3,h1,h2,r3⟩:=h.row.reads (zH _) (by show xs.length*(8*3)≤_;omega)
 simp only [Value.slice.injEq] at e3
 obtain ⟨rfl,_,rfl⟩:=e3
 have hBw:B≤w.heap.size:=by have:=h.hB;have:=h.hd.lt;omega
 intro h0
 rw [List.length_map] at h0
 obtain ⟨b,off,e,hb,hc⟩:=r3 h0
 refine ⟨b,off,e,hb,fun i hi=>?_⟩
 rw [List.length_map] at hi
 obtain ⟨vs,hl,⟨x,hx,hr⟩,hv⟩:=hc i hi
 obtain rfl:vs=x.cs:=hr
 exact ⟨x.cs,hl,⟨x.f,by rw [List.getElem?_map,hx];rfl,(ay (d+1)).wide hBw (h.deep x (List.mem_of_getElem? hx))⟩,hv⟩
end
def DAddE (base d B M:Nat) (w w':World) (xs:List FV) (A:Option Addr) (c:Nat) (f:Fc) (z:Ending):Prop:=
 ∃xs' A' c',z=.returned (.bool (ow (xs.map FV.f) f))∧xs'.map FV.f=ft (xs.map FV.f) f∧DSt base d B w' M xs' A' c'∧am (fun k=>k=M) w w'∧bz w (.slice A xs.length c) (.slice A' xs'.length c')
theorem DAddE.no {base d B M c:Nat} {w w':World} {xs:List FV} {A:Option Addr} {f:Fc} (h:DSt base d B w M xs A c) (hb:Below w.heap.size w w') (hn:ow (xs.map FV.f) f=false):DAddE base d B M w w' xs A c f (.returned (.bool false)):=
 ⟨xs,A,c,by rw [hn],by unfold ft;rw [hn];rfl,h.later hb,(am.of_below (M:=fun _=>False) hb).mono (fun _ _ h=>h.elim),.inl rfl⟩
end Go.Proofs.YtdphibjibnffeaaGreat
