/- Data that the program writes down: what its cells read as. -/
import Derived.Test.YtjpndglegpcdnaaGreatFx4
import Derived.Test.YtjpndglegpcdnaaGreatFxD
import Derived.Test.YtjpndglegpcdnaaGreatFxAwL
set_option linter.unusedVariables false
set_option linter.unusedSimpArgs false
set_option maxRecDepth 100000
set_option maxHeartbeats 8000000
namespace Go.Proofs.YtjpndglegpcdnaaGreat
open Go.ChangeShapes Go.WideShapes Go.ChangeAt Go.RowKit
/-! What is the same as a fact is that fact. -/
theorem vx {d:Nat} {a b:Tm} (ha:jc a) (h:aV (d+1) a b=0):jc b:=by
 unfold aV at h
 split at h
 ·rw [show a.l=[] from ha] at h
  unfold jc
  cases hb:b.l with
  | nil=>rfl
  | cons y ys=>rw [hb] at h;simp [bM] at h
 ·rename_i k;exact absurd h k
theorem mJ {d:Nat}:∀{xs ys:List Tm},(∀x∈xs,jc x)→bM (aV (d+1)) xs ys=0→∀y∈ys,jc y
 | [],[],_,_=>by simp
 | [],_::_,_,h=>by simp [bM] at h
 | _::_,[],_,h=>by simp [bM] at h
 | x::xs,y::ys,hx,h=>by
   rw [bM] at h
   split at h
   ·rename_i h0
    intro z hz
    rcases List.mem_cons.1 hz with rfl | hz
    ·exact vx (hx x (by simp)) h0
    ·exact mJ (fun u hu=>hx u (by simp [hu])) h z hz
   ·rename_i k;exact absurd h k
theorem yz {d:Nat} {a b:Tm} (ha:Two a) (h:aV (d+2) a b=0):Two b:=by
 unfold aV at h
 split at h
 ·exact mJ ha h
 ·rename_i k;exact absurd h k
theorem pQ:∀{xs ys:List Tm},(∀x∈xs,Two x)→bM (aV 3) xs ys=0→∀y∈ys,Two y
 | [],[],_,_=>by simp
 | [],_::_,_,h=>by simp [bM] at h
 | _::_,[],_,h=>by simp [bM] at h
 | x::xs,y::ys,hx,h=>by
   rw [bM] at h
   split at h
   ·rename_i h0
    intro z hz
    rcases List.mem_cons.1 hz with rfl | hz
    ·exact yz (hx x (by simp)) h0
    ·exact pQ (fun u hu=>hx u (by simp [hu])) h z hz
   ·rename_i k;exact absurd h k
theorem sI {a b:Fc} (ha:FcOk a) (h:aD a b=0):a=b:=by
 simp only [aD,orL] at h
 split at h
 ·rename_i h1
  split at h
  ·rename_i h2
   split at h
   ·rename_i h3
    split at h
    ·rename_i h4
     obtain ⟨⟨an,at_⟩,ao⟩:=a
     obtain ⟨⟨bn,bt⟩,bo⟩:=b
     have hx:∀x∈at_,Two x:=fun x hx=>(aN (ha.fix x hx)).1
     have e1:an=bn:=oy (fK.1 h1)
     have e3:at_=bt:=nY hx (pQ hx h3) h3
     have e4:ao=bo:=dX.1 h4
     rw [e1,e3,e4]
    ·exact absurd h ‹_›
   ·exact absurd h ‹_›
  ·exact absurd h ‹_›
 ·exact absurd h ‹_›
theorem StF.not {fs:List Fc} {f:Fc} (h:StF fs) (hf:aC f=false):eK fs f=false:=by
 cases hh:eK fs f with
 | false=>rfl
 | true=>
   obtain ⟨x,hx,h0⟩:=(nG h.sort).1 hh
   have e:=sI (h.ok x hx) h0
   subst e
   rw [h.st x hx] at hf
   cases hf
theorem yq {l:List Fc} {k:Nat} {x:Fc} (h:l[k]? = some x):(l.take (k+1)).all aC=((l.take k).all aC&&aC x):=by
 obtain ⟨hk,rfl⟩:=List.getElem?_eq_some_iff.1 h
 rw [List.take_succ_eq_append_getElem hk,List.all_append]
 simp
theorem pO {l:List Fc} {k:Nat} {x:Fc} (h:l[k]? = some x):stL (l.take (k+1))=eJ (stL (l.take k)) x:=by
 obtain ⟨hk,rfl⟩:=List.getElem?_eq_some_iff.1 h
 rw [List.take_succ_eq_append_getElem hk,sk]
theorem uV {ys fs:List Fc} {k:Nat} {x:Fc} (h:ys[k]? = some x):(ys.take (k+1)).foldl eJ fs=eJ ((ys.take k).foldl eJ fs) x:=by
 obtain ⟨hk,rfl⟩:=List.getElem?_eq_some_iff.1 h
 rw [List.take_succ_eq_append_getElem hk,List.foldl_append];rfl
def BegE (d:Nat) (w w':World) (l:List Fc) (z:Ending):Prop:=
 ((l.all aC=true∧∃S base xs As cs,z=.returned (.tuple #[.pointer (some ⟨S,0,none⟩),.bool true])∧StA base d w' S xs As cs∧xs.map FV.f=stL l∧w.heap.size≤S∧(∀q,(Value.slice As xs.length cs).ownBlock=some q→w.heap.size≤q)) ∨
  (l.all aC=false∧z=.returned (.tuple #[.pointer none,.bool false])))∧Below w.heap.size w w'
theorem um {d B c:Nat} {l:List Fc} {A:Option Addr} {w:World} (hl:RL (ax (d+1)) w B l A) (hB:B≤w.heap.size) (hn:l.length≤100000) (h40:∀f∈l,f.pr.terms.length*40≤140737488351232) :
 Calls Tryz.prog 22 #[.slice A l.length c] w fun z w'=>BegE d w w' l z:=by
 have HL:=zu hl
 have HIN:Hid (∀f∈l,tX f):=zu (fun g hg=>by
  obtain ⟨i,hi,rfl⟩:=List.getElem_of_mem hg
  obtain ⟨b,off,_,_,hc⟩:=hl (by omega)
  obtain ⟨vs,_,⟨x,hx,hr⟩,_⟩:=hc i hi
  obtain ⟨_,rfl⟩:=List.getElem?_eq_some_iff.1 hx
  exact qA hr)
 have HTM:=zu h40
 clear hl h40
 go_enter Tryz.func22,Tryz.ntmps22
 go_wp2_with fail
 refine (wy d).mono ?_
 rintro z w1 ⟨rfl,hs1,hb1⟩
 have HS1:=zu hs1
 have HB1:=zu hb1
 have hsz1:=hb1.size
 clear hs1 hb1
 generalize hS:w.heap.size=S at *
 go_upto_region 3 with fail
 go_loopw [10] (fun i wr=>∃(k:Nat) (xs:List FV) (As:Option Addr) (cs:Nat),k≤l.length∧xs.length≤k∧i=.int .i64 k∧Hid (StA (S+1) d wr S xs As cs)∧Hid (xs.map FV.f=stL (l.take k))∧Hid ((l.take k).all aC=true)∧Hid (Below S w wr)∧Hid (∀q,(Value.slice As xs.length cs).ownBlock=some q→S≤q)) (fun i _=>l.length-(intOf i).toNat)
 case atStart=>exact ⟨0,[],none,0,zx _,zw _,rfl,HS1,zu rfl,zu rfl,HB1,zu (fun q h=>by cases h)⟩
 case round=>
  obtain ⟨k,xs,As,cs,hk,hxk,rfl,HS,HX,HAL,HW,HQ⟩:=hrel
  have hszr:=HW.out.size
  have hBr:B≤wr.heap.size:=by omega
  by_cases hlt:k<l.length
  ·have hBS:B≤S:=by omega
   obtain ⟨b,off,rfl,hob⟩:=(HL.out.keep HW.out hBS).base (zy _ _) hBr (by omega)
   obtain ⟨x,vs,hx,hlen,hcell,hr⟩:=(HL.out.keep HW.out hBS).at_ (zy _ _) hBr hlt
   have HXK:=zu hx
   have HR:=zu hr
   obtain ⟨Af,cf,rfl,_⟩:=aF hr
   have p0:wr.cell? ⟨b,off+k*3,none⟩=some (.string x.pr.name):=hcell 0 _ rfl
   have p1:wr.cell? ⟨b,off+k*3+1,none⟩=some (.slice Af x.pr.terms.length cf):=hcell 1 _ rfl
   have p2:wr.cell? ⟨b,off+k*3+2,none⟩=some (.int .u32 x.o):=hcell 2 _ rfl
   clear hcell hlen hx hr
   go_upto_region 5 with fail
   generalize hW:World.alloc _ _=w3
   obtain ⟨hb3,hz3⟩:=al1 hW
   have HK3:=zu (n11 hW)
   have HB3:Hid (Below S w w3):=zu (HW.out.trans (hb3.mono (by omega)))
   have HR3:=zu ((ax (d+1)).keep hb3 hBr HR.out)
   have HS3:=zu (HS.out.later hb3)
   have hsz3:=hb3.size
   clear hW hb3 hz3 p0 p1 p2
   have k_r:=HK3.out.cell
   have l_r:=HK3.out.lt
   go_wp2_with fail
   refine (pN (f:=x) (vf:=[_,_,_]) (B:=B) HS3.out HR3.out (by omega) (by omega)).mono ?_
   rintro z w4 ⟨xs2,A2,c2,rfl,hx2,hs2,hag,hfr⟩
   have hl2:xs2.length≤k+1:=by
    have h1:=congrArg List.length hx2
    have h2:=nf (xs.map FV.f) x
    rw [zB] at h1 h2
    omega
   have HX2:Hid (xs2.map FV.f=stL (l.take (k+1))):=zu (by rw [hx2,HX.out,pO HXK.out])
   have HS4:=zu hs2
   have HQ4:Hid (∀q,(Value.slice A2 xs2.length c2).ownBlock=some q→S≤q):=zu (fun q hq=>by
    rcases hfr with e | ⟨q2,e,h⟩
    ·exact HQ.out q (e▸hq)
    ·rw [e] at hq;cases hq;omega)
   have HB34:Hid (Below S w3 w4):=zu (hag.below (fun q hq hm=>by
    rcases hm with rfl | hm
    ·omega
    ·have:=HQ.out q hm;omega) (by omega))
   have HB4:Hid (Below S w w4):=zu (HB3.out.trans HB34.out)
   have HK4:Hid (Blk w4 wr.heap.size #[.string x.pr.name,.slice Af x.pr.terms.length cf,.int .u32 x.o]):=zu (hag.blk HK3.out (fun hm=>by
    rcases hm with h | h
    ·have:=HS.out.hd.lt;omega
    ·have:=(HS.out.row.lt _ h).2;omega))
   have HFT:=zu (HTM.out x (List.mem_of_getElem? HXK.out))
   have HFF:Hid (StF (stL (l.take k))):=zu (StF.of (fun f hf=>HIN.out f (List.mem_of_mem_take hf)))
   have HSTK:=zu (yq HXK.out)
   have hsz4:=hag.size
   have hag0:=HX.out
   clear hx2 hs2 hag hfr k_r l_r
   rw [hag0]
   clear hag0
   cases ha:mb (stL (l.take k)) x
   ·have k_r:=HK4.out.cell
    have l_r:=HK4.out.lt
    have HR4:=zu ((ax (d+1)).keep HB34.out hBS HR3.out)
    go_wp2_with fail
    refine (gj (f:=x) (vf:=[_,_,_]) (B:=B) HS4.out HR4.out (by omega) (by omega) HFT.out).mono ?_
    rintro z w5 ⟨rfl,hb5⟩
    have HB5:Hid (Below S w w5):=zu (HB4.out.trans (hb5.mono (by omega)))
    have HS5:=zu (HS4.out.later hb5)
    clear hb5 k_r l_r
    have haa:eJ (stL (l.take k)) x=stL (l.take k):=by unfold eJ;rw [ha];rfl
    rw [show xs2.map FV.f=stL (l.take k) by rw [HX2.out,pO HXK.out,haa]]
    clear haa
    cases hh:eK (stL (l.take k)) x
    ·have HNO:Hid (l.all aC=false):=zu (yK HXK.out (by
      unfold mb at ha
      rw [hh] at ha
      simpa using ha))
     clear ha hh
     go_wp2_with fail
     go_ret2
     exact ⟨.inr ⟨HNO.out,rfl⟩,by rw [hS];exact HB5.out⟩
    ·have HAL2:Hid ((l.take (k+1)).all aC=true):=zu (by
      rw [HSTK.out,HAL.out,Bool.true_and]
      cases hst:aC x with
      | true=>rfl
      | false=>rw [HFF.out.not hst] at hh;cases hh)
     clear ha hh
     go_wp2_with fail
     go_roundw
     case rel=>exact ⟨k+1,xs2,A2,c2,by omega,hl2,by go_num,HS5,HX2,HAL2,HB5,HQ4⟩
     case measure=>simp [intOf];omega
   ·have HAL2:Hid ((l.take (k+1)).all aC=true):=zu (by
     rw [HSTK.out,HAL.out]
     unfold mb at ha
     rw [zC] at ha
     exact ha.1)
    clear ha
    go_wp2_with fail
    go_roundw
    case rel=>exact ⟨k+1,xs2,A2,c2,by omega,hl2,by go_num,HS4,HX2,HAL2,HB4,HQ4⟩
    case measure=>simp [intOf];omega
  ·have HE:Hid (l.take k=l):=zu (List.take_of_length_le (by omega))
   go_wp2_with fail
   go_ret2
   exact ⟨.inl ⟨by rw [←HE.out];exact HAL.out,S,S+1,xs,As,cs,rfl,HS.out,by rw [HX.out,HE.out],by omega,by rw [hS];exact HQ.out⟩,by rw [hS];exact HW.out⟩
def tU (d:Nat) (w w':World) (R:Option (List Fc) × Int × Int) (z:Ending):Prop:=
 ((∃S base xs As cs,z=.returned (.tuple #[.pointer (some ⟨S,0,none⟩),.int .i64 R.2.1,.int .i64 R.2.2])∧StA base d w' S xs As cs∧R.1=some (xs.map FV.f)∧w.heap.size≤S∧(∀q,(Value.slice As xs.length cs).ownBlock=some q→w.heap.size≤q)) ∨
  (z=.returned (.tuple #[.pointer none,.int .i64 R.2.1,.int .i64 R.2.2])∧R.1=none))∧Below w.heap.size w w'
theorem tU.no {d:Nat} {w w':World} {R:Option (List Fc) × Int × Int} {e:Int} (hb:Below w.heap.size w w') (h:R=(none,0,e)):tU d w w' R (.returned (.tuple #[.pointer none,.int .i64 0,.int .i64 e])):=by
 subst h
 exact ⟨.inr ⟨rfl,rfl⟩,hb⟩
theorem uT {rs:List OwD} {lf lr:Int} {k:Nat} {fs:List Fc} (hk:k≤100):mc rs lf lr (101-k) fs k=if (ay fs rs).2≠0 then (none,0,(ay fs rs).2) else if (ay fs rs).1.length=0 then (some fs,(k:Int),0) else if (k:Int)=lr then (none,0,11) else if lf<fs.length+(ay fs rs).1.length then (none,0,10) else mc rs lf lr (101-(k+1)) ((ay fs rs).1.foldl eJ fs) ((k+1:Nat):Int):=by
 rw [show 101-k=(100-k)+1 by omega,mc,show 101-(k+1)=100-k by omega]
 rfl
theorem rS {fs:List Fc}:∀{rs:List OwD},(fi fs rs).1.length≤rs.length*1000000
 | []=>zx _
 | o::rs=>by
   have h1:=rS (fs:=fs) (rs:=rs)
   have h2:=gY fs o.trusted o.rule
   have h3:(aB fs o).1.length≤(aZ fs o.trusted o.rule).1.length:=List.length_filterMap_le _ _
   have h4:=List.length_filter_le (fun f=>!eK fs f) (aB fs o).1
   rw [fi]
   split
   ·exact zx _
   ·split
    ·exact zx _
    ·rw [zA,zJ];omega
theorem wi {fs:List Fc} {rs:List OwD} (h:(ay fs rs).2=0):(ay fs rs).1.length≤rs.length*1000000:=by
 rw [(eT h).1]
 exact zv (rg aR (vK h)) rS
theorem re {d B c cr:Nat} {l:List Fc} {rs:List OwD} {A Ar:Option Addr} {lf lr m:Int} {w:World} (hl:RL (ax (d+1)) w B l A) (hr:RL (OwR (d+1)) w B rs Ar) (hB:B≤w.heap.size) (hn:l.length≤100000) (hrn:rs.length≤1000000) (h40:∀f∈l,f.pr.terms.length*40≤140737488351232) (hlf:I64 lf) (hlr:I64 lr) (hm:w.cell? ⟨0,0,none⟩=some (.int .i64 m)) (hp:0<w.heap.size) :
 Calls Tryz.prog 10 #[.slice A l.length c,.slice Ar rs.length cr,.agg #[.int .i64 lf,.int .i64 lr]] w fun z w'=>tU d w w' (jl l rs lf lr) z:=by
 have HL:=zu hl
 have HR:=zu hr
 have HM:=zu hm
 have H40:=zu h40
 have HFX:Hid (jl l rs lf lr=if wV lf lr=true then (if (l.all aC&&rs.all ii)=true then (if lf<(stL l).length then (none,0,10) else mc rs lf lr 101 (stL l) 0) else (none,0,1)) else (none,0,1)):=zu rfl
 clear hl hr hm h40
 go_enter Tryz.func10,Tryz.ntmps10
 go_upto_region 1 with fail
 generalize hW:World.alloc _ _=w1
 obtain ⟨hb1,hz⟩:=al1 hW
 have HK1:=zu (n11 hW)
 have HB1:=zu hb1
 have hsz1:=hb1.size
 clear hW hb1 hz
 have k_l:=HK1.out.cell
 have l_l:=HK1.out.lt
 by_cases hlim:wV lf lr=true
 rotate_left
 ·have HV:Hid (jl l rs lf lr=(none,0,1)):=zu (by rw [HFX.out,if_neg hlim])
  have hcs:lf<1∨(¬lf<1∧1000<lf)∨(¬lf<1∧¬1000<lf∧lr<1)∨(¬lf<1∧¬1000<lf∧¬lr<1∧100<lr):=by
   simp only [wV,zC,zH] at hlim
   omega
  clear hlim
  rcases hcs with h | ⟨h1,h⟩ | ⟨h1,h2,h⟩ | ⟨h1,h2,h3,h⟩
  all_goals
   go_wp2_with fail
   go_ret3
   exact tU.no HB1.out HV.out
 have hl1:¬lf<1:=by simp only [wV,zC,zH] at hlim;omega
 have hl2:¬(1000:Int)<lf:=by simp only [wV,zC,zH] at hlim;omega
 have hl3:¬lr<1:=by simp only [wV,zC,zH] at hlim;omega
 have hl4:¬(100:Int)<lr:=by simp only [wV,zC,zH] at hlim;omega
 have HF1:Hid (jl l rs lf lr=if (l.all aC&&rs.all ii)=true then (if lf<(stL l).length then (none,0,10) else mc rs lf lr 101 (stL l) 0) else (none,0,1)):=zu (by rw [HFX.out,if_pos hlim])
 clear hlim HFX
 go_wp2_with fail
 refine (um (HL.out.keep HB1.out hB) (zv hB hsz1) hn H40.out).mono ?_
 rintro z w2 ⟨hbe,hb2⟩
 have HK2:=zu (HK1.out.later hb2)
 have HB2:=zu (aa HB1.out hb2)
 have hsz2:=HB2.out.size
 have hlw:=HK1.out.lt
 clear hb2 k_l l_l
 have k_l:=HK2.out.cell
 have l_l:=HK2.out.lt
 rcases hbe with ⟨hst,S,base,xs,As,cs,rfl,hS,hxs,hS1,hS2⟩ | ⟨hst,rfl⟩
 rotate_left
 ·have HV:Hid (jl l rs lf lr=(none,0,1)):=zu (by rw [HF1.out,hst];rfl)
  clear hst
  go_wp2_with fail
  go_ret3
  exact tU.no HB2.out HV.out
 have HS:=zu hS
 have HXS:=zu hxs
 have HS2:=zu hS2
 have HSTB:=zu hst
 clear hS hxs hS2 hst
 go_wp2_with fail
 refine (mP (HR.out.keep HB2.out hB) (by omega) (zv hB hsz2)).mono ?_
 rintro z w3 ⟨rfl,hb3⟩
 have HK3:=zu (HK2.out.later hb3)
 have HB3:=zu (aa HB2.out hb3)
 have HS3:=zu (HS.out.later hb3)
 have hsz3:=HB3.out.size
 clear hb3 k_l l_l
 cases hall:rs.all ii
 ·have HV:Hid (jl l rs lf lr=(none,0,1)):=zu (by rw [HF1.out,hall,Bool.and_false];rfl)
  clear hall
  go_wp2_with fail
  go_ret3
  exact tU.no HB3.out HV.out
 have HF2:Hid (jl l rs lf lr=if lf<(stL l).length then (none,0,10) else mc rs lf lr 101 (stL l) 0):=zu (by rw [HF1.out,HSTB.out,hall];rfl)
 have HLN:Hid ((stL l).length=xs.length):=zu (by rw [←HXS.out,zB])
 have hxn:xs.length≤100000:=by
  have h1:=lQ l []
  have h2:=HLN.out
  unfold stL at h2
  simp only [List.length_nil] at h1
  omega
 clear hall HF1
 have HLEN:Hid (∀w9,Below w3.heap.size w3 w9→Calls Tryz.prog 13 #[.pointer (some ⟨S,0,none⟩)] w9 fun z w'=>z=.returned (.int .i64 xs.length)∧Below w9.heap.size w9 w'):=zu (fun w9 h=>(lR (HS3.out.later h)).mono fun z w' ⟨h1,h2⟩=>⟨h1,h2▸zy _ _⟩)
 have q_l:=HK3.out.regrown
 by_cases hfl:lf<(xs.length:Int)
 ·have HV:Hid (jl l rs lf lr=(none,0,10)):=zu (by rw [HF2.out,if_pos (by rw [HLN.out];exact hfl)])
  go_upto_region 6 with fail
  refine wp_region_quiet_below (by kernel_rfl) (by kernel_rfl) ?_
  repeat (go_big_quiet_step ((go_at_call 13;exact Calls.regrown_of (HLEN.out _ (below_regrown _ _ _)))))
  refine wpQuiet_nil ?_
  intro w4 hw_
  have hb:Below w3.heap.size w3 w4:=by obtain ⟨p_,rfl⟩:=hw_;exact below_regrown _ _ _
  clear hw_
  have HB4:=zu (aa HB3.out hb)
  clear hb q_l
  go_wp2_with fail
  go_ret3
  exact tU.no HB4.out HV.out
 have HF3:Hid (jl l rs lf lr=mc rs lf lr (101-0) (xs.map FV.f) ((0:Nat):Int)):=zu (by rw [HF2.out,if_neg (by rw [HLN.out];exact hfl),HXS.out];rfl)
 go_upto_region 6 with fail
 refine wp_region_quiet_below (by kernel_rfl) (by kernel_rfl) ?_
 repeat (go_big_quiet_step ((go_at_call 13;exact Calls.regrown_of (HLEN.out _ (below_regrown _ _ _)))))
 refine wpQuiet_nil ?_
 intro w4 hw_
 have hb:Below w3.heap.size w3 w4:=by obtain ⟨p_,rfl⟩:=hw_;exact below_regrown _ _ _
 clear hw_
 have HB4:=zu (aa HB3.out hb)
 have HK4:=zu (HK3.out.later hb)
 have HS4:=zu (HS3.out.later hb)
 have hsz4:=HB4.out.size
 have HFL:Hid ((xs.length:Int)≤lf):=zu (by omega)
 clear hb q_l HLEN HF2 HLN
 have HQ4:Hid (∀q,(Value.slice As xs.length cs).ownBlock=some q→w.heap.size<q):=zu (fun q hq=>by have:=HS2.out q hq;omega)
 have hSw:w.heap.size<S:=by omega
 go_upto_region 11 with fail
 clear hfl
 generalize w4=wa at *
 go_loopw [12] (fun u wr=>∃(k:Nat) (xs:List FV) (As:Option Addr) (cs:Nat),(k:Int)≤lr∧u=.int .i64 k∧Hid (jl l rs lf lr=mc rs lf lr (101-k) (xs.map FV.f) (k:Int))∧(xs.length:Int)≤lf∧Hid (StA base d wr S xs As cs)∧Hid (∀q,(Value.slice As xs.length cs).ownBlock=some q→w.heap.size<q)∧Hid (Blk wr w.heap.size #[.int .i64 lf,.int .i64 lr])∧Hid (Below w.heap.size w wr)) (fun u _=>(101-intOf u).toNat)
 case atStart=>exact ⟨0,xs,As,cs,by omega,rfl,HF3,by have:=HFL.out;omega,HS4,HQ4,HK4,HB4⟩
 case round=>
  obtain ⟨k,xs,As,cs,hk,rfl,HF,hxl,HS,HQ,HK,HW⟩:=hrel
  have hszr:=HW.out.size
  have hBr:B≤wr.heap.size:=zv hB hszr
  have HST:=zu (uT (rs:=rs) (lf:=lf) (lr:=lr) (fs:=xs.map FV.f) (k:=k) (by omega))
  have hkl:=HK.out.lt
  go_wp2_with fail
  refine (wg (HR.out.keep HW.out hB) hrn hBr HS.out (by omega) ((HW.out.cell (p:=⟨0,0,none⟩) hp).trans HM.out) (zz hp hszr)).mono ?_
  rintro z w5 ⟨ys,Ay,cy,rfl,hys,hyr,hb5⟩
  have HYS:=zu hys
  have HYR:=zu hyr
  have HB5:=zu (aa HW.out hb5)
  have HK5:=zu (HK.out.later hb5)
  have HS5:=zu (HS.out.later hb5)
  have hsz5:=hb5.size
  have HYO:Hid ((ay (xs.map FV.f) rs).2=0→∀y∈ys,aC y.f=true):=zu (fun h y hy=>(gI h (by rw [←HYS.out];exact List.mem_map.2 ⟨y,hy,rfl⟩)).1)
  have HYL:Hid ((ay (xs.map FV.f) rs).1.length=ys.length):=zu (by rw [←HYS.out,zB])
  clear hys hyr hb5
  by_cases he:(ay (xs.map FV.f) rs).2=0
  rotate_left
  ·have he':((ay (xs.map FV.f) rs).2 !=0)=true:=by simpa using he
   have HV:Hid (jl l rs lf lr=(none,0,(ay (xs.map FV.f) rs).2)):=zu (by rw [HF.out,HST.out,if_pos he])
   generalize (ay (xs.map FV.f) rs).2=e5 at *
   clear he
   go_wp2_with fail
   go_ret3
   exact tU.no HB5.out HV.out
  have he':((ay (xs.map FV.f) rs).2 !=0)=false:=by simpa using he
  have HT1:Hid (jl l rs lf lr=if ys.length=0 then (some (xs.map FV.f),(k:Int),0) else if (k:Int)=lr then (none,0,11) else if lf<(xs.length:Int)+(ys.length:Int) then (none,0,10) else mc rs lf lr (101-(k+1)) ((ys.map FV.f).foldl eJ (xs.map FV.f)) ((k+1:Nat):Int)):=zu (by
   rw [HF.out,HST.out,if_neg (by simpa using he),HYL.out,HYS.out,zB])
  have HYT:=zu (HYO.out he)
  have hyn:ys.length≤1000000000000:=by have:=wi he;rw [HYL.out] at this;omega
  clear he HST HF HYO HYL HYS
  generalize (ay (xs.map FV.f) rs).2=e5 at *
  by_cases hy0:ys.length=0
  ·have HV:Hid (jl l rs lf lr=(some (xs.map FV.f),(k:Int),0)):=zu (by rw [HT1.out,if_pos hy0])
   have hq0:((ys.length:Int)==0)=true:=by simp [hy0]
   clear hy0
   go_wp2_with fail
   go_ret3
   exact ⟨.inl ⟨S,base,xs,As,cs,by rw [HV.out];rfl,HS5.out,by rw [HV.out],by omega,fun q hq=>Nat.le_of_lt (HQ.out q hq)⟩,HB5.out⟩
  have hq0:((ys.length:Int)==0)=false:=by rw [beq_eq_false_iff_ne];omega
  have HT2:=zu (HT1.out.trans (if_neg hy0))
  clear hy0 HT1
  have k_l:=HK5.out.cell
  have l_l:=HK5.out.lt
  by_cases hkr:(k:Int)=lr
  ·have HV:=zu (HT2.out.trans (if_pos hkr))
   have hq1:((k:Int)==lr)=true:=by simpa using hkr
   clear hkr
   go_wp2_with fail
   go_ret3
   exact tU.no HB5.out HV.out
  have hq1:((k:Int)==lr)=false:=by simpa using hkr
  have HT3:=zu (HT2.out.trans (if_neg hkr))
  have HKR:Hid (((k+1:Nat):Int)≤lr):=zu (by omega)
  clear hkr HT2
  have HLEN:Hid (∀w9,Below w5.heap.size w5 w9→Calls Tryz.prog 13 #[.pointer (some ⟨S,0,none⟩)] w9 fun z w'=>z=.returned (.int .i64 xs.length)∧Below w9.heap.size w9 w'):=zu (fun w9 h=>(lR (HS5.out.later h)).mono fun z w' ⟨h1,h2⟩=>⟨h1,h2▸zy _ _⟩)
  have hI0:(0:Int)≤(xs.length:Int):=Int.natCast_nonneg _
  have hI1:(0:Int)≤(ys.length:Int):=Int.natCast_nonneg _
  have q_l:=HK5.out.regrown
  go_upto_region 18 with fail
  clear k_l l_l
  by_cases hbig:lf<(xs.length:Int)+(ys.length:Int)
  ·have HV:=zu (HT3.out.trans (if_pos hbig))
   refine wp_region_quiet_below (by kernel_rfl) (by kernel_rfl) ?_
   repeat (go_big_quiet_step ((go_at_call 13;exact Calls.regrown_of (HLEN.out _ (below_regrown _ _ _)))))
   refine wpQuiet_nil ?_
   intro w6 hw_
   have hb:Below w5.heap.size w5 w6:=by obtain ⟨p_,rfl⟩:=hw_;exact below_regrown _ _ _
   clear hw_
   have HB6:=zu (aa HB5.out hb)
   clear hb q_l
   go_wp2_with fail
   go_ret3
   exact tU.no HB6.out HV.out
  have HT4:=zu (HT3.out.trans (if_neg hbig))
  have HSUM:Hid ((xs.length:Int)+(ys.length:Int)≤lf):=zu (by omega)
  refine wp_region_quiet_below (by kernel_rfl) (by kernel_rfl) ?_
  repeat (go_big_quiet_step ((go_at_call 13;exact Calls.regrown_of (HLEN.out _ (below_regrown _ _ _)))))
  refine wpQuiet_nil ?_
  intro w6 hw_
  have hb:Below w5.heap.size w5 w6:=by obtain ⟨p_,rfl⟩:=hw_;exact below_regrown _ _ _
  clear hw_
  have HB6:=zu (aa HB5.out hb)
  have HK6:=zu (HK5.out.later hb)
  have HS6:=zu (HS5.out.later hb)
  have HY6:=zu (HYR.out.later hb)
  have hsz6:=hb.size
  have hSq:S<wr.heap.size:=HS.out.hd.lt
  have HG6:Hid (∀q,(Value.slice As xs.length cs).ownBlock=some q→q<wr.heap.size∨w6.heap.size≤q):=zu (fun q hq=>.inl (HS.out.row.lt q hq).2)
  clear hb q_l HLEN HT3
  go_upto_region 21 with fail
  clear hbig
  generalize wr=wq at *
  go_loopw [90] (fun i wr=>∃(j:Nat) (zs:List FV) (Az:Option Addr) (cz:Nat),j≤ys.length∧zs.length≤xs.length+j∧i=.int .i64 j∧Hid (zs.map FV.f=((ys.map FV.f).take j).foldl eJ (xs.map FV.f))∧Hid (StA base d wr S zs Az cz)∧Hid (∀q,(Value.slice Az zs.length cz).ownBlock=some q→w.heap.size<q∧(q<wq.heap.size∨w6.heap.size≤q))∧Hid (Blk wr w.heap.size #[.int .i64 lf,.int .i64 lr])∧Hid (Below w.heap.size w wr)∧Hid (ak (fun q=>q<wq.heap.size) w6 wr)) (fun i _=>ys.length-(intOf i).toNat)
  case atStart=>exact ⟨0,xs,As,cs,zx _,zw _,rfl,zu rfl,HS6,zu (fun q hq=>⟨HQ.out q hq,HG6.out q hq⟩),HK6,HB6,zu (ak.refl _ _)⟩
  case round=>
   obtain ⟨j,zs,Az,cz,hj,hzj,rfl,HZ,HSZ,HQZ,HKZ,HWZ,HAG⟩:=hrel
   have hszz:=HAG.out.size
   have hsm:=HSUM.out
   have HYZ:=zu (HY6.out.agree HAG.out (fun q _ h=>h))
   by_cases hjl:j<ys.length
   ·obtain ⟨g,cg,eg,hg1,hg2,_⟩:=HYZ.out.own.sh aU (by omega)
    simp only [zG,true_and] at eg
    obtain ⟨rfl,rfl⟩:=eg
    obtain ⟨a0,a1,a2⟩:=qz HYZ.out.own hjl
    have HYD:=zu (HYZ.out.deep _ (List.getElem_mem hjl)).2.here
    have HYJ:Hid ((ys.map FV.f)[j]? = some ys[j].f):=zu (by rw [List.getElem?_map,zD hjl];rfl)
    have hJ0:(0:Int)≤(j:Int):=Int.natCast_nonneg _
    have hJ1:(j:Int)<(ys.length:Int):=by omega
    generalize ys[j]=y at *
    go_upto_region 23 with fail
    generalize hW:World.alloc _ _=w7
    obtain ⟨hb7,hz7⟩:=al1 hW
    have HT7:=zu (n11 hW)
    have HW7:=zu (aa HWZ.out hb7)
    have HS7:=zu (HSZ.out.later hb7)
    have HK7:=zu (HKZ.out.later hb7)
    have HAG7:=zu (HAG.out.trans (N:=fun _=>False) (ak.of_below hb7) (fun _ _ h=>h.elim))
    have HYD7:=zu ((ax (d+1)).keep hb7 (zw _) HYD.out)
    have hsz7:=hb7.size
    clear hW hb7 hz7 a0 a1 a2
    have k_t:=HT7.out.cell
    have l_t:=HT7.out.lt
    go_wp2_with fail
    refine (pN (f:=y.f) (vf:=[_,_,_]) (B:=wr.heap.size) HS7.out HYD7.out hsz7 (by omega)).mono ?_
    rintro z w8 ⟨zs2,A2,c2,rfl,hx2,hs2,hag,hfr⟩
    have hl2:zs2.length≤xs.length+(j+1):=by
     have h1:=congrArg List.length hx2
     have h2:=nf (zs.map FV.f) y.f
     rw [zB] at h1 h2
     omega
    have HX2:Hid (zs2.map FV.f=((ys.map FV.f).take (j+1)).foldl eJ (xs.map FV.f)):=zu (by rw [hx2,HZ.out,uV HYJ.out])
    have HS8:=zu hs2
    have HQ8:Hid (∀q,(Value.slice A2 zs2.length c2).ownBlock=some q→w.heap.size<q∧(q<wq.heap.size∨w6.heap.size≤q)):=zu (fun q hq=>by
     rcases hfr with e | ⟨q2,e,h⟩
     ·exact HQZ.out q (e▸hq)
     ·rw [e] at hq;cases hq;exact ⟨by omega,by omega⟩)
    have HW8:Hid (Below w.heap.size w w8):=zu (HW7.out.trans (hag.below (fun q hq hm=>by
     rcases hm with rfl | hm
     ·omega
     ·have:=(HQZ.out q hm).1;omega) (by omega)))
    have HK8:=zu (hag.blk HK7.out (fun hm=>by
     rcases hm with h | h
     ·omega
     ·have:=(HQZ.out _ h).1;omega))
    have HAG8:Hid (ak (fun q=>q<wq.heap.size) w6 w8):=zu (HAG7.out.trans hag (fun q hq hm=>by
     rcases hm with rfl | hm
     ·exact hSq
     ·rcases (HQZ.out q hm).2 with h | h
      ·exact h
      ·omega))
    clear hx2 hs2 hag hfr k_t l_t
    go_wp2_with fail
    go_roundw
    case rel=>exact ⟨j+1,zs2,A2,c2,by omega,hl2,by go_num,HX2,HS8,HQ8,HK8,HW8,HAG8⟩
    case measure=>simp [intOf];omega
   ·have HFN:Hid (jl l rs lf lr=mc rs lf lr (101-(k+1)) (zs.map FV.f) ((k+1:Nat):Int)):=zu (by
     rw [HT4.out,HZ.out,List.take_of_length_le (by rw [zB];omega)])
    have hkk:=HKR.out
    go_wp2_with fail
    go_roundw
    case rel=>exact ⟨k+1,zs,Az,cz,hkk,by go_num,HFN,by omega,HSZ,zu (fun q hq=>(HQZ.out q hq).1),HKZ,HWZ⟩
    case measure=>simp [intOf];omega
def yI (n m:Nat) (z:Ending):Prop:=∃q:Bool,z=.returned (.bool q)∧(q=true→n≤60∧m≤400)
theorem yI.no {n m:Nat}:yI n m (.returned (.bool false)):=⟨false,rfl,fun h=>by cases h⟩
section
variable {w:World} {B d c:Nat}
theorem eD {k n:Int} {s:ByteArray} (hk:I64 k) (hn:I64 n) (hs:s.size≤140737488351232):RTm w B (d+1) ⟨k,n,s,[]⟩ [.int .i64 k,.int .i64 n,.string s,.slice none 0 0]:=
 ⟨none,0,rfl,zw _,⟨by simp,by omega⟩,hs,hk,hn,fun h=>absurd h (by simp)⟩
theorem ln {α:Type} {R:Reader α} {xs:List α} {A:Option Addr} (h:RL R w B xs A) (h1:xs.length≤c) (h2:xs.length*(8*R.k)≤140737488351232) (h3:c≤9223372036854775807):RSl R w B xs (.slice A xs.length c):=⟨A,c,rfl,h1,⟨h2,h3⟩,h⟩
theorem pc {nm:ByteArray} {ts:List Tm} {v:Value} (hn:nm.size≤140737488351232) (h:RSl (TmR d) w B ts v):(PrR d).rd w B ⟨nm,ts⟩ [.string nm,v]:=⟨v,rfl,hn,h⟩
theorem yU {f:Fc} {v:Value} (h:(PrR d).rd w B f.pr [.string f.pr.name,v]) (ho:U32 f.o):(ax d).rd w B f [.string f.pr.name,v,.int .u32 f.o]:=⟨v,rfl,h,ho⟩
theorem lit_ru {r:Ru} {v0 v1 v2 v3:Value} (hn:r.head.name.size≤140737488351232) (h0:RSl (TmR d) w B r.head.terms v0) (h1:RSl (PrR d) w B r.body v1) (h2:RSl (ExR d) w B r.exprs v2) (h3:RSl ScR w B r.scopes v3):(RuR d).rd w B r [.string r.head.name,v0,v1,v2,v3]:=⟨v0,v1,v2,v3,rfl,hn,h0,h1,h2,h3⟩
theorem vA {α:Type} {R:Reader α}:RSl R w B [] (.slice none 0 0):=⟨none,0,rfl,by simp,by simp,fun h=>absurd h (by simp)⟩
end
end Go.Proofs.YtjpndglegpcdnaaGreat
