/- viaticumref18.Compare. -/
import Derived.Test.YtjpndglegpcdnaaGreatFx5
import Derived.Test.YtjpndglegpcdnaaGreatRead2
import Derived.Test.YtjpndglegpcdnaaGreatRule1
import Derived.Test.YtjpndglegpcdnaaGreatData
import Derived.Deep.CutRange
import Derived.Test.YtjpndglegpcdnaaGreatHeapLaw
set_option linter.unusedVariables false
set_option linter.unusedSimpArgs false
set_option maxRecDepth 100000
set_option maxHeartbeats 8000000
namespace Go.Proofs.YtjpndglegpcdnaaGreat
open Go.ChangeShapes Go.WideShapes Go.ChangeAt Go.RowKit
def uD (d:Nat) (w w':World) (R:Option (List Fc) × Int × Int) (z:Ending):Prop:=
 ((∃S base xs As cs,z=.returned (.tuple #[.pointer (some ⟨S,0,none⟩),.int .i64 R.2.1,.int .i64 R.2.2])∧StA base d w' S xs As cs∧R.1=some (xs.map FV.f)∧w.heap.size≤S∧(∀q,(Value.slice As xs.length cs).ownBlock=some q→w.heap.size≤q)) ∨
  (z=.returned (.tuple #[.pointer none,.int .i64 R.2.1,.int .i64 R.2.2])∧R.1=none))∧Below w.heap.size w w'
theorem uD.no {d:Nat} {w w':World} {R:Option (List Fc) × Int × Int} {e:Int} (hb:Below w.heap.size w w') (h:R=(none,0,e)):uD d w w' R (.returned (.tuple #[.pointer none,.int .i64 0,.int .i64 e])):=by
 subst h
 exact ⟨.inr ⟨rfl,rfl⟩,hb⟩
theorem vP {rs:List OwD} {lf lr:Int} {k:Nat} {fs:List Fc} (hk:k≤100):kj rs lf lr (101-k) fs k=if (aA fs rs).2≠0 then (none,0,(aA fs rs).2) else if (aA fs rs).1.length=0 then (some fs,(k:Int),0) else if (k:Int)=lr then (none,0,11) else if lf<fs.length+(aA fs rs).1.length then (none,0,10) else kj rs lf lr (101-(k+1)) ((aA fs rs).1.foldl fd fs) ((k+1:Nat):Int):=by
 rw [show 101-k=(100-k)+1 by omega,kj,show 101-(k+1)=100-k by omega]
 rfl
theorem sD {fs:List Fc}:∀{rs:List OwD},(fm fs rs).1.length≤rs.length*1000000
 | []=>AH _
 | o::rs=>by
   have h1:=sD (fs:=fs) (rs:=rs)
   have h2:=ii fs o.trusted o.rule
   have h3:(aC fs o).1.length≤(be fs o.trusted o.rule).1.length:=List.length_filterMap_le _ _
   have h4:=List.length_filter_le (fun f=>!fe fs f) (aC fs o).1
   rw [fm]
   split
   ·exact AH _
   ·split
    ·exact AH _
    ·rw [AK,AV];omega
theorem xk {fs:List Fc} {rs:List OwD} (h:(aA fs rs).2=0):(aA fs rs).1.length≤rs.length*1000000:=by
 rw [(eW h).1]
 exact AF (rL aW (wP h)) sD
theorem xn {d B c cr:Nat} {l:List Fc} {rs:List OwD} {A Ar:Option Addr} {lf lr m:Int} {w:World} (hl:RL (ay (d+1)) w B l A) (hr:RL (OwR (d+1)) w B rs Ar) (hB:B≤w.heap.size) (hn:l.length≤100000) (hrn:rs.length≤1000000) (h40:∀f∈l,f.pr.terms.length*40≤140737488351232) (hlf:I64 lf) (hlr:I64 lr) (hm:w.cell? ⟨0,0,none⟩=some (.int .i64 m)) (hp:0<w.heap.size) :
 Calls Tryz.prog 10 #[.slice A l.length c,.slice Ar rs.length cr,.agg #[.int .i64 lf,.int .i64 lr]] w fun z w'=>uD d w w' (iv l rs lf lr) z:=by
 have HL:=AE hl
 have HR:=AE hr
 have HM:=AE hm
 have H40:=AE h40
 have HFX:Hid (iv l rs lf lr=if wE lf lr=true then (if (l.all aD&&rs.all iF)=true then (if lf<(stL l).length then (none,0,10) else kj rs lf lr 101 (stL l) 0) else (none,0,1)) else (none,0,1)):=AE rfl
 clear hl hr hm h40
 go_enter Tryz.func10,Tryz.ntmps10
 go_upto_region 1 with fail
 generalize hW:World.alloc _ _=w1
 obtain ⟨hb1,hz⟩:=al1 hW
 have HK1:=AE (n11 hW)
 have HB1:=AE hb1
 have hsz1:=hb1.size
 clear hW hb1 hz
 have k_l:=HK1.out.cell
 have l_l:=HK1.out.lt
 by_cases hlim:wE lf lr=true
 rotate_left
 ·have HV:Hid (iv l rs lf lr=(none,0,1)):=AE (by rw [HFX.out,if_neg hlim])
  have hcs:lf<1∨(¬lf<1∧1000<lf)∨(¬lf<1∧¬1000<lf∧lr<1)∨(¬lf<1∧¬1000<lf∧¬lr<1∧100<lr):=by
   simp only [wE,AN,AT] at hlim
   omega
  clear hlim
  rcases hcs with h | ⟨h1,h⟩ | ⟨h1,h2,h⟩ | ⟨h1,h2,h3,h⟩
  all_goals
   go_wp2_with fail
   go_ret3
   exact uD.no HB1.out HV.out
 have hl1:¬lf<1:=by simp only [wE,AN,AT] at hlim;omega
 have hl2:¬(1000:Int)<lf:=by simp only [wE,AN,AT] at hlim;omega
 have hl3:¬lr<1:=by simp only [wE,AN,AT] at hlim;omega
 have hl4:¬(100:Int)<lr:=by simp only [wE,AN,AT] at hlim;omega
 have HF1:Hid (iv l rs lf lr=if (l.all aD&&rs.all iF)=true then (if lf<(stL l).length then (none,0,10) else kj rs lf lr 101 (stL l) 0) else (none,0,1)):=AE (by rw [HFX.out,if_pos hlim])
 clear hlim HFX
 go_wp2_with fail
 refine (uV (HL.out.keep HB1.out hB) (AF hB hsz1) hn H40.out).mono ?_
 rintro z w2 ⟨hbe,hb2⟩
 have HK2:=AE (HK1.out.later hb2)
 have HB2:=AE (aa HB1.out hb2)
 have hsz2:=HB2.out.size
 have hlw:=HK1.out.lt
 clear hb2 k_l l_l
 have k_l:=HK2.out.cell
 have l_l:=HK2.out.lt
 rcases hbe with ⟨hst,S,base,xs,As,cs,rfl,hS,hxs,hS1,hS2⟩ | ⟨hst,rfl⟩
 rotate_left
 ·have HV:Hid (iv l rs lf lr=(none,0,1)):=AE (by rw [HF1.out,hst];rfl)
  clear hst
  go_wp2_with fail
  go_ret3
  exact uD.no HB2.out HV.out
 have HS:=AE hS
 have HXS:=AE hxs
 have HS2:=AE hS2
 have HSTB:=AE hst
 clear hS hxs hS2 hst
 go_wp2_with fail
 refine (nl (HR.out.keep HB2.out hB) (by omega) (AF hB hsz2)).mono ?_
 rintro z w3 ⟨rfl,hb3⟩
 have HK3:=AE (HK2.out.later hb3)
 have HB3:=AE (aa HB2.out hb3)
 have HS3:=AE (HS.out.later hb3)
 have hsz3:=HB3.out.size
 clear hb3 k_l l_l
 cases hall:rs.all iF
 ·have HV:Hid (iv l rs lf lr=(none,0,1)):=AE (by rw [HF1.out,hall,Bool.and_false];rfl)
  clear hall
  go_wp2_with fail
  go_ret3
  exact uD.no HB3.out HV.out
 have HF2:Hid (iv l rs lf lr=if lf<(stL l).length then (none,0,10) else kj rs lf lr 101 (stL l) 0):=AE (by rw [HF1.out,HSTB.out,hall];rfl)
 have HLN:Hid ((stL l).length=xs.length):=AE (by rw [←HXS.out,AM])
 have hxn:xs.length≤100000:=by
  have h1:=mi l []
  have h2:=HLN.out
  unfold stL at h2
  simp only [List.length_nil] at h1
  omega
 clear hall HF1
 have HLEN:Hid (∀w9,Below w3.heap.size w3 w9→Calls Tryz.prog 13 #[.pointer (some ⟨S,0,none⟩)] w9 fun z w'=>z=.returned (.int .i64 xs.length)∧Below w9.heap.size w9 w'):=AE (fun w9 h=>(jo (HS3.out.later h)).mono fun z w' ⟨h1,h2⟩=>⟨h1,h2▸AI _ _⟩)
 have q_l:=HK3.out.regrown
 by_cases hfl:lf<(xs.length:Int)
 ·have HV:Hid (iv l rs lf lr=(none,0,10)):=AE (by rw [HF2.out,if_pos (by rw [HLN.out];exact hfl)])
  go_upto_region 6 with fail
  refine wp_region_quiet_below (by kernel_rfl) (by kernel_rfl) ?_
  repeat (go_big_quiet_step ((go_at_call 13;exact Calls.regrown_of (HLEN.out _ (below_regrown _ _ _)))))
  refine wpQuiet_nil ?_
  intro w4 hw_
  have hb:Below w3.heap.size w3 w4:=by obtain ⟨p_,rfl⟩:=hw_;exact below_regrown _ _ _
  clear hw_
  have HB4:=AE (aa HB3.out hb)
  clear hb q_l
  go_wp2_with fail
  go_ret3
  exact uD.no HB4.out HV.out
 have HF3:Hid (iv l rs lf lr=kj rs lf lr (101-0) (xs.map FV.f) ((0:Nat):Int)):=AE (by rw [HF2.out,if_neg (by rw [HLN.out];exact hfl),HXS.out];rfl)
 go_upto_region 6 with fail
 refine wp_region_quiet_below (by kernel_rfl) (by kernel_rfl) ?_
 repeat (go_big_quiet_step ((go_at_call 13;exact Calls.regrown_of (HLEN.out _ (below_regrown _ _ _)))))
 refine wpQuiet_nil ?_
 intro w4 hw_
 have hb:Below w3.heap.size w3 w4:=by obtain ⟨p_,rfl⟩:=hw_;exact below_regrown _ _ _
 clear hw_
 have HB4:=AE (aa HB3.out hb)
 have HK4:=AE (HK3.out.later hb)
 have HS4:=AE (HS3.out.later hb)
 have hsz4:=HB4.out.size
 have HFL:Hid ((xs.length:Int)≤lf):=AE (by omega)
 clear hb q_l HLEN HF2 HLN
 have HQ4:Hid (∀q,(Value.slice As xs.length cs).ownBlock=some q→w.heap.size<q):=AE (fun q hq=>by have:=HS2.out q hq;omega)
 have hSw:w.heap.size<S:=by omega
 go_upto_region 11 with fail
 clear hfl
 generalize w4=wa at *
 go_loopw [12] (fun u wr=>∃(k:Nat) (xs:List FV) (As:Option Addr) (cs:Nat),(k:Int)≤lr∧u=.int .i64 k∧Hid (iv l rs lf lr=kj rs lf lr (101-k) (xs.map FV.f) (k:Int))∧(xs.length:Int)≤lf∧Hid (StA base d wr S xs As cs)∧Hid (∀q,(Value.slice As xs.length cs).ownBlock=some q→w.heap.size<q)∧Hid (Blk wr w.heap.size #[.int .i64 lf,.int .i64 lr])∧Hid (Below w.heap.size w wr)) (fun u _=>(101-intOf u).toNat)
 case atStart=>exact ⟨0,xs,As,cs,by omega,rfl,HF3,by have:=HFL.out;omega,HS4,HQ4,HK4,HB4⟩
 case round=>
  obtain ⟨k,xs,As,cs,hk,rfl,HF,hxl,HS,HQ,HK,HW⟩:=hrel
  have hszr:=HW.out.size
  have hBr:B≤wr.heap.size:=AF hB hszr
  have HST:=AE (vP (rs:=rs) (lf:=lf) (lr:=lr) (fs:=xs.map FV.f) (k:=k) (by omega))
  have hkl:=HK.out.lt
  go_wp2_with fail
  refine (qa (HR.out.keep HW.out hB) hrn hBr HS.out (by omega) ((HW.out.cell (p:=⟨0,0,none⟩) hp).trans HM.out) (AJ hp hszr)).mono ?_
  rintro z w5 ⟨ys,Ay,cy,rfl,hys,hyr,hb5⟩
  have HYS:=AE hys
  have HYR:=AE hyr
  have HB5:=AE (aa HW.out hb5)
  have HK5:=AE (HK.out.later hb5)
  have HS5:=AE (HS.out.later hb5)
  have hsz5:=hb5.size
  have HYO:Hid ((aA (xs.map FV.f) rs).2=0→∀y∈ys,aD y.f=true):=AE (fun h y hy=>(gR h (by rw [←HYS.out];exact List.mem_map.2 ⟨y,hy,rfl⟩)).1)
  have HYL:Hid ((aA (xs.map FV.f) rs).1.length=ys.length):=AE (by rw [←HYS.out,AM])
  clear hys hyr hb5
  by_cases he:(aA (xs.map FV.f) rs).2=0
  rotate_left
  ·have he':((aA (xs.map FV.f) rs).2 !=0)=true:=by simpa using he
   have HV:Hid (iv l rs lf lr=(none,0,(aA (xs.map FV.f) rs).2)):=AE (by rw [HF.out,HST.out,if_pos he])
   generalize (aA (xs.map FV.f) rs).2=e5 at *
   clear he
   go_wp2_with fail
   go_ret3
   exact uD.no HB5.out HV.out
  have he':((aA (xs.map FV.f) rs).2 !=0)=false:=by simpa using he
  have HT1:Hid (iv l rs lf lr=if ys.length=0 then (some (xs.map FV.f),(k:Int),0) else if (k:Int)=lr then (none,0,11) else if lf<(xs.length:Int)+(ys.length:Int) then (none,0,10) else kj rs lf lr (101-(k+1)) ((ys.map FV.f).foldl fd (xs.map FV.f)) ((k+1:Nat):Int)):=AE (by
   rw [HF.out,HST.out,if_neg (by simpa using he),HYL.out,HYS.out,AM])
  have HYT:=AE (HYO.out he)
  have hyn:ys.length≤1000000000000:=by have:=xk he;rw [HYL.out] at this;omega
  clear he HST HF HYO HYL HYS
  generalize (aA (xs.map FV.f) rs).2=e5 at *
  by_cases hy0:ys.length=0
  ·have HV:Hid (iv l rs lf lr=(some (xs.map FV.f),(k:Int),0)):=AE (by rw [HT1.out,if_pos hy0])
   have hq0:((ys.length:Int)==0)=true:=by simp [hy0]
   clear hy0
   go_wp2_with fail
   go_ret3
   exact ⟨.inl ⟨S,base,xs,As,cs,by rw [HV.out];rfl,HS5.out,by rw [HV.out],by omega,fun q hq=>Nat.le_of_lt (HQ.out q hq)⟩,HB5.out⟩
  have hq0:((ys.length:Int)==0)=false:=by rw [beq_eq_false_iff_ne];omega
  have HT2:=AE (HT1.out.trans (if_neg hy0))
  clear hy0 HT1
  have k_l:=HK5.out.cell
  have l_l:=HK5.out.lt
  by_cases hkr:(k:Int)=lr
  ·have HV:=AE (HT2.out.trans (if_pos hkr))
   have hq1:((k:Int)==lr)=true:=by simpa using hkr
   clear hkr
   go_wp2_with fail
   go_ret3
   exact uD.no HB5.out HV.out
  have hq1:((k:Int)==lr)=false:=by simpa using hkr
  have HT3:=AE (HT2.out.trans (if_neg hkr))
  have HKR:Hid (((k+1:Nat):Int)≤lr):=AE (by omega)
  clear hkr HT2
  have HLEN:Hid (∀w9,Below w5.heap.size w5 w9→Calls Tryz.prog 13 #[.pointer (some ⟨S,0,none⟩)] w9 fun z w'=>z=.returned (.int .i64 xs.length)∧Below w9.heap.size w9 w'):=AE (fun w9 h=>(jo (HS5.out.later h)).mono fun z w' ⟨h1,h2⟩=>⟨h1,h2▸AI _ _⟩)
  have hI0:(0:Int)≤(xs.length:Int):=Int.natCast_nonneg _
  have hI1:(0:Int)≤(ys.length:Int):=Int.natCast_nonneg _
  have q_l:=HK5.out.regrown
  go_upto_region 18 with fail
  clear k_l l_l
  by_cases hbig:lf<(xs.length:Int)+(ys.length:Int)
  ·have HV:=AE (HT3.out.trans (if_pos hbig))
   refine wp_region_quiet_below (by kernel_rfl) (by kernel_rfl) ?_
   repeat (go_big_quiet_step ((go_at_call 13;exact Calls.regrown_of (HLEN.out _ (below_regrown _ _ _)))))
   refine wpQuiet_nil ?_
   intro w6 hw_
   have hb:Below w5.heap.size w5 w6:=by obtain ⟨p_,rfl⟩:=hw_;exact below_regrown _ _ _
   clear hw_
   have HB6:=AE (aa HB5.out hb)
   clear hb q_l
   go_wp2_with fail
   go_ret3
   exact uD.no HB6.out HV.out
  have HT4:=AE (HT3.out.trans (if_neg hbig))
  have HSUM:Hid ((xs.length:Int)+(ys.length:Int)≤lf):=AE (by omega)
  refine wp_region_quiet_below (by kernel_rfl) (by kernel_rfl) ?_
  repeat (go_big_quiet_step ((go_at_call 13;exact Calls.regrown_of (HLEN.out _ (below_regrown _ _ _)))))
  refine wpQuiet_nil ?_
  intro w6 hw_
  have hb:Below w5.heap.size w5 w6:=by obtain ⟨p_,rfl⟩:=hw_;exact below_regrown _ _ _
  clear hw_
  have HB6:=AE (aa HB5.out hb)
  have HK6:=AE (HK5.out.later hb)
  have HS6:=AE (HS5.out.later hb)
  have HY6:=AE (HYR.out.later hb)
  have hsz6:=hb.size
  have hSq:S<wr.heap.size:=HS.out.hd.lt
  have HG6:Hid (∀q,(Value.slice As xs.length cs).ownBlock=some q→q<wr.heap.size∨w6.heap.size≤q):=AE (fun q hq=>.inl (HS.out.row.lt q hq).2)
  clear hb q_l HLEN HT3
  go_upto_region 21 with fail
  clear hbig
  generalize wr=wq at *
  go_loopw [90] (fun i wr=>∃(j:Nat) (zs:List FV) (Az:Option Addr) (cz:Nat),j≤ys.length∧zs.length≤xs.length+j∧i=.int .i64 j∧Hid (zs.map FV.f=((ys.map FV.f).take j).foldl fd (xs.map FV.f))∧Hid (StA base d wr S zs Az cz)∧Hid (∀q,(Value.slice Az zs.length cz).ownBlock=some q→w.heap.size<q∧(q<wq.heap.size∨w6.heap.size≤q))∧Hid (Blk wr w.heap.size #[.int .i64 lf,.int .i64 lr])∧Hid (Below w.heap.size w wr)∧Hid (al (fun q=>q<wq.heap.size) w6 wr)) (fun i _=>ys.length-(intOf i).toNat)
  case atStart=>exact ⟨0,xs,As,cs,AH _,AG _,rfl,AE rfl,HS6,AE (fun q hq=>⟨HQ.out q hq,HG6.out q hq⟩),HK6,HB6,AE (al.refl _ _)⟩
  case round=>
   obtain ⟨j,zs,Az,cz,hj,hzj,rfl,HZ,HSZ,HQZ,HKZ,HWZ,HAG⟩:=hrel
   have hszz:=HAG.out.size
   have hsm:=HSUM.out
   have HYZ:=AE (HY6.out.agree HAG.out (fun q _ h=>h))
   by_cases hjl:j<ys.length
   ·obtain ⟨g,cg,eg,hg1,hg2,_⟩:=HYZ.out.own.sh aU (by omega)
    simp only [AR,true_and] at eg
    obtain ⟨rfl,rfl⟩:=eg
    obtain ⟨a0,a1,a2⟩:=qY HYZ.out.own hjl
    have HYD:=AE (HYZ.out.deep _ (List.getElem_mem hjl)).2.here
    have HYJ:Hid ((ys.map FV.f)[j]? = some ys[j].f):=AE (by rw [List.getElem?_map,AO hjl];rfl)
    have hJ0:(0:Int)≤(j:Int):=Int.natCast_nonneg _
    have hJ1:(j:Int)<(ys.length:Int):=by omega
    generalize ys[j]=y at *
    go_upto_region 23 with fail
    generalize hW:World.alloc _ _=w7
    obtain ⟨hb7,hz7⟩:=al1 hW
    have HT7:=AE (n11 hW)
    have HW7:=AE (aa HWZ.out hb7)
    have HS7:=AE (HSZ.out.later hb7)
    have HK7:=AE (HKZ.out.later hb7)
    have HAG7:=AE (HAG.out.trans (N:=fun _=>False) (al.of_below hb7) (fun _ _ h=>h.elim))
    have HYD7:=AE ((ay (d+1)).keep hb7 (AG _) HYD.out)
    have hsz7:=hb7.size
    clear hW hb7 hz7 a0 a1 a2
    have k_t:=HT7.out.cell
    have l_t:=HT7.out.lt
    go_wp2_with fail
    refine (mh (f:=y.f) (vf:=[_,_,_]) (B:=wr.heap.size) HS7.out HYD7.out hsz7 (by omega)).mono ?_
    rintro z w8 ⟨zs2,A2,c2,rfl,hx2,hs2,hag,hfr⟩
    have hl2:zs2.length≤xs.length+(j+1):=by
     have h1:=congrArg List.length hx2
     have h2:=nE (zs.map FV.f) y.f
     rw [AM] at h1 h2
     omega
    have HX2:Hid (zs2.map FV.f=((ys.map FV.f).take (j+1)).foldl fd (xs.map FV.f)):=AE (by rw [hx2,HZ.out,vR HYJ.out])
    have HS8:=AE hs2
    have HQ8:Hid (∀q,(Value.slice A2 zs2.length c2).ownBlock=some q→w.heap.size<q∧(q<wq.heap.size∨w6.heap.size≤q)):=AE (fun q hq=>by
     rcases hfr with e | ⟨q2,e,h⟩
     ·exact HQZ.out q (e▸hq)
     ·rw [e] at hq;cases hq;exact ⟨by omega,by omega⟩)
    have HW8:Hid (Below w.heap.size w w8):=AE (HW7.out.trans (hag.below (fun q hq hm=>by
     rcases hm with rfl | hm
     ·omega
     ·have:=(HQZ.out q hm).1;omega) (by omega)))
    have HK8:=AE (hag.blk HK7.out (fun hm=>by
     rcases hm with h | h
     ·omega
     ·have:=(HQZ.out _ h).1;omega))
    have HAG8:Hid (al (fun q=>q<wq.heap.size) w6 w8):=AE (HAG7.out.trans hag (fun q hq hm=>by
     rcases hm with rfl | hm
     ·exact hSq
     ·rcases (HQZ.out q hm).2 with h | h
      ·exact h
      ·omega))
    clear hx2 hs2 hag hfr k_t l_t
    go_wp2_with fail
    go_roundw
    case rel=>exact ⟨j+1,zs2,A2,c2,by omega,hl2,by go_num,HX2,HS8,HQ8,HK8,HW8,HAG8⟩
    case measure=>simp [intOf];omega
   ·have HFN:Hid (iv l rs lf lr=kj rs lf lr (101-(k+1)) (zs.map FV.f) ((k+1:Nat):Int)):=AE (by
     rw [HT4.out,HZ.out,List.take_of_length_le (by rw [AM];omega)])
    have hkk:=HKR.out
    go_wp2_with fail
    go_roundw
    case rel=>exact ⟨k+1,zs,Az,cz,hkk,by go_num,HFN,by omega,HSZ,AE (fun q hq=>(HQZ.out q hq).1),HKZ,HWZ⟩
    case measure=>simp [intOf];omega
theorem iC (b:Bool) (w:World) :
 Calls Tryz.prog 139 #[.bool b] w fun e w'=>e=.returned (.int .i64 (if b then -1 else 1))∧w=w':=by
 cases b
 all_goals
  go_enter Tryz.func139,Tryz.ntmps139
  go_wp2_with fail
  go_ret
  exact ⟨rfl,rfl⟩
theorem cQ (c:Int) (w:World) (h0:0≤c) (h1:c≤255) :
 Calls Tryz.prog 104 #[.int .u8 c] w fun e w'=>e=.returned (.bool (fi c))∧w=w':=by
 have hc:(97≤c∧c≤122)∨(65≤c∧c≤90)∨(c<65)∨(90<c∧c<97)∨122<c:=by omega
 rcases hc with h | h | h | h | h
 all_goals
  go_enter Tryz.func104,Tryz.ntmps104
  go_wp2_with fail
  go_ret
  refine ⟨ac ?_,rfl⟩
  rw [Bool.eq_iff_iff,iy]
  simp
  try omega
theorem pZ (c:Int) (w:World) (h0:0≤c) (h1:c≤255) :
 Calls Tryz.prog 105 #[.int .u8 c] w fun e w'=>e=.returned (.bool (df 1 c))∧w=w':=by
 by_cases hl:fi c=true
 ·go_enter Tryz.func105,Tryz.ntmps105
  go_wp2_with fail
  refine (cQ c w h0 h1).mono ?_
  rintro e w1 ⟨rfl,rfl⟩
  rw [hl]
  go_wp2_with fail
  go_ret
  exact ⟨ac (by simp [df,hl]),rfl⟩
 ·simp only [Bool.not_eq_true] at hl
  have hc:(48≤c∧c≤57)∨c=95∨c=58∨c<48∨(58<c∧c<95)∨95<c:=by omega
  rcases hc with h | rfl | rfl | h | h | h
  all_goals
   go_enter Tryz.func105,Tryz.ntmps105
   go_wp2_with fail
   refine (cQ _ w h0 h1).mono ?_
   rintro e w1 ⟨rfl,rfl⟩
   rw [hl]
   go_wp2_with fail
   go_ret
   refine ⟨ac ?_,rfl⟩
   rw [Bool.eq_iff_iff,dV]
   have hl2:=hl
   rw [Bool.eq_false_iff,ne_eq,iy] at hl2
   simp
   try omega
theorem ja {s:ByteArray} (h:¬(((∀i,(h:i<s.size)→df i s[i].toNat=true)∧1≤s.size∧s.size≤32)∧Lib.hasPrefix (bs s) (bs uE)=false)):false=dQ (bs s):=by
 rw [eq_comm,Bool.eq_false_iff,ne_eq,ei]
 exact h
theorem om (s:ByteArray) (w:World) (hs:s.size≤maxLen) (t1:¬(1≤s.size∧s.size≤32)) :
 Calls Tryz.prog 86 #[.string s] w fun e w'=>e=.returned (.bool (dQ (bs s)))∧w=w':=by
 unfold maxLen at hs
 go_enter Tryz.func86,Tryz.ntmps86
 go_wp2_with fail
 all_goals
  go_ret
  exact ⟨ac (ja (by omega)),rfl⟩
theorem hexQ {s:ByteArray} (h:4≤s.size):((s.extract 0 4).toList==[104,101,120,58])=Lib.hasPrefix (bs s) (bs uE):=by
 rw [←Lib.hasPrefix_of_take,←Lib.size_eq,←Lib.size_eq]
 have e:uE.toList=[104,101,120,58]:=by rw [ByteArray.toList_eq];rfl
 have h4:uE.size=4:=rfl
 rw [←e,dw,Bool.eq_iff_iff]
 simp [h4,h,Lib.extract_data]
theorem hexN {s:ByteArray} (h:s.size<4):Lib.hasPrefix (bs s) (bs uE)=false:=by
 rw [←Lib.hasPrefix_of_take,←Lib.size_eq,←Lib.size_eq]
 have h4:uE.size=4:=rfl
 simp [h4]
 omega
theorem eo (s:ByteArray) (w:World) (hs:s.size≤maxLen) :
 Calls Tryz.prog 86 #[.string s] w fun e w'=>e=.returned (.bool (dQ (bs s)))∧w=w':=by
 by_cases t1:1≤s.size∧s.size≤32
 rotate_left
 ·exact om s w hs t1
 unfold maxLen at hs
 have hb:(s[0].toNat:Int)≤255:=by have:=s[0].toNat_lt;omega
 by_cases hl:fi s[0].toNat=true
 rotate_left
 ·simp only [Bool.not_eq_true] at hl
  go_enter Tryz.func86,Tryz.ntmps86
  go_wp2_with fail
  refine (cQ _ w (by omega) (by omega)).mono ?_
  rintro e w1 ⟨rfl,rfl⟩
  rw [hl]
  go_wp2_with fail
  go_ret
  refine ⟨ac (ja fun h=>?_),rfl⟩
  have:=h.1.1 0 (by omega)
  rw [df,hl] at this
  simp at this
 have HL0:=AE hl
 have key:(4≤s.size∧((s.extract 0 4).toList==[104,101,120,58])=true)∨(Lib.hasPrefix (bs s) (bs uE)=false∧4≤s.size∧((s.extract 0 4).toList==[104,101,120,58])=false)∨(Lib.hasPrefix (bs s) (bs uE)=false∧s.size<4):=by
  by_cases t4:4≤s.size
  ·cases hx:((s.extract 0 4).toList==[104,101,120,58])
   ·exact .inr (.inl ⟨by rw [←hexQ t4,hx],t4,rfl⟩)
   ·exact .inl ⟨t4,rfl⟩
  ·exact .inr (.inr ⟨hexN (by omega),by omega⟩)
 rcases key with ⟨t4,hx⟩ | hk
 ·have HX:=AE hx
  go_enter Tryz.func86,Tryz.ntmps86
  go_wp2_with fail
  refine (cQ _ w (by omega) (by omega)).mono ?_
  rintro e w1 ⟨rfl,rfl⟩
  rw [hl]
  go_wp2_with fail
  go_ret
  refine ⟨ac (ja fun h=>?_),rfl⟩
  have h2:=h.2
  rw [←hexQ t4,HX.out] at h2
  cases h2
 have HP:=AE (show Lib.hasPrefix (bs s) (bs uE)=false by rcases hk with h | h<;>exact h.1)
 have hk':(4≤s.size∧((s.extract 0 4).toList==[104,101,120,58])=false)∨s.size<4:=by rcases hk with h | h<;>simp [h.2]
 clear hk
 rcases hk' with ⟨t4,hx⟩ | t4
 all_goals
  go_enter Tryz.func86,Tryz.ntmps86
  go_wp2_with fail
  refine (cQ _ w (by omega) (by omega)).mono ?_
  rintro e w1 ⟨rfl,rfl⟩
  rw [hl]
  go_wp2_with fail
  go_loop [30] (fun i=>∃k:Nat,k≤s.size∧i=.int .i64 k∧(∀i,(h:i<k)→(h':i<s.size)→df i s[i].toNat=true)) (fun i=>s.size-(intOf i).toNat)
  case atStart=>exact ⟨0,AH _,rfl,fun i h=>by omega⟩
  case round=>
   obtain ⟨k,hk,rfl,hall⟩:=hrel
   have HA:=AE hall
   clear hall
   by_cases hlt:k<s.size
   ·have hbk:(s[k].toNat:Int)≤255:=by have:=s[k].toNat_lt;omega
    have HN:Hid (df 1 s[k].toNat=true→df k s[k].toNat=true):=by
     intro h1
     rcases Nat.eq_zero_or_pos k with rfl | hk0
     ·simp [df,HL0.out]
     ·rw [dV] at h1 ⊢
      rcases h1 with h1 | h1
      ·exact .inl h1
      ·exact .inr ⟨by omega,h1.2⟩
    have HM:Hid (df 1 s[k].toNat=false→¬df k s[k].toNat=true):=by
     intro h1
     rw [Bool.eq_false_iff,ne_eq,dV] at h1
     rw [dV]
     intro h2
     apply h1
     rcases h2 with h2 | h2
     ·exact .inl h2
     ·exact .inr ⟨by omega,h2.2⟩
    go_wp2_with fail
    refine (pZ _ w (by omega) (by omega)).mono ?_
    rintro e w1 ⟨rfl,rfl⟩
    by_cases hn:df 1 s[k].toNat=true
    ·have HN2:=AE (HN.out hn)
     rw [hn]
     go_wp2_with fail
     go_round
     case rel=>exact ⟨k+1,by omega,by go_num,fun i h h'=>by
      rcases Nat.lt_or_ge i k with h1 | h1
      ·exact HA.out i h1 h'
      ·obtain rfl:i=k:=by omega
       exact HN2.out⟩
     case measure=>simp [intOf];omega
    ·simp only [Bool.not_eq_true] at hn
     have HN2:=AE (HM.out hn)
     rw [hn]
     go_wp2_with fail
     go_ret
     exact ⟨ac (ja fun h=>HN2.out (h.1.1 k hlt)),rfl⟩
   ·go_wp2_with fail
    go_ret
    refine ⟨ac ?_,rfl⟩
    show true=_
    rw [eq_comm,ei]
    exact ⟨⟨fun i hi=>HA.out i (by omega) hi,by omega,by omega⟩,HP.out⟩
theorem nJ {x y:Int} (h:x≠y):cW x y=if x<y then -1 else 1:=by
 unfold cW
 split
 ·rfl
 ·rw [if_pos (by omega)]
theorem dZ (x:Int):cW x x=0:=by
 unfold cW
 rw [if_neg (by omega),if_neg (by omega)]
theorem qR {x y:List UInt8} (h:x≠y):dh x y=if x<y then -1 else 1:=by
 unfold dh
 split
 ·rfl
 ·rename_i h1
  rw [if_pos]
  rcases List.le_iff_lt_or_eq.1 (List.not_lt.1 h1) with h2 | h2
  ·exact h2
  ·exact absurd h2.symm h
theorem oX (x:List UInt8):dh x x=0:=by
 unfold dh
 rw [if_neg (List.lt_irrefl _),if_neg (List.lt_irrefl _)]
theorem qS {dp:Nat} {a b:Tm} (h:iE a b≠0):aV dp a b=iE a b:=by
 cases dp with
 | zero=>rfl
 | succ d=>unfold aV;rw [if_neg h]
theorem vv {dp:Nat} {a b:Tm} (h:a.kind≠b.kind):aV dp a b=if a.kind<b.kind then -1 else 1:=by
 have h1:cW a.kind b.kind≠0:=by rw [nJ h];split<;>omega
 have h2:iE a b=cW a.kind b.kind:=by unfold iE or3;rw [if_neg h1]
 rw [qS (by rw [h2];exact h1),h2,nJ h]
theorem cmpT_n {dp:Nat} {a b:Tm} (hk:a.kind=b.kind) (h:a.n≠b.n):aV dp a b=if a.n<b.n then -1 else 1:=by
 have h1:cW a.n b.n≠0:=by rw [nJ h];split<;>omega
 have h2:iE a b=cW a.n b.n:=by unfold iE or3;rw [hk,dZ,if_pos rfl,if_neg h1]
 rw [qS (by rw [h2];exact h1),h2,nJ h]
theorem cmpT_s {dp:Nat} {a b:Tm} (hk:a.kind=b.kind) (hn:a.n=b.n) (h:bs a.s≠bs b.s):aV dp a b=if bs a.s<bs b.s then -1 else 1:=by
 have h1:dh (bs a.s) (bs b.s)≠0:=by rw [qR h];split<;>omega
 have h2:iE a b=dh (bs a.s) (bs b.s):=by unfold iE or3;rw [hk,dZ,if_pos rfl,hn,dZ,if_pos rfl]
 rw [qS (by rw [h2];exact h1),h2,qR h]
theorem vk {a b:Tm} (hk:a.kind=b.kind) (hn:a.n=b.n) (h:bs a.s=bs b.s):iE a b=0:=by
 unfold iE or3
 rw [hk,dZ,if_pos rfl,hn,dZ,if_pos rfl,h,oX]
theorem dB {m n:Int} (h:m=n):Ending.returned (.int .i64 m)=.returned (.int .i64 n):=by rw [h]
theorem jl (dp:Nat) (hdp:dp≤3)
 (ih:∀dp',dp=dp'+1→∀(d B:Nat) (a b:Tm) (va vb:List Value) (w:World),RTm w B d a va→RTm w B d b vb→B≤w.heap.size →
  Calls Tryz.prog 106 #[.agg va.toArray,.agg vb.toArray,.int .i64 (dp':Int)] w fun e w'=>e=.returned (.int .i64 (aV dp' a b))∧Below w.heap.size w w')
 (d B:Nat) (a b:Tm) (va vb:List Value) (w:World) (ha:RTm w B d a va) (hb:RTm w B d b vb) (hB:B≤w.heap.size) :
 Calls Tryz.prog 106 #[.agg va.toArray,.agg vb.toArray,.int .i64 (dp:Int)] w fun e w'=>e=.returned (.int .i64 (aV dp a b))∧Below w.heap.size w w':=by
 obtain ⟨Aa,ca,rfl,a1,a2,a3,a4,a5,hla⟩:=RTm.cells ha
 obtain ⟨Ab,cb,rfl,b1,b2,b3,b4,b5,hlb⟩:=RTm.cells hb
 have IH:=AE ih
 have HLA:=AE hla
 have HLB:=AE hlb
 have HW:=AE (((AI w.heap.size w).alloc (AG _) (.cells #[.int .i64 a.kind,.int .i64 a.n,.string a.s,.slice Aa a.l.length ca] 29)).alloc (by simp) (.cells #[.int .i64 b.kind,.int .i64 b.n,.string b.s,.slice Ab b.l.length cb] 29))
 clear ih ha hb hla hlb
 by_cases k1:a.kind=b.kind
 rotate_left
 ·have K1:=AE k1
  have k1':(a.kind==b.kind)=false:=by simpa using k1
  clear k1
  go_enter Tryz.func106,Tryz.ntmps106
  go_wp2_with fail
  refine (iC _ _).mono ?_
  rintro e w1 ⟨rfl,rfl⟩
  go_wp2_with fail
  all_goals
   go_ret
   exact ⟨dB (by rw [vv K1.out];first | rw [if_pos (by assumption)] | rw [if_neg (by omega)]),HW.out⟩
 by_cases k2:a.n=b.n
 rotate_left
 ·have K1:=AE k1
  have K2:=AE k2
  have k1':(a.kind==b.kind)=true:=by simpa using k1
  have k2':(a.n==b.n)=false:=by simpa using k2
  clear k1 k2
  go_enter Tryz.func106,Tryz.ntmps106
  go_wp2_with fail
  refine (iC _ _).mono ?_
  rintro e w1 ⟨rfl,rfl⟩
  go_wp2_with fail
  all_goals
   go_ret
   exact ⟨dB (by rw [cmpT_n K1.out K2.out];first | rw [if_pos (by assumption)] | rw [if_neg (by omega)]),HW.out⟩
 by_cases k3:bs a.s=bs b.s
 rotate_left
 ·have K1:=AE k1
  have K2:=AE k2
  have K3:=AE k3
  have k1':(a.kind==b.kind)=true:=by simpa using k1
  have k2':(a.n==b.n)=true:=by simpa using k2
  have k3':(a.s.toList==b.s.toList)=false:=by rw [dw];simpa using k3
  clear k1 k2 k3
  go_enter Tryz.func106,Tryz.ntmps106
  go_wp2_with fail
  refine (iC _ _).mono ?_
  rintro e w1 ⟨rfl,rfl⟩
  go_wp2_with fail
  all_goals
   go_ret
   exact ⟨dB (by rw [cmpT_s K1.out K2.out K3.out];first | rw [if_pos ((iZ _ _).1 (by assumption))] | rw [if_neg (fun h=>absurd ((iZ _ _).2 h) (by assumption))]),HW.out⟩
 have K0:=AE (vk k1 k2 k3)
 have k1':(a.kind==b.kind)=true:=by simpa using k1
 have k2':(a.n==b.n)=true:=by simpa using k2
 have k3':(a.s.toList==b.s.toList)=true:=by rw [dw];simpa using k3
 clear k1 k2 k3
 rcases dp with _ | dp
 ·go_enter Tryz.func106,Tryz.ntmps106
  go_wp2_with fail
  go_ret
  exact ⟨dB K0.out.symm,HW.out⟩
 ·have hd1:(((dp+1:Nat):Int)==0)=false:=by simp;omega
  have HC:=AE (show aV (dp+1) a b=bM (aV dp) a.l b.l by unfold aV;rw [if_pos K0.out])
  clear HW
  go_enter Tryz.func106,Tryz.ntmps106
  go_wp2_with fail
  generalize hW:World.alloc _ _=W
  obtain ⟨hb,hz⟩:=al2 hW
  have ba:=n21 hW
  have bb:=n22 hW
  have HB:=AE hb
  have HZ:w.heap.size<W.heap.size:=by omega
  have HB1:B≤W.heap.size:=by omega
  clear hW hb hz
  go_loopw [52] (fun i wr=>∃k:Nat,k≤a.l.length∧i=.int .i64 k∧Below W.heap.size W wr∧Hid (bM (aV dp) a.l b.l=bM (aV dp) (a.l.drop k) (b.l.drop k))) (fun i _=>a.l.length-(intOf i).toNat)
  case atStart=>exact ⟨0,AH _,rfl,AI _ _,rfl⟩
  case round=>
   obtain ⟨k,hk,rfl,hbw,HE⟩:=hrel
   have ca:=(ba.later hbw).cell
   have cb:=(bb.later hbw).cell
   have la:=(ba.later hbw).lt
   have lb:=(bb.later hbw).lt
   have hfin:=AE (aa HB.out hbw)
   by_cases hlt:k<a.l.length
   ·have hla:=HLA.out.below HB.out hB
    have hlb:=HLB.out.below HB.out hB
    obtain ⟨oa,ofa,rfl,hoa⟩:=hla.base hbw HB1 (by omega)
    obtain ⟨x,Ax,cx,hx,c0,c1,c2,c3,hr⟩:=hla.at_ hbw HB1 hlt
    by_cases hlt2:k<b.l.length
    ·obtain ⟨ob,ofb,rfl,hob⟩:=hlb.base hbw HB1 (by omega)
     obtain ⟨y,Ay,cy,hy,e0,e1,e2,e3,hr'⟩:=hlb.at_ hbw HB1 hlt2
     have HL:=AE (And.intro hla hlb)
     have HR:=AE (And.intro hr hr')
     have HXY:=AE (And.intro hx hy)
     clear hla hlb hr hr' hx hy
     have hz:aV dp x y=0∨aV dp x y≠0:=by omega
     have HE2:Hid (bM (aV dp) a.l b.l=if aV dp x y=0 then bM (aV dp) (a.l.drop (k+1)) (b.l.drop (k+1)) else aV dp x y):=by
      obtain ⟨h1,h2⟩:=List.getElem?_eq_some_iff.1 HXY.out.1
      obtain ⟨h3,h4⟩:=List.getElem?_eq_some_iff.1 HXY.out.2
      have:=HE.out
      rw [List.drop_eq_getElem_cons h1,List.drop_eq_getElem_cons h3,h2,h4] at this
      exact this
     have hszr:=hbw.size
     have HZ2:=AE hz
     clear hz HE
     go_wp2_with fail
     generalize hW2:World.alloc _ _=W2
     obtain ⟨hb2,hz2⟩:=al1 hW2
     have q0:=(n11 hW2).regrown
     have q1:=((bb.later hbw).later hb2).regrown
     have q5:=cell_regrown ((hb2.cell (p:=⟨ob,ofb+k*4,none⟩) hob).trans e0)
     have q6:=cell_regrown ((hb2.cell (p:=⟨ob,ofb+k*4+1,none⟩) hob).trans e1)
     have q7:=cell_regrown ((hb2.cell (p:=⟨ob,ofb+k*4+2,none⟩) hob).trans e2)
     have q8:=cell_regrown ((hb2.cell (p:=⟨ob,ofb+k*4+3,none⟩) hob).trans e3)
     have HB2:=AE hb2
     have hB2:B≤W2.heap.size:=by omega
     have hwrap:IntKind.i64.wrap (((dp+1:Nat):Int)-1)=(dp:Int):=by
      rw [show (((dp+1:Nat):Int)-1)=(dp:Int) by omega]
      exact IntWalk.i64_in _ (by omega)
     clear hW2 hz2 hb2 ca cb la lb c0 c1 c2 c3 e0 e1 e2 e3
     refine wp_region_quiet_below (by kernel_rfl) (by kernel_rfl) ?_
     repeat (go_big_quiet_step ((go_at_call 106;exact Calls.regrown_of (IH.out dp rfl (d-1) B x y [_,_,_,_] [_,_,_,_] _ ((HR.out.1.below HB2.out (by omega)).below (below_regrown _ _ _) hB2) ((HR.out.2.below HB2.out (by omega)).below (below_regrown _ _ _) hB2) (AF hB2 (below_regrown _ _ _).size)))))
     refine wpQuiet_nil ?_
     intro w3 hw3
     have hb3:Below W2.heap.size W2 w3:=by obtain ⟨p,rfl⟩:=hw3;exact below_regrown _ _ _
     clear hw3 q0 q1 q5 q6 q7 q8
     have HB3:=AE (aa hbw (aa HB2.out hb3))
     have hfin3:=AE (aa HB.out HB3.out)
     clear hb3
     rcases HZ2.out with hz | hz
     ·have hz1:(aV dp x y !=0)=false:=by simpa using hz
      have HZ3:=AE hz
      clear hz
      go_wp2_with fail
      go_roundw
      case rel=>exact ⟨k+1,by omega,by go_num,HB3.out,by rw [HE2.out,if_pos HZ3.out];exact AE rfl⟩
      case measure=>simp [intOf];omega
     ·have hz1:(aV dp x y !=0)=true:=by simpa using hz
      have HZ3:=AE hz
      clear hz
      go_wp2_with fail
      go_ret
      exact ⟨dB (by rw [HC.out,HE2.out,if_neg HZ3.out]),hfin3.out⟩
    ·have HE2:Hid (bM (aV dp) a.l b.l=1):=by
      obtain ⟨h1,h2⟩:=List.getElem?_eq_some_iff.1 hx
      have:=HE.out
      rw [List.drop_eq_getElem_cons h1,List.drop_eq_nil_iff.2 (show b.l.length≤k by omega)] at this
      exact this
     have hfin2:=AE (fun o:Obj=>HB.out.trans ((hbw.alloc hbw.size o).mono HB.out.size))
     clear hx HE
     go_wp2_with fail
     go_ret
     exact ⟨dB (by rw [HC.out,HE2.out]),hfin2.out _⟩
   ·have hz:a.l.drop k=[]:=List.drop_eq_nil_iff.2 (by omega)
    have HE2:=HE.out
    rw [hz] at HE2
    have HE3:=AE HE2
    clear HE HE2 hz
    by_cases hlt2:a.l.length<b.l.length
    ·go_wp2_with fail
     go_ret
     obtain rfl:k=a.l.length:=by omega
     exact ⟨dB (by rw [HC.out,HE3.out,List.drop_eq_getElem_cons hlt2];rfl),hfin.out⟩
    ·go_wp2_with fail
     go_ret
     obtain rfl:k=a.l.length:=by omega
     exact ⟨dB (by rw [HC.out,HE3.out,List.drop_eq_nil_iff.2 (by omega)];rfl),hfin.out⟩
theorem mK (dp:Nat):dp≤3→∀(d B:Nat) (a b:Tm) (va vb:List Value) (w:World),RTm w B d a va→RTm w B d b vb→B≤w.heap.size →
 Calls Tryz.prog 106 #[.agg va.toArray,.agg vb.toArray,.int .i64 (dp:Int)] w fun e w'=>e=.returned (.int .i64 (aV dp a b))∧Below w.heap.size w w':=by
 induction dp with
 | zero=>intro _ d B a b va vb w ha hb hB;exact jl 0 (by omega) (fun dp' h=>by omega) d B a b va vb w ha hb hB
 | succ dp ih=>intro h d B a b va vb w ha hb hB;exact jl (dp+1) h (fun dp' h'=>by obtain rfl:dp=dp':=(by omega);exact ih (by omega)) d B a b va vb w ha hb hB
theorem ia {d B:Nat} {a b:Tm} {va vb:List Value} {w:World} (ha:RTm w B d a va) (hb:RTm w B d b vb) (hB:B≤w.heap.size) :
 Calls Tryz.prog 87 #[.agg va.toArray,.agg vb.toArray] w fun e w'=>e=.returned (.int .i64 (aV 3 a b))∧Below w.heap.size w w':=by
 have HA:=AE (And.intro ha hb)
 obtain ⟨Aa,ca,rfl,a1,a2,a3,a4,a5,hla⟩:=RTm.cells ha
 obtain ⟨Ab,cb,rfl,b1,b2,b3,b4,b5,hlb⟩:=RTm.cells hb
 clear ha hb hla hlb
 go_enter Tryz.func87,Tryz.ntmps87
 go_wp2_with fail
 generalize hW:World.alloc _ _=W
 obtain ⟨hb,hz⟩:=al2 hW
 clear hW
 refine (mK 3 (AG _) d B a b [_,_,_,_] [_,_,_,_] W (HA.out.1.below hb hB) (HA.out.2.below hb hB) (by omega)).mono ?_
 rintro e w1 ⟨rfl,hb1⟩
 have hfin:=AE (aa hb hb1)
 clear hb hb1 hz
 go_wp2_with fail
 go_ret
 exact ⟨rfl,hfin.out⟩
theorem cI (b:Bool) (w:World):Calls Tryz.prog 62 #[.bool b] w fun z w'=>z=.returned (.int .i64 (if b=true then -1 else 1))∧w=w':=by
 cases b
 all_goals
  go_enter Tryz.func62,Tryz.ntmps62
  go_wp2_with fail
  go_ret
  exact ⟨rfl,rfl⟩
theorem cmpL_at {f:Tm→Tm→Int} {xs ys:List Tm} {k:Nat} {x y:Tm} (hx:xs[k]? = some x) (hy:ys[k]? = some y):bM f (xs.drop k) (ys.drop k)=if f x y=0 then bM f (xs.drop (k+1)) (ys.drop (k+1)) else f x y:=by
 obtain ⟨h1,rfl⟩:=List.getElem?_eq_some_iff.1 hx
 obtain ⟨h2,rfl⟩:=List.getElem?_eq_some_iff.1 hy
 rw [List.drop_eq_getElem_cons h1,List.drop_eq_getElem_cons h2,bM]
theorem vq {f:Tm→Tm→Int} {xs ys:List Tm} {k:Nat} (h1:k<xs.length) (h2:ys.length≤k):bM f (xs.drop k) (ys.drop k)=1:=by
 rw [List.drop_eq_getElem_cons h1,List.drop_eq_nil_iff.2 h2,bM]
theorem vn {f:Tm→Tm→Int} {xs ys:List Tm} {k:Nat} (h1:xs.length≤k) (h2:k<ys.length):bM f (xs.drop k) (ys.drop k)=-1:=by
 rw [List.drop_eq_getElem_cons h2,List.drop_eq_nil_iff.2 h1,bM]
theorem yl {f:Tm→Tm→Int} {xs ys:List Tm} {k:Nat} (h1:xs.length≤k) (h2:ys.length≤k):bM f (xs.drop k) (ys.drop k)=0:=by
 rw [List.drop_eq_nil_iff.2 h1,List.drop_eq_nil_iff.2 h2,bM]
theorem pX {d B c c':Nat} {xs ys:List Tm} {A A':Option Addr} {w:World} (hA:jt w B d xs A) (hA':jt w B d ys A') (hB:B≤w.heap.size) (hn:xs.length*40≤140737488351232) (hn':ys.length*40≤140737488351232) :
 Calls Tryz.prog 63 #[.slice A xs.length c,.slice A' ys.length c'] w fun z w'=>z=.returned (.int .i64 (bM (aV 3) xs ys))∧Below w.heap.size w w':=by
 have HA:=AE hA
 have HA':=AE hA'
 clear hA hA'
 go_enter Tryz.func63,Tryz.ntmps63
 go_wp2_with fail
 go_loopw [10] (fun u wr=>∃k:Nat,k≤xs.length∧u=.int .i64 k∧Hid (Below w.heap.size w wr)∧Hid (bM (aV 3) xs ys=bM (aV 3) (xs.drop k) (ys.drop k))) (fun u _=>xs.length-(intOf u).toNat)
 case atStart=>exact ⟨0,AH _,rfl,AE (AI _ _),AE rfl⟩
 case round=>
  obtain ⟨k,hk,rfl,HW,HE⟩:=hrel
  have hszr:=HW.out.size
  have hK0:(0:Int)≤(k:Int):=Int.natCast_nonneg _
  by_cases hlt:k<xs.length
  ·obtain ⟨b,off,x,Ax,cx,rfl,hb,hx,c0,c1,c2,c3,hr⟩:=HA.out.elem HW.out hB hlt
   have HX:=AE hr
   have HXX:=AE hx
   have hK1:(k:Int)<(xs.length:Int):=by omega
   clear hr hx
   go_upto_region 4 with fail
   generalize hWW:World.alloc _ _=w1
   obtain ⟨hb1,hz⟩:=al1 hWW
   have HA1:=AE (n11 hWW)
   have HW1:=AE hb1
   have hsz1:=hb1.size
   clear hWW hb1 hz c0 c1 c2 c3
   have k_x:=HA1.out.cell
   have l_x:=HA1.out.lt
   by_cases hlt2:k<ys.length
   ·obtain ⟨bq,oq,y,Ay,cy,rfl,hbq,hy,c0,c1,c2,c3,hr⟩:=HA'.out.elem (HW.out.trans (HW1.out.mono hszr)) hB hlt2
    have HY:=AE hr
    have HE2:Hid (bM (aV 3) xs ys=if aV 3 x y=0 then bM (aV 3) (xs.drop (k+1)) (ys.drop (k+1)) else aV 3 x y):=AE (HE.out.trans (cmpL_at HXX.out hy))
    have hK2:(k:Int)<(ys.length:Int):=by omega
    have hK3:¬((ys.length:Int)≤(k:Int)):=by omega
    clear hr hy
    go_upto_region 6 with fail
    have HSL:Hid (∀{w':World},Below w1.heap.size w1 w'→(w'.cell? ⟨wr.heap.size,0,none⟩=some (.int .i64 x.kind)∧w'.cell? ⟨wr.heap.size,1,none⟩=some (.int .i64 x.n)∧w'.cell? ⟨wr.heap.size,2,none⟩=some (.string x.s)∧w'.cell? ⟨wr.heap.size,3,none⟩=some (.slice Ax x.l.length cx)∧w'.cell? ⟨bq,oq+k*4,none⟩=some (.int .i64 y.kind)∧w'.cell? ⟨bq,oq+k*4+1,none⟩=some (.int .i64 y.n)∧w'.cell? ⟨bq,oq+k*4+2,none⟩=some (.string y.s)∧w'.cell? ⟨bq,oq+k*4+3,none⟩=some (.slice Ay y.l.length cy))):=AE (fun hb=>⟨(hb.cell l_x).trans (k_x 0),(hb.cell l_x).trans (k_x 1),(hb.cell l_x).trans (k_x 2),(hb.cell l_x).trans (k_x 3),(hb.cell hbq).trans c0,(hb.cell hbq).trans c1,(hb.cell hbq).trans c2,(hb.cell hbq).trans c3⟩)
    clear c0 c1 c2 c3 k_x
    refine aM (fun w'=>w'.cell? ⟨wr.heap.size,0,none⟩=some (.int .i64 x.kind)∧w'.cell? ⟨wr.heap.size,1,none⟩=some (.int .i64 x.n)∧w'.cell? ⟨wr.heap.size,2,none⟩=some (.string x.s)∧w'.cell? ⟨wr.heap.size,3,none⟩=some (.slice Ax x.l.length cx)∧w'.cell? ⟨bq,oq+k*4,none⟩=some (.int .i64 y.kind)∧w'.cell? ⟨bq,oq+k*4+1,none⟩=some (.int .i64 y.n)∧w'.cell? ⟨bq,oq+k*4+2,none⟩=some (.string y.s)∧w'.cell? ⟨bq,oq+k*4+3,none⟩=some (.slice Ay y.l.length cy)) (by kernel_rfl) (HSL.out (AI _ _).drew) ?_
    refine ab 0 ?_
    refine ab 1 ?_
    refine ab 2 ?_
    refine ab 3 ?_
    refine ab 4 ?_
    generalize hD:World.drew w1=w2
    have HU:Hid (Below w1.heap.size w1 w2):=AE (hD▸(AI w1.heap.size w1).drew)
    clear hD
    refine aw (rs:=[5]) (by kernel_rfl) rfl ?_
    refine ak.cons rfl (fun K hK=>?_) ak.nil
    go_simp
    refine (ia (d:=d) (B:=B) (a:=x) (b:=y) (va:=[_,_,_,_]) (vb:=[_,_,_,_]) (HX.out.below (HW1.out.trans (HU.out.mono hsz1)) (by omega)) (HY.out.below HU.out (by omega)) (AF (by omega) HU.out.size)).mono ?_
    rintro z w3 ⟨rfl,hb3⟩
    have HU3:Hid (Below w1.heap.size w1 w3):=AE (HU.out.trans (hb3.mono HU.out.size))
    clear hb3
    refine hK.out _ _ (HSL.out HU3.out) ?_
    clear hK
    refine ab 6 ?_
    refine bN (by kernel_rfl) ?_
    have HW3:Hid (Below w.heap.size w w3):=AE (HW.out.trans ((HW1.out.trans (HU3.out.mono hsz1)).mono hszr))
    generalize aV 3 x y=n at *
    by_cases hn0:n=0
    ·subst hn0
     have HE3:Hid (bM (aV 3) xs ys=bM (aV 3) (xs.drop (k+1)) (ys.drop (k+1))):=AE (HE2.out.trans (if_pos rfl))
     go_wp2_with fail
     go_roundw
     case rel=>exact ⟨k+1,hlt,by go_num,HW3,HE3⟩
     case measure=>simp [intOf];omega
    ·have hn1:(n !=0)=true:=by simpa using hn0
     have HE3:Hid (bM (aV 3) xs ys=n):=AE (HE2.out.trans (if_neg hn0))
     clear HE2
     go_wp2_with fail
     go_ret
     exact ⟨av HE3.out.symm,HW3.out⟩
   ·have hK2':ys.length≤k:=by omega
    have hK2:(ys.length:Int)≤(k:Int):=by omega
    have HE3:Hid (bM (aV 3) xs ys=1):=AE (HE.out.trans (vq hlt hK2'))
    go_wp2_with fail
    go_ret
    exact ⟨av HE3.out.symm,HW.out.trans (HW1.out.mono hszr)⟩
  ·have hgd:decide ((k:Int)<(xs.length:Int))=false:=by simp;omega
   have hkx:k=xs.length:=by omega
   by_cases hll:(xs.length:Int)<(ys.length:Int)
   ·have HE3:Hid (bM (aV 3) xs ys=-1):=AE (HE.out.trans (vn (by omega) (by omega)))
    clear hkx
    go_wp2_with fail
    all_goals
     go_ret
     exact ⟨av HE3.out.symm,HW.out⟩
   ·have HE3:Hid (bM (aV 3) xs ys=0):=AE (HE.out.trans (yl (by omega) (by omega)))
    clear hkx
    go_wp2_with fail
    all_goals
     go_ret
     exact ⟨av HE3.out.symm,HW.out⟩
section
variable {a b:Fc}
theorem vG (h:(a.pr.name.toList==b.pr.name.toList)=false):(if Op.bytesLess a.pr.name.toList b.pr.name.toList=true then -1 else 1)=aF a b:=by
 rw [dw,decide_eq_false_iff_not] at h
 unfold aF
 have h1:=qR h
 have h2:dh (bs a.pr.name) (bs b.pr.name)≠0:=by rw [h1];split<;>omega
 simp only [orL]
 rw [if_neg h2,h1]
 by_cases h3:bs a.pr.name<bs b.pr.name
 ·rw [if_pos ((iZ _ _).2 h3),if_pos h3]
 ·rw [if_neg (by rw [iZ];exact h3),if_neg h3]
theorem vH (h:(a.pr.name.toList==b.pr.name.toList)=true):aF a b=orL [cW a.pr.terms.length b.pr.terms.length,bM (aV 3) a.pr.terms b.pr.terms,cW a.o b.o]:=by
 rw [dw,AT] at h
 unfold aF
 rw [orL,h,oX,if_pos rfl]
theorem zO {x y:Int} (h:x≠y):(if decide (x<y)=true then -1 else 1)=cW x y:=by
 unfold cW
 by_cases h1:x<y
 ·simp [h1]
 ·have h2:y<x:=by omega
  simp [h1,h2]
theorem zL (h:(a.pr.name.toList==b.pr.name.toList)=true) (hn:(a.pr.terms.length:Int)≠b.pr.terms.length):(if decide ((a.pr.terms.length:Int)<b.pr.terms.length)=true then -1 else 1)=aF a b:=by
 have h1:¬cW (a.pr.terms.length:Int) b.pr.terms.length=0:=fun e=>hn (eb.1 e)
 rw [vH h,orL,if_neg h1,zO hn]
theorem fc_tms (h:(a.pr.name.toList==b.pr.name.toList)=true) (hn:a.pr.terms.length=b.pr.terms.length):aF a b=orL [bM (aV 3) a.pr.terms b.pr.terms,cW a.o b.o]:=by
 rw [vH h,orL,hn,dZ,if_pos rfl]
theorem zM (ho:a.o≠b.o) (h:aF a b=orL [0,cW a.o b.o]):(if decide (a.o<b.o)=true then -1 else 1)=aF a b:=by
 have h1:¬cW a.o b.o=0:=fun e=>ho (eb.1 e)
 rw [h,orL,if_pos rfl,orL,if_neg h1,zO ho]
end
theorem rF {d B:Nat} {a b:Fc} {va vb:List Value} {w:World} (hna:a.pr.terms.length*40≤140737488351232) (ha:(ay (d+1)).rd w B a va) (hb:(ay (d+1)).rd w B b vb) (hB:B≤w.heap.size) :
 Calls Tryz.prog 42 #[.agg va.toArray,.agg vb.toArray] w fun z w'=>z=.returned (.int .i64 (aF a b))∧Below w.heap.size w w':=by
 obtain ⟨A,c,rfl,hs,h1,h2,h3,hl,ho⟩:=aG ha
 obtain ⟨A',c',rfl,hs',h1',h2',h3',hl',ho'⟩:=aG hb
 have HL:=AE hl
 have HL':=AE hl'
 clear hl hl'
 go_enter Tryz.func42,Tryz.ntmps42
 go_upto_region 1 with fail
 generalize hWW:World.alloc _ _=w1
 obtain ⟨hb1,hz⟩:=al2 hWW
 have HA1:=AE (n21 hWW)
 have HA2:=AE (n22 hWW)
 have HB1:=AE hb1
 clear hWW hb1 hz
 have k_a:=HA1.out.cell
 have l_a:=HA1.out.lt
 have k_b:=HA2.out.cell
 have l_b:=HA2.out.lt
 go_region
 all_goals
  generalize hWW:World.alloc _ _=w2
  obtain ⟨hb2,hz2⟩:=al2 hWW
  have HP1:=AE (n21 hWW)
  have HP2:=AE (n22 hWW)
  generalize hD:World.drew w2=w3
  have HB3:Hid (Below w1.heap.size w1 w3):=AE (hD▸hb2.drew)
  have HD3:Hid (Below w2.heap.size w2 w3):=AE (hD▸(AI _ _).drew)
  have HQ1:=AE (HP1.out.later HD3.out)
  have HQ2:=AE (HP2.out.later HD3.out)
  have HA3:=AE (HA1.out.later HB3.out)
  have HA4:=AE (HA2.out.later HB3.out)
  clear hWW hb2 hz2 hD HP1 HP2 HD3 k_a l_a k_b l_b
  have k_p:=HQ1.out.cell
  have l_p:=HQ1.out.lt
  have k_q:=HQ2.out.cell
  have l_q:=HQ2.out.lt
  by_cases hnm:(a.pr.name.toList==b.pr.name.toList)=true
  ·by_cases hln:a.pr.terms.length=b.pr.terms.length
   ·have hln':((a.pr.terms.length:Int) !=(b.pr.terms.length:Int))=false:=by simp [hln]
    have hni:((a.pr.terms.length:Int)=(b.pr.terms.length:Int)):=by omega
    have HFC:=AE (fc_tms hnm hln)
    have HLN:=AE hln
    clear hln
    go_wp2_with fail
    refine (pX (d:=d+1) (B:=B) (HL.out.keep (HB1.out.trans (HB3.out.mono HB1.out.size)) hB) (HL'.out.keep (HB1.out.trans (HB3.out.mono HB1.out.size)) hB) (AF hB (AF HB1.out.size HB3.out.size)) hna (by have:=HLN.out;omega)).mono ?_
    rintro z w9 ⟨rfl,hb9⟩
    have HE9:Hid (Below w.heap.size w w9):=AE (HB1.out.trans ((HB3.out.trans (hb9.mono HB3.out.size)).mono HB1.out.size))
    have HA5:=AE (HA3.out.later hb9)
    have HA6:=AE (HA4.out.later hb9)
    clear hb9 k_p l_p k_q l_q
    have k_p:=HA5.out.cell
    have l_p:=HA5.out.lt
    have k_q:=HA6.out.cell
    have l_q:=HA6.out.lt
    generalize bM (aV 3) a.pr.terms b.pr.terms=n at *
    by_cases hn0:n=0
    ·subst hn0
     by_cases hoo:a.o=b.o
     ·have HV:Hid (aF a b=0):=AE (by rw [HFC.out,hoo];simp [orL,dZ])
      go_wp2_with fail
      all_goals
       go_ret
       exact ⟨av HV.out.symm,HE9.out⟩
     ·by_cases hd:a.o<b.o
      ·have HV:Hid (aF a b=-1):=AE (by rw [←zM hoo HFC.out];simp [hd])
       go_wp2_with fail
       refine (cI _ _).mono ?_
       rintro e w4 ⟨rfl,rfl⟩
       go_wp2_with fail
       all_goals
        go_ret
        exact ⟨av HV.out.symm,HE9.out⟩
      ·have HV:Hid (aF a b=1):=AE (by rw [←zM hoo HFC.out];simp [hd])
       go_wp2_with fail
       refine (cI _ _).mono ?_
       rintro e w4 ⟨rfl,rfl⟩
       go_wp2_with fail
       all_goals
        go_ret
        exact ⟨av HV.out.symm,HE9.out⟩
    ·have hn1:(n !=0)=true:=by simpa using hn0
     have HV:Hid (aF a b=n):=AE (by rw [HFC.out,orL,if_neg hn0])
     go_wp2_with fail
     all_goals
      go_ret
      exact ⟨av HV.out.symm,HE9.out⟩
   ·by_cases hd:(a.pr.terms.length:Int)<(b.pr.terms.length:Int)
    ·have HV:Hid (aF a b=-1):=AE (by rw [←zL hnm (by omega)];simp [hd])
     go_wp2_with fail
     refine (cI _ _).mono ?_
     rintro e w4 ⟨rfl,rfl⟩
     go_wp2_with fail
     all_goals
      go_ret
      exact ⟨av HV.out.symm,HB1.out.trans (HB3.out.mono HB1.out.size)⟩
    ·have HV:Hid (aF a b=1):=AE (by rw [←zL hnm (by omega)];simp [hd])
     go_wp2_with fail
     refine (cI _ _).mono ?_
     rintro e w4 ⟨rfl,rfl⟩
     go_wp2_with fail
     all_goals
      go_ret
      exact ⟨av HV.out.symm,HB1.out.trans (HB3.out.mono HB1.out.size)⟩
  ·have hnm':(a.pr.name.toList==b.pr.name.toList)=false:=by rw [Bool.not_eq_true] at hnm;exact hnm
   by_cases hd:Op.bytesLess a.pr.name.toList b.pr.name.toList=true
   ·have HV:Hid (aF a b=-1):=AE (by rw [←vG hnm'];simp [hd])
    go_wp2_with fail
    refine (cI _ _).mono ?_
    rintro e w4 ⟨rfl,rfl⟩
    go_wp2_with fail
    all_goals
     go_ret
     exact ⟨av HV.out.symm,HB1.out.trans (HB3.out.mono HB1.out.size)⟩
   ·have HV:Hid (aF a b=1):=AE (by rw [←vG hnm'];simp [hd])
    go_wp2_with fail
    refine (cI _ _).mono ?_
    rintro e w4 ⟨rfl,rfl⟩
    go_wp2_with fail
    all_goals
     go_ret
     exact ⟨av HV.out.symm,HB1.out.trans (HB3.out.mono HB1.out.size)⟩
end Go.Proofs.YtjpndglegpcdnaaGreat
