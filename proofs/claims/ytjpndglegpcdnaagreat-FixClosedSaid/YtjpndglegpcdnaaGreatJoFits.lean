/- join.fits, join.One. -/
import Derived.Test.YtjpndglegpcdnaaGreatFc3
import Derived.Test.YtjpndglegpcdnaaGreatJoIns
set_option linter.unusedVariables false
set_option linter.unusedSimpArgs false
set_option maxRecDepth 100000
set_option maxHeartbeats 8000000
namespace Go.Proofs.YtjpndglegpcdnaaGreat
open Go.ChangeShapes Go.WideShapes Go.ChangeAt Go.RowKit
def noBd:Bd:=⟨[],[]⟩
def oG (d:Nat) (w w':World) (r:Option Bd) (z:Ending):Prop:=(∃An cn At ct xs,z=.returned (.tuple #[.agg #[.slice An (r.getD noBd).names.length cn,.slice At (r.getD noBd).terms.length ct],.bool r.isSome])∧BdQ w.heap.size d w' (r.getD noBd) xs An cn At ct)∧Below w.heap.size w w'
theorem oG.no {d:Nat} {w w':World} (h:Below w.heap.size w w'):oG d w w' none (.returned (.tuple #[.agg #[.slice none 0 0,.slice none 0 0],.bool false])):=
 ⟨⟨none,0,none,0,[],rfl,rfl,aq.nil _ _ _ _ _,StkQ.nil _ _ _,fun u hu=>absurd hu (by simp)⟩,h⟩
theorem BdQ.lower {base b0 D:Nat} {w:World} {b:Bd} {xs:List SV} {An At:Option Addr} {cn ct:Nat} (h:BdQ base D w b xs An cn At ct) (hb:b0≤base):BdQ b0 D w b xs An cn At ct:=⟨h.tms,h.nm.lower hb,h.st.lower hb,h.sep⟩
theorem BdQ.reads {base D:Nat} {w:World} {b:Bd} {xs:List SV} {An At:Option Addr} {cn ct:Nat} (h:BdQ base D w b xs An cn At ct) (hn:b.names.length≤1000000) (ht:b.terms.length≤1000000):RL cX w w.heap.size (b.names.map mkS) An∧RL (TmR (D+1)) w w.heap.size b.terms At:=by
 obtain ⟨A3,c3,e3,_,_,r3⟩:=h.nm.reads (AH _) (by show (b.names.map mkS).length*(8*1)≤_;rw [AM];omega)
 simp only [AR] at e3
 obtain ⟨rfl,_,rfl⟩:=e3
 refine ⟨r3,?_⟩
 have:=h.st.rl (by rw [←AM SV.t,h.tms];exact ht)
 rwa [h.tms] at this
theorem BdQ.under {base D g:Nat} {w:World} {b:Bd} {xs:List SV} {An At:Option Addr} {cn ct:Nat} (h:BdQ base D w b xs An cn At ct) (hg:g<base) (i:Nat) (u:Value):BdQ base D (w.setCell ⟨g,i,none⟩ u) b xs An cn At ct:=
 ⟨h.tms,h.nm.far hg (AH _) u,h.st.under hg i u,h.sep⟩
theorem aq.own_ge {α:Type} {R:Reader α} {e:TypeId} {w:World} {base B g:Nat} {v:Value} {xs:List α} (h:aq R e w base B v xs) (hg:g<base):v.ownBlock≠some g:=by
 obtain ⟨cells,how,_⟩:=h
 intro e
 have:=(how.lt g e).1
 omega
theorem aq.row_lt' {α:Type} {R:Reader α} {e:TypeId} {w:World} {base B:Nat} {v:Value} {xs:List α} (h:aq R e w base B v xs):∀g,v.ownBlock=some g→base≤g∧g<w.heap.size:=by
 obtain ⟨cells,how,_⟩:=h
 exact fun g hg=>how.lt g hg
theorem BdQ.tlen {base D:Nat} {w:World} {b:Bd} {xs:List SV} {An At:Option Addr} {cn ct:Nat} (h:BdQ base D w b xs An cn At ct):xs.length=b.terms.length:=by rw [←h.tms,AM]
theorem sB {α β:Type} (f:α→β) (L:List α) (p:Nat) (x:α):(cM L p x).map f=cM (L.map f) p (f x):=by simp [cM,List.map_take,List.map_drop]
theorem yA {d B cn ct:Nat} {p f:Pr} {b:Bd} {vp vf:List Value} {An At:Option Addr} {w:World} (hp:(PrR (d+1)).rd w B p vp) (hf:(PrR (d+1)).rd w B f vf) (hn:RL cX w B (b.names.map mkS) An) (ht:RL (TmR (d+1)) w B b.terms At)
 (hmp:aE p=true) (hmf:gP f=true) (hmb:bG b=true) (hB:B≤w.heap.size) :
 Calls Tryz.prog 97 #[.agg vp.toArray,.agg vf.toArray,.agg (bdV An b.names.length cn At b.terms.length ct)] w fun z w'=>oG d w w' (gZ p f b) z:=by
 obtain ⟨_,rfl,hps,Ap,cp,rfl,hp1,hp2,hpl⟩:=hp
 obtain ⟨_,rfl,hfs,Af,cf,rfl,hf1,hf2,hfl⟩:=hf
 have HPL:=AE hpl
 have HFL:=AE hfl
 have HN:=AE hn
 have HT:=AE ht
 have HMP:=AE (go hmp)
 have HMF:=AE (tw hmf)
 have HMB:=AE (dW.1 hmb)
 clear hpl hfl hn ht hmp hmf hmb
 have hp8:=HMP.out.1
 unfold bdV
 go_enter Tryz.func97,Tryz.ntmps97
 go_upto_region 1 with fail
 generalize hW:World.alloc _ _=w1
 obtain ⟨hb,hz⟩:=al4 hW
 have HBP1:=AE (n41 hW)
 have HBF1:=AE (n42 hW)
 have HBB1:=AE (n43 hW)
 have HBR1:=AE (n44 hW)
 have HB1:=AE hb
 have hsz1:=hb.size
 clear hW hb
 have hB1:=AF hB hsz1
 have k_p:=HBP1.out.cell
 have l_p:=HBP1.out.lt
 have k_f:=HBF1.out.cell
 have l_f:=HBF1.out.lt
 have k_b:=HBB1.out.cell
 have l_b:=HBB1.out.lt
 have k_r:=HBR1.out.cell
 have l_r:=HBR1.out.lt
 by_cases hname:p.name=f.name
 rotate_left
 ·have gn:(p.name.toList==f.name.toList)=false:=by
   rw [Bool.eq_false_iff];intro e;rw [dw] at e;exact hname (oO (of_decide_eq_true e))
  have HR:Hid (gZ p f b=none):=AE (by unfold gZ;rw [if_neg (fun h=>hname h.1)])
  have f_r:=HBR1.out.free
  go_wp2_with fail
  refine bodyPost_ret (jN rfl rfl (kB HBR1.out (.slice none 0 0) (.slice none 0 0)) rfl) rfl ?_
  rw [HR.out]
  exact oG.no (kC HB1.out (by omega) _ _)
 have gn:(p.name.toList==f.name.toList)=true:=by rw [dw,hname];simp
 have HNM:=AE hname
 clear hname
 by_cases hlen:p.terms.length=f.terms.length
 rotate_left
 ·have gl:((p.terms.length:Int) !=f.terms.length)=true:=by simp;omega
  have HR:Hid (gZ p f b=none):=AE (by unfold gZ;rw [if_neg (fun h=>hlen h.2)])
  have f_r:=HBR1.out.free
  clear hlen
  go_wp2_with fail
  refine bodyPost_ret (jN rfl rfl (kB HBR1.out (.slice none 0 0) (.slice none 0 0)) rfl) rfl ?_
  rw [HR.out]
  exact oG.no (kC HB1.out (by omega) _ _)
 have gl:((p.terms.length:Int) !=f.terms.length)=false:=by simp [hlen]
 have HLEN:=AE hlen
 have HR:Hid (gZ p f b=okB (vK p.terms f.terms b)):=AE (by unfold gZ;rw [if_pos ⟨HNM.out,HLEN.out⟩])
 clear hlen
 have h32:=HMB.out.2
 have ht32:b.terms.length≤32:=by rw [←HMB.out.1.len];exact h32
 go_upto_region 3 with fail
 go_upto_region 4 with ((
  go_at_call 123
  refine (uZ (cn:=cn) (ct:=ct) (HN.out.keep HB1.out hB) (HT.out.keep HB1.out hB) HMB.out.1.fixed (by omega) (by omega) hB1).mono ?_
  rintro e w2 ⟨⟨An2,cn2,At2,ct2,xs0,rfl,hq⟩,hb⟩
  have HQ2:=AE hq
  have HB2:=AE hb
  have HBP2:=AE (HBP1.out.later hb)
  have HBF2:=AE (HBF1.out.later hb)
  have HBB2:=AE (HBB1.out.later hb)
  have HBR2:=AE (HBR1.out.later hb)
  have hsz2:=hb.size
  clear k_p k_f k_b k_r l_p l_f l_b l_r hq hb
  have k_b:=HBB2.out.cell
  have l_b:=HBB2.out.lt
  have f_b:=HBB2.out.free))
 have HB3:Hid (Below w.heap.size w ((w2.setCell ⟨w.heap.size+1+1,0,none⟩ (.slice An2 b.names.length cn2)).setCell ⟨w.heap.size+1+1,1,none⟩ (.slice At2 b.terms.length ct2))):=AE (kC (HB1.out.trans (HB2.out.mono hsz1)) (by omega) _ _)
 have HBB3:=AE (kB HBB2.out (.slice An2 b.names.length cn2) (.slice At2 b.terms.length ct2))
 have HBP3:=AE ((HBP2.out.far (c:=w.heap.size+1+1) (by omega) 0 (.slice An2 b.names.length cn2)).far (c:=w.heap.size+1+1) (by omega) 1 (.slice At2 b.terms.length ct2))
 have HBF3:=AE ((HBF2.out.far (c:=w.heap.size+1+1) (by omega) 0 (.slice An2 b.names.length cn2)).far (c:=w.heap.size+1+1) (by omega) 1 (.slice At2 b.terms.length ct2))
 have HBR3:=AE ((HBR2.out.far (c:=w.heap.size+1+1) (by omega) 0 (.slice An2 b.names.length cn2)).far (c:=w.heap.size+1+1) (by omega) 1 (.slice At2 b.terms.length ct2))
 have HQ3:=AE ((HQ2.out.under (g:=w.heap.size+1+1) (by omega) 0 (.slice An2 b.names.length cn2)).under (g:=w.heap.size+1+1) (by omega) 1 (.slice At2 b.terms.length ct2))
 clear k_b l_b f_b
 generalize (w2.setCell ⟨w.heap.size+1+1,0,none⟩ (.slice An2 b.names.length cn2)).setCell ⟨w.heap.size+1+1,1,none⟩ (.slice At2 b.terms.length ct2)=w3 at *
 have k_p:=HBP3.out.cell
 have l_p:=HBP3.out.lt
 go_upto_region 5 with fail
 clear k_p l_p
 go_loopw [32] (fun i wr=>∃(k:Nat) (b':Bd) (xs:List SV) (An':Option Addr) (cn':Nat) (At':Option Addr) (ct':Nat),k≤p.terms.length∧i=.int .i64 k∧b'.names.length≤32+k∧Hid (Below w.heap.size w wr)∧Hid (w1.heap.size≤wr.heap.size)∧Hid (Blk wr w.heap.size #[.string p.name,.slice Ap p.terms.length cp])∧Hid (Blk wr (w.heap.size+1) #[.string f.name,.slice Af f.terms.length cf])∧Hid (Blk wr (w.heap.size+1+1) #[.slice An' b'.names.length cn',.slice At' b'.terms.length ct'])∧Hid (Blk wr (w.heap.size+1+1+1) #[.slice none 0 0,.slice none 0 0])∧Hid (BdQ w1.heap.size d wr b' xs An' cn' At' ct')∧Hid (OkN b')∧Hid (vK (p.terms.drop k) (f.terms.drop k) b'=vK p.terms f.terms b)) (fun i _=>p.terms.length-(intOf i).toNat)
 case atStart=>exact ⟨0,b,xs0,An2,cn2,At2,ct2,AH _,rfl,by omega,HB3,AE (by have:=HBR3.out.lt;omega),HBP3,HBF3,HBB3,HBR3,HQ3,AE HMB.out.1,AE rfl⟩
 case round=>
  obtain ⟨k,b',xs,An',cn',At',ct',hk,rfl,hn32,HWR,HSZ,HBP,HBF,HBB,HBR,HBQ,HOK,HFIT⟩:=hrel
  have hszr:=HWR.out.size
  have hszw:=HSZ.out
  have hBr:B≤wr.heap.size:=by omega
  have ht32':b'.terms.length≤32+k:=by rw [←HOK.out.len];exact hn32
  by_cases hlt:k<p.terms.length
  ·have hlt2:k<f.terms.length:=by rw [←HLEN.out];exact hlt
   have HPL1:=AE (HPL.out.keep HWR.out hB)
   have HFL1:=AE (HFL.out.keep HWR.out hB)
   obtain ⟨bp_,offp,rfl,hobp⟩:=HPL1.out.base (AI _ _) hBr (by omega)
   obtain ⟨x,vs,hx,hlen,hcell,hr⟩:=HPL1.out.at_ (AI _ _) hBr hlt
   have HX:=AE hr
   obtain ⟨Ax,cx,rfl,g1,g2,g3,g4,g5,_⟩:=RTm.cells (show RTm wr B (d+1) x vs from hr)
   have c0:wr.cell? ⟨bp_,offp+k*4,none⟩=some (.int .i64 x.kind):=hcell 0 _ rfl
   have c1:wr.cell? ⟨bp_,offp+k*4+1,none⟩=some (.int .i64 x.n):=hcell 1 _ rfl
   have c2:wr.cell? ⟨bp_,offp+k*4+2,none⟩=some (.string x.s):=hcell 2 _ rfl
   have c3:wr.cell? ⟨bp_,offp+k*4+3,none⟩=some (.slice Ax x.l.length cx):=hcell 3 _ rfl
   have HXE:Hid (p.terms[k]=x):=AE (by rw [AO hlt] at hx;simpa using hx)
   have HXM:Hid (fD x=true):=AE (HMP.out.2 x (List.mem_of_getElem? hx))
   clear hcell hlen hx hr
   obtain ⟨bf_,offf,rfl,hobf⟩:=HFL1.out.base (AI _ _) hBr (by omega)
   obtain ⟨y,vs,hy,hlen,hcell,hr⟩:=HFL1.out.at_ (AI _ _) hBr hlt2
   have HY:=AE hr
   obtain ⟨Ay,cy,rfl,g6,g7,g8,g9,g10,_⟩:=RTm.cells (show RTm wr B (d+1) y vs from hr)
   have e0:wr.cell? ⟨bf_,offf+k*4,none⟩=some (.int .i64 y.kind):=hcell 0 _ rfl
   have e1:wr.cell? ⟨bf_,offf+k*4+1,none⟩=some (.int .i64 y.n):=hcell 1 _ rfl
   have e2:wr.cell? ⟨bf_,offf+k*4+2,none⟩=some (.string y.s):=hcell 2 _ rfl
   have e3:wr.cell? ⟨bf_,offf+k*4+3,none⟩=some (.slice Ay y.l.length cy):=hcell 3 _ rfl
   have HYC:Hid (wr.cell? ⟨bf_,offf+k*4,none⟩=some (.int .i64 y.kind)∧wr.cell? ⟨bf_,offf+k*4+1,none⟩=some (.int .i64 y.n)∧wr.cell? ⟨bf_,offf+k*4+2,none⟩=some (.string y.s)∧wr.cell? ⟨bf_,offf+k*4+3,none⟩=some (.slice Ay y.l.length cy)):=AE ⟨e0,e1,e2,e3⟩
   have HYE:Hid (f.terms[k]=y):=AE (by rw [AO hlt2] at hy;simpa using hy)
   have HYF:Hid (af y=true):=AE (HMF.out.2 y (List.mem_of_getElem? hy))
   have HSOME:Hid (∀c,xR b' x y=some c→vK (p.terms.drop (k+1)) (f.terms.drop (k+1)) c=vK p.terms f.terms b):=AE (fun c hc=>by rw [←HFIT.out,pm hlt hlt2,HXE.out,HYE.out,hc])
   have HNONE:Hid (xR b' x y=none→gZ p f b=none):=AE (fun hc=>by rw [HR.out,←HFIT.out,pm hlt hlt2,HXE.out,HYE.out,hc];rfl)
   clear hcell hlen hy hr e0 e1 e2 e3
   go_upto_region 7 with fail
   generalize hW:World.alloc _ _=w4
   obtain ⟨hb4,hz4⟩:=al1 hW
   have HBT4:=AE (n11 hW)
   have HW4:=AE hb4
   have HBP4:=AE (HBP.out.later hb4)
   have HBF4:=AE (HBF.out.later hb4)
   have HBB4:=AE (HBB.out.later hb4)
   have HBR4:=AE (HBR.out.later hb4)
   have HQ4:=AE (HBQ.out.later hb4)
   have HB4:Hid (Below w.heap.size w w4):=AE (HWR.out.trans (hb4.mono hszr))
   have HX4:=AE (RTm.below hb4 hBr HX.out)
   have HY4:=AE (RTm.below hb4 hBr HY.out)
   have HYC4:Hid (w4.cell? ⟨bf_,offf+k*4,none⟩=some (.int .i64 y.kind)∧w4.cell? ⟨bf_,offf+k*4+1,none⟩=some (.int .i64 y.n)∧w4.cell? ⟨bf_,offf+k*4+2,none⟩=some (.string y.s)∧w4.cell? ⟨bf_,offf+k*4+3,none⟩=some (.slice Ay y.l.length cy)):=AE ⟨(hb4.cell (p:=⟨bf_,_,none⟩) hobf).trans HYC.out.1,(hb4.cell (p:=⟨bf_,_,none⟩) hobf).trans HYC.out.2.1,(hb4.cell (p:=⟨bf_,_,none⟩) hobf).trans HYC.out.2.2.1,(hb4.cell (p:=⟨bf_,_,none⟩) hobf).trans HYC.out.2.2.2⟩
   have hB4:B≤w4.heap.size:=by omega
   have hsz4:=hb4.size
   have hlq:=HBT4.out.lt
   have HLQ:=AE hlq
   have hof4:bf_<w4.heap.size:=by omega
   clear hW hb4 hz4 c0 c1 c2 c3
   have HRL:=AE (HQ4.out.reads (by omega) (by omega))
   have k_b:=HBB4.out.cell
   have l_b:=HBB4.out.lt
   have k_t:=HBT4.out.cell
   have l_t:=HBT4.out.lt
   go_upto_region 8 with ((
    go_at_call 117
    refine (ik b'.names An' cn' w4.heap.size x.s w4 HRL.out.1 (AG _) (by omega) HOK.out.rise).mono ?_
    rintro e w5 ⟨rfl,rfl⟩))
   clear k_b l_b k_t l_t
   have HZ4:Hid (w1.heap.size≤w4.heap.size):=AE (by omega)
   have hq0:iG b'.names (bs x.s)≤b'.names.length:=oh
   have hI0:(0:Int)≤(k:Int):=Int.natCast_nonneg _
   have hI1:(k:Int)<(f.terms.length:Int):=by omega
   generalize hqg:iG b'.names (bs x.s)=q at hq0 ⊢
   have HQG:=AE hqg
   clear hqg
   by_cases hk1:x.kind=1
   rotate_left
   ·have g1:(x.kind !=1)=true:=by simpa using hk1
    have g2:(x.kind==1)=false:=by simpa using hk1
    have HK1:=AE hk1
    clear hk1
    by_cases hs:iD x y=true
    ·have HS:=AE hs
     clear hs
     have q_t:=HBT4.out.regrown
     have q_f:=HBF4.out.regrown
     have q_b:=HBB4.out.regrown
     have r0:=cell_regrown HYC4.out.1
     have r1:=cell_regrown HYC4.out.2.1
     have r2:=cell_regrown HYC4.out.2.2.1
     have r3:=cell_regrown HYC4.out.2.2.2
     refine wp_region_quiet_below (by kernel_rfl) (by kernel_rfl) ?_
     repeat (go_big_quiet_step ((go_at_call 124;exact Calls.regrown_of (dg HS.out (ft (d:=d+1) (d':=d+1) (B:=B) (a:=x) (b:=y) (vs:=[_,_,_,_]) (ws:=[_,_,_,_]) (RTm.below (below_regrown _ _ _) hB4 HX4.out) (RTm.below (below_regrown _ _ _) hB4 HY4.out) (AF hB4 (below_regrown _ _ _).size))))))
     refine wpQuiet_nil ?_
     intro w5 hw_
     have hb:Below w4.heap.size w4 w5:=by obtain ⟨p_,rfl⟩:=hw_;exact below_regrown _ _ _
     clear hw_ q_t q_f q_b r0 r1 r2 r3
     have HBP5:=AE (HBP4.out.later hb)
     have HBF5:=AE (HBF4.out.later hb)
     have HBB5:=AE (HBB4.out.later hb)
     have HBR5:=AE (HBR4.out.later hb)
     have HBT5:=AE (HBT4.out.later hb)
     have HQ5:=AE (HQ4.out.later hb)
     have HB5:Hid (Below w.heap.size w w5):=AE (HB4.out.trans (hb.mono HB4.out.size))
     have HZ5:Hid (w1.heap.size≤w5.heap.size):=AE (AF HZ4.out hb.size)
     have hB5:B≤w5.heap.size:=AF hB4 hb.size
     have hof5:bf_<w5.heap.size:=AJ hof4 hb.size
     have HX5:=AE (RTm.below hb hB4 HX4.out)
     have HY5:=AE (RTm.below hb hB4 HY4.out)
     have HYC5:Hid (w5.cell? ⟨bf_,offf+k*4,none⟩=some (.int .i64 y.kind)∧w5.cell? ⟨bf_,offf+k*4+1,none⟩=some (.int .i64 y.n)∧w5.cell? ⟨bf_,offf+k*4+2,none⟩=some (.string y.s)∧w5.cell? ⟨bf_,offf+k*4+3,none⟩=some (.slice Ay y.l.length cy)):=AE ⟨(hb.cell (p:=⟨bf_,_,none⟩) hof4).trans HYC4.out.1,(hb.cell (p:=⟨bf_,_,none⟩) hof4).trans HYC4.out.2.1,(hb.cell (p:=⟨bf_,_,none⟩) hof4).trans HYC4.out.2.2.1,(hb.cell (p:=⟨bf_,_,none⟩) hof4).trans HYC4.out.2.2.2⟩
     have hsz5:=hb.size
     clear hb
     go_upto_region 10 with fail
     have q_t:=HBT5.out.regrown
     have q_f:=HBF5.out.regrown
     have q_b:=HBB5.out.regrown
     have r0:=cell_regrown HYC5.out.1
     have r1:=cell_regrown HYC5.out.2.1
     have r2:=cell_regrown HYC5.out.2.2.1
     have r3:=cell_regrown HYC5.out.2.2.2
     refine wp_region_quiet_below (by kernel_rfl) (by kernel_rfl) ?_
     repeat (go_big_quiet_step ((fail)))
     refine wpQuiet_nil ?_
     intro w6 hw_
     have hb:Below w5.heap.size w5 w6:=by obtain ⟨p_,rfl⟩:=hw_;exact below_regrown _ _ _
     clear hw_ q_t q_f q_b r0 r1 r2 r3
     have HBP6:=AE (HBP5.out.later hb)
     have HBF6:=AE (HBF5.out.later hb)
     have HBB6:=AE (HBB5.out.later hb)
     have HBR6:=AE (HBR5.out.later hb)
     have HBT6:=AE (HBT5.out.later hb)
     have HQ6:=AE (HQ5.out.later hb)
     have HB6:Hid (Below w.heap.size w w6):=AE (HB5.out.trans (hb.mono HB5.out.size))
     have HZ6:Hid (w1.heap.size≤w6.heap.size):=AE (AF HZ5.out hb.size)
     have hB6:B≤w6.heap.size:=AF hB5 hb.size
     have hof6:bf_<w6.heap.size:=AJ hof5 hb.size
     have HX6:=AE (RTm.below hb hB5 HX5.out)
     have HY6:=AE (RTm.below hb hB5 HY5.out)
     have HYC6:Hid (w6.cell? ⟨bf_,offf+k*4,none⟩=some (.int .i64 y.kind)∧w6.cell? ⟨bf_,offf+k*4+1,none⟩=some (.int .i64 y.n)∧w6.cell? ⟨bf_,offf+k*4+2,none⟩=some (.string y.s)∧w6.cell? ⟨bf_,offf+k*4+3,none⟩=some (.slice Ay y.l.length cy)):=AE ⟨(hb.cell (p:=⟨bf_,_,none⟩) hof5).trans HYC5.out.1,(hb.cell (p:=⟨bf_,_,none⟩) hof5).trans HYC5.out.2.1,(hb.cell (p:=⟨bf_,_,none⟩) hof5).trans HYC5.out.2.2.1,(hb.cell (p:=⟨bf_,_,none⟩) hof5).trans HYC5.out.2.2.2⟩
     have hsz6:=hb.size
     clear hb
     have k_t:=HBT6.out.cell
     have l_t:=HBT6.out.lt
     go_wp2_with fail
     go_roundw
     case rel=>exact ⟨k+1,b',xs,An',cn',_,ct',by omega,by go_num,by omega,HB6,HZ6,HBP6,HBF6,HBB6,HBR6,HQ6,HOK,AE (HSOME.out _ (by unfold xR;rw [if_neg HK1.out,if_pos HS.out]))⟩
     case measure=>simp [intOf];omega
    ·have HS:Hid (iD x y=false):=AE (by simpa using hs)
     clear hs
     have q_t:=HBT4.out.regrown
     have q_f:=HBF4.out.regrown
     have q_b:=HBB4.out.regrown
     have r0:=cell_regrown HYC4.out.1
     have r1:=cell_regrown HYC4.out.2.1
     have r2:=cell_regrown HYC4.out.2.2.1
     have r3:=cell_regrown HYC4.out.2.2.2
     refine wp_region_quiet_below (by kernel_rfl) (by kernel_rfl) ?_
     repeat (go_big_quiet_step ((go_at_call 124;exact Calls.regrown_of (dg HS.out (ft (d:=d+1) (d':=d+1) (B:=B) (a:=x) (b:=y) (vs:=[_,_,_,_]) (ws:=[_,_,_,_]) (RTm.below (below_regrown _ _ _) hB4 HX4.out) (RTm.below (below_regrown _ _ _) hB4 HY4.out) (AF hB4 (below_regrown _ _ _).size))))))
     refine wpQuiet_nil ?_
     intro w5 hw_
     have hb:Below w4.heap.size w4 w5:=by obtain ⟨p_,rfl⟩:=hw_;exact below_regrown _ _ _
     clear hw_ q_t q_f q_b r0 r1 r2 r3
     have HBP5:=AE (HBP4.out.later hb)
     have HBF5:=AE (HBF4.out.later hb)
     have HBB5:=AE (HBB4.out.later hb)
     have HBR5:=AE (HBR4.out.later hb)
     have HBT5:=AE (HBT4.out.later hb)
     have HQ5:=AE (HQ4.out.later hb)
     have HB5:Hid (Below w.heap.size w w5):=AE (HB4.out.trans (hb.mono HB4.out.size))
     have HZ5:Hid (w1.heap.size≤w5.heap.size):=AE (AF HZ4.out hb.size)
     have hB5:B≤w5.heap.size:=AF hB4 hb.size
     have hof5:bf_<w5.heap.size:=AJ hof4 hb.size
     have HX5:=AE (RTm.below hb hB4 HX4.out)
     have HY5:=AE (RTm.below hb hB4 HY4.out)
     have HYC5:Hid (w5.cell? ⟨bf_,offf+k*4,none⟩=some (.int .i64 y.kind)∧w5.cell? ⟨bf_,offf+k*4+1,none⟩=some (.int .i64 y.n)∧w5.cell? ⟨bf_,offf+k*4+2,none⟩=some (.string y.s)∧w5.cell? ⟨bf_,offf+k*4+3,none⟩=some (.slice Ay y.l.length cy)):=AE ⟨(hb.cell (p:=⟨bf_,_,none⟩) hof4).trans HYC4.out.1,(hb.cell (p:=⟨bf_,_,none⟩) hof4).trans HYC4.out.2.1,(hb.cell (p:=⟨bf_,_,none⟩) hof4).trans HYC4.out.2.2.1,(hb.cell (p:=⟨bf_,_,none⟩) hof4).trans HYC4.out.2.2.2⟩
     have hsz5:=hb.size
     clear hb
     have HNO:Hid (gZ p f b=none):=AE (HNONE.out (by unfold xR;rw [if_neg HK1.out,if_neg (by rw [HS.out];simp)]))
     have k_r:=HBR5.out.cell
     have f_r:=HBR5.out.free
     have l_r:=HBR5.out.lt
     go_wp2_with fail
     refine bodyPost_ret (jN rfl rfl (kB HBR5.out (.slice none 0 0) (.slice none 0 0)) rfl) rfl ?_
     rw [HNO.out]
     exact oG.no (kC HB5.out (by omega) _ _)
   ·have g1:(x.kind !=1)=false:=by simpa using hk1
    have g2:(x.kind==1)=true:=by simpa using hk1
    have HK1:=AE hk1
    clear hk1
    have q_t:=HBT4.out.regrown
    have q_f:=HBF4.out.regrown
    have q_b:=HBB4.out.regrown
    have r0:=cell_regrown HYC4.out.1
    have r1:=cell_regrown HYC4.out.2.1
    have r2:=cell_regrown HYC4.out.2.2.1
    have r3:=cell_regrown HYC4.out.2.2.2
    refine wp_region_quiet_below (by kernel_rfl) (by kernel_rfl) ?_
    repeat (go_big_quiet_step ((fail)))
    refine wpQuiet_nil ?_
    intro w5 hw_
    have hb:Below w4.heap.size w4 w5:=by obtain ⟨p_,rfl⟩:=hw_;exact below_regrown _ _ _
    clear hw_ q_t q_f q_b r0 r1 r2 r3
    have HBP5:=AE (HBP4.out.later hb)
    have HBF5:=AE (HBF4.out.later hb)
    have HBB5:=AE (HBB4.out.later hb)
    have HBR5:=AE (HBR4.out.later hb)
    have HBT5:=AE (HBT4.out.later hb)
    have HQ5:=AE (HQ4.out.later hb)
    have HB5:Hid (Below w.heap.size w w5):=AE (HB4.out.trans (hb.mono HB4.out.size))
    have HZ5:Hid (w1.heap.size≤w5.heap.size):=AE (AF HZ4.out hb.size)
    have hB5:B≤w5.heap.size:=AF hB4 hb.size
    have hof5:bf_<w5.heap.size:=AJ hof4 hb.size
    have HX5:=AE (RTm.below hb hB4 HX4.out)
    have HY5:=AE (RTm.below hb hB4 HY4.out)
    have HYC5:Hid (w5.cell? ⟨bf_,offf+k*4,none⟩=some (.int .i64 y.kind)∧w5.cell? ⟨bf_,offf+k*4+1,none⟩=some (.int .i64 y.n)∧w5.cell? ⟨bf_,offf+k*4+2,none⟩=some (.string y.s)∧w5.cell? ⟨bf_,offf+k*4+3,none⟩=some (.slice Ay y.l.length cy)):=AE ⟨(hb.cell (p:=⟨bf_,_,none⟩) hof4).trans HYC4.out.1,(hb.cell (p:=⟨bf_,_,none⟩) hof4).trans HYC4.out.2.1,(hb.cell (p:=⟨bf_,_,none⟩) hof4).trans HYC4.out.2.2.1,(hb.cell (p:=⟨bf_,_,none⟩) hof4).trans HYC4.out.2.2.2⟩
    have hsz5:=hb.size
    clear hb
    go_upto_region 10 with fail
    by_cases hm:bs x.s∈b'.names
    ·have hd:decide (bs x.s∈b'.names)=true:=by simpa using hm
     rw [hd]
     have HM:=AE hm
     have hqlt:q<b'.names.length:=by rw [←HQG.out];exact wZ hm
     have hqt:q<b'.terms.length:=by rw [←HOK.out.len];exact hqlt
     clear hm hd
     have HRL5:=AE (HQ5.out.reads (by omega) (by omega))
     obtain ⟨bz_,offz,rfl,hobz⟩:=HRL5.out.2.base (AI _ _) (AG _) (by omega)
     obtain ⟨z,vs,hz,hlen,hcell,hr⟩:=HRL5.out.2.at_ (AI _ _) (AG _) hqt
     have HZT:=AE hr
     obtain ⟨Az,cz,rfl,g11,g12,g13,g14,g15,_⟩:=RTm.cells (show RTm w5 w5.heap.size (d+1) z vs from hr)
     have z0:w5.cell? ⟨bz_,offz+q*4,none⟩=some (.int .i64 z.kind):=hcell 0 _ rfl
     have z1:w5.cell? ⟨bz_,offz+q*4+1,none⟩=some (.int .i64 z.n):=hcell 1 _ rfl
     have z2:w5.cell? ⟨bz_,offz+q*4+2,none⟩=some (.string z.s):=hcell 2 _ rfl
     have z3:w5.cell? ⟨bz_,offz+q*4+3,none⟩=some (.slice Az z.l.length cz):=hcell 3 _ rfl
     have HLK:Hid (cZ b' (bs x.s)=some z):=AE (by unfold cZ;rw [if_pos HM.out,HQG.out];exact hz)
     clear hcell hlen hr hz
     have hJ0:(0:Int)≤(q:Int):=Int.natCast_nonneg _
     have hJ1:(q:Int)<(b'.terms.length:Int):=by omega
     by_cases hs:iD z y=true
     ·have HS:=AE hs
      clear hs
      have q_t:=HBT5.out.regrown
      have q_f:=HBF5.out.regrown
      have q_b:=HBB5.out.regrown
      have r0:=cell_regrown HYC5.out.1
      have r1:=cell_regrown HYC5.out.2.1
      have r2:=cell_regrown HYC5.out.2.2.1
      have r3:=cell_regrown HYC5.out.2.2.2
      have s0:=cell_regrown z0
      have s1:=cell_regrown z1
      have s2:=cell_regrown z2
      have s3:=cell_regrown z3
      clear z0 z1 z2 z3
      refine wp_region_quiet_below (by kernel_rfl) (by kernel_rfl) ?_
      repeat (go_big_quiet_step ((go_at_call 124;exact Calls.regrown_of (dg HS.out (ft (d:=d+1) (d':=d+1) (B:=w5.heap.size) (a:=z) (b:=y) (vs:=[_,_,_,_]) (ws:=[_,_,_,_]) (RTm.below (below_regrown _ _ _) (AG _) HZT.out) (RTm.below (below_regrown _ _ _) (AG _) (RTm.more hB5 HY5.out)) (AF (AG _) (below_regrown _ _ _).size))))))
      refine wpQuiet_nil ?_
      intro w6 hw_
      have hb:Below w5.heap.size w5 w6:=by obtain ⟨p_,rfl⟩:=hw_;exact below_regrown _ _ _
      clear hw_ q_t q_f q_b r0 r1 r2 r3 s0 s1 s2 s3
      have HBP6:=AE (HBP5.out.later hb)
      have HBF6:=AE (HBF5.out.later hb)
      have HBB6:=AE (HBB5.out.later hb)
      have HBR6:=AE (HBR5.out.later hb)
      have HBT6:=AE (HBT5.out.later hb)
      have HQ6:=AE (HQ5.out.later hb)
      have HB6:Hid (Below w.heap.size w w6):=AE (HB5.out.trans (hb.mono HB5.out.size))
      have HZ6:Hid (w1.heap.size≤w6.heap.size):=AE (AF HZ5.out hb.size)
      have hB6:B≤w6.heap.size:=AF hB5 hb.size
      have hof6:bf_<w6.heap.size:=AJ hof5 hb.size
      have HX6:=AE (RTm.below hb hB5 HX5.out)
      have HY6:=AE (RTm.below hb hB5 HY5.out)
      have HYC6:Hid (w6.cell? ⟨bf_,offf+k*4,none⟩=some (.int .i64 y.kind)∧w6.cell? ⟨bf_,offf+k*4+1,none⟩=some (.int .i64 y.n)∧w6.cell? ⟨bf_,offf+k*4+2,none⟩=some (.string y.s)∧w6.cell? ⟨bf_,offf+k*4+3,none⟩=some (.slice Ay y.l.length cy)):=AE ⟨(hb.cell (p:=⟨bf_,_,none⟩) hof5).trans HYC5.out.1,(hb.cell (p:=⟨bf_,_,none⟩) hof5).trans HYC5.out.2.1,(hb.cell (p:=⟨bf_,_,none⟩) hof5).trans HYC5.out.2.2.1,(hb.cell (p:=⟨bf_,_,none⟩) hof5).trans HYC5.out.2.2.2⟩
      have hsz6:=hb.size
      clear hb
      have k_t:=HBT6.out.cell
      have l_t:=HBT6.out.lt
      go_wp2_with fail
      go_roundw
      case rel=>exact ⟨k+1,b',xs,An',cn',_,ct',by omega,by go_num,by omega,HB6,HZ6,HBP6,HBF6,HBB6,HBR6,HQ6,HOK,AE (HSOME.out _ (by unfold xR;rw [if_pos HK1.out,HLK.out];simp [HS.out]))⟩
      case measure=>simp [intOf];omega
     ·have HS:Hid (iD z y=false):=AE (by simpa using hs)
      clear hs
      have q_t:=HBT5.out.regrown
      have q_f:=HBF5.out.regrown
      have q_b:=HBB5.out.regrown
      have r0:=cell_regrown HYC5.out.1
      have r1:=cell_regrown HYC5.out.2.1
      have r2:=cell_regrown HYC5.out.2.2.1
      have r3:=cell_regrown HYC5.out.2.2.2
      have s0:=cell_regrown z0
      have s1:=cell_regrown z1
      have s2:=cell_regrown z2
      have s3:=cell_regrown z3
      clear z0 z1 z2 z3
      refine wp_region_quiet_below (by kernel_rfl) (by kernel_rfl) ?_
      repeat (go_big_quiet_step ((go_at_call 124;exact Calls.regrown_of (dg HS.out (ft (d:=d+1) (d':=d+1) (B:=w5.heap.size) (a:=z) (b:=y) (vs:=[_,_,_,_]) (ws:=[_,_,_,_]) (RTm.below (below_regrown _ _ _) (AG _) HZT.out) (RTm.below (below_regrown _ _ _) (AG _) (RTm.more hB5 HY5.out)) (AF (AG _) (below_regrown _ _ _).size))))))
      refine wpQuiet_nil ?_
      intro w6 hw_
      have hb:Below w5.heap.size w5 w6:=by obtain ⟨p_,rfl⟩:=hw_;exact below_regrown _ _ _
      clear hw_ q_t q_f q_b r0 r1 r2 r3 s0 s1 s2 s3
      have HBP6:=AE (HBP5.out.later hb)
      have HBF6:=AE (HBF5.out.later hb)
      have HBB6:=AE (HBB5.out.later hb)
      have HBR6:=AE (HBR5.out.later hb)
      have HBT6:=AE (HBT5.out.later hb)
      have HQ6:=AE (HQ5.out.later hb)
      have HB6:Hid (Below w.heap.size w w6):=AE (HB5.out.trans (hb.mono HB5.out.size))
      have HZ6:Hid (w1.heap.size≤w6.heap.size):=AE (AF HZ5.out hb.size)
      have hB6:B≤w6.heap.size:=AF hB5 hb.size
      have hof6:bf_<w6.heap.size:=AJ hof5 hb.size
      have HX6:=AE (RTm.below hb hB5 HX5.out)
      have HY6:=AE (RTm.below hb hB5 HY5.out)
      have HYC6:Hid (w6.cell? ⟨bf_,offf+k*4,none⟩=some (.int .i64 y.kind)∧w6.cell? ⟨bf_,offf+k*4+1,none⟩=some (.int .i64 y.n)∧w6.cell? ⟨bf_,offf+k*4+2,none⟩=some (.string y.s)∧w6.cell? ⟨bf_,offf+k*4+3,none⟩=some (.slice Ay y.l.length cy)):=AE ⟨(hb.cell (p:=⟨bf_,_,none⟩) hof5).trans HYC5.out.1,(hb.cell (p:=⟨bf_,_,none⟩) hof5).trans HYC5.out.2.1,(hb.cell (p:=⟨bf_,_,none⟩) hof5).trans HYC5.out.2.2.1,(hb.cell (p:=⟨bf_,_,none⟩) hof5).trans HYC5.out.2.2.2⟩
      have hsz6:=hb.size
      clear hb
      have HNO:Hid (gZ p f b=none):=AE (HNONE.out (by unfold xR;rw [if_pos HK1.out,HLK.out];simp [HS.out]))
      have k_r:=HBR6.out.cell
      have f_r:=HBR6.out.free
      have l_r:=HBR6.out.lt
      go_wp2_with fail
      refine bodyPost_ret (jN rfl rfl (kB HBR6.out (.slice none 0 0) (.slice none 0 0)) rfl) rfl ?_
      rw [HNO.out]
      exact oG.no (kC HB6.out (by omega) _ _)
    ·have hd:decide (bs x.s∈b'.names)=false:=by simpa using hm
     rw [hd]
     have HM:=AE hm
     clear hm hd
     have q_t:=HBT5.out.regrown
     have q_f:=HBF5.out.regrown
     have q_b:=HBB5.out.regrown
     have r0:=cell_regrown HYC5.out.1
     have r1:=cell_regrown HYC5.out.2.1
     have r2:=cell_regrown HYC5.out.2.2.1
     have r3:=cell_regrown HYC5.out.2.2.2
     refine wp_region_quiet_below (by kernel_rfl) (by kernel_rfl) ?_
     repeat (go_big_quiet_step ((fail)))
     refine wpQuiet_nil ?_
     intro w6 hw_
     have hb:Below w5.heap.size w5 w6:=by obtain ⟨p_,rfl⟩:=hw_;exact below_regrown _ _ _
     clear hw_ q_t q_f q_b r0 r1 r2 r3
     have HBP6:=AE (HBP5.out.later hb)
     have HBF6:=AE (HBF5.out.later hb)
     have HBB6:=AE (HBB5.out.later hb)
     have HBR6:=AE (HBR5.out.later hb)
     have HBT6:=AE (HBT5.out.later hb)
     have HQ6:=AE (HQ5.out.later hb)
     have HB6:Hid (Below w.heap.size w w6):=AE (HB5.out.trans (hb.mono HB5.out.size))
     have HZ6:Hid (w1.heap.size≤w6.heap.size):=AE (AF HZ5.out hb.size)
     have hB6:B≤w6.heap.size:=AF hB5 hb.size
     have hof6:bf_<w6.heap.size:=AJ hof5 hb.size
     have HX6:=AE (RTm.below hb hB5 HX5.out)
     have HY6:=AE (RTm.below hb hB5 HY5.out)
     have HYC6:Hid (w6.cell? ⟨bf_,offf+k*4,none⟩=some (.int .i64 y.kind)∧w6.cell? ⟨bf_,offf+k*4+1,none⟩=some (.int .i64 y.n)∧w6.cell? ⟨bf_,offf+k*4+2,none⟩=some (.string y.s)∧w6.cell? ⟨bf_,offf+k*4+3,none⟩=some (.slice Ay y.l.length cy)):=AE ⟨(hb.cell (p:=⟨bf_,_,none⟩) hof5).trans HYC5.out.1,(hb.cell (p:=⟨bf_,_,none⟩) hof5).trans HYC5.out.2.1,(hb.cell (p:=⟨bf_,_,none⟩) hof5).trans HYC5.out.2.2.1,(hb.cell (p:=⟨bf_,_,none⟩) hof5).trans HYC5.out.2.2.2⟩
     have hsz6:=hb.size
     clear hb
     have k_t:=HBT6.out.cell
     have l_t:=HBT6.out.lt
     have k_b:=HBB6.out.cell
     have l_b:=HBB6.out.lt
     go_upto_region 13 with fail
     have hnx:(b'.names.map mkS).length=b'.names.length:=AM _
     have HO6:=AE (HQ6.out.nm.later ((AI w6.heap.size w6).alloc (AG _) (.cells #[.string x.s] 9)) (AH _))
     have HST6:=AE (HQ6.out.st.later ((AI w6.heap.size w6).alloc (AG _) (.cells #[.string x.s] 9)))
     have HAL:=AE ((AI w6.heap.size w6).alloc (AG _) (.cells #[.string x.s] 9))
     go_upto_region 14 with ((
      go_at_call 125
      refine (tH (xs:=b'.names.map mkS) (y:=x.s) (ys:=#[.string x.s]) (T:=9) (i:=q) hnx HO6.out (by rw [World.size_alloc];omega) (by omega) ⟨rfl,by omega⟩ (heap_alloc_new w6 _) (HQ6.out.nm.fresh (AG _)) hq0).mono ?_
      rintro e w7 ⟨A7,c7,rfl,hown,hg,hf⟩
      have HO7:=AE hown
      have HF7:=AE hf
      have HG7:=AE hg
      have HST7:=AE (HST6.out.grownN hg (fun u hu a ha e=>by
       rcases hA:An' with _ | g
       ·rw [hA] at e;cases e
       ·rw [hA] at e
        simp only [Value.ownBlock,AP] at e
        exact HQ6.out.sep u hu a ha g hA e) (pN HST6.out.own HO6.out (by decide)))
      have HAG:Hid (Below w6.heap.size w6 w7∨True):=AE (.inr trivial)
      have hgrow:∀{n:Nat} {cs:Array Value},Blk w6 n cs→n<w1.heap.size→Blk w7 n cs:=fun h hn=>(h.later HAL.out).grown hg (aq.own_ge HQ6.out.nm hn).symm
      have HBP7:=AE (hgrow HBP6.out (by omega))
      have HBF7:=AE (hgrow HBF6.out (by omega))
      have HBB7:=AE (hgrow HBB6.out (by omega))
      have HBR7:=AE (hgrow HBR6.out (by omega))
      have HB67:Hid (Below w.heap.size w6 w7):=AE (((HAL.out.mono HB6.out.size).trans (Below.grown (AI w.heap.size (w6.alloc (.cells #[.string x.s] 9))) hg (by rw [World.size_alloc];have:=HB6.out.size;omega) (fun k' hk'=>by have:=(HO6.out.row_lt' k' hk').1;omega))))
      have HB7:=AE (HB6.out.trans HB67.out)
      have hsz7:w6.heap.size<w7.heap.size:=by have:=hg.size;rw [World.size_alloc] at this;omega
      clear k_t l_t k_b l_b hgrow hown hg hf
      have k_b:=HBB7.out.cell
      have l_b:=HBB7.out.lt
      have f_b:=HBB7.out.free))
     clear k_b l_b f_b
     have HSEP7:Hid (∀u∈xs,∀a,u.a=some a→∀g,A7=some g→a.block≠g.block):=AE (fun u hu a ha g hg e=>by
      have hl:=(HQ6.out.st.lt u hu a ha).2
      rcases HF7.out with h1 | ⟨n7,h1,h2⟩
      ·rw [hg] at h1
       rcases hA:An' with _ | g2
       ·rw [hA] at h1;cases h1
       ·rw [hA] at h1
        simp only [Value.ownBlock,AP] at h1
        exact HQ6.out.sep u hu a ha g2 hA (e.trans h1)
      ·rw [hg] at h1
       simp only [Value.ownBlock,AP] at h1
       rw [World.size_alloc] at h2
       omega)
     have HBP8:=AE (HBP7.out.far (c:=w.heap.size+1+1) (by omega) 0 (.slice A7 (b'.names.length+1) c7))
     have HBF8:=AE (HBF7.out.far (c:=w.heap.size+1+1) (by omega) 0 (.slice A7 (b'.names.length+1) c7))
     have HBR8:=AE (HBR7.out.far (c:=w.heap.size+1+1) (by omega) 0 (.slice A7 (b'.names.length+1) c7))
     have HBB8:Hid (Blk (w7.setCell ⟨w.heap.size+1+1,0,none⟩ (.slice A7 (b'.names.length+1) c7)) (w.heap.size+1+1) #[.slice A7 (b'.names.length+1) c7,.slice At' b'.terms.length ct']):=AE (HBB7.out.set_ 0 _)
     have HB8:=AE (HB7.out.setCell (p:=⟨w.heap.size+1+1,0,none⟩) (by show w.heap.size≤w.heap.size+1+1;omega) (.slice A7 (b'.names.length+1) c7))
     have HB68:=AE (HB67.out.setCell (p:=⟨w.heap.size+1+1,0,none⟩) (by show w.heap.size≤w.heap.size+1+1;omega) (.slice A7 (b'.names.length+1) c7))
     have HNM8:=AE (HO7.out.far (c:=w.heap.size+1+1) (i:=0) (by omega) (AH _) (.slice A7 (b'.names.length+1) c7))
     have HST8:=AE (HST7.out.under (g:=w.heap.size+1+1) (by omega) 0 (.slice A7 (b'.names.length+1) c7))
     have hsz8:w6.heap.size<(w7.setCell ⟨w.heap.size+1+1,0,none⟩ (.slice A7 (b'.names.length+1) c7)).heap.size:=by rw [World.size_setCell];exact hsz7
     have hw68:=HZ6.out
     clear HBP7 HBF7 HBR7 HBB7 HB7 HB67 HO7 HST7 hsz7 HAG
     generalize w7.setCell ⟨w.heap.size+1+1,0,none⟩ (.slice A7 (b'.names.length+1) c7)=w8 at *
     have HBFB:Hid (bf_<B):=AE (by
      obtain ⟨b_,o_,e,hb,_⟩:=HFL.out (by omega)
      simp only [AP,Addr.mk.injEq] at e
      omega)
     have hB8:B≤w8.heap.size:=by omega
     have HY8:=AE (RTm.below HB68.out hB HY6.out)
     have HYC8:Hid (w8.cell? ⟨bf_,offf+k*4,none⟩=some (.int .i64 y.kind)∧w8.cell? ⟨bf_,offf+k*4+1,none⟩=some (.int .i64 y.n)∧w8.cell? ⟨bf_,offf+k*4+2,none⟩=some (.string y.s)∧w8.cell? ⟨bf_,offf+k*4+3,none⟩=some (.slice Ay y.l.length cy)):=AE (have hl:bf_<w.heap.size:=AJ HBFB.out hB;⟨(HB68.out.cell (p:=⟨bf_,_,none⟩) hl).trans HYC6.out.1,(HB68.out.cell (p:=⟨bf_,_,none⟩) hl).trans HYC6.out.2.1,(HB68.out.cell (p:=⟨bf_,_,none⟩) hl).trans HYC6.out.2.2.1,(HB68.out.cell (p:=⟨bf_,_,none⟩) hl).trans HYC6.out.2.2.2⟩)
     obtain ⟨hle,hl16⟩:=aO HYF.out
     have HLE:=AE hle
     clear hle
     have HTL:Hid (xs.length=b'.terms.length):=AE HQ6.out.tlen
     have hq8:q≤b'.terms.length:=by rw [←HOK.out.len];exact hq0
     have HBFL:Hid (bf_<w8.heap.size):=AE (AJ HBFB.out hB8)
     have HSL:Hid (∀{w':World},Below w8.heap.size w8 w'→(w'.cell? ⟨w.heap.size+1+1,1,none⟩=some (.slice At' b'.terms.length ct')∧w'.cell? ⟨w.heap.size+1,1,none⟩=some (.slice (some ⟨bf_,offf,none⟩) f.terms.length cf)∧w'.cell? ⟨bf_,offf+k*4,none⟩=some (.int .i64 y.kind)∧w'.cell? ⟨bf_,offf+k*4+1,none⟩=some (.int .i64 y.n)∧w'.cell? ⟨bf_,offf+k*4+2,none⟩=some (.string y.s)∧w'.cell? ⟨bf_,offf+k*4+3,none⟩=some (.slice Ay y.l.length cy))):=AE (fun hb=>⟨(HBB8.out.later hb).cell 1,(HBF8.out.later hb).cell 1,(hb.cell (p:=⟨bf_,_,none⟩) HBFL.out).trans HYC8.out.1,(hb.cell (p:=⟨bf_,_,none⟩) HBFL.out).trans HYC8.out.2.1,(hb.cell (p:=⟨bf_,_,none⟩) HBFL.out).trans HYC8.out.2.2.1,(hb.cell (p:=⟨bf_,_,none⟩) HBFL.out).trans HYC8.out.2.2.2⟩)
     refine bv (S:=fun w'=>w'.cell? ⟨w.heap.size+1+1,1,none⟩=some (.slice At' b'.terms.length ct')∧w'.cell? ⟨w.heap.size+1,1,none⟩=some (.slice (some ⟨bf_,offf,none⟩) f.terms.length cf)∧w'.cell? ⟨bf_,offf+k*4,none⟩=some (.int .i64 y.kind)∧w'.cell? ⟨bf_,offf+k*4+1,none⟩=some (.int .i64 y.n)∧w'.cell? ⟨bf_,offf+k*4+2,none⟩=some (.string y.s)∧w'.cell? ⟨bf_,offf+k*4+3,none⟩=some (.slice Ay y.l.length cy)) 12 (by kernel_rfl) (by kernel_rfl) (by kernel_rfl) (by kernel_rfl) (HSL.out (AI _ _).drew) ?_
     refine ax 0 ?_
     refine ax 1 ?_
     refine ax 2 ?_
     refine ax 3 ?_
     refine ax 4 ?_
     refine ax 5 ?_
     refine ax 6 ?_
     refine ax 7 ?_
     refine aJ (rs:=[8]) (by kernel_rfl) rfl (by kernel_rfl) ?_
     refine aB.cons rfl (fun K hK=>?_) aB.nil
     go_simp
     refine (gK (B:=B) (t:=y) (vs:=[_,_,_,_]) (RTm.below (AI _ _).drew hB8 HY8.out) hB8 HLE.out hl16).mono ?_
     rintro e w9 ⟨⟨A9,c9,rfl,hown⟩,hb9⟩
     have HOWN:Hid (TmOwn d w8.heap.size w9 y A9 c9):=AE hown
     have HB9:Hid (Below w8.heap.size w8 w9):=AE ((AI w8.heap.size w8).drew.trans hb9)
     have hsz9:=HB9.out.size
     clear hown hb9
     refine hK.out _ _ (HSL.out HB9.out) ?_
     clear hK
     refine aJ (rs:=[9]) (by kernel_rfl) rfl (by kernel_rfl) ?_
     refine aB.cons rfl (fun K hK=>?_) aB.nil
     go_simp
     refine hK.out _ _ (HSL.out (HB9.out.alloc hsz9 _)) ?_
     clear hK
     refine aJ (rs:=[10]) (by kernel_rfl) rfl (by kernel_rfl) ?_
     refine aB.cons rfl (fun K hK=>?_) aB.nil
     go_simp
     have HOT:Hid (aq SvR 29 (w9.alloc (.cells #[.int .i64 y.kind,.int .i64 y.n,.string y.s,.slice A9 y.l.length c9] 29)) w1.heap.size 0 (.slice At' b'.terms.length ct') xs):=AE (HTL.out▸(HST8.out.own.later (HB9.out.alloc hsz9 _) (AH _)))
     refine (vZ (xs:=xs) (y:=⟨y,A9,c9⟩) (ys:=#[.int .i64 y.kind,.int .i64 y.n,.string y.s,.slice A9 y.l.length c9]) (T:=29) (i:=q) HTL.out HOT.out (by rw [World.size_alloc];omega) (by omega) rfl (heap_alloc_new w9 _) (HTL.out▸HST8.out.own.fresh hsz9) hq8).mono ?_
     rintro e w10 ⟨A10,c10,rfl,hown,hg,hf⟩
     have happ:=(HST8.out.later (HB9.out.alloc hsz9 (.cells #[.int .i64 y.kind,.int .i64 y.n,.string y.s,.slice A9 y.l.length c9] 29))).put (x:=⟨y,A9,c9⟩) (zs:=cM xs q ⟨y,A9,c9⟩) (HOWN.out.at_.later ((AI _ _).alloc (AG _) _)) (HST8.out.apart (AG _) fun a ha=>(HOWN.out.blk a ha).1) (fun a ha=>⟨by have:=(HOWN.out.blk a ha).1;omega,by have:=(HOWN.out.blk a ha).2;rw [World.size_alloc];omega⟩) (by rw [World.size_alloc];omega) (fun u hu=>dv.1 hu) (by rw [bJ (by rw [HTL.out];exact hq8),HTL.out];exact hown) (by rw [HTL.out];exact hg) (by rw [bJ (by rw [HTL.out];exact hq8),HTL.out];exact hf)
     have HAP:=AE happ.1
     have HB10:Hid (Below w1.heap.size w8 w10):=AE (((HB9.out.alloc hsz9 _).mono (by omega)).trans happ.2)
     have HNM10:=AE ((HNM8.out.later (HB9.out.alloc hsz9 (.cells #[.int .i64 y.kind,.int .i64 y.n,.string y.s,.slice A9 y.l.length c9] 29)) (AH _)).grownN hg (pN (HNM8.out.later (HB9.out.alloc hsz9 (.cells #[.int .i64 y.kind,.int .i64 y.n,.string y.s,.slice A9 y.l.length c9] 29)) (AH _)) HOT.out (by decide)))
     have HBP10:=AE (HBP8.out.keep HB10.out (by omega))
     have HBF10:=AE (HBF8.out.keep HB10.out (by omega))
     have HBR10:=AE (HBR8.out.keep HB10.out (by omega))
     have HBB10:=AE (HBB8.out.keep HB10.out (by omega))
     have HBFL1:Hid (bf_<w1.heap.size):=AE (by have:=HBFB.out;omega)
     have f_o:=HBB10.out.free
     have k_o:=HBB10.out.cell
     have hsz10:=HB10.out.size
     clear hown hg hf happ
     refine hK.out _ _ (⟨HBB10.out.cell 1,HBF10.out.cell 1,(HB10.out.cell (p:=⟨bf_,_,none⟩) HBFL1.out).trans HYC8.out.1,(HB10.out.cell (p:=⟨bf_,_,none⟩) HBFL1.out).trans HYC8.out.2.1,(HB10.out.cell (p:=⟨bf_,_,none⟩) HBFL1.out).trans HYC8.out.2.2.1,(HB10.out.cell (p:=⟨bf_,_,none⟩) HBFL1.out).trans HYC8.out.2.2.2⟩) ?_
     clear hK
     refine ax 11 ?_
     refine eu (by kernel_rfl) (by kernel_rfl) rfl (fun K hK=>?_)
     go_simp
     refine hK.out _ _ ?_
     have HLKN:Hid (cZ b' (bs x.s)=none):=AE ((wH HOK.out).2 HM.out)
     have HNEW:Hid (xR b' x y=some (yF b' (bs x.s) y)):=AE (by unfold xR;rw [if_pos HK1.out,HLKN.out])
     have HL1:Hid ((yF b' (bs x.s) y).names.length=b'.names.length+1):=AE we
     have HL2:Hid ((yF b' (bs x.s) y).terms.length=b'.terms.length+1):=AE (bJ (HOK.out.len▸oh))
     have HNL:Hid (bs x.s∉b'.names):=HM
     have HNEWB:Hid (BdQ w1.heap.size d (w10.setCell ⟨w.heap.size+1+1,1,none⟩ (.slice A10 (b'.terms.length+1) c10)) (yF b' (bs x.s) y) (cM xs q ⟨y,A9,c9⟩) A7 c7 A10 c10):=AE (by
      have hlz:(cM xs q (⟨y,A9,c9⟩:SV)).length=b'.terms.length+1:=by rw [bJ (by rw [HTL.out];exact hq8),HTL.out]
      refine ⟨?_,?_,?_,fun u hu a ha g hg=>?_⟩
      ·rw [sB,HQ6.out.tms,←HQG.out];rfl
      ·rw [HL1.out]
       have e:(yF b' (bs x.s) y).names.map mkS=cM (b'.names.map mkS) q x.s:=by
        show (cM b'.names (iG b'.names (bs x.s)) (bs x.s)).map mkS=_
        rw [sB,HQG.out,mkS_bs]
       rw [e]
       exact HNM10.out.far (by omega) (AH _) _
      ·exact HAP.out.under (by omega) 1 _
      ·rcases dv.1 hu with rfl | hu
       ·have h1:=(HOWN.out.blk a ha).1
        have h2:=(HNM8.out.row_lt g hg).2
        omega
       ·exact HSEP7.out u hu a ha g hg)
     go_wp2_with fail
     go_roundw
     case rel=>exact ⟨k+1,yF b' (bs x.s) y,cM xs q ⟨y,A9,c9⟩,A7,c7,A10,c10,by omega,by go_num,by rw [HL1.out];omega,AE ((HB8.out.trans (HB10.out.mono (by omega))).setCell (p:=⟨w.heap.size+1+1,1,none⟩) (by show w.heap.size≤w.heap.size+1+1;omega) _),AE (by rw [World.size_setCell];omega),AE (HBP10.out.far (by omega) 1 _),AE (HBF10.out.far (by omega) 1 _),AE (by rw [HL1.out,HL2.out];exact HBB10.out.set_ 1 _),AE (HBR10.out.far (by omega) 1 _),HNEWB,AE (HOK.out.ins HM.out (yP HXM.out HK1.out) HYF.out),AE (HSOME.out _ HNEW.out)⟩
     case measure=>simp [intOf];omega
  ·have HRES:Hid (gZ p f b=okB (some b')):=AE (by rw [HR.out,←HFIT.out,yx k (by omega)])
   have k_b:=HBB.out.cell
   have l_b:=HBB.out.lt
   have hreads:=HBQ.out.reads (by omega) (by omega)
   have HRD:=AE hreads
   clear hreads
   go_wp2_with fail
   refine (dn (d:=d) (B:=wr.heap.size) (cn:=cn') (ct:=ct') HRD.out.1 HRD.out.2 (AG _)).mono ?_
   rintro e w5 ⟨rfl,hb⟩
   have HBB5:=AE (HBB.out.later hb)
   have HBR5:=AE (HBR.out.later hb)
   have HQ5:=AE (HBQ.out.later hb)
   have HB5:Hid (Below w.heap.size w w5):=AE (HWR.out.trans (hb.mono hszr))
   have HZ5:Hid (w1.heap.size≤w5.heap.size):=AE (AF HSZ.out hb.size)
   clear k_b l_b hb
   have k_b:=HBB5.out.cell
   have l_b:=HBB5.out.lt
   have k_r:=HBR5.out.cell
   have f_r:=HBR5.out.free
   have l_r:=HBR5.out.lt
   by_cases hbb:bG b'=true
   ·have HBD:=AE hbb
    rw [hbb]
    clear hbb
    go_wp2_with fail
    refine bodyPost_ret (jN rfl rfl (kB HBR5.out (.slice An' b'.names.length cn') (.slice At' b'.terms.length ct')) rfl) rfl ?_
    rw [HRES.out,show okB (some b')=some b' from by unfold okB;simp [HBD.out]]
    have hq:=((HQ5.out.under (g:=w.heap.size+1+1+1) (by omega) 0 (.slice An' b'.names.length cn')).under (g:=w.heap.size+1+1+1) (by omega) 1 (.slice At' b'.terms.length ct')).lower (b0:=w.heap.size) (by omega)
    exact ⟨⟨An',cn',At',ct',xs,rfl,hq⟩,kC HB5.out (by omega) _ _⟩
   ·have HBD:Hid (bG b'=false):=AE (by simpa using hbb)
    rw [HBD.out]
    clear hbb
    go_wp2_with fail
    refine bodyPost_ret (jN rfl rfl (kB HBR5.out (.slice none 0 0) (.slice none 0 0)) rfl) rfl ?_
    rw [HRES.out,show okB (some b')=none from by unfold okB;simp [HBD.out]]
    exact oG.no (kC HB5.out (by omega) _ _)
end Go.Proofs.YtjpndglegpcdnaaGreat
