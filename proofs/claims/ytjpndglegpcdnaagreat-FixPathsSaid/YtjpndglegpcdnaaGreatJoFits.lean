/- join.fits, join.One. -/
import Derived.Test.YtjpndglegpcdnaaGreatFc2
import Derived.Test.YtjpndglegpcdnaaGreatJoIns
set_option linter.unusedVariables false
set_option linter.unusedSimpArgs false
set_option maxRecDepth 100000
set_option maxHeartbeats 8000000
namespace Go.Proofs.YtjpndglegpcdnaaGreat
open Go.ChangeShapes Go.WideShapes Go.ChangeAt Go.RowKit
def noBd:Bd:=⟨[],[]⟩
def nH (d:Nat) (w w':World) (r:Option Bd) (z:Ending):Prop:=(∃An cn At ct xs,z=.returned (.tuple #[.agg #[.slice An (r.getD noBd).names.length cn,.slice At (r.getD noBd).terms.length ct],.bool r.isSome])∧BdQ w.heap.size d w' (r.getD noBd) xs An cn At ct)∧Below w.heap.size w w'
theorem nH.no {d:Nat} {w w':World} (h:Below w.heap.size w w'):nH d w w' none (.returned (.tuple #[.agg #[.slice none 0 0,.slice none 0 0],.bool false])):=
 ⟨⟨none,0,none,0,[],rfl,rfl,am.nil _ _ _ _ _,StkQ.nil _ _ _,fun u hu=>absurd hu (by simp)⟩,h⟩
theorem BdQ.lower {base b0 D:Nat} {w:World} {b:Bd} {xs:List SV} {An At:Option Addr} {cn ct:Nat} (h:BdQ base D w b xs An cn At ct) (hb:b0≤base):BdQ b0 D w b xs An cn At ct:=⟨h.tms,h.nm.lower hb,h.st.lower hb,h.sep⟩
theorem BdQ.reads {base D:Nat} {w:World} {b:Bd} {xs:List SV} {An At:Option Addr} {cn ct:Nat} (h:BdQ base D w b xs An cn At ct) (hn:b.names.length≤1000000) (ht:b.terms.length≤1000000):RL cR w w.heap.size (b.names.map mkS) An∧RL (TmR (D+1)) w w.heap.size b.terms At:=by
 obtain ⟨A3,c3,e3,_,_,r3⟩:=h.nm.reads (yp _) (by show (b.names.map mkS).length*(8*1)≤_;rw [yw];omega)
 simp only [yB] at e3
 obtain ⟨rfl,_,rfl⟩:=e3
 refine ⟨r3,?_⟩
 have:=h.st.rl (by rw [←yw SV.t,h.tms];exact ht)
 rwa [h.tms] at this
theorem BdQ.under {base D g:Nat} {w:World} {b:Bd} {xs:List SV} {An At:Option Addr} {cn ct:Nat} (h:BdQ base D w b xs An cn At ct) (hg:g<base) (i:Nat) (u:Value):BdQ base D (w.setCell ⟨g,i,none⟩ u) b xs An cn At ct:=
 ⟨h.tms,h.nm.far hg (yp _) u,h.st.under hg i u,h.sep⟩
theorem am.own_ge {α:Type} {R:Reader α} {e:TypeId} {w:World} {base B g:Nat} {v:Value} {xs:List α} (h:am R e w base B v xs) (hg:g<base):v.ownBlock≠some g:=by
 obtain ⟨cells,how,_⟩:=h
 intro e
 have:=(how.lt g e).1
 omega
theorem am.row_lt' {α:Type} {R:Reader α} {e:TypeId} {w:World} {base B:Nat} {v:Value} {xs:List α} (h:am R e w base B v xs):∀g,v.ownBlock=some g→base≤g∧g<w.heap.size:=by
 obtain ⟨cells,how,_⟩:=h
 exact fun g hg=>how.lt g hg
theorem BdQ.tlen {base D:Nat} {w:World} {b:Bd} {xs:List SV} {An At:Option Addr} {cn ct:Nat} (h:BdQ base D w b xs An cn At ct):xs.length=b.terms.length:=by rw [←h.tms,yw]
theorem rf {α β:Type} (f:α→β) (L:List α) (p:Nat) (x:α):(du L p x).map f=du (L.map f) p (f x):=by simp [du,List.map_take,List.map_drop]
theorem wu {d B cn ct:Nat} {p f:Pr} {b:Bd} {vp vf:List Value} {An At:Option Addr} {w:World} (hp:(PrR (d+1)).rd w B p vp) (hf:(PrR (d+1)).rd w B f vf) (hn:RL cR w B (b.names.map mkS) An) (ht:RL (TmR (d+1)) w B b.terms At)
 (hmp:aB p=true) (hmf:gr f=true) (hmb:bB b=true) (hB:B≤w.heap.size) :
 Calls Tryz.prog 97 #[.agg vp.toArray,.agg vf.toArray,.agg (bdV An b.names.length cn At b.terms.length ct)] w fun z w'=>nH d w w' (gF p f b) z:=by
 obtain ⟨_,rfl,hps,Ap,cp,rfl,hp1,hp2,hpl⟩:=hp
 obtain ⟨_,rfl,hfs,Af,cf,rfl,hf1,hf2,hfl⟩:=hf
 have HPL:=ym hpl
 have HFL:=ym hfl
 have HN:=ym hn
 have HT:=ym ht
 have HMP:=ym (fO hmp)
 have HMF:=ym (rT hmf)
 have HMB:=ym (dI.1 hmb)
 clear hpl hfl hn ht hmp hmf hmb
 have hp8:=HMP.out.1
 unfold bdV
 go_enter Tryz.func97,Tryz.ntmps97
 go_upto_region 1 with fail
 generalize hW:World.alloc _ _=w1
 obtain ⟨hb,hz⟩:=al4 hW
 have HBP1:=ym (n41 hW)
 have HBF1:=ym (n42 hW)
 have HBB1:=ym (n43 hW)
 have HBR1:=ym (n44 hW)
 have HB1:=ym hb
 have hsz1:=hb.size
 clear hW hb
 have hB1:=yn hB hsz1
 have k_p:=HBP1.out.cell
 have l_p:=HBP1.out.lt
 have k_f:=HBF1.out.cell
 have l_f:=HBF1.out.lt
 have k_b:=HBB1.out.cell
 have l_b:=HBB1.out.lt
 have k_r:=HBR1.out.cell
 have l_r:=HBR1.out.lt
 by_cases hname:p.name=f.name
 rotate_left
 ·have gn:(p.name.toList==f.name.toList)=false:=by
   rw [Bool.eq_false_iff];intro e;rw [iI] at e;exact hname (mf (of_decide_eq_true e))
  have HR:Hid (gF p f b=none):=ym (by unfold gF;rw [if_neg (fun h=>hname h.1)])
  have f_r:=HBR1.out.free
  go_wp2_with fail
  refine bodyPost_ret (jg rfl rfl (jO HBR1.out (.slice none 0 0) (.slice none 0 0)) rfl) rfl ?_
  rw [HR.out]
  exact nH.no (jP HB1.out (by omega) _ _)
 have gn:(p.name.toList==f.name.toList)=true:=by rw [iI,hname];simp
 have HNM:=ym hname
 clear hname
 by_cases hlen:p.terms.length=f.terms.length
 rotate_left
 ·have gl:((p.terms.length:Int) !=f.terms.length)=true:=by simp;omega
  have HR:Hid (gF p f b=none):=ym (by unfold gF;rw [if_neg (fun h=>hlen h.2)])
  have f_r:=HBR1.out.free
  clear hlen
  go_wp2_with fail
  refine bodyPost_ret (jg rfl rfl (jO HBR1.out (.slice none 0 0) (.slice none 0 0)) rfl) rfl ?_
  rw [HR.out]
  exact nH.no (jP HB1.out (by omega) _ _)
 have gl:((p.terms.length:Int) !=f.terms.length)=false:=by simp [hlen]
 have HLEN:=ym hlen
 have HR:Hid (gF p f b=okB (tM p.terms f.terms b)):=ym (by unfold gF;rw [if_pos ⟨HNM.out,HLEN.out⟩])
 clear hlen
 have h32:=HMB.out.2
 have ht32:b.terms.length≤32:=by rw [←HMB.out.1.len];exact h32
 go_upto_region 3 with fail
 go_upto_region 4 with ((
  go_at_call 123
  refine (tv (cn:=cn) (ct:=ct) (HN.out.keep HB1.out hB) (HT.out.keep HB1.out hB) HMB.out.1.fixed (by omega) (by omega) hB1).mono ?_
  rintro e w2 ⟨⟨An2,cn2,At2,ct2,xs0,rfl,hq⟩,hb⟩
  have HQ2:=ym hq
  have HB2:=ym hb
  have HBP2:=ym (HBP1.out.later hb)
  have HBF2:=ym (HBF1.out.later hb)
  have HBB2:=ym (HBB1.out.later hb)
  have HBR2:=ym (HBR1.out.later hb)
  have hsz2:=hb.size
  clear k_p k_f k_b k_r l_p l_f l_b l_r hq hb
  have k_b:=HBB2.out.cell
  have l_b:=HBB2.out.lt
  have f_b:=HBB2.out.free))
 have HB3:Hid (Below w.heap.size w ((w2.setCell ⟨w.heap.size+1+1,0,none⟩ (.slice An2 b.names.length cn2)).setCell ⟨w.heap.size+1+1,1,none⟩ (.slice At2 b.terms.length ct2))):=ym (jP (HB1.out.trans (HB2.out.mono hsz1)) (by omega) _ _)
 have HBB3:=ym (jO HBB2.out (.slice An2 b.names.length cn2) (.slice At2 b.terms.length ct2))
 have HBP3:=ym ((HBP2.out.far (c:=w.heap.size+1+1) (by omega) 0 (.slice An2 b.names.length cn2)).far (c:=w.heap.size+1+1) (by omega) 1 (.slice At2 b.terms.length ct2))
 have HBF3:=ym ((HBF2.out.far (c:=w.heap.size+1+1) (by omega) 0 (.slice An2 b.names.length cn2)).far (c:=w.heap.size+1+1) (by omega) 1 (.slice At2 b.terms.length ct2))
 have HBR3:=ym ((HBR2.out.far (c:=w.heap.size+1+1) (by omega) 0 (.slice An2 b.names.length cn2)).far (c:=w.heap.size+1+1) (by omega) 1 (.slice At2 b.terms.length ct2))
 have HQ3:=ym ((HQ2.out.under (g:=w.heap.size+1+1) (by omega) 0 (.slice An2 b.names.length cn2)).under (g:=w.heap.size+1+1) (by omega) 1 (.slice At2 b.terms.length ct2))
 clear k_b l_b f_b
 generalize (w2.setCell ⟨w.heap.size+1+1,0,none⟩ (.slice An2 b.names.length cn2)).setCell ⟨w.heap.size+1+1,1,none⟩ (.slice At2 b.terms.length ct2)=w3 at *
 have k_p:=HBP3.out.cell
 have l_p:=HBP3.out.lt
 go_upto_region 5 with fail
 clear k_p l_p
 go_loopw [32] (fun i wr=>∃(k:Nat) (b':Bd) (xs:List SV) (An':Option Addr) (cn':Nat) (At':Option Addr) (ct':Nat),k≤p.terms.length∧i=.int .i64 k∧b'.names.length≤32+k∧Hid (Below w.heap.size w wr)∧Hid (w1.heap.size≤wr.heap.size)∧Hid (Blk wr w.heap.size #[.string p.name,.slice Ap p.terms.length cp])∧Hid (Blk wr (w.heap.size+1) #[.string f.name,.slice Af f.terms.length cf])∧Hid (Blk wr (w.heap.size+1+1) #[.slice An' b'.names.length cn',.slice At' b'.terms.length ct'])∧Hid (Blk wr (w.heap.size+1+1+1) #[.slice none 0 0,.slice none 0 0])∧Hid (BdQ w1.heap.size d wr b' xs An' cn' At' ct')∧Hid (OkN b')∧Hid (tM (p.terms.drop k) (f.terms.drop k) b'=tM p.terms f.terms b)) (fun i _=>p.terms.length-(intOf i).toNat)
 case atStart=>exact ⟨0,b,xs0,An2,cn2,At2,ct2,yp _,rfl,by omega,HB3,ym (by have:=HBR3.out.lt;omega),HBP3,HBF3,HBB3,HBR3,HQ3,ym HMB.out.1,ym rfl⟩
 case round=>
  obtain ⟨k,b',xs,An',cn',At',ct',hk,rfl,hn32,HWR,HSZ,HBP,HBF,HBB,HBR,HBQ,HOK,HFIT⟩:=hrel
  have hszr:=HWR.out.size
  have hszw:=HSZ.out
  have hBr:B≤wr.heap.size:=by omega
  have ht32':b'.terms.length≤32+k:=by rw [←HOK.out.len];exact hn32
  by_cases hlt:k<p.terms.length
  ·have hlt2:k<f.terms.length:=by rw [←HLEN.out];exact hlt
   have HPL1:=ym (HPL.out.keep HWR.out hB)
   have HFL1:=ym (HFL.out.keep HWR.out hB)
   obtain ⟨bp_,offp,rfl,hobp⟩:=HPL1.out.base (yq _ _) hBr (by omega)
   obtain ⟨x,vs,hx,hlen,hcell,hr⟩:=HPL1.out.at_ (yq _ _) hBr hlt
   have HX:=ym hr
   obtain ⟨Ax,cx,rfl,g1,g2,g3,g4,g5,_⟩:=RTm.cells (show RTm wr B (d+1) x vs from hr)
   have c0:wr.cell? ⟨bp_,offp+k*4,none⟩=some (.int .i64 x.kind):=hcell 0 _ rfl
   have c1:wr.cell? ⟨bp_,offp+k*4+1,none⟩=some (.int .i64 x.n):=hcell 1 _ rfl
   have c2:wr.cell? ⟨bp_,offp+k*4+2,none⟩=some (.string x.s):=hcell 2 _ rfl
   have c3:wr.cell? ⟨bp_,offp+k*4+3,none⟩=some (.slice Ax x.l.length cx):=hcell 3 _ rfl
   have HXE:Hid (p.terms[k]=x):=ym (by rw [yy hlt] at hx;simpa using hx)
   have HXM:Hid (kc x=true):=ym (HMP.out.2 x (List.mem_of_getElem? hx))
   clear hcell hlen hx hr
   obtain ⟨bf_,offf,rfl,hobf⟩:=HFL1.out.base (yq _ _) hBr (by omega)
   obtain ⟨y,vs,hy,hlen,hcell,hr⟩:=HFL1.out.at_ (yq _ _) hBr hlt2
   have HY:=ym hr
   obtain ⟨Ay,cy,rfl,g6,g7,g8,g9,g10,_⟩:=RTm.cells (show RTm wr B (d+1) y vs from hr)
   have e0:wr.cell? ⟨bf_,offf+k*4,none⟩=some (.int .i64 y.kind):=hcell 0 _ rfl
   have e1:wr.cell? ⟨bf_,offf+k*4+1,none⟩=some (.int .i64 y.n):=hcell 1 _ rfl
   have e2:wr.cell? ⟨bf_,offf+k*4+2,none⟩=some (.string y.s):=hcell 2 _ rfl
   have e3:wr.cell? ⟨bf_,offf+k*4+3,none⟩=some (.slice Ay y.l.length cy):=hcell 3 _ rfl
   have HYC:Hid (wr.cell? ⟨bf_,offf+k*4,none⟩=some (.int .i64 y.kind)∧wr.cell? ⟨bf_,offf+k*4+1,none⟩=some (.int .i64 y.n)∧wr.cell? ⟨bf_,offf+k*4+2,none⟩=some (.string y.s)∧wr.cell? ⟨bf_,offf+k*4+3,none⟩=some (.slice Ay y.l.length cy)):=ym ⟨e0,e1,e2,e3⟩
   have HYE:Hid (f.terms[k]=y):=ym (by rw [yy hlt2] at hy;simpa using hy)
   have HYF:Hid (af y=true):=ym (HMF.out.2 y (List.mem_of_getElem? hy))
   have HSOME:Hid (∀c,vF b' x y=some c→tM (p.terms.drop (k+1)) (f.terms.drop (k+1)) c=tM p.terms f.terms b):=ym (fun c hc=>by rw [←HFIT.out,oq hlt hlt2,HXE.out,HYE.out,hc])
   have HNONE:Hid (vF b' x y=none→gF p f b=none):=ym (fun hc=>by rw [HR.out,←HFIT.out,oq hlt hlt2,HXE.out,HYE.out,hc];rfl)
   clear hcell hlen hy hr e0 e1 e2 e3
   go_upto_region 7 with fail
   generalize hW:World.alloc _ _=w4
   obtain ⟨hb4,hz4⟩:=al1 hW
   have HBT4:=ym (n11 hW)
   have HW4:=ym hb4
   have HBP4:=ym (HBP.out.later hb4)
   have HBF4:=ym (HBF.out.later hb4)
   have HBB4:=ym (HBB.out.later hb4)
   have HBR4:=ym (HBR.out.later hb4)
   have HQ4:=ym (HBQ.out.later hb4)
   have HB4:Hid (Below w.heap.size w w4):=ym (HWR.out.trans (hb4.mono hszr))
   have HX4:=ym (RTm.below hb4 hBr HX.out)
   have HY4:=ym (RTm.below hb4 hBr HY.out)
   have HYC4:Hid (w4.cell? ⟨bf_,offf+k*4,none⟩=some (.int .i64 y.kind)∧w4.cell? ⟨bf_,offf+k*4+1,none⟩=some (.int .i64 y.n)∧w4.cell? ⟨bf_,offf+k*4+2,none⟩=some (.string y.s)∧w4.cell? ⟨bf_,offf+k*4+3,none⟩=some (.slice Ay y.l.length cy)):=ym ⟨(hb4.cell (p:=⟨bf_,_,none⟩) hobf).trans HYC.out.1,(hb4.cell (p:=⟨bf_,_,none⟩) hobf).trans HYC.out.2.1,(hb4.cell (p:=⟨bf_,_,none⟩) hobf).trans HYC.out.2.2.1,(hb4.cell (p:=⟨bf_,_,none⟩) hobf).trans HYC.out.2.2.2⟩
   have hB4:B≤w4.heap.size:=by omega
   have hsz4:=hb4.size
   have hlq:=HBT4.out.lt
   have HLQ:=ym hlq
   have hof4:bf_<w4.heap.size:=by omega
   clear hW hb4 hz4 c0 c1 c2 c3
   have HRL:=ym (HQ4.out.reads (by omega) (by omega))
   have k_b:=HBB4.out.cell
   have l_b:=HBB4.out.lt
   have k_t:=HBT4.out.cell
   have l_t:=HBT4.out.lt
   go_upto_region 8 with ((
    go_at_call 117
    refine (gQ b'.names An' cn' w4.heap.size x.s w4 HRL.out.1 (yo _) (by omega) HOK.out.rise).mono ?_
    rintro e w5 ⟨rfl,rfl⟩))
   clear k_b l_b k_t l_t
   have HZ4:Hid (w1.heap.size≤w4.heap.size):=ym (by omega)
   have hq0:ia b'.names (bs x.s)≤b'.names.length:=nu
   have hI0:(0:Int)≤(k:Int):=Int.natCast_nonneg _
   have hI1:(k:Int)<(f.terms.length:Int):=by omega
   generalize hqg:ia b'.names (bs x.s)=q at hq0 ⊢
   have HQG:=ym hqg
   clear hqg
   by_cases hk1:x.kind=1
   rotate_left
   ·have g1:(x.kind !=1)=true:=by simpa using hk1
    have g2:(x.kind==1)=false:=by simpa using hk1
    have HK1:=ym hk1
    clear hk1
    by_cases hs:hJ x y=true
    ·have HS:=ym hs
     clear hs
     have q_t:=HBT4.out.regrown
     have q_f:=HBF4.out.regrown
     have q_b:=HBB4.out.regrown
     have r0:=cell_regrown HYC4.out.1
     have r1:=cell_regrown HYC4.out.2.1
     have r2:=cell_regrown HYC4.out.2.2.1
     have r3:=cell_regrown HYC4.out.2.2.2
     refine wp_region_quiet_below (by kernel_rfl) (by kernel_rfl) ?_
     repeat (go_big_quiet_step ((go_at_call 124;exact Calls.regrown_of (cV HS.out (eZ (d:=d+1) (d':=d+1) (B:=B) (a:=x) (b:=y) (vs:=[_,_,_,_]) (ws:=[_,_,_,_]) (RTm.below (below_regrown _ _ _) hB4 HX4.out) (RTm.below (below_regrown _ _ _) hB4 HY4.out) (yn hB4 (below_regrown _ _ _).size))))))
     refine wpQuiet_nil ?_
     intro w5 hw_
     have hb:Below w4.heap.size w4 w5:=by obtain ⟨p_,rfl⟩:=hw_;exact below_regrown _ _ _
     clear hw_ q_t q_f q_b r0 r1 r2 r3
     have HBP5:=ym (HBP4.out.later hb)
     have HBF5:=ym (HBF4.out.later hb)
     have HBB5:=ym (HBB4.out.later hb)
     have HBR5:=ym (HBR4.out.later hb)
     have HBT5:=ym (HBT4.out.later hb)
     have HQ5:=ym (HQ4.out.later hb)
     have HB5:Hid (Below w.heap.size w w5):=ym (HB4.out.trans (hb.mono HB4.out.size))
     have HZ5:Hid (w1.heap.size≤w5.heap.size):=ym (yn HZ4.out hb.size)
     have hB5:B≤w5.heap.size:=yn hB4 hb.size
     have hof5:bf_<w5.heap.size:=yr hof4 hb.size
     have HX5:=ym (RTm.below hb hB4 HX4.out)
     have HY5:=ym (RTm.below hb hB4 HY4.out)
     have HYC5:Hid (w5.cell? ⟨bf_,offf+k*4,none⟩=some (.int .i64 y.kind)∧w5.cell? ⟨bf_,offf+k*4+1,none⟩=some (.int .i64 y.n)∧w5.cell? ⟨bf_,offf+k*4+2,none⟩=some (.string y.s)∧w5.cell? ⟨bf_,offf+k*4+3,none⟩=some (.slice Ay y.l.length cy)):=ym ⟨(hb.cell (p:=⟨bf_,_,none⟩) hof4).trans HYC4.out.1,(hb.cell (p:=⟨bf_,_,none⟩) hof4).trans HYC4.out.2.1,(hb.cell (p:=⟨bf_,_,none⟩) hof4).trans HYC4.out.2.2.1,(hb.cell (p:=⟨bf_,_,none⟩) hof4).trans HYC4.out.2.2.2⟩
     have hsz5:=hb.size
     clear hb
     go_upto_region 10 with fail
     have q_t:=HBT5.out.regrown
     have q_f:=HBF5.out.regrown
     have q_b:=HBB5.out.regrown
     have r0:=cell_regrown HYC5.out.1
     have r1:=cell_regrown HYC5.out.2.1
     have r2:=cell_regrown HYC5.out.2.2.1
     have r3:=cell_regrown HYC5.out.2.2.2
     refine wp_region_quiet_below (by kernel_rfl) (by kernel_rfl) ?_
     repeat (go_big_quiet_step ((fail)))
     refine wpQuiet_nil ?_
     intro w6 hw_
     have hb:Below w5.heap.size w5 w6:=by obtain ⟨p_,rfl⟩:=hw_;exact below_regrown _ _ _
     clear hw_ q_t q_f q_b r0 r1 r2 r3
     have HBP6:=ym (HBP5.out.later hb)
     have HBF6:=ym (HBF5.out.later hb)
     have HBB6:=ym (HBB5.out.later hb)
     have HBR6:=ym (HBR5.out.later hb)
     have HBT6:=ym (HBT5.out.later hb)
     have HQ6:=ym (HQ5.out.later hb)
     have HB6:Hid (Below w.heap.size w w6):=ym (HB5.out.trans (hb.mono HB5.out.size))
     have HZ6:Hid (w1.heap.size≤w6.heap.size):=ym (yn HZ5.out hb.size)
     have hB6:B≤w6.heap.size:=yn hB5 hb.size
     have hof6:bf_<w6.heap.size:=yr hof5 hb.size
     have HX6:=ym (RTm.below hb hB5 HX5.out)
     have HY6:=ym (RTm.below hb hB5 HY5.out)
     have HYC6:Hid (w6.cell? ⟨bf_,offf+k*4,none⟩=some (.int .i64 y.kind)∧w6.cell? ⟨bf_,offf+k*4+1,none⟩=some (.int .i64 y.n)∧w6.cell? ⟨bf_,offf+k*4+2,none⟩=some (.string y.s)∧w6.cell? ⟨bf_,offf+k*4+3,none⟩=some (.slice Ay y.l.length cy)):=ym ⟨(hb.cell (p:=⟨bf_,_,none⟩) hof5).trans HYC5.out.1,(hb.cell (p:=⟨bf_,_,none⟩) hof5).trans HYC5.out.2.1,(hb.cell (p:=⟨bf_,_,none⟩) hof5).trans HYC5.out.2.2.1,(hb.cell (p:=⟨bf_,_,none⟩) hof5).trans HYC5.out.2.2.2⟩
     have hsz6:=hb.size
     clear hb
     have k_t:=HBT6.out.cell
     have l_t:=HBT6.out.lt
     go_wp2_with fail
     go_roundw
     case rel=>exact ⟨k+1,b',xs,An',cn',_,ct',by omega,by go_num,by omega,HB6,HZ6,HBP6,HBF6,HBB6,HBR6,HQ6,HOK,ym (HSOME.out _ (by unfold vF;rw [if_neg HK1.out,if_pos HS.out]))⟩
     case measure=>simp [intOf];omega
    ·have HS:Hid (hJ x y=false):=ym (by simpa using hs)
     clear hs
     have q_t:=HBT4.out.regrown
     have q_f:=HBF4.out.regrown
     have q_b:=HBB4.out.regrown
     have r0:=cell_regrown HYC4.out.1
     have r1:=cell_regrown HYC4.out.2.1
     have r2:=cell_regrown HYC4.out.2.2.1
     have r3:=cell_regrown HYC4.out.2.2.2
     refine wp_region_quiet_below (by kernel_rfl) (by kernel_rfl) ?_
     repeat (go_big_quiet_step ((go_at_call 124;exact Calls.regrown_of (cV HS.out (eZ (d:=d+1) (d':=d+1) (B:=B) (a:=x) (b:=y) (vs:=[_,_,_,_]) (ws:=[_,_,_,_]) (RTm.below (below_regrown _ _ _) hB4 HX4.out) (RTm.below (below_regrown _ _ _) hB4 HY4.out) (yn hB4 (below_regrown _ _ _).size))))))
     refine wpQuiet_nil ?_
     intro w5 hw_
     have hb:Below w4.heap.size w4 w5:=by obtain ⟨p_,rfl⟩:=hw_;exact below_regrown _ _ _
     clear hw_ q_t q_f q_b r0 r1 r2 r3
     have HBP5:=ym (HBP4.out.later hb)
     have HBF5:=ym (HBF4.out.later hb)
     have HBB5:=ym (HBB4.out.later hb)
     have HBR5:=ym (HBR4.out.later hb)
     have HBT5:=ym (HBT4.out.later hb)
     have HQ5:=ym (HQ4.out.later hb)
     have HB5:Hid (Below w.heap.size w w5):=ym (HB4.out.trans (hb.mono HB4.out.size))
     have HZ5:Hid (w1.heap.size≤w5.heap.size):=ym (yn HZ4.out hb.size)
     have hB5:B≤w5.heap.size:=yn hB4 hb.size
     have hof5:bf_<w5.heap.size:=yr hof4 hb.size
     have HX5:=ym (RTm.below hb hB4 HX4.out)
     have HY5:=ym (RTm.below hb hB4 HY4.out)
     have HYC5:Hid (w5.cell? ⟨bf_,offf+k*4,none⟩=some (.int .i64 y.kind)∧w5.cell? ⟨bf_,offf+k*4+1,none⟩=some (.int .i64 y.n)∧w5.cell? ⟨bf_,offf+k*4+2,none⟩=some (.string y.s)∧w5.cell? ⟨bf_,offf+k*4+3,none⟩=some (.slice Ay y.l.length cy)):=ym ⟨(hb.cell (p:=⟨bf_,_,none⟩) hof4).trans HYC4.out.1,(hb.cell (p:=⟨bf_,_,none⟩) hof4).trans HYC4.out.2.1,(hb.cell (p:=⟨bf_,_,none⟩) hof4).trans HYC4.out.2.2.1,(hb.cell (p:=⟨bf_,_,none⟩) hof4).trans HYC4.out.2.2.2⟩
     have hsz5:=hb.size
     clear hb
     have HNO:Hid (gF p f b=none):=ym (HNONE.out (by unfold vF;rw [if_neg HK1.out,if_neg (by rw [HS.out];simp)]))
     have k_r:=HBR5.out.cell
     have f_r:=HBR5.out.free
     have l_r:=HBR5.out.lt
     go_wp2_with fail
     refine bodyPost_ret (jg rfl rfl (jO HBR5.out (.slice none 0 0) (.slice none 0 0)) rfl) rfl ?_
     rw [HNO.out]
     exact nH.no (jP HB5.out (by omega) _ _)
   ·have g1:(x.kind !=1)=false:=by simpa using hk1
    have g2:(x.kind==1)=true:=by simpa using hk1
    have HK1:=ym hk1
    clear hk1
    have q_t:=HBT4.out.regrown
    have q_f:=HBF4.out.regrown
    have q_b:=HBB4.out.regrown
    have r0:=cell_regrown HYC4.out.1
    have r1:=cell_regrown HYC4.out.2.1
    have r2:=cell_regrown HYC4.out.2.2.1
    have r3:=cell_regrown HYC4.out.2.2.2
    refine wp_region_quiet_below (by kernel_rfl) (by kernel_rfl) ?_
    repeat (go_big_quiet_step ((fail)))
    refine wpQuiet_nil ?_
    intro w5 hw_
    have hb:Below w4.heap.size w4 w5:=by obtain ⟨p_,rfl⟩:=hw_;exact below_regrown _ _ _
    clear hw_ q_t q_f q_b r0 r1 r2 r3
    have HBP5:=ym (HBP4.out.later hb)
    have HBF5:=ym (HBF4.out.later hb)
    have HBB5:=ym (HBB4.out.later hb)
    have HBR5:=ym (HBR4.out.later hb)
    have HBT5:=ym (HBT4.out.later hb)
    have HQ5:=ym (HQ4.out.later hb)
    have HB5:Hid (Below w.heap.size w w5):=ym (HB4.out.trans (hb.mono HB4.out.size))
    have HZ5:Hid (w1.heap.size≤w5.heap.size):=ym (yn HZ4.out hb.size)
    have hB5:B≤w5.heap.size:=yn hB4 hb.size
    have hof5:bf_<w5.heap.size:=yr hof4 hb.size
    have HX5:=ym (RTm.below hb hB4 HX4.out)
    have HY5:=ym (RTm.below hb hB4 HY4.out)
    have HYC5:Hid (w5.cell? ⟨bf_,offf+k*4,none⟩=some (.int .i64 y.kind)∧w5.cell? ⟨bf_,offf+k*4+1,none⟩=some (.int .i64 y.n)∧w5.cell? ⟨bf_,offf+k*4+2,none⟩=some (.string y.s)∧w5.cell? ⟨bf_,offf+k*4+3,none⟩=some (.slice Ay y.l.length cy)):=ym ⟨(hb.cell (p:=⟨bf_,_,none⟩) hof4).trans HYC4.out.1,(hb.cell (p:=⟨bf_,_,none⟩) hof4).trans HYC4.out.2.1,(hb.cell (p:=⟨bf_,_,none⟩) hof4).trans HYC4.out.2.2.1,(hb.cell (p:=⟨bf_,_,none⟩) hof4).trans HYC4.out.2.2.2⟩
    have hsz5:=hb.size
    clear hb
    go_upto_region 10 with fail
    by_cases hm:bs x.s∈b'.names
    ·have hd:decide (bs x.s∈b'.names)=true:=by simpa using hm
     rw [hd]
     have HM:=ym hm
     have hqlt:q<b'.names.length:=by rw [←HQG.out];exact uJ hm
     have hqt:q<b'.terms.length:=by rw [←HOK.out.len];exact hqlt
     clear hm hd
     have HRL5:=ym (HQ5.out.reads (by omega) (by omega))
     obtain ⟨bz_,offz,rfl,hobz⟩:=HRL5.out.2.base (yq _ _) (yo _) (by omega)
     obtain ⟨z,vs,hz,hlen,hcell,hr⟩:=HRL5.out.2.at_ (yq _ _) (yo _) hqt
     have HZT:=ym hr
     obtain ⟨Az,cz,rfl,g11,g12,g13,g14,g15,_⟩:=RTm.cells (show RTm w5 w5.heap.size (d+1) z vs from hr)
     have z0:w5.cell? ⟨bz_,offz+q*4,none⟩=some (.int .i64 z.kind):=hcell 0 _ rfl
     have z1:w5.cell? ⟨bz_,offz+q*4+1,none⟩=some (.int .i64 z.n):=hcell 1 _ rfl
     have z2:w5.cell? ⟨bz_,offz+q*4+2,none⟩=some (.string z.s):=hcell 2 _ rfl
     have z3:w5.cell? ⟨bz_,offz+q*4+3,none⟩=some (.slice Az z.l.length cz):=hcell 3 _ rfl
     have HLK:Hid (cT b' (bs x.s)=some z):=ym (by unfold cT;rw [if_pos HM.out,HQG.out];exact hz)
     clear hcell hlen hr hz
     have hJ0:(0:Int)≤(q:Int):=Int.natCast_nonneg _
     have hJ1:(q:Int)<(b'.terms.length:Int):=by omega
     by_cases hs:hJ z y=true
     ·have HS:=ym hs
      clear hs
      have q_t:=HBT5.out.regrown
      have q_f:=HBF5.out.regrown
      have q_b:=HBB5.out.regrown
      have r0:=cell_regrown HYC5.out.1
      have r1:=cell_regrown HYC5.out.2.1
      have r2:=cell_regrown HYC5.out.2.2.1
      have r3:=cell_regrown HYC5.out.2.2.2
      have s0:=cell_regrown z0
      have s1:=cell_regrown z1
      have s2:=cell_regrown z2
      have s3:=cell_regrown z3
      clear z0 z1 z2 z3
      refine wp_region_quiet_below (by kernel_rfl) (by kernel_rfl) ?_
      repeat (go_big_quiet_step ((go_at_call 124;exact Calls.regrown_of (cV HS.out (eZ (d:=d+1) (d':=d+1) (B:=w5.heap.size) (a:=z) (b:=y) (vs:=[_,_,_,_]) (ws:=[_,_,_,_]) (RTm.below (below_regrown _ _ _) (yo _) HZT.out) (RTm.below (below_regrown _ _ _) (yo _) (RTm.more hB5 HY5.out)) (yn (yo _) (below_regrown _ _ _).size))))))
      refine wpQuiet_nil ?_
      intro w6 hw_
      have hb:Below w5.heap.size w5 w6:=by obtain ⟨p_,rfl⟩:=hw_;exact below_regrown _ _ _
      clear hw_ q_t q_f q_b r0 r1 r2 r3 s0 s1 s2 s3
      have HBP6:=ym (HBP5.out.later hb)
      have HBF6:=ym (HBF5.out.later hb)
      have HBB6:=ym (HBB5.out.later hb)
      have HBR6:=ym (HBR5.out.later hb)
      have HBT6:=ym (HBT5.out.later hb)
      have HQ6:=ym (HQ5.out.later hb)
      have HB6:Hid (Below w.heap.size w w6):=ym (HB5.out.trans (hb.mono HB5.out.size))
      have HZ6:Hid (w1.heap.size≤w6.heap.size):=ym (yn HZ5.out hb.size)
      have hB6:B≤w6.heap.size:=yn hB5 hb.size
      have hof6:bf_<w6.heap.size:=yr hof5 hb.size
      have HX6:=ym (RTm.below hb hB5 HX5.out)
      have HY6:=ym (RTm.below hb hB5 HY5.out)
      have HYC6:Hid (w6.cell? ⟨bf_,offf+k*4,none⟩=some (.int .i64 y.kind)∧w6.cell? ⟨bf_,offf+k*4+1,none⟩=some (.int .i64 y.n)∧w6.cell? ⟨bf_,offf+k*4+2,none⟩=some (.string y.s)∧w6.cell? ⟨bf_,offf+k*4+3,none⟩=some (.slice Ay y.l.length cy)):=ym ⟨(hb.cell (p:=⟨bf_,_,none⟩) hof5).trans HYC5.out.1,(hb.cell (p:=⟨bf_,_,none⟩) hof5).trans HYC5.out.2.1,(hb.cell (p:=⟨bf_,_,none⟩) hof5).trans HYC5.out.2.2.1,(hb.cell (p:=⟨bf_,_,none⟩) hof5).trans HYC5.out.2.2.2⟩
      have hsz6:=hb.size
      clear hb
      have k_t:=HBT6.out.cell
      have l_t:=HBT6.out.lt
      go_wp2_with fail
      go_roundw
      case rel=>exact ⟨k+1,b',xs,An',cn',_,ct',by omega,by go_num,by omega,HB6,HZ6,HBP6,HBF6,HBB6,HBR6,HQ6,HOK,ym (HSOME.out _ (by unfold vF;rw [if_pos HK1.out,HLK.out];simp [HS.out]))⟩
      case measure=>simp [intOf];omega
     ·have HS:Hid (hJ z y=false):=ym (by simpa using hs)
      clear hs
      have q_t:=HBT5.out.regrown
      have q_f:=HBF5.out.regrown
      have q_b:=HBB5.out.regrown
      have r0:=cell_regrown HYC5.out.1
      have r1:=cell_regrown HYC5.out.2.1
      have r2:=cell_regrown HYC5.out.2.2.1
      have r3:=cell_regrown HYC5.out.2.2.2
      have s0:=cell_regrown z0
      have s1:=cell_regrown z1
      have s2:=cell_regrown z2
      have s3:=cell_regrown z3
      clear z0 z1 z2 z3
      refine wp_region_quiet_below (by kernel_rfl) (by kernel_rfl) ?_
      repeat (go_big_quiet_step ((go_at_call 124;exact Calls.regrown_of (cV HS.out (eZ (d:=d+1) (d':=d+1) (B:=w5.heap.size) (a:=z) (b:=y) (vs:=[_,_,_,_]) (ws:=[_,_,_,_]) (RTm.below (below_regrown _ _ _) (yo _) HZT.out) (RTm.below (below_regrown _ _ _) (yo _) (RTm.more hB5 HY5.out)) (yn (yo _) (below_regrown _ _ _).size))))))
      refine wpQuiet_nil ?_
      intro w6 hw_
      have hb:Below w5.heap.size w5 w6:=by obtain ⟨p_,rfl⟩:=hw_;exact below_regrown _ _ _
      clear hw_ q_t q_f q_b r0 r1 r2 r3 s0 s1 s2 s3
      have HBP6:=ym (HBP5.out.later hb)
      have HBF6:=ym (HBF5.out.later hb)
      have HBB6:=ym (HBB5.out.later hb)
      have HBR6:=ym (HBR5.out.later hb)
      have HBT6:=ym (HBT5.out.later hb)
      have HQ6:=ym (HQ5.out.later hb)
      have HB6:Hid (Below w.heap.size w w6):=ym (HB5.out.trans (hb.mono HB5.out.size))
      have HZ6:Hid (w1.heap.size≤w6.heap.size):=ym (yn HZ5.out hb.size)
      have hB6:B≤w6.heap.size:=yn hB5 hb.size
      have hof6:bf_<w6.heap.size:=yr hof5 hb.size
      have HX6:=ym (RTm.below hb hB5 HX5.out)
      have HY6:=ym (RTm.below hb hB5 HY5.out)
      have HYC6:Hid (w6.cell? ⟨bf_,offf+k*4,none⟩=some (.int .i64 y.kind)∧w6.cell? ⟨bf_,offf+k*4+1,none⟩=some (.int .i64 y.n)∧w6.cell? ⟨bf_,offf+k*4+2,none⟩=some (.string y.s)∧w6.cell? ⟨bf_,offf+k*4+3,none⟩=some (.slice Ay y.l.length cy)):=ym ⟨(hb.cell (p:=⟨bf_,_,none⟩) hof5).trans HYC5.out.1,(hb.cell (p:=⟨bf_,_,none⟩) hof5).trans HYC5.out.2.1,(hb.cell (p:=⟨bf_,_,none⟩) hof5).trans HYC5.out.2.2.1,(hb.cell (p:=⟨bf_,_,none⟩) hof5).trans HYC5.out.2.2.2⟩
      have hsz6:=hb.size
      clear hb
      have HNO:Hid (gF p f b=none):=ym (HNONE.out (by unfold vF;rw [if_pos HK1.out,HLK.out];simp [HS.out]))
      have k_r:=HBR6.out.cell
      have f_r:=HBR6.out.free
      have l_r:=HBR6.out.lt
      go_wp2_with fail
      refine bodyPost_ret (jg rfl rfl (jO HBR6.out (.slice none 0 0) (.slice none 0 0)) rfl) rfl ?_
      rw [HNO.out]
      exact nH.no (jP HB6.out (by omega) _ _)
    ·have hd:decide (bs x.s∈b'.names)=false:=by simpa using hm
     rw [hd]
     have HM:=ym hm
     clear hm hd
     have q_t:=HBT5.out.regrown
     have q_f:=HBF5.out.regrown
     have q_b:=HBB5.out.regrown
     have r0:=cell_regrown HYC5.out.1
     have r1:=cell_regrown HYC5.out.2.1
     have r2:=cell_regrown HYC5.out.2.2.1
     have r3:=cell_regrown HYC5.out.2.2.2
     refine wp_region_quiet_below (by kernel_rfl) (by kernel_rfl) ?_
     repeat (go_big_quiet_step ((fail)))
     refine wpQuiet_nil ?_
     intro w6 hw_
     have hb:Below w5.heap.size w5 w6:=by obtain ⟨p_,rfl⟩:=hw_;exact below_regrown _ _ _
     clear hw_ q_t q_f q_b r0 r1 r2 r3
     have HBP6:=ym (HBP5.out.later hb)
     have HBF6:=ym (HBF5.out.later hb)
     have HBB6:=ym (HBB5.out.later hb)
     have HBR6:=ym (HBR5.out.later hb)
     have HBT6:=ym (HBT5.out.later hb)
     have HQ6:=ym (HQ5.out.later hb)
     have HB6:Hid (Below w.heap.size w w6):=ym (HB5.out.trans (hb.mono HB5.out.size))
     have HZ6:Hid (w1.heap.size≤w6.heap.size):=ym (yn HZ5.out hb.size)
     have hB6:B≤w6.heap.size:=yn hB5 hb.size
     have hof6:bf_<w6.heap.size:=yr hof5 hb.size
     have HX6:=ym (RTm.below hb hB5 HX5.out)
     have HY6:=ym (RTm.below hb hB5 HY5.out)
     have HYC6:Hid (w6.cell? ⟨bf_,offf+k*4,none⟩=some (.int .i64 y.kind)∧w6.cell? ⟨bf_,offf+k*4+1,none⟩=some (.int .i64 y.n)∧w6.cell? ⟨bf_,offf+k*4+2,none⟩=some (.string y.s)∧w6.cell? ⟨bf_,offf+k*4+3,none⟩=some (.slice Ay y.l.length cy)):=ym ⟨(hb.cell (p:=⟨bf_,_,none⟩) hof5).trans HYC5.out.1,(hb.cell (p:=⟨bf_,_,none⟩) hof5).trans HYC5.out.2.1,(hb.cell (p:=⟨bf_,_,none⟩) hof5).trans HYC5.out.2.2.1,(hb.cell (p:=⟨bf_,_,none⟩) hof5).trans HYC5.out.2.2.2⟩
     have hsz6:=hb.size
     clear hb
     have k_t:=HBT6.out.cell
     have l_t:=HBT6.out.lt
     have k_b:=HBB6.out.cell
     have l_b:=HBB6.out.lt
     go_upto_region 13 with fail
     have hnx:(b'.names.map mkS).length=b'.names.length:=yw _
     have HO6:=ym (HQ6.out.nm.later ((yq w6.heap.size w6).alloc (yo _) (.cells #[.string x.s] 9)) (yp _))
     have HST6:=ym (HQ6.out.st.later ((yq w6.heap.size w6).alloc (yo _) (.cells #[.string x.s] 9)))
     have HAL:=ym ((yq w6.heap.size w6).alloc (yo _) (.cells #[.string x.s] 9))
     go_upto_region 14 with ((
      go_at_call 125
      refine (sb (xs:=b'.names.map mkS) (y:=x.s) (ys:=#[.string x.s]) (T:=9) (i:=q) hnx HO6.out (by rw [World.size_alloc];omega) (by omega) ⟨rfl,by omega⟩ (heap_alloc_new w6 _) (HQ6.out.nm.fresh (yo _)) hq0).mono ?_
      rintro e w7 ⟨A7,c7,rfl,hown,hg,hf⟩
      have HO7:=ym hown
      have HF7:=ym hf
      have HG7:=ym hg
      have HST7:=ym (HST6.out.grownN hg (fun u hu a ha e=>by
       rcases hA:An' with _ | g
       ·rw [hA] at e;cases e
       ·rw [hA] at e
        simp only [Value.ownBlock,yz] at e
        exact HQ6.out.sep u hu a ha g hA e) (oN HST6.out.own HO6.out (by decide)))
      have HAG:Hid (Below w6.heap.size w6 w7∨True):=ym (.inr trivial)
      have hgrow:∀{n:Nat} {cs:Array Value},Blk w6 n cs→n<w1.heap.size→Blk w7 n cs:=fun h hn=>(h.later HAL.out).grown hg (am.own_ge HQ6.out.nm hn).symm
      have HBP7:=ym (hgrow HBP6.out (by omega))
      have HBF7:=ym (hgrow HBF6.out (by omega))
      have HBB7:=ym (hgrow HBB6.out (by omega))
      have HBR7:=ym (hgrow HBR6.out (by omega))
      have HB67:Hid (Below w.heap.size w6 w7):=ym (((HAL.out.mono HB6.out.size).trans (Below.grown (yq w.heap.size (w6.alloc (.cells #[.string x.s] 9))) hg (by rw [World.size_alloc];have:=HB6.out.size;omega) (fun k' hk'=>by have:=(HO6.out.row_lt' k' hk').1;omega))))
      have HB7:=ym (HB6.out.trans HB67.out)
      have hsz7:w6.heap.size<w7.heap.size:=by have:=hg.size;rw [World.size_alloc] at this;omega
      clear k_t l_t k_b l_b hgrow hown hg hf
      have k_b:=HBB7.out.cell
      have l_b:=HBB7.out.lt
      have f_b:=HBB7.out.free))
     clear k_b l_b f_b
     have HSEP7:Hid (∀u∈xs,∀a,u.a=some a→∀g,A7=some g→a.block≠g.block):=ym (fun u hu a ha g hg e=>by
      have hl:=(HQ6.out.st.lt u hu a ha).2
      rcases HF7.out with h1 | ⟨n7,h1,h2⟩
      ·rw [hg] at h1
       rcases hA:An' with _ | g2
       ·rw [hA] at h1;cases h1
       ·rw [hA] at h1
        simp only [Value.ownBlock,yz] at h1
        exact HQ6.out.sep u hu a ha g2 hA (e.trans h1)
      ·rw [hg] at h1
       simp only [Value.ownBlock,yz] at h1
       rw [World.size_alloc] at h2
       omega)
     have HBP8:=ym (HBP7.out.far (c:=w.heap.size+1+1) (by omega) 0 (.slice A7 (b'.names.length+1) c7))
     have HBF8:=ym (HBF7.out.far (c:=w.heap.size+1+1) (by omega) 0 (.slice A7 (b'.names.length+1) c7))
     have HBR8:=ym (HBR7.out.far (c:=w.heap.size+1+1) (by omega) 0 (.slice A7 (b'.names.length+1) c7))
     have HBB8:Hid (Blk (w7.setCell ⟨w.heap.size+1+1,0,none⟩ (.slice A7 (b'.names.length+1) c7)) (w.heap.size+1+1) #[.slice A7 (b'.names.length+1) c7,.slice At' b'.terms.length ct']):=ym (HBB7.out.set_ 0 _)
     have HB8:=ym (HB7.out.setCell (p:=⟨w.heap.size+1+1,0,none⟩) (by show w.heap.size≤w.heap.size+1+1;omega) (.slice A7 (b'.names.length+1) c7))
     have HB68:=ym (HB67.out.setCell (p:=⟨w.heap.size+1+1,0,none⟩) (by show w.heap.size≤w.heap.size+1+1;omega) (.slice A7 (b'.names.length+1) c7))
     have HNM8:=ym (HO7.out.far (c:=w.heap.size+1+1) (i:=0) (by omega) (yp _) (.slice A7 (b'.names.length+1) c7))
     have HST8:=ym (HST7.out.under (g:=w.heap.size+1+1) (by omega) 0 (.slice A7 (b'.names.length+1) c7))
     have hsz8:w6.heap.size<(w7.setCell ⟨w.heap.size+1+1,0,none⟩ (.slice A7 (b'.names.length+1) c7)).heap.size:=by rw [World.size_setCell];exact hsz7
     have hw68:=HZ6.out
     clear HBP7 HBF7 HBR7 HBB7 HB7 HB67 HO7 HST7 hsz7 HAG
     generalize w7.setCell ⟨w.heap.size+1+1,0,none⟩ (.slice A7 (b'.names.length+1) c7)=w8 at *
     have HBFB:Hid (bf_<B):=ym (by
      obtain ⟨b_,o_,e,hb,_⟩:=HFL.out (by omega)
      simp only [yz,Addr.mk.injEq] at e
      omega)
     have hB8:B≤w8.heap.size:=by omega
     have HY8:=ym (RTm.below HB68.out hB HY6.out)
     have HYC8:Hid (w8.cell? ⟨bf_,offf+k*4,none⟩=some (.int .i64 y.kind)∧w8.cell? ⟨bf_,offf+k*4+1,none⟩=some (.int .i64 y.n)∧w8.cell? ⟨bf_,offf+k*4+2,none⟩=some (.string y.s)∧w8.cell? ⟨bf_,offf+k*4+3,none⟩=some (.slice Ay y.l.length cy)):=ym (have hl:bf_<w.heap.size:=yr HBFB.out hB;⟨(HB68.out.cell (p:=⟨bf_,_,none⟩) hl).trans HYC6.out.1,(HB68.out.cell (p:=⟨bf_,_,none⟩) hl).trans HYC6.out.2.1,(HB68.out.cell (p:=⟨bf_,_,none⟩) hl).trans HYC6.out.2.2.1,(HB68.out.cell (p:=⟨bf_,_,none⟩) hl).trans HYC6.out.2.2.2⟩)
     obtain ⟨hle,hl16⟩:=aJ HYF.out
     have HLE:=ym hle
     clear hle
     have HTL:Hid (xs.length=b'.terms.length):=ym HQ6.out.tlen
     have hq8:q≤b'.terms.length:=by rw [←HOK.out.len];exact hq0
     have HBFL:Hid (bf_<w8.heap.size):=ym (yr HBFB.out hB8)
     have HSL:Hid (∀{w':World},Below w8.heap.size w8 w'→(w'.cell? ⟨w.heap.size+1+1,1,none⟩=some (.slice At' b'.terms.length ct')∧w'.cell? ⟨w.heap.size+1,1,none⟩=some (.slice (some ⟨bf_,offf,none⟩) f.terms.length cf)∧w'.cell? ⟨bf_,offf+k*4,none⟩=some (.int .i64 y.kind)∧w'.cell? ⟨bf_,offf+k*4+1,none⟩=some (.int .i64 y.n)∧w'.cell? ⟨bf_,offf+k*4+2,none⟩=some (.string y.s)∧w'.cell? ⟨bf_,offf+k*4+3,none⟩=some (.slice Ay y.l.length cy))):=ym (fun hb=>⟨(HBB8.out.later hb).cell 1,(HBF8.out.later hb).cell 1,(hb.cell (p:=⟨bf_,_,none⟩) HBFL.out).trans HYC8.out.1,(hb.cell (p:=⟨bf_,_,none⟩) HBFL.out).trans HYC8.out.2.1,(hb.cell (p:=⟨bf_,_,none⟩) HBFL.out).trans HYC8.out.2.2.1,(hb.cell (p:=⟨bf_,_,none⟩) HBFL.out).trans HYC8.out.2.2.2⟩)
     refine bj (S:=fun w'=>w'.cell? ⟨w.heap.size+1+1,1,none⟩=some (.slice At' b'.terms.length ct')∧w'.cell? ⟨w.heap.size+1,1,none⟩=some (.slice (some ⟨bf_,offf,none⟩) f.terms.length cf)∧w'.cell? ⟨bf_,offf+k*4,none⟩=some (.int .i64 y.kind)∧w'.cell? ⟨bf_,offf+k*4+1,none⟩=some (.int .i64 y.n)∧w'.cell? ⟨bf_,offf+k*4+2,none⟩=some (.string y.s)∧w'.cell? ⟨bf_,offf+k*4+3,none⟩=some (.slice Ay y.l.length cy)) 12 (by kernel_rfl) (by kernel_rfl) (by kernel_rfl) (by kernel_rfl) (HSL.out (yq _ _).drew) ?_
     refine av 0 ?_
     refine av 1 ?_
     refine av 2 ?_
     refine av 3 ?_
     refine av 4 ?_
     refine av 5 ?_
     refine av 6 ?_
     refine av 7 ?_
     refine aF (rs:=[8]) (by kernel_rfl) rfl (by kernel_rfl) ?_
     refine ay.cons rfl (fun K hK=>?_) ay.nil
     go_simp
     refine (gj (B:=B) (t:=y) (vs:=[_,_,_,_]) (RTm.below (yq _ _).drew hB8 HY8.out) hB8 HLE.out hl16).mono ?_
     rintro e w9 ⟨⟨A9,c9,rfl,hown⟩,hb9⟩
     have HOWN:Hid (TmOwn d w8.heap.size w9 y A9 c9):=ym hown
     have HB9:Hid (Below w8.heap.size w8 w9):=ym ((yq w8.heap.size w8).drew.trans hb9)
     have hsz9:=HB9.out.size
     clear hown hb9
     refine hK.out _ _ (HSL.out HB9.out) ?_
     clear hK
     refine aF (rs:=[9]) (by kernel_rfl) rfl (by kernel_rfl) ?_
     refine ay.cons rfl (fun K hK=>?_) ay.nil
     go_simp
     refine hK.out _ _ (HSL.out (HB9.out.alloc hsz9 _)) ?_
     clear hK
     refine aF (rs:=[10]) (by kernel_rfl) rfl (by kernel_rfl) ?_
     refine ay.cons rfl (fun K hK=>?_) ay.nil
     go_simp
     have HOT:Hid (am SvR 29 (w9.alloc (.cells #[.int .i64 y.kind,.int .i64 y.n,.string y.s,.slice A9 y.l.length c9] 29)) w1.heap.size 0 (.slice At' b'.terms.length ct') xs):=ym (HTL.out▸(HST8.out.own.later (HB9.out.alloc hsz9 _) (yp _)))
     refine (ub (xs:=xs) (y:=⟨y,A9,c9⟩) (ys:=#[.int .i64 y.kind,.int .i64 y.n,.string y.s,.slice A9 y.l.length c9]) (T:=29) (i:=q) HTL.out HOT.out (by rw [World.size_alloc];omega) (by omega) rfl (heap_alloc_new w9 _) (HTL.out▸HST8.out.own.fresh hsz9) hq8).mono ?_
     rintro e w10 ⟨A10,c10,rfl,hown,hg,hf⟩
     have happ:=(HST8.out.later (HB9.out.alloc hsz9 (.cells #[.int .i64 y.kind,.int .i64 y.n,.string y.s,.slice A9 y.l.length c9] 29))).put (x:=⟨y,A9,c9⟩) (zs:=du xs q ⟨y,A9,c9⟩) (HOWN.out.at_.later ((yq _ _).alloc (yo _) _)) (HST8.out.apart (yo _) fun a ha=>(HOWN.out.blk a ha).1) (fun a ha=>⟨by have:=(HOWN.out.blk a ha).1;omega,by have:=(HOWN.out.blk a ha).2;rw [World.size_alloc];omega⟩) (by rw [World.size_alloc];omega) (fun u hu=>el.1 hu) (by rw [bF (by rw [HTL.out];exact hq8),HTL.out];exact hown) (by rw [HTL.out];exact hg) (by rw [bF (by rw [HTL.out];exact hq8),HTL.out];exact hf)
     have HAP:=ym happ.1
     have HB10:Hid (Below w1.heap.size w8 w10):=ym (((HB9.out.alloc hsz9 _).mono (by omega)).trans happ.2)
     have HNM10:=ym ((HNM8.out.later (HB9.out.alloc hsz9 (.cells #[.int .i64 y.kind,.int .i64 y.n,.string y.s,.slice A9 y.l.length c9] 29)) (yp _)).grownN hg (oN (HNM8.out.later (HB9.out.alloc hsz9 (.cells #[.int .i64 y.kind,.int .i64 y.n,.string y.s,.slice A9 y.l.length c9] 29)) (yp _)) HOT.out (by decide)))
     have HBP10:=ym (HBP8.out.keep HB10.out (by omega))
     have HBF10:=ym (HBF8.out.keep HB10.out (by omega))
     have HBR10:=ym (HBR8.out.keep HB10.out (by omega))
     have HBB10:=ym (HBB8.out.keep HB10.out (by omega))
     have HBFL1:Hid (bf_<w1.heap.size):=ym (by have:=HBFB.out;omega)
     have f_o:=HBB10.out.free
     have k_o:=HBB10.out.cell
     have hsz10:=HB10.out.size
     clear hown hg hf happ
     refine hK.out _ _ (⟨HBB10.out.cell 1,HBF10.out.cell 1,(HB10.out.cell (p:=⟨bf_,_,none⟩) HBFL1.out).trans HYC8.out.1,(HB10.out.cell (p:=⟨bf_,_,none⟩) HBFL1.out).trans HYC8.out.2.1,(HB10.out.cell (p:=⟨bf_,_,none⟩) HBFL1.out).trans HYC8.out.2.2.1,(HB10.out.cell (p:=⟨bf_,_,none⟩) HBFL1.out).trans HYC8.out.2.2.2⟩) ?_
     clear hK
     refine av 11 ?_
     refine dZ (by kernel_rfl) (by kernel_rfl) rfl (fun K hK=>?_)
     go_simp
     refine hK.out _ _ ?_
     have HLKN:Hid (cT b' (bs x.s)=none):=ym ((ut HOK.out).2 HM.out)
     have HNEW:Hid (vF b' x y=some (wD b' (bs x.s) y)):=ym (by unfold vF;rw [if_pos HK1.out,HLKN.out])
     have HL1:Hid ((wD b' (bs x.s) y).names.length=b'.names.length+1):=ym uc
     have HL2:Hid ((wD b' (bs x.s) y).terms.length=b'.terms.length+1):=ym (bF (HOK.out.len▸nu))
     have HNL:Hid (bs x.s∉b'.names):=HM
     have HNEWB:Hid (BdQ w1.heap.size d (w10.setCell ⟨w.heap.size+1+1,1,none⟩ (.slice A10 (b'.terms.length+1) c10)) (wD b' (bs x.s) y) (du xs q ⟨y,A9,c9⟩) A7 c7 A10 c10):=ym (by
      have hlz:(du xs q (⟨y,A9,c9⟩:SV)).length=b'.terms.length+1:=by rw [bF (by rw [HTL.out];exact hq8),HTL.out]
      refine ⟨?_,?_,?_,fun u hu a ha g hg=>?_⟩
      ·rw [rf,HQ6.out.tms,←HQG.out];rfl
      ·rw [HL1.out]
       have e:(wD b' (bs x.s) y).names.map mkS=du (b'.names.map mkS) q x.s:=by
        show (du b'.names (ia b'.names (bs x.s)) (bs x.s)).map mkS=_
        rw [rf,HQG.out,mkS_bs]
       rw [e]
       exact HNM10.out.far (by omega) (yp _) _
      ·exact HAP.out.under (by omega) 1 _
      ·rcases el.1 hu with rfl | hu
       ·have h1:=(HOWN.out.blk a ha).1
        have h2:=(HNM8.out.row_lt g hg).2
        omega
       ·exact HSEP7.out u hu a ha g hg)
     go_wp2_with fail
     go_roundw
     case rel=>exact ⟨k+1,wD b' (bs x.s) y,du xs q ⟨y,A9,c9⟩,A7,c7,A10,c10,by omega,by go_num,by rw [HL1.out];omega,ym ((HB8.out.trans (HB10.out.mono (by omega))).setCell (p:=⟨w.heap.size+1+1,1,none⟩) (by show w.heap.size≤w.heap.size+1+1;omega) _),ym (by rw [World.size_setCell];omega),ym (HBP10.out.far (by omega) 1 _),ym (HBF10.out.far (by omega) 1 _),ym (by rw [HL1.out,HL2.out];exact HBB10.out.set_ 1 _),ym (HBR10.out.far (by omega) 1 _),HNEWB,ym (HOK.out.ins HM.out (wO HXM.out HK1.out) HYF.out),ym (HSOME.out _ HNEW.out)⟩
     case measure=>simp [intOf];omega
  ·have HRES:Hid (gF p f b=okB (some b')):=ym (by rw [HR.out,←HFIT.out,wl k (by omega)])
   have k_b:=HBB.out.cell
   have l_b:=HBB.out.lt
   have hreads:=HBQ.out.reads (by omega) (by omega)
   have HRD:=ym hreads
   clear hreads
   go_wp2_with fail
   refine (de (d:=d) (B:=wr.heap.size) (cn:=cn') (ct:=ct') HRD.out.1 HRD.out.2 (yo _)).mono ?_
   rintro e w5 ⟨rfl,hb⟩
   have HBB5:=ym (HBB.out.later hb)
   have HBR5:=ym (HBR.out.later hb)
   have HQ5:=ym (HBQ.out.later hb)
   have HB5:Hid (Below w.heap.size w w5):=ym (HWR.out.trans (hb.mono hszr))
   have HZ5:Hid (w1.heap.size≤w5.heap.size):=ym (yn HSZ.out hb.size)
   clear k_b l_b hb
   have k_b:=HBB5.out.cell
   have l_b:=HBB5.out.lt
   have k_r:=HBR5.out.cell
   have f_r:=HBR5.out.free
   have l_r:=HBR5.out.lt
   by_cases hbb:bB b'=true
   ·have HBD:=ym hbb
    rw [hbb]
    clear hbb
    go_wp2_with fail
    refine bodyPost_ret (jg rfl rfl (jO HBR5.out (.slice An' b'.names.length cn') (.slice At' b'.terms.length ct')) rfl) rfl ?_
    rw [HRES.out,show okB (some b')=some b' from by unfold okB;simp [HBD.out]]
    have hq:=((HQ5.out.under (g:=w.heap.size+1+1+1) (by omega) 0 (.slice An' b'.names.length cn')).under (g:=w.heap.size+1+1+1) (by omega) 1 (.slice At' b'.terms.length ct')).lower (b0:=w.heap.size) (by omega)
    exact ⟨⟨An',cn',At',ct',xs,rfl,hq⟩,jP HB5.out (by omega) _ _⟩
   ·have HBD:Hid (bB b'=false):=ym (by simpa using hbb)
    rw [HBD.out]
    clear hbb
    go_wp2_with fail
    refine bodyPost_ret (jg rfl rfl (jO HBR5.out (.slice none 0 0) (.slice none 0 0)) rfl) rfl ?_
    rw [HRES.out,show okB (some b')=none from by unfold okB;simp [HBD.out]]
    exact nH.no (jP HB5.out (by omega) _ _)
end Go.Proofs.YtjpndglegpcdnaaGreat
