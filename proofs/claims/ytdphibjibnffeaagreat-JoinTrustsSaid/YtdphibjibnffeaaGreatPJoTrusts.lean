/- JoinTrusts: for every input the call returns true, and each argument reads afterwards as it read before. No conditions: every input of the given row. -/
import Derived.Test.YtdphibjibnffeaaGreatRef1
import Derived.Test.YtdphibjibnffeaaGreatMade
import Derived.Test.YtdphibjibnffeaaGreatOpen
import Derived.Test.YtdphibjibnffeaaGreatFc1
import Derived.HandedShaped
import Derived.Shelf.Vars
import Derived.ChangeMaps5
import Derived.Test.YtdphibjibnffeaaGreatRows
import Derived.ProofKit
set_option linter.unusedVariables false
set_option linter.unusedSimpArgs false
set_option maxRecDepth 100000
set_option maxHeartbeats 8000000
namespace Go.Proofs.YtdphibjibnffeaaGreat
open Go.ChangeShapes Go.WideShapes Go.ChangeAt Go.RowKit
theorem uh {d base B n c:Nat} {w:World} {zs:List FV} {A:Option Addr} (ho:aq FvR 33 w base 0 (.slice A n c) zs) (hd:∀z∈zs,(aB (d+1)).rd w B z.f z.cs) (hB:B≤w.heap.size) (hn:zs.length≤1000000):RL (aB (d+1)) w w.heap.size (zs.map FV.f) A:=by
 obtain ⟨A3,c3,e3,h1,h2,r3⟩:=ho.reads (Nat.zero_le _) (by show zs.length*(8*3)≤_;omega)
 simp only [Value.slice.injEq] at e3
 obtain ⟨rfl,_,rfl⟩:=e3
 intro h0
 rw [List.length_map] at h0
 obtain ⟨b,off,e,hb,hc⟩:=r3 h0
 refine ⟨b,off,e,hb,fun i hi=>?_⟩
 rw [List.length_map] at hi
 obtain ⟨vs,hl,⟨x,hx,hr⟩,hv⟩:=hc i hi
 obtain rfl:vs=x.cs:=hr
 exact ⟨x.cs,hl,⟨x.f,by rw [List.getElem?_map,hx];rfl,(aB (d+1)).wide hB (hd x (List.mem_of_getElem? hx))⟩,hv⟩
theorem vY (f:Fc):dw 4294967295 f=false:=by
 have h:bits .andNot .u32 f.o 4294967295=0:=by
  show IntKind.u32.wrap ((BitVec.ofInt 32 f.o &&& ~~~BitVec.ofInt 32 4294967295).toNat:Int)=0
  have e : ~~~(BitVec.ofInt 32 4294967295)=0#32:=by decide
  rw [e,BitVec.and_zero];rfl
 unfold dw
 rw [h];rfl
theorem jQ {α:Type} {l:List α} {k:Nat} {x:α} {p:α→Bool} (h:l[k]? = some x):(l.take (k+1)).filter p=(l.take k).filter p++(if p x=true then [x] else []):=by
 obtain ⟨hk,rfl⟩:=List.getElem?_eq_some_iff.1 h
 rw [List.take_succ_eq_append_getElem hk,List.filter_append]
 congr 1
 by_cases h1:p l[k]=true
 ·rw [if_pos h1,List.filter_cons_of_pos h1];rfl
 ·rw [if_neg h1,List.filter_cons_of_neg h1];rfl
theorem tJ {l:List Fc} {tr:Int} {r:Ru} (hl:∀f∈l,wo f):aT (stL (l.filter fun f=>!dw tr f)) 4294967295 r=aT (stL l) tr r:=by
 rw [rj hl,←lj]
 exact fun f _=>vY f
theorem own_len {w:World} {base B n c:Nat} {L:List AnV} {e:TypeId} {A:Option Addr} (h:aq jh e w base B (.slice A n c) L):L.length≤9223372036854775807:=by
 rcases A with _ | a
 ·rw [(aq.none_nil h).1];simp
 ·obtain ⟨_,_,h1,h2⟩:=aq.some_row h;omega
theorem wC {d:Nat} {w w':World} {L:List AnV} {A:Option Addr} {c:Nat} (hd:∀y∈L,gF (fun k=>(Value.slice A L.length c).ownBlock=some k) w (fun w'=>(kX (d+1)).rd w' w'.heap.size y.x y.cs)) (hb:Below w.heap.size w w') {k:Nat} (hk:k<L.length):(kX (d+1)).rd w' w'.heap.size L[k].x L[k].cs:=
 ((hd L[k] (List.getElem_mem hk)).later hb).here
theorem ma {d B c:Nat} {l:List Fc} {A:Option Addr} {r:Ru} {vr:List Value} {tr m:Int} {w:World} (HAW:∀w1:World,Below w.heap.size w w1→Calls Tryz.prog 16 #[] w1 fun z w'=>z=.returned (.bool true)∧Below w1.heap.size w1 w')
 (hl:RL (aB (d+1)) w B l A) (hn0:l.length*(8*3)≤140737488351232) (hr:(RuR (d+1)).rd w B r vr) (htr:U32 tr) (hB:B≤w.heap.size) (hm:w.cell? ⟨0,0,none⟩=some (.int .i64 m)) (hp:0<w.heap.size) :
 Calls Tryz.prog 4 #[.slice A l.length c,.agg vr.toArray,.int .u32 tr] w fun z w'=>z=.returned (.bool true)∧Below w.heap.size w w':=by
 have hn:l.length≤140737488351232:=by omega
 clear hn0 htr
 have HAWH:=Lib.hid HAW
 have HL:=Lib.hid hl
 have HR:=Lib.hid hr
 have HM:=Lib.hid hm
 clear HAW hl hm
 obtain ⟨i0,hi0,hz0,hz1,hz2⟩:=info_parts fZ
 obtain ⟨_,_,_,_,rfl,_,⟨A0,c0,rfl,_⟩,⟨A1,c1,rfl,_⟩,⟨A2,c2,rfl,_⟩,⟨A3,c3,rfl,_⟩⟩:=hr
 go_enter Tryz.func4,Tryz.ntmps4
 go_upto_region 1 with fail
 generalize hW:World.alloc _ _=w1
 obtain ⟨hb1,hz⟩:=al1 hW
 have HK1:=Lib.hid (n11 hW)
 have HB1:=Lib.hid hb1
 have hsz1:=hb1.size
 clear hW hb1 hz
 have k_r:=HK1.out.cell
 have l_r:=HK1.out.lt
 go_wp2_with fail
 refine (tB (d:=d) (B:=B) (l:=l) (r:=r) (vr:=[_,_,_,_,_]) (HL.out.keep HB1.out hB) ((RuR (d+1)).keep HB1.out hB HR.out) (by omega) hn).mono ?_
 rintro z w2 ⟨⟨q,rfl,hq⟩,hb2⟩
 have HK2:=Lib.hid (HK1.out.later hb2)
 have HB2:=Lib.hid (ae HB1.out hb2)
 have hsz2:=HB2.out.size
 clear hb2 k_r l_r
 cases q
 ·clear hq
  go_wp2_with fail
  refine (HAWH.out _ HB2.out).mono ?_
  rintro z w3 ⟨rfl,hb3⟩
  go_wp2_with fail
  go_ret
  exact ⟨rfl,ae HB2.out hb3⟩
 have hl6:l.length≤600:=hq rfl
 clear hq
 go_upto_region 5 with fail
 go_loopw [7,26] (fun v i wr=>∃(k:Nat) (zs:List FV) (Az:Option Addr) (cz:Nat),k≤l.length∧i=.int .i64 k∧v=.slice Az zs.length cz∧Hid (aq FvR 33 wr w2.heap.size 0 (.slice Az zs.length cz) zs)∧Hid (zs.map FV.f=(l.take k).filter fun f=>!dw tr f)∧Hid (∀z∈zs,(aB (d+1)).rd w B z.f z.cs)∧Hid (Below w2.heap.size w2 wr)) (fun _ i _=>l.length-(intOf i).toNat)
 case atStart=>exact ⟨0,[],none,0,Nat.zero_le _,rfl,rfl,Lib.hid (aq.nil _ _ _ _ _),Lib.hid rfl,Lib.hid (by simp),Lib.hid (Below.refl _ _)⟩
 case round=>
  obtain ⟨k,zs,Az,cz,hk,rfl,rfl,HO,HZ,HD,HWW⟩:=hrel
  have HW:=Lib.hid (ae HB2.out HWW.out)
  have hszr:=HW.out.size
  have hzl:zs.length≤600:=by
   have h:=congrArg List.length HZ.out
   have h2:=List.length_filter_le (fun f=>!dw tr f) (l.take k)
   rw [List.length_map] at h
   rw [List.length_take] at h2
   omega
  by_cases hlt:k<l.length
  ·obtain ⟨b,off,rfl,hob⟩:=HL.out.base HW.out hB (by omega)
   obtain ⟨x,vs,hx,hlen,hcell,hr⟩:=HL.out.at0 HW.out hB hlt
   obtain ⟨Ax,cx,rfl,_⟩:=aJ hr
   have c0:wr.cell? ⟨b,off+k*3,none⟩=some (.string x.pr.name):=hcell 0 _ rfl
   have c1:wr.cell? ⟨b,off+k*3+1,none⟩=some (.slice Ax x.pr.terms.length cx):=hcell 1 _ rfl
   have c2:wr.cell? ⟨b,off+k*3+2,none⟩=some (.int .u32 x.o):=hcell 2 _ rfl
   have HXK:=Lib.hid hx
   have HR_:=Lib.hid hr
   clear hx hr hcell hlen
   by_cases hu:dw tr x=true
   ·have hu':(bits .andNot .u32 x.o tr==0)=false:=by unfold dw at hu;simpa using hu
    have HZ2:Hid (zs.map FV.f=(l.take (k+1)).filter fun f=>!dw tr f):=Lib.hid (by rw [jQ HXK.out,HZ.out];simp [hu])
    clear hu
    go_wp2_with fail
    generalize hW3:World.alloc _ _=w3
    obtain ⟨hb3,hz3⟩:=al1 hW3
    have HB3:=Lib.hid (ae HWW.out hb3)
    have HO3:=Lib.hid (HO.out.later hb3 (Nat.zero_le _))
    clear hW3 hb3 hz3
    go_roundw
    case rel=>exact ⟨k+1,zs,Az,cz,by omega,by go_num,rfl,HO3,HZ2,HD,HB3⟩
    case measure=>simp [intOf];omega
   ·have hu':(bits .andNot .u32 x.o tr==0)=true:=by unfold dw at hu;simpa using hu
    have HZ2:Hid ((zs++[(⟨x,Ax,cx⟩:FV)]).map FV.f=(l.take (k+1)).filter fun f=>!dw tr f):=Lib.hid (by rw [jQ HXK.out,List.map_append,HZ.out];simp [hu])
    clear hu
    go_upto_region 8 with fail
    generalize hW3:World.alloc _ _=w3
    obtain ⟨hb3,hz3⟩:=al1 hW3
    have HF3:=Lib.hid (n11 hW3)
    have HB3:=Lib.hid (ae HWW.out hb3)
    have HO3:=Lib.hid (HO.out.later hb3 (Nat.zero_le _))
    have hsz3:=HB3.out.size
    clear hW3 hb3 hz3 c0 c1 c2
    have k_f:=HF3.out.cell
    have l_f:=HF3.out.lt
    have HOW:=Lib.hid (And.intro (HO3.out.later ((Below.refl _ w3).alloc (Nat.le_refl _) (.cells #[.string x.pr.name,.slice Ax x.pr.terms.length cx,.int .u32 x.o] 33)) (Nat.zero_le _)) (Blk.src (R:=FvR) (B:=0) (x:=⟨x,Ax,cx⟩) (Blk.new w3 #[.string x.pr.name,.slice Ax x.pr.terms.length cx,.int .u32 x.o] 33) rfl))
    go_wp2_with ((
     at_builtin
     refine au (R:=FvR) (e:=33) (base:=w2.heap.size) (B:=0) (xs:=zs) (ys:=[⟨x,Ax,cx⟩]) rfl (.tmp 35) (.tmp 37) 22 rfl (bytes:=48) Tryz.underlying22 hi0 hz0 hz1 hz2 rfl (show 0<3 by omega) aC rfl HOW.out.1 rfl HOW.out.2 rfl (by omega) (by simp only [List.length_cons,List.length_nil];omega) (by omega) (by rw [World.size_alloc];omega) ?_
     intro v4 w4 hown4 hb4
     obtain ⟨A4,c4,hv4⟩:=hown4.form
     subst hv4
     have H4:=Lib.hid (And.intro hown4 (HB3.out.trans (((Below.refl w2.heap.size w3).alloc (by omega) (.cells #[.string x.pr.name,.slice Ax x.pr.terms.length cx,.int .u32 x.o] 33)).trans hb4)))
     clear hown4 hb4 k_f l_f))
    go_roundw
    case rel=>
     refine ⟨k+1,zs++[⟨x,Ax,cx⟩],A4,c4,by omega,by go_num,by rw [List.length_append];rfl,Lib.hid H4.out.1,HZ2,Lib.hid (fun z hz=>?_),Lib.hid H4.out.2⟩
     rcases List.mem_append.1 hz with hz | hz
     ·exact HD.out z hz
     ·rw [List.mem_singleton] at hz
      subst hz
      exact HR_.out
    case measure=>simp [intOf];omega
  ·have hkl:l.take k=l:=List.take_of_length_le (by omega)
   have HZ2:Hid (zs.map FV.f=l.filter fun f=>!dw tr f):=Lib.hid (by rw [HZ.out,hkl])
   clear hkl
   have HB3:=HW
   have hsz3:=HB3.out.size
   have HK3:=Lib.hid (HK2.out.later HWW.out)
   clear hszr HW
   have HLZ:Hid (∀f∈l,wo f):=Lib.hid (fun f hf=>by
    obtain ⟨i,hi,rfl⟩:=List.getElem_of_mem hf
    obtain ⟨b,off,_,_,hc⟩:=HL.out (by omega)
    obtain ⟨vs,_,⟨x,hx,hr⟩,_⟩:=hc i hi
    obtain ⟨_,rfl⟩:=List.getElem?_eq_some_iff.1 hx
    exact fact_in hr)
   have hlt':¬((k:Int)<(l.length:Int)):=by omega
   have HSZ:=Lib.hid (uh HO.out (fun z hz=>(aB (d+1)).keep HB3.out hB (HD.out z hz)) (by omega) (by omega))
   have HMZ:=Lib.hid (fun (w':World) (hb:Below wr.heap.size wr w')=>pv (d:=d) (B:=wr.heap.size) (l:=zs.map FV.f) (A:=Az) (c:=cz) (w:=w') (HSZ.out.keep hb (Nat.le_refl _)) hb.size (by rw [List.length_map];omega))
   generalize wr=w3 at *
   go_wp2_with fail
   refine (pv (d:=d) (B:=B) (l:=l) (A:=A) (c:=c) (HL.out.keep HB3.out hB) (by omega) (by omega)).mono ?_
   rintro z w4 ⟨S,M,xs,As,cs,ys,Am,cm,rfl,hT,hx,hy,hb4⟩
   have HT4:=Lib.hid hT
   have HX4:=Lib.hid hx
   have HB34:=Lib.hid hb4
   have HK4:=Lib.hid (HK3.out.later hb4)
   have HB4:=Lib.hid (ae HB3.out hb4)
   clear hT hx hy hb4
   go_wp2_with fail
   have hcall:=HMZ.out _ HB34.out
   rw [List.length_map] at hcall
   refine hcall.mono ?_
   rintro z w5 ⟨S2,M2,xs2,As2,cs2,ys2,Am2,cm2,rfl,hT,hx,hy,hb5⟩
   have HT5:=Lib.hid (HT4.out.later hb5)
   have HU5:=Lib.hid hT
   have HX5:=Lib.hid hx
   have HK5:=Lib.hid (HK4.out.later hb5)
   have HB5:=Lib.hid (ae HB4.out hb5)
   have HFW:Hid (xs.length≤100000∧xs2.length≤100000):=Lib.hid (by
    have h1:=lX l []
    have h2:=lX (zs.map FV.f) []
    have h3:=congrArg List.length HX4.out
    have h4:=congrArg List.length hx
    rw [List.length_map] at h3 h4 h2
    unfold stL at h3 h4
    simp only [List.length_nil] at h1 h2
    omega)
   have HRR:Hid (aT (xs2.map FV.f) 4294967295 r=aT (xs.map FV.f) tr r):=Lib.hid (by rw [HX5.out,HX4.out,HZ2.out];exact tJ HLZ.out)
   clear hT hx hy hb5 hcall
   have k_r:=HK5.out.cell
   have l_r:=HK5.out.lt
   go_wp2_with fail
   refine (eo (d:=d) (B:=B) (r:=r) (vr:=[_,_,_,_,_]) (tr:=tr) ((RuR (d+1)).keep HB5.out hB HR.out) (Nat.le_trans hB HB5.out.size) HT5.out.s HFW.out.1 ((HB5.out.cell (p:=⟨0,0,none⟩) hp).trans HM.out) (Nat.lt_of_lt_of_le hp HB5.out.size)).mono ?_
   rintro z w6 ⟨L,AL,cL,rfl,hLx,hLo,hLk,hLd,hb6⟩
   have HK6:=Lib.hid (HK5.out.later hb6)
   have HU6:=Lib.hid (HU5.out.later hb6)
   have HB6:=Lib.hid (ae HB5.out hb6)
   have HLX:=Lib.hid hLx
   have HLO:=Lib.hid hLo
   have HLK:=Lib.hid hLk
   have HLD:=Lib.hid hLd
   clear hLx hLo hLk hLd hb6 k_r l_r
   have k_r:=HK6.out.cell
   have l_r:=HK6.out.lt
   go_wp2_with fail
   refine (eo (d:=d) (B:=B) (r:=r) (vr:=[_,_,_,_,_]) (tr:=4294967295) ((RuR (d+1)).keep HB6.out hB HR.out) (Nat.le_trans hB HB6.out.size) HU6.out.s HFW.out.2 ((HB6.out.cell (p:=⟨0,0,none⟩) hp).trans HM.out) (Nat.lt_of_lt_of_le hp HB6.out.size)).mono ?_
   rintro z w7 ⟨L2,AL2,cL2,rfl,hLx,hLo,hLk,hLd,hb7⟩
   rw [HRR.out] at hLx ⊢
   generalize aT (xs.map FV.f) tr r=R at *
   have hll:L.length=L2.length:=by
    have h1:=congrArg List.length hLx
    have h2:=congrArg List.length HLX.out
    rw [List.length_map] at h1 h2
    omega
   have HB67:=Lib.hid hb7
   have HB7:=Lib.hid (ae HB6.out hb7)
   have HLX2:=Lib.hid hLx
   have HLO2:=Lib.hid hLo
   have HLK2:=Lib.hid hLk
   have HLD2:=Lib.hid hLd
   have HLL:=Lib.hid hll
   have hne:((L.length:Int) !=(L2.length:Int))=false:=by simp [hll]
   have hLn:=own_len HLO.out
   clear hLx hLo hLk hLd hb7 k_r l_r hll
   go_upto_region 17 with fail
   have HA6:=Lib.hid (fun (w':World) (hb:Below w6.heap.size w6 w') (i:Nat) (hi:i<L.length)=>wC HLD.out hb hi)
   have HA7:=Lib.hid (fun (w':World) (hb:Below w7.heap.size w7 w') (i:Nat) (hi:i<L2.length)=>wC HLD2.out hb hi)
   have HO7:=Lib.hid (HLO.out.later HB67.out (Nat.zero_le _))
   go_loopw [75] (fun i wr=>∃j:Nat,j≤L.length∧i=.int .i64 j∧Hid (Below w7.heap.size w7 wr)) (fun i _=>L.length-(intOf i).toNat)
   case atStart=>exact ⟨0,Nat.zero_le _,rfl,Lib.hid (Below.refl _ _)⟩
   case round=>
    obtain ⟨j,hj,rfl,HWJ⟩:=hrel
    have hszj:=HWJ.out.size
    by_cases hjl:j<L.length
    ·have hjl2:j<L2.length:=by have:=HLL.out;omega
     obtain ⟨g,cg,eg,hg1,hg2,_⟩:=HO7.out.sh aN (by omega)
     simp only [Value.slice.injEq,true_and] at eg
     obtain ⟨rfl,rfl⟩:=eg
     obtain ⟨g2,cg2,eg,hh1,hh2,_⟩:=HLO2.out.sh aN (by omega)
     simp only [Value.slice.injEq,true_and] at eg
     obtain ⟨rfl,rfl⟩:=eg
     obtain ⟨a0,a1,a2⟩:=ef (HO7.out.later HWJ.out (Nat.zero_le _)) hjl
     obtain ⟨b0,b1,b2⟩:=ef (HLO2.out.later HWJ.out (Nat.zero_le _)) hjl2
     have HRA:=Lib.hid (HA6.out wr (HB67.out.trans (HWJ.out.mono HB67.out.size)) j hjl)
     have HRB:=Lib.hid (HA7.out wr HWJ.out j hjl2)
     have HKA:=Lib.hid (qZ (HLK.out _ (List.getElem_mem hjl)).1)
     have HKB:=Lib.hid (qZ (HLK2.out _ (List.getElem_mem hjl2)).1)
     have HXE:Hid (L[j].x=L2[j].x):=Lib.hid (by
      have h1:(L.map AnV.x)[j]? = (L2.map AnV.x)[j]?:=by rw [HLX.out,HLX2.out]
      rw [List.getElem?_map,List.getElem?_map,List.getElem?_eq_getElem hjl,List.getElem?_eq_getElem hjl2] at h1
      simpa using h1)
     have hI0:(0:Int)≤(j:Int):=Int.natCast_nonneg _
     have hI1:(j:Int)<(L.length:Int):=by omega
     have hI2:(j:Int)<(L2.length:Int):=by omega
     generalize L[j]=u at *
     generalize L2[j]=v at *
     have HCL:Hid (∀W:World,Below wr.heap.size wr W→Calls Tryz.prog 19 #[.agg u.cs.toArray,.agg v.cs.toArray] W fun z w'=>z=.returned (.int .i64 0)∧Below W.heap.size W w'):=Lib.hid (fun W hW=>by
      have h:=gj (d:=d+1) (e:=d+1) (B:=wr.heap.size) (w:=W) ((kX (d+1)).keep hW (Nat.le_refl _) HRA.out) ((kX (d+1)).keep hW (Nat.le_refl _) HRB.out) HKA.out HKB.out hW.size
      rwa [HXE.out,lE.self] at h)
     have q0:=cell_regrown a0
     have q1:=cell_regrown a1
     have q2:=cell_regrown a2
     have s0:=cell_regrown b0
     have s1:=cell_regrown b1
     have s2:=cell_regrown b2
     clear a0 a1 a2 b0 b1 b2
     go_upto_region 19 with fail
     refine wp_region_quiet_below (by kernel_rfl) (by kernel_rfl) ?_
     repeat (go_big_quiet_step ((go_at_call 19;exact Calls.regrown_of (HCL.out _ (below_regrown _ _ _)))))
     refine wpQuiet_nil ?_
     intro w8 hw_
     have hb:Below wr.heap.size wr w8:=by obtain ⟨p_,rfl⟩:=hw_;exact below_regrown _ _ _
     clear hw_ q0 q1 q2 s0 s1 s2
     have HB8:=Lib.hid (ae HWJ.out hb)
     clear hb
     go_wp2_with fail
     go_roundw
     case rel=>exact ⟨j+1,by omega,by go_num,HB8⟩
     case measure=>simp [intOf];omega
    ·go_wp2_with fail
     refine (HAWH.out _ (ae HB7.out HWJ.out)).mono ?_
     rintro z w8 ⟨rfl,hb8⟩
     go_wp2_with fail
     go_ret
     exact ⟨rfl,ae (ae HB7.out HWJ.out) hb8⟩
section
variable {w:World} {B d c:Nat}
theorem wK {k n:Int} {s:ByteArray} (hk:I64 k) (hn:I64 n) (hs:s.size≤140737488351232):RTm w B (d+1) ⟨k,n,s,[]⟩ [.int .i64 k,.int .i64 n,.string s,.slice none 0 0]:=
 ⟨none,0,rfl,Nat.le_refl _,⟨by simp,by omega⟩,hs,hk,hn,fun h=>absurd h (by simp)⟩
theorem sq {α:Type} {R:Reader α} {xs:List α} {A:Option Addr} (h:RL R w B xs A) (h1:xs.length≤c) (h2:xs.length*(8*R.k)≤140737488351232) (h3:c≤9223372036854775807):RSl R w B xs (.slice A xs.length c):=⟨A,c,rfl,h1,⟨h2,h3⟩,h⟩
theorem wE {nm:ByteArray} {ts:List Tm} {v:Value} (hn:nm.size≤140737488351232) (h:RSl (TmR d) w B ts v):(PrR d).rd w B ⟨nm,ts⟩ [.string nm,v]:=⟨v,rfl,hn,h⟩
theorem lit_fc {f:Fc} {v:Value} (h:(PrR d).rd w B f.pr [.string f.pr.name,v]) (ho:U32 f.o):(aB d).rd w B f [.string f.pr.name,v,.int .u32 f.o]:=⟨v,rfl,h,ho⟩
theorem lit_ru {r:Ru} {v0 v1 v2 v3:Value} (hn:r.head.name.size≤140737488351232) (h0:RSl (TmR d) w B r.head.terms v0) (h1:RSl (PrR d) w B r.body v1) (h2:RSl (ExR d) w B r.exprs v2) (h3:RSl ScR w B r.scopes v3):(RuR d).rd w B r [.string r.head.name,v0,v1,v2,v3]:=⟨v0,v1,v2,v3,rfl,hn,h0,h1,h2,h3⟩
theorem oB {α:Type} {R:Reader α}:RSl R w B [] (.slice none 0 0):=⟨none,0,rfl,by simp,by simp,fun h=>absurd h (by simp)⟩
end
theorem th (x:Ans):wR [x]=[x]:=by
 unfold wR
 rw [List.perm_singleton.1 (iN [x])]
 rfl
def awS:ByteArray:=⟨#[112]⟩
def awX:ByteArray:=⟨#[120]⟩
def awT (n:Int):Tm:=⟨2,n,⟨#[]⟩,[]⟩
def awV:Tm:=⟨1,0,awX,[]⟩
def awF (n:Int):Fc:=⟨⟨awS,[awT n]⟩,1⟩
def awR:Ru:=⟨⟨⟨#[]⟩,[]⟩,[⟨awS,[awV]⟩],[],[]⟩
def awA (n:Int):Ans:=⟨⟨[[120]],[awT n]⟩,1⟩
theorem aw_st:stL [awF 1]=[awF 1]:=by kernel_rfl
theorem aw_may:(bi awR||aR awR)=true:=by kernel_rfl
theorem aw_run:dB [awF 1] 1 [] [⟨awS,[awV]⟩] jz ⟨0,[],0⟩=⟨1,[awA 1],0⟩:=by kernel_rfl
theorem aw_ans:aT (stL [awF 1]) 1 awR=([awA 1],0):=by
 have h:runR (stL [awF 1]) 1 awR=⟨1,[awA 1],0⟩:=by rw [aw_st];exact aw_run
 rw [oE,if_pos aw_may,h,if_pos rfl,th]
theorem aw_row {w:World} {T G:Nat} {n:Int} (hT:Blk w T #[.int .i64 2,.int .i64 n,.string ⟨#[]⟩,.slice none 0 0]) (hG:Blk w G #[.string awS,.slice (some ⟨T,0,none⟩) 1 1,.int .u32 1]) (hn:I64 n):RL (aB 2) w w.heap.size [awF n] (some ⟨G,0,none⟩):=
 hG.rl (R:=aB 2) (lit_fc (f:=awF n) (wE (by decide) (sq (R:=TmR 2) (c:=1) (hT.rl (R:=TmR 2) (x:=awT n) (wK (by unfold I64;omega) hn (by decide)) hT.lt) (by simp) (by simp [TmR]) (by omega))) (by unfold U32;simp [awF])) hG.lt
theorem aw_tm {w:World} {B d:Nat} {n:Int} {A:Option Addr} (h:RL (TmR d) w B [awT n] A):∃b off,A=some ⟨b,off,none⟩∧w.cell? ⟨b,off+1,none⟩=some (.int .i64 n):=by
 obtain ⟨b,off,e,hb,hc⟩:=h (by simp)
 obtain ⟨vs,hl,⟨x,hx,hr⟩,hv⟩:=hc 0 (by simp)
 obtain rfl:x=awT n:=by simpa using hx.symm
 obtain ⟨A',c',rfl,_⟩:=RTm.cells (show RTm w B d (awT n) vs from hr)
 exact ⟨b,off,e,by have:=hv 1 _ rfl;simpa [awT] using this⟩
theorem mU {s:ByteArray} {w:World}:Calls Tryz.prog 49 #[.string s] w fun z w'=>z=.returned (.agg #[.int .i64 1,.int .i64 0,.string s,.slice none 0 0])∧Below w.heap.size w w':=by
 go_enter Tryz.func49,Tryz.ntmps49
 go_upto_region 1 with fail
 generalize hW:World.alloc _ _=w1
 obtain ⟨hb1,hz⟩:=al1 hW
 have HS1:=Lib.hid (n11 hW)
 have HB1:=Lib.hid hb1
 clear hW hb1 hz
 have f_s:=HS1.out.free
 have k_s:=HS1.out.cell
 have l_s:=HS1.out.lt
 go_wp2_with fail
 refine bodyPost_ret (oc rfl rfl ((((HS1.out.set_ 0 (.int .i64 1)).set_ 1 (.int .i64 0)).set_ 2 (.string s)).set_ 3 (.slice none 0 0)) rfl) rfl ?_
 exact ⟨rfl,(((HB1.out.setCell (p:=⟨w.heap.size,0,none⟩) (Nat.le_refl _) _).setCell (p:=⟨w.heap.size,1,none⟩) (Nat.le_refl _) _).setCell (p:=⟨w.heap.size,2,none⟩) (Nat.le_refl _) _).setCell (p:=⟨w.heap.size,3,none⟩) (Nat.le_refl _) _⟩
theorem pt {w:World} {m:Int} (hm:w.cell? ⟨0,0,none⟩=some (.int .i64 m)) (hp:0<w.heap.size):Calls Tryz.prog 16 #[] w fun z w'=>z=.returned (.bool true)∧Below w.heap.size w w':=by
 have HM:=Lib.hid hm
 clear hm
 go_enter Tryz.func16,Tryz.ntmps16
 go_wp2_with fail
 generalize hWa:w.alloc _=wa
 obtain ⟨hba,hza⟩:=al1 hWa
 have HTa:=Lib.hid (n11 hWa)
 clear hWa
 rw [show w.heap.size+1=wa.heap.size from hza.symm]
 generalize hWb:wa.alloc _=wb
 obtain ⟨hbb,hzb⟩:=al1 hWb
 have HGb:=Lib.hid (n11 hWb)
 have HTb:=Lib.hid (HTa.out.later hbb)
 have HBb:=Lib.hid (ae hba hbb)
 have hszb:=HBb.out.size
 clear hWb
 refine (pv (d:=1) (B:=wb.heap.size) (l:=[awF 1]) (c:=1) (aw_row HTb.out HGb.out (by unfold I64;omega)) (Nat.le_refl _) (by simp)).mono ?_
 rintro e w2 ⟨S,M,xs,As,cs,ys,Am,cm,rfl,hT,hx,hy,hb2⟩
 have HT2:=Lib.hid hT
 have HX2:=Lib.hid hx
 have HB2:=Lib.hid (ae HBb.out hb2)
 clear hT hx hy hb2 hba hbb
 go_wp2_with fail
 refine mU.mono ?_
 rintro e w3 ⟨rfl,hb3⟩
 have HT3:=Lib.hid (HT2.out.later hb3)
 have HB3:=Lib.hid (ae HB2.out hb3)
 clear hb3
 go_wp2_with fail
 generalize hWa:w3.alloc _=wc
 obtain ⟨hbc,hzc⟩:=al1 hWa
 have HVc:=Lib.hid (n11 hWa)
 clear hWa
 rw [show w3.heap.size+1=wc.heap.size from hzc.symm]
 generalize hWb:wc.alloc _=wd
 obtain ⟨hbd,hzd⟩:=al1 hWb
 have HDd:=Lib.hid (n11 hWb)
 have HVd:=Lib.hid (HVc.out.later hbd)
 have HTd:=Lib.hid ((HT3.out.later hbc).later hbd)
 have HBd:=Lib.hid (ae (ae HB3.out hbc) hbd)
 clear hWb hbc hbd
 have HRD:Hid ((RuR 2).rd wd wd.heap.size awR [.string ⟨#[]⟩,.slice none 0 0,.slice (some ⟨wc.heap.size,0,none⟩) 1 1,.slice none 0 0,.slice none 0 0]):=Lib.hid (lit_ru (r:=awR) (by decide) oB (sq (R:=PrR 2) (c:=1) (HDd.out.rl (R:=PrR 2) (x:=⟨awS,[awV]⟩) (wE (by decide) (sq (R:=TmR 2) (c:=1) (HVd.out.rl (R:=TmR 2) (x:=awV) (wK (by unfold I64;omega) (by unfold I64;omega) (by decide)) HVd.out.lt) (by simp) (by simp [TmR]) (by omega))) HDd.out.lt) (by simp [awR]) (by simp [awR,PrR]) (by omega)) oB oB)
 have HFW:Hid (xs.length≤100000):=Lib.hid (by
  have h:=congrArg List.length HX2.out
  rw [aw_st,List.length_map] at h
  simp at h
  omega)
 refine (eo (d:=1) (B:=wd.heap.size) (r:=awR) (vr:=[_,_,_,_,_]) (tr:=1) HRD.out (Nat.le_refl _) HTd.out.s HFW.out ((HBd.out.cell (p:=⟨0,0,none⟩) hp).trans HM.out) (Nat.lt_of_lt_of_le hp HBd.out.size)).mono ?_
 rintro e w5 ⟨L,AL,cL,rfl,hLx,hLo,hLk,hLd,hb5⟩
 rw [HX2.out,aw_ans] at hLx ⊢
 obtain ⟨y,rfl⟩:∃y,L=[y]:=List.length_eq_one_iff.1 (by have h:=congrArg List.length hLx;simpa using h)
 have hyx:y.x=awA 1:=by simpa using hLx
 obtain ⟨g,cg,eg,hg1,hg2,hg3,hg4,_⟩:=hLo.sh aN (by simp)
 simp only [Value.slice.injEq,true_and] at eg
 obtain ⟨rfl,rfl⟩:=eg
 obtain ⟨a0,a1,a2⟩:=ef (i:=0) hLo (by simp)
 obtain ⟨An,cn,At,ct,ey,hn1,ht1⟩:=(hLd y (by simp)).here
 obtain ⟨yx,yan,ycn,yat,yct⟩:=y
 obtain rfl:yx=awA 1:=hyx
 simp only [AnV.cs,anV,List.cons.injEq,Value.slice.injEq,true_and,and_true] at ey
 obtain ⟨⟨rfl,rfl⟩,rfl,rfl⟩:=ey
 obtain ⟨b,off,rfl,t1⟩:=aw_tm ht1
 simp only [List.getElem_cons_zero,Nat.zero_mul,Nat.zero_add] at a0 a1 a2
 have HB5:=Lib.hid (ae HBd.out hb5)
 have hl5:(1:Nat)≤cL:=by simpa using hg3
 clear hb5 ht1 hn1 hLd hLk hLo hLx
 go_wp2_with fail
 go_ret
 exact ⟨rfl,HB5.out⟩
theorem tb:Tryz.prog.cellsOf 31=1:=by kernel_rfl
theorem lT:Tryz.prog.cellsOf 33=3:=by kernel_rfl
theorem wu {n:Int} (hwf:(Lit.int .u32 n).wf=true):U32 n:=by
 simp only [Lit.wf] at hwf
 unfold U32
 revert hwf
 have e1:IntKind.u32.signed=false:=rfl
 have e2:IntKind.u32.bits=32:=rfl
 simp [IntKind.min,IntKind.max,e1,e2]
 omega
section
variable {H:Type} {enc:TypeId × Value→H} {w:World} {base:Nat} {held:Bool}
theorem vN {n D:Nat} {cs:List Value} {x:DataW H × List MemPlace} (h:DataW.trod enc Tryz.prog w base (fun _=>true) held n 33 cs=some x) (ho:Ok Tryz.prog 33 x.1) (hD:n≤D):∃f,(aB D).rd w w.heap.size f cs:=by
 obtain ⟨hc,n',hn,hf⟩:=cj (Tryz.underlying33) h ho
 have hcl:=hc.trans lT
 match cs,hcl with
 | [c0,c1,c2],_=>
   obtain ⟨_,h0,o0⟩:=hf 0 _ _ _ _ rfl rfl rfl fT
   obtain ⟨_,h1,_⟩:=hf 1 _ _ _ _ rfl rfl rfl tb
   obtain ⟨p,hp⟩:=jT (D:=D) h0 o0 (by omega)
   obtain ⟨m,e1,_,hwf⟩:=DataW.trod_int (Tryz.underlying31) h1
   replace hp:(PrR D).rd w w.heap.size p [c0,c1]:=hp
   replace e1:[c2]=_:=e1
   have hp':=hp
   obtain ⟨v0,e0,gs,g0⟩:=hp
   simp only [List.cons.injEq,and_true] at e0 e1
   obtain ⟨rfl,rfl⟩:=e0
   subst e1
   exact ⟨⟨p,m⟩,_,rfl,hp',wu hwf⟩
theorem sL {n D:Nat} {cs:List Value} {x:DataW H × List MemPlace} (h:DataW.trod enc Tryz.prog w base (fun _=>true) held n 22 cs=some x) (ho:Ok Tryz.prog 22 x.1) (hD:n≤D):∃(ts:List Fc) (A:Option Addr) (c:Nat),cs=[.slice A ts.length c]∧ts.length*48≤140737488351232∧RL (aB D) w w.heap.size ts A:=by
 obtain ⟨xs,A,c,e,h1,h2,h3⟩:=kQ (aB D) (D:=D) (B:=48) (Tryz.underlying22) lT (by simp [aB]) (by kernel_rfl) h ho (by omega) (fun m hm cs x hx ho=>vN hx ho hm)
 exact ⟨xs,A,c,e,by omega,h3⟩
end
theorem own:ownKnob Tryz.prog.godebug=none:=by kernel_rfl
theorem sr:laidOutB Tryz.prog=true:=by kernel_rfl
theorem ok_of {H:Type} {P:Program} {ts:List TypeId} {ds:List (DataW H)} (h:(DataW.weightsEach P ts ds).all (·≤reachBytes)=true) {j:Nat} {t:TypeId} {d:DataW H} (ht:ts[j]? = some t) (hd:ds[j]? = some d):Ok P t d:=fun n hn=>by
 have:=List.all_eq_true.1 h n (DataW.weights_mem_each ht hd n hn)
 simpa using this
theorem iA (os:Os) (started:os.Started) (H:Type) (enc:TypeId × Value→H) :
 ReturnsInHanded {} Tryz.checked os 4 .any (Rows.joinTrustsSpec.pre6 enc Tryz.prog Tryz.f4 Rows.joinTrustsRow.domain false) (Rows.joinTrustsSpec.post enc Tryz.prog Tryz.f4 false true false false):=by
 refine returnsInHanded_of_change_shaped (C:=Tryz.checked) own started (by kernel_rfl) Tryz.func4
  (ChangeSpec.witness6 (enc:=enc) (C:=Tryz.checked) false ⟨#[],#[.slice none 0 0,.agg #[.string ⟨#[]⟩,.slice none 0 0,.slice none 0 0,.slice none 0 0,.slice none 0 0],.int .u32 0],[]⟩ 8 (by kernel_rfl) (by kernel_rfl) (by kernel_rfl) (by kernel_rfl)) ?_
 intro W base args ds gs before hval0 hW _ hsz0 hsh _
 have hsz:(DataW.weightsEach Tryz.prog (Tryz.f4.params.toList++Rows.joinTrustsSpec.plain.varTypes Tryz.prog) (ds++gs)).all (·≤reachBytes)=true:=hsz0
 clear hsz0
 have hval:∀(j:Nat) t v,Tryz.f4.params[j]? = some t→args[j]? = some v→Value.okWide Tryz.prog W .any base t v:=hval0
 have hW':=hW
 obtain ⟨p,q,hA0,hV,rfl,hfz,hnd⟩:=hW
 have hA:DataW.TrodAll enc Tryz.prog W 0 (fun _=>true) true Tryz.f4.params.toList args.toList ds p:=hA0
 rw [Tryz.params4] at hA hval hsz
 obtain ⟨v0,v1,v2,d0,d1,d2,p0,p1,p2,rfl,rfl,rfl,h0,h1,h2⟩:=trodAll_three hA
 obtain ⟨rfl,rfl⟩:=trodVars_none hV
 obtain ⟨A0,l0,c0,rfl⟩:=okWide_slice Tryz.underlying22 (hval 0 22 v0 rfl rfl)
 obtain ⟨cs1,rfl,_⟩:=okWide_struct Tryz.underlying30 (hval 1 30 v1 rfl rfl)
 obtain ⟨x2,rfl,rfl,rfl,hx2⟩:=Go.ChangeShapes.open_int Tryz.underlying31 (hval 2 31 v2 rfl rfl) h2
 have k0:=h0
 have lt0:∀x∈(p0:List MemPlace),x.block<W.heap.size:=by obtain ⟨m,hm⟩:=k0;exact DataW.trod_lt m _ _ _ hm
 have k1:=h1
 have lt1:∀x∈(p1:List MemPlace),x.block<W.heap.size:=by obtain ⟨m,hm⟩:=k1;exact DataW.trod_lt m _ _ _ hm
 obtain ⟨n0,t0⟩:=h0
 obtain ⟨n1,t1⟩:=h1
 obtain ⟨D,hD⟩:∃D,n0≤D+1∧n1≤D+1:=⟨(max n0 n1),by omega⟩
 obtain ⟨xs0,Ax0,cx0,ee0,hb0,hr0⟩:=sL (D:=D+1) t0 (ok_of hsz (j:=0) rfl rfl) (by omega)
 have ee0':(Value.slice A0 l0 c0).cells.toList=[.slice A0 l0 c0]:=rfl
 rw [ee0'] at ee0
 simp only [List.cons.injEq,Value.slice.injEq,and_true] at ee0
 obtain ⟨rfl,rfl,rfl⟩:=ee0
 obtain ⟨r1,hr1⟩:=tN (D:=D+1) t1 (ok_of hsz (j:=1) rfl rfl) (by omega)
 obtain ⟨m0,hm0⟩:=cell_of_shapedOpen_int (g:=0) (t:=3) (zero:=#[.int .i64 0]) hsh (of_decide_eq_true (by kernel_rfl)) (by kernel_rfl) rfl (by kernel_rfl) (by kernel_rfl) Tryz.underlying3
 have h00:0<W.heap.size:=block_lt_of_cell hm0
 clear hA0 hval0
 obtain ⟨cs1⟩:=cs1
 refine (ma (fun w1 hb1=>pt ((hb1.cell (p:=⟨0,0,none⟩) h00).trans hm0) (Nat.lt_of_lt_of_le h00 hb1.size)) hr0 (by omega) hr1 (wu hx2) (Nat.le_refl _) hm0 h00).mono fun e W' ⟨he,bel⟩=>?_
 subst he
 exact ⟨_,rfl,_,_,_,[],_,[],hW',trodAll_mk1 (shut_bool Tryz.underlying4 _),trodAll_mk3 (Below.trod sr (by kernel_rfl) (of_decide_eq_true (by kernel_rfl)) k0 bel lt0) (Below.trod sr (by kernel_rfl) (of_decide_eq_true (by kernel_rfl)) k1 bel lt1) (shut_int Tryz.underlying31 hx2),rfl,bel.frame _,fun h=>by cases h⟩
theorem jf_a:(Rows.joinTrustsRow.inPlace==Tryz.prog.inPlace 4)=true:=by kernel_rfl
theorem jf_b:(Rows.joinTrustsRow.unfollowed==Tryz.prog.unfollowed 4)=true:=by kernel_rfl
theorem jf_c:(Rows.joinTrustsRow.recurses==Tryz.prog.recurses 4)=true:=by kernel_rfl
theorem jf_d:(Rows.joinTrustsRow.named==Tryz.prog.varsNamed 4)=true:=by kernel_rfl
theorem jf_all:joinedFacts Tryz.prog 4 Tryz.f4 Rows.joinTrustsSpec Rows.joinTrustsRow=true:=by
 unfold joinedFacts
 rw [jf_a,jf_b,jf_c,jf_d]
 kernel_rfl
theorem kl:Rows.joinTrustsRow.holds Tryz.pinned (OpenSpec.ofChange Rows.joinTrustsSpec):=
 OpenClaim.holds_of_wide 4 Tryz.f4 rfl rfl rfl rfl rfl rfl rfl ⟨rfl,rfl,rfl,rfl,rfl⟩ rfl rfl rfl rfl rfl (by kernel_rfl) Tryz.func4 jf_all
  (of_decide_eq_true (by kernel_rfl)) (by unfold Func.isWrapper;first | (rw [if_pos (by decide +kernel)];kernel_rfl) | (rw [if_neg (by decide +kernel)];exact ⟨rfl,rfl⟩))
  (fun os started H enc _=>iA os started H enc)
theorem joinTrusts_holds:Rows.JoinTrustsSaid:=kl
end Go.Proofs.YtdphibjibnffeaaGreat
