/- What a check that the law 22 makes at once must tell. -/
import Derived.Test.YtdphibjibnffeaaGreatAsk2
import Derived.Test.YtdphibjibnffeaaGreatSize
import Derived.Test.YtdphibjibnffeaaGreatAsk
set_option linter.unusedVariables false
set_option linter.unusedSimpArgs false
set_option maxRecDepth 100000
set_option maxHeartbeats 8000000
namespace Go.Proofs.YtdphibjibnffeaaGreat
open Go.ChangeShapes Go.WideShapes Go.ChangeAt Go.RowKit
def sN (fs:List Fc) (block:List Sc) (keys:List ByteArray):List Ck→Nat→Int × Int
 | [],_=>(-1,0)
 | p::ps,i=>if (be fs block 15 keys ⟨false,p.queries⟩).2≠0 then (-1,(be fs block 15 keys ⟨false,p.queries⟩).2) else if (be fs block 15 keys ⟨false,p.queries⟩).1=true then ((i:Int),0) else sN fs block keys ps (i+1)
def gN (fs:List Fc) (block:List Sc) (keys:List ByteArray) (l:List Ck):Int × Int:=if l.all bM=true then sN fs block keys l 0 else (-1,1)
theorem vF {fs:List Fc} {block:List Sc} {keys:List ByteArray} {l:List Ck} {k:Nat} {p:Ck} (h:l[k]? = some p):sN fs block keys (l.drop k) k=if (be fs block 15 keys ⟨false,p.queries⟩).2≠0 then (-1,(be fs block 15 keys ⟨false,p.queries⟩).2) else if (be fs block 15 keys ⟨false,p.queries⟩).1=true then ((k:Int),0) else sN fs block keys (l.drop (k+1)) (k+1):=by
 obtain ⟨hk,rfl⟩:=List.getElem?_eq_some_iff.1 h
 rw [List.drop_eq_getElem_cons hk,sN]
theorem allF2_ {α:Type} {l:List α} {p:α→Bool} {k:Nat} {x:α} (h:l[k]? = some x) (hp:p x=false):l.all p=false:=by
 rw [List.all_eq_false]
 exact ⟨x,List.mem_of_getElem? h,by rw [hp];simp⟩
theorem allT2_ {α:Type} {l:List α} {p:α→Bool} {k:Nat} (hk:l.length≤k) (h:∀i (hi:i<k) (hi':i<l.length),p l[i]=true):l.all p=true:=by
 rw [List.all_eq_true]
 intro x hx
 obtain ⟨i,hi,rfl⟩:=List.getElem_of_mem hx
 exact h i (by omega) hi
theorem cE {d baseS B S cs cb ck c:Nat} {l:List Ck} {A:Option Addr} {w:World} {fs:List FV} {As Ab Ak:Option Addr} {blk:List Sc} {m:Int} {keys:List ByteArray} (hl:RL (CkR (d+1)) w B l A) (hn:l.length≤140737488351232) (hbl:RL ScR w B blk Ab) (hks:RL cr w B keys Ak) (hbn:blk.length≤140737488351232) (hkn:keys.length≤140737488351232) (hB:B≤w.heap.size) (hS:StA baseS d w S fs As cs) (hfew:fs.length≤100000) (hm:w.cell? ⟨0,0,none⟩=some (.int .i64 m)) (hp:0<w.heap.size) :
 Calls Tryz.prog 33 #[.slice A l.length c,.pointer (some ⟨S,0,none⟩),.slice Ab blk.length cb,.slice Ak keys.length ck] w fun z w'=>z=.returned (.tuple #[.int .i64 (gN (fs.map FV.f) blk keys l).1,.int .i64 (gN (fs.map FV.f) blk keys l).2])∧Below w.heap.size w w':=by
 have HL:=zl hl
 have HBL:=zl hbl
 have HKS:=zl hks
 have HS:=zl hS
 have HM:=zl hm
 clear hl hbl hks hS hm
 go_enter Tryz.func33,Tryz.ntmps33
 go_upto_region 2 with fail
 go_loopw [18] (fun i wr=>∃k:Nat,k≤l.length∧i=.int .i64 k∧Hid (Below w.heap.size w wr)∧Hid (∀i (hi:i<k) (hi':i<l.length),bM l[i]=true)) (fun i _=>l.length-(intOf i).toNat)
 case atStart=>exact ⟨0,zo _,rfl,zl (zp _ _),zl (fun i h=>absurd h (by omega))⟩
 case round=>
  obtain ⟨k,hk,rfl,HW,HALL⟩:=hrel
  have hszr:=HW.out.size
  have hBr:B≤wr.heap.size:=zm hB hszr
  by_cases hlt:k<l.length
  ·obtain ⟨b,off,rfl,hob⟩:=(HL.out.keep HW.out hB).base (zp _ _) hBr (by omega)
   obtain ⟨x,vs,hx,hlen,hcell,hr⟩:=(HL.out.keep HW.out hB).at_ (zp _ _) hBr hlt
   have HX:=zl hx
   have HRX:=zl hr
   obtain ⟨_,rfl,Aq,cq,rfl,_⟩:=hr
   have p0:wr.cell? ⟨b,off+k*2,none⟩=some (.bool x.all):=hcell 0 _ rfl
   have p1:wr.cell? ⟨b,off+k*2+1,none⟩=some (.slice Aq x.queries.length cq):=hcell 1 _ rfl
   clear hcell hlen hx
   go_upto_region 4 with fail
   generalize hW:World.alloc _ _=w3
   obtain ⟨hb3,hz3⟩:=al1 hW
   have HK3:=zl (n11 hW)
   have HB3:=zl (ab HW.out hb3)
   have HR3:=zl ((CkR (d+1)).keep hb3 hBr HRX.out)
   have hsz3:=hb3.size
   clear hW hb3 hz3 p0 p1
   have k_r:=HK3.out.cell
   have l_r:=HK3.out.lt
   go_wp2_with fail
   refine (nd (d:=d+1) (B:=B) (x:=x) (vs:=[_,_]) ((CkR (d+1)).wide (zn _) HR3.out) (by omega)).mono ?_
   rintro z w4 ⟨rfl,hb4⟩
   have HB4:=zl (ab HB3.out hb4)
   clear hb4 k_r l_r
   by_cases hq:bM x=true
   ·have HQ:=zl hq
    rw [hq]
    clear hq
    go_wp2_with fail
    go_roundw
    case rel=>exact ⟨k+1,by omega,by go_num,HB4,zl (fun i hi hi'=>by
     rcases Nat.lt_or_ge i k with h1 | h1
     ·exact HALL.out i h1 hi'
     ·obtain rfl:i=k:=by omega
      rw [(List.getElem?_eq_some_iff.1 HX.out).2];exact HQ.out)⟩
    case measure=>simp [intOf];omega
   ·simp only [Bool.not_eq_true] at hq
    have HV:Hid (gN (fs.map FV.f) blk keys l=(-1,1)):=zl (by unfold gN;rw [allF2_ HX.out hq];rfl)
    rw [hq]
    clear hq
    go_wp2_with fail
    go_ret2
    exact ⟨by rw [HV.out];rfl,HB4.out⟩
  ·have HV0:Hid (gN (fs.map FV.f) blk keys l=sN (fs.map FV.f) blk keys l 0):=zl (by unfold gN;rw [allT2_ (by omega) HALL.out];rfl)
   go_upto_region 8 with fail
   generalize wr=w2 at *
   clear HALL hlt
   have HB2:=HW
   go_loopw [28] (fun i wr=>∃k:Nat,k≤l.length∧i=.int .i64 k∧Hid (Below w2.heap.size w2 wr)∧Hid (gN (fs.map FV.f) blk keys l=sN (fs.map FV.f) blk keys (l.drop k) k)) (fun i _=>l.length-(intOf i).toNat)
   case atStart=>exact ⟨0,zo _,rfl,zl (zp _ _),HV0⟩
   case round=>
    obtain ⟨k,hk,rfl,HWR,HE⟩:=hrel
    have HWr:=zl (ab HB2.out HWR.out)
    have hBq:B≤wr.heap.size:=zm hB HWr.out.size
    by_cases hlt:k<l.length
    ·obtain ⟨b,off,rfl,hob⟩:=(HL.out.keep HWr.out hB).base (zp _ _) hBq (by omega)
     obtain ⟨x,vs,hx,hlen,hcell,hr⟩:=(HL.out.keep HWr.out hB).at_ (zp _ _) hBq hlt
     obtain ⟨_,rfl,Aq,cq,rfl,hqr⟩:=hr
     have p0:wr.cell? ⟨b,off+k*2,none⟩=some (.bool x.all):=hcell 0 _ rfl
     have p1:wr.cell? ⟨b,off+k*2+1,none⟩=some (.slice Aq x.queries.length cq):=hcell 1 _ rfl
     have HE1:=zl (HE.out.trans (vF hx))
     have HRX:Hid ((CkR (d+1)).rd wr B ⟨false,x.queries⟩ [.bool false,.slice Aq x.queries.length cq]):=zl ⟨_,rfl,Aq,cq,rfl,hqr⟩
     clear hcell hlen hx hqr
     go_upto_region 10 with fail
     generalize hW:World.alloc _ _=w3
     obtain ⟨hb3,hz3⟩:=al1 hW
     have HK3:=zl (n11 hW)
     have HB3:=zl (ab HWr.out hb3)
     have HX3:=zl (ab HWR.out hb3)
     have HR3:=zl ((CkR (d+1)).keep hb3 hBq HRX.out)
     clear hW hb3 hz3 p0 p1
     have k_r:=HK3.out.cell
     have l_r:=HK3.out.lt
     go_wp2_with fail
     refine (ug (d:=d) (B:=B) (c:=⟨false,x.queries⟩) (vc:=[_,_]) (own:=15) HR3.out (HBL.out.keep HB3.out hB) (HKS.out.keep HB3.out hB) (by unfold I64;omega) hbn hkn (zm hB HB3.out.size) (HS.out.later HB3.out) hfew ((HB3.out.cell (p:=⟨0,0,none⟩) hp).trans HM.out) (zq hp HB3.out.size)).mono ?_
     rintro z w4 ⟨rfl,hb4⟩
     have HB4:=zl (ab HB3.out hb4)
     have HX4:=zl (ab HX3.out hb4)
     clear hb4 k_r l_r
     generalize be (fs.map FV.f) blk 15 keys ⟨false,x.queries⟩=h at *
     obtain ⟨h1,h2⟩:=h
     by_cases hh2:h2=0
     rotate_left
     ·have HV:Hid (gN (fs.map FV.f) blk keys l=(-1,h2)):=zl (HE1.out.trans (if_pos hh2))
      have hh3:(h2 !=0)=true:=by simpa using hh2
      clear hh2
      go_wp2_with fail
      go_ret2
      exact ⟨by rw [HV.out];rfl,HB4.out⟩
     ·have HE2:=zl (HE1.out.trans (if_neg (by simpa using hh2)))
      have hh3:(h2 !=0)=false:=by simpa using hh2
      clear hh2
      cases h1
      ·have HE3:=zl (HE2.out.trans (if_neg (by simp)))
       go_wp2_with fail
       go_roundw
       case rel=>exact ⟨k+1,by omega,by go_num,HX4,HE3⟩
       case measure=>simp [intOf];omega
      ·have HV:=zl (HE2.out.trans (if_pos rfl))
       go_wp2_with fail
       go_ret2
       exact ⟨by rw [HV.out];rfl,HB4.out⟩
    ·have HV:Hid (gN (fs.map FV.f) blk keys l=(-1,0)):=zl (by rw [HE.out,List.drop_eq_nil_iff.2 (by omega)];rfl)
     go_wp2_with fail
     go_ret2
     exact ⟨by rw [HV.out];rfl,HWr.out⟩
def zh:List OpD:=[⟨1,⟨6,1,⟨#[]⟩,[]⟩,0,0⟩]
def tv:Ru:=⟨⟨⟨#[]⟩,[]⟩,[],[zh],[]⟩
def tu:Ck:=⟨false,[tv]⟩
theorem qQ:bM tu=true:=by kernel_rfl
theorem rG:ay tv=true:=by kernel_rfl
theorem yes_run (fs:List Fc) (tr:Int):zg fs tr tv=⟨0,[fC],0⟩:=by
 have h:gL [zh] fC ⟨0,[],0⟩=⟨0,[fC],0⟩:=by kernel_rfl
 exact h
theorem tf (x:Ans):ly [x]=[x]:=by
 unfold ly
 rw [List.perm_singleton.1 (eQ [x])]
 rfl
theorem wF (fs:List Fc) (tr:Int):ga fs tr tv=(true,0):=by
 have h2:aQ fs tr tv=([fC],0):=by
  rw [gW,if_pos (by rw [rG,Bool.or_true]),yes_run,if_pos rfl,tf]
 unfold ga
 rw [if_pos rG,h2]
 rfl
theorem pm (fs:List Fc) (blk:List Sc) (keys:List ByteArray):be fs blk 15 keys ⟨false,[tv]⟩=(true,0):=by
 unfold be
 rw [if_pos (show bM ⟨false,[tv]⟩=true from qQ)]
 rw [uh]
 rw [show eG fs false (aM tv.scopes blk 15 keys) tv=(true,0) from wF fs _]
 rfl
section
variable {fs:List Fc} {blk:List Sc} {keys:List ByteArray} {p m:Ck}
theorem uG (h:(gN fs blk keys [p]).2≠0):(gN fs blk keys [p]).1=-1:=by
 unfold gN at h ⊢
 split
 ·rename_i hm
  rw [if_pos hm] at h
  simp only [sN] at h ⊢
  split
  ·rfl
  ·rename_i h2
   rw [if_neg h2] at h
   split
   ·rename_i h3;rw [if_pos h3] at h;exact absurd rfl h
   ·rfl
 ·rfl
theorem uH (h:(gN fs blk keys [p]).2=0):gN fs blk keys [tu,p]=(0,0)∧gN fs blk keys [p,tu]=(if (gN fs blk keys [p]).1=0 then 0 else 1,0)∧((gN fs blk keys [p]).1=0∨(gN fs blk keys [p]).1=-1)∧((gN fs blk keys [p]).1=0→(gN fs blk keys [p,m]).2≠0∨(gN fs blk keys [p,m]).1=0):=by
 have hp:bM p=true:=by
  cases hx:bM p with
  | true=>rfl
  | false=>
    unfold gN at h
    rw [if_neg (by simp [hx])] at h
    exact absurd h (by decide)
 have e0:(be fs blk 15 keys ⟨false,p.queries⟩).2=0:=by
  unfold gN at h
  rw [if_pos (by simp [hp])] at h
  simp only [sN] at h
  split at h
  ·assumption
  ·rename_i h2;simpa using h2
 have e1:gN fs blk keys [p]=if (be fs blk 15 keys ⟨false,p.queries⟩).1=true then (0,0) else (-1,0):=by
  unfold gN
  rw [if_pos (by simp [hp])]
  simp only [sN]
  rw [if_neg (by simp [e0])]
  rfl
 refine ⟨?_,?_,?_,?_⟩
 ·unfold gN
  rw [if_pos (by simp [hp,qQ])]
  simp only [sN]
  rw [show be fs blk 15 keys ⟨false,tu.queries⟩=(true,0) from pm fs blk keys]
  rfl
 ·rw [e1]
  unfold gN
  rw [if_pos (by simp [hp,qQ])]
  simp only [sN]
  rw [if_neg (by simp [e0]),show be fs blk 15 keys ⟨false,tu.queries⟩=(true,0) from pm fs blk keys]
  split
  ·rfl
  ·rfl
 ·rw [e1]
  split
  ·exact .inl rfl
  ·exact .inr rfl
 ·intro h0
  rw [e1] at h0
  split at h0
  ·rename_i h3
   unfold gN
   split
   ·right
    simp only [sN]
    rw [if_neg (by simp [e0]),if_pos h3]
    rfl
   ·left;decide
  ·exact absurd h0 (by decide)
end
theorem tV {d B:Nat} {b:Bk} {vs:List Value} {w:World} (hx:(BkR d).rd w B b vs) (hB:B≤w.heap.size) :
 Calls Tryz.prog 133 #[.agg vs.toArray] w fun e w'=>(∃m:Int,e=.returned (.int .i64 m))∧Below w.heap.size w w':=by
 obtain ⟨_,_,_,_,rfl,⟨A0,c0,rfl,g0,h0,hl0⟩,⟨A1,c1,rfl,g1,h1,hl1⟩,⟨A2,c2,rfl,g2,h2,hl2⟩,⟨A3,c3,rfl,g3,h3,hl3⟩⟩:=hx
 simp only [PrR,RuR,CkR,ScR] at h0 h1 h2 h3
 have HL0:=zl hl0
 have HL1:=zl hl1
 have HL2:=zl hl2
 clear hl0 hl1 hl2 hl3
 go_enter Tryz.func133,Tryz.ntmps133
 go_wp2_with fail
 generalize hW:World.alloc _ _=W
 obtain ⟨hb,hz⟩:=al1 hW
 have ba:=n11 hW
 have HB1:=zl hb
 have hB1:B≤W.heap.size:=by omega
 clear hW hb hz
 go_loopw [3,18] (fun v i wr=>∃k:Nat,k≤b.facts.length∧i=.int .i64 k∧(∃n:Int,v=.int .i64 n)∧Below W.heap.size W wr) (fun _ i _=>b.facts.length-(intOf i).toNat)
 case atStart=>exact ⟨0,zo _,rfl,⟨_,rfl⟩,zp _ _⟩
 case round=>
  obtain ⟨k,hk,rfl,⟨n,rfl⟩,hbw⟩:=hrel
  by_cases hlt:k<b.facts.length
  ·have hl:=HL0.out.keep HB1.out hB
   obtain ⟨bk,off,rfl,hbk⟩:=hl.base hbw hB1 (by omega)
   obtain ⟨x,vs,hx,hlen,hcell,hr⟩:=hl.at_ hbw hB1 hlt
   obtain ⟨_,rfl,hs,Ax,cx,rfl,gx,hxx,hlx⟩:=id hr
   have p0:wr.cell? ⟨bk,off+k*2,none⟩=some (.string x.name):=hcell 0 _ rfl
   have p1:wr.cell? ⟨bk,off+k*2+1,none⟩=some (.slice Ax x.terms.length cx):=hcell 1 _ rfl
   have HBw:=zl hbw
   have HR:=zl (And.intro hs (show RSl (TmR d) wr B x.terms (.slice Ax x.terms.length cx) from ⟨Ax,cx,rfl,gx,hxx,hlx⟩))
   have hszr:=hbw.size
   clear hl hcell hlen hx hr hlx hs gx hxx hbw
   go_wp2_with fail
   generalize hW2:World.alloc _ _=W2
   obtain ⟨hb2,hz2⟩:=al1 hW2
   clear hW2 p0 p1
   refine (gG (d:=d) (B:=B) (r:=⟨x,[],[],[]⟩) (vs:=[_,_,_,_,_]) (show (RuR d).rd W2 B ⟨x,[],[],[]⟩ _ from ⟨_,_,_,_,rfl,HR.out.1,HR.out.2.keep hb2 (by omega),dz,dz,dz⟩) (by omega)).mono ?_
   rintro e w3 ⟨⟨m,rfl⟩,hb3⟩
   have HB3:=zl (ab HBw.out (ab hb2 hb3))
   have hfin:=zl (ab HB1.out HB3.out)
   clear hb2 hb3 hz2
   go_wp2_with fail
   all_goals first
    | (go_ret
       exact ⟨⟨_,rfl⟩,hfin.out⟩)
    | (go_roundw
       case rel=>exact ⟨k+1,by omega,by go_num,⟨_,rfl⟩,HB3.out⟩
       case measure=>simp [intOf];omega)
  ·have HB2:=zl (ab HB1.out hbw)
   have ba2:=ba.later hbw
   have kba:=ba2.cell
   have lba:=ba2.lt
   have hB2:B≤wr.heap.size:=by have:=hbw.size;omega
   clear HB1 hB1 hbw ba
   go_wp2_with fail
   clear kba lba
   go_loopw [3,34] (fun v i ws=>∃k2:Nat,k2≤b.rules.length∧i=.int .i64 k2∧(∃n:Int,v=.int .i64 n)∧Below wr.heap.size wr ws) (fun _ i _=>b.rules.length-(intOf i).toNat)
   case atStart=>exact ⟨0,zo _,rfl,⟨_,rfl⟩,zp _ _⟩
   case round=>
    obtain ⟨k2,hk2,rfl,⟨n2,rfl⟩,hbw⟩:=hrel
    by_cases hlt2:k2<b.rules.length
    ·have hl:=HL1.out.keep HB2.out hB
     obtain ⟨bk,off,rfl,hbk⟩:=hl.base hbw hB2 (by omega)
     obtain ⟨x,vs,hx,hlen,hcell,hr⟩:=hl.at_ hbw hB2 hlt2
     obtain ⟨_,_,_,_,rfl,_,⟨X0,y0,rfl,_⟩,⟨X1,y1,rfl,_⟩,⟨X2,y2,rfl,_⟩,⟨X3,y3,rfl,_⟩⟩:=id hr
     have p0:wr.cell? ⟨bk,off+k2*5,none⟩=some (.string x.head.name):=hcell 0 _ rfl
     have p1:wr.cell? ⟨bk,off+k2*5+1,none⟩=some (.slice X0 x.head.terms.length y0):=hcell 1 _ rfl
     have p2:wr.cell? ⟨bk,off+k2*5+2,none⟩=some (.slice X1 x.body.length y1):=hcell 2 _ rfl
     have p3:wr.cell? ⟨bk,off+k2*5+3,none⟩=some (.slice X2 x.exprs.length y2):=hcell 3 _ rfl
     have p4:wr.cell? ⟨bk,off+k2*5+4,none⟩=some (.slice X3 x.scopes.length y3):=hcell 4 _ rfl
     have HBw:=zl hbw
     have HR:=zl hr
     have hszr:=hbw.size
     clear hl hcell hlen hx hr hbw
     go_wp2_with fail
     generalize hW2:World.alloc _ _=W2
     obtain ⟨hb2,hz2⟩:=al1 hW2
     clear hW2 p0 p1 p2 p3 p4
     refine (gG (d:=d) (B:=B) (r:=x) (vs:=[_,_,_,_,_]) ((RuR d).keep hb2 (by omega) HR.out) (by omega)).mono ?_
     rintro e w3 ⟨⟨m,rfl⟩,hb3⟩
     have HB3:=zl (ab HBw.out (ab hb2 hb3))
     have hfin:=zl (ab HB2.out HB3.out)
     clear hb2 hb3 hz2
     go_wp2_with fail
     all_goals first
      | (go_ret
         exact ⟨⟨_,rfl⟩,hfin.out⟩)
      | (go_roundw
         case rel=>exact ⟨k2+1,by omega,by go_num,⟨_,rfl⟩,HB3.out⟩
         case measure=>simp [intOf];omega)
    ·have HB4:=zl (ab HB2.out hbw)
     have ba4:=ba2.later hbw
     have kba:=ba4.cell
     have lba:=ba4.lt
     have hB4:B≤wr.heap.size:=by have:=hbw.size;omega
     clear HB2 hB2 hbw ba2
     go_wp2_with fail
     clear kba lba
     go_loopw [3,49] (fun v i wt=>∃k3:Nat,k3≤b.checks.length∧i=.int .i64 k3∧(∃n:Int,v=.int .i64 n)∧Below wr.heap.size wr wt) (fun _ i _=>b.checks.length-(intOf i).toNat)
     case atStart=>exact ⟨0,zo _,rfl,⟨_,rfl⟩,zp _ _⟩
     case round=>
      obtain ⟨k3,hk3,rfl,⟨n3,rfl⟩,hbw⟩:=hrel
      by_cases hlt3:k3<b.checks.length
      ·have hl:=HL2.out.keep HB4.out hB
       obtain ⟨bk,off,rfl,hbk⟩:=hl.base hbw hB4 (by omega)
       obtain ⟨x,vs,hx,hlen,hcell,hr⟩:=hl.at_ hbw hB4 hlt3
       obtain ⟨_,rfl,Aq,cq,rfl,gq,hq,hlq⟩:=id hr
       simp only [RuR] at hq
       have p0:wr.cell? ⟨bk,off+k3*2,none⟩=some (.bool x.all):=hcell 0 _ rfl
       have p1:wr.cell? ⟨bk,off+k3*2+1,none⟩=some (.slice Aq x.queries.length cq):=hcell 1 _ rfl
       have HBw:=zl hbw
       have HLq:=zl hlq
       have hszr:=hbw.size
       clear hl hcell hlen hx hr hbw hlq
       go_wp2_with fail
       generalize hW2:World.alloc _ _=W2
       obtain ⟨hb2,hz2⟩:=al1 hW2
       have HB5:=zl (ab HB4.out (ab HBw.out hb2))
       have HB6:=zl (ab HBw.out hb2)
       have HLq2:=zl (HLq.out.keep hb2 (by omega))
       have hB5:B≤W2.heap.size:=by omega
       clear hW2 p0 p1 hb2 hz2 HLq
       go_loopw [3,58] (fun v i wu=>∃j:Nat,j≤x.queries.length∧i=.int .i64 j∧(∃n:Int,v=.int .i64 n)∧Below W2.heap.size W2 wu) (fun _ i _=>x.queries.length-(intOf i).toNat)
       case atStart=>exact ⟨0,zo _,rfl,⟨_,rfl⟩,zp _ _⟩
       case round=>
        obtain ⟨j,hj,rfl,⟨n4,rfl⟩,hbw⟩:=hrel
        by_cases hlt4:j<x.queries.length
        ·obtain ⟨bk,off,rfl,hbk⟩:=HLq2.out.base hbw hB5 (by omega)
         obtain ⟨x,vs,hx,hlen,hcell,hr⟩:=HLq2.out.at_ hbw hB5 hlt4
         obtain ⟨_,_,_,_,rfl,_,⟨X0,y0,rfl,_⟩,⟨X1,y1,rfl,_⟩,⟨X2,y2,rfl,_⟩,⟨X3,y3,rfl,_⟩⟩:=id hr
         have p0:wr.cell? ⟨bk,off+j*5,none⟩=some (.string x.head.name):=hcell 0 _ rfl
         have p1:wr.cell? ⟨bk,off+j*5+1,none⟩=some (.slice X0 x.head.terms.length y0):=hcell 1 _ rfl
         have p2:wr.cell? ⟨bk,off+j*5+2,none⟩=some (.slice X1 x.body.length y1):=hcell 2 _ rfl
         have p3:wr.cell? ⟨bk,off+j*5+3,none⟩=some (.slice X2 x.exprs.length y2):=hcell 3 _ rfl
         have p4:wr.cell? ⟨bk,off+j*5+4,none⟩=some (.slice X3 x.scopes.length y3):=hcell 4 _ rfl
         have HBw:=zl hbw
         have HR:=zl hr
         have hszr:=hbw.size
         clear hcell hlen hx hr hbw
         go_wp2_with fail
         generalize hW2:World.alloc _ _=W3
         obtain ⟨hb2,hz2⟩:=al1 hW2
         clear hW2 p0 p1 p2 p3 p4
         refine (gG (d:=d) (B:=B) (r:=x) (vs:=[_,_,_,_,_]) ((RuR d).keep hb2 (by omega) HR.out) (by omega)).mono ?_
         rintro e w3 ⟨⟨m,rfl⟩,hb3⟩
         have HB7:=zl (ab HBw.out (ab hb2 hb3))
         have hfin:=zl (ab HB5.out HB7.out)
         clear hb2 hb3 hz2
         go_wp2_with fail
         all_goals first
          | (go_ret
             exact ⟨⟨_,rfl⟩,hfin.out⟩)
          | (go_roundw
             case rel=>exact ⟨j+1,by omega,by go_num,⟨_,rfl⟩,HB7.out⟩
             case measure=>simp [intOf];omega)
        ·have HB8:=zl (ab HB6.out hbw)
         clear hbw
         go_wp2_with fail
         go_roundw
         case rel=>exact ⟨k3+1,by omega,by go_num,⟨_,rfl⟩,HB8.out⟩
         case measure=>simp [intOf];omega
      ·have hfin:=zl (ab HB4.out hbw)
       clear hbw
       go_wp2_with fail
       go_ret
       exact ⟨⟨_,rfl⟩,hfin.out⟩
theorem oU {d B:Nat} {l:List Ru} {v:Value} {w:World} (hl:RSl (RuR d) w B l v) (hB:B≤w.heap.size) :
 Calls Tryz.prog 74 #[v] w fun e w'=>(∃m:Int,e=.returned (.int .i64 m))∧Below w.heap.size w w':=by
 have HL:=zl hl
 obtain ⟨A,c,rfl,g,h,_⟩:=hl
 go_enter Tryz.func74,Tryz.ntmps74
 go_wp2_with fail
 refine (tV (d:=d) (B:=B) (b:=⟨[],l,[],[]⟩) (vs:=[_,_,_,_]) (show (BkR d).rd w B ⟨[],l,[],[]⟩ _ from ⟨_,_,_,_,rfl,dz,HL.out,dz,dz⟩) hB).mono ?_
 rintro e w1 ⟨⟨m,rfl⟩,hb1⟩
 have HB:=zl hb1
 clear hb1
 go_wp2_with fail
 go_ret
 exact ⟨⟨_,rfl⟩,HB.out⟩
theorem sF {d B c:Nat} {l:List Fc} {A:Option Addr} {r:Ru} {vr:List Value} {w:World} (hl:RL (az (d+1)) w B l A) (hr:(RuR (d+1)).rd w B r vr) (hB:B≤w.heap.size) (hn:l.length≤140737488351232) :
 Calls Tryz.prog 73 #[.slice A l.length c,.agg vr.toArray] w fun z w'=>(∃q:Int,z=.returned (.int .i64 q))∧Below w.heap.size w w':=by
 have HL:=zl hl
 have HR:=zl hr
 obtain ⟨_,_,_,_,rfl,_,⟨A0,c0,rfl,_⟩,⟨A1,c1,rfl,_⟩,⟨A2,c2,rfl,_⟩,⟨A3,c3,rfl,_⟩⟩:=hr
 clear hl
 go_enter Tryz.func73,Tryz.ntmps73
 go_upto_region 1 with fail
 generalize hW:World.alloc _ _=w1
 obtain ⟨hb1,hz⟩:=al1 hW
 have HK1:=zl (n11 hW)
 have HB1:=zl hb1
 have hsz1:=hb1.size
 clear hW hb1 hz
 have k_r:=HK1.out.cell
 have l_r:=HK1.out.lt
 go_wp2_with fail
 refine (uF (d:=d) (B:=B) (l:=l) (r:=r) (vr:=[_,_,_,_,_]) (HL.out.keep HB1.out hB) ((RuR (d+1)).keep HB1.out hB HR.out) (by omega) hn).mono ?_
 rintro z w2 ⟨⟨q,rfl,hq⟩,hb2⟩
 have HB2:=zl (ab HB1.out hb2)
 clear hb2 hq k_r l_r
 cases q
 ·go_wp2_with fail
  go_ret
  exact ⟨⟨_,rfl⟩,HB2.out⟩
 ·go_wp2_with fail
  go_ret
  exact ⟨⟨_,rfl⟩,HB2.out⟩
def yw (n b k:Nat) (z:Ending):Prop:=∃q,z=.returned (.bool q)∧(q=true→n≤600∧b≤20∧k≤20)
theorem yw.no {n b k:Nat}:yw n b k (.returned (.bool false)):=⟨false,rfl,fun h=>by cases h⟩
theorem oc {d B c cq cb ck:Nat} {l:List Fc} {A Aq Ab Ak:Option Addr} {qs:List Ru} {blk:List Sc} {keys:List ByteArray} {w:World} (hl:RL (az (d+1)) w B l A) (hq:RSl (RuR (d+1)) w B qs (.slice Aq qs.length cq)) (hB:B≤w.heap.size) (hn:l.length≤140737488351232) :
 Calls Tryz.prog 25 #[.slice A l.length c,.slice Aq qs.length cq,.slice Ab blk.length cb,.slice Ak keys.length ck] w fun z w'=>yw l.length blk.length keys.length z∧Below w.heap.size w w':=by
 have HL:=zl hl
 have HQS:=zl hq
 have HQL:Hid (RL (RuR (d+1)) w B qs Aq):=zl (by obtain ⟨A',c',e,_,_,h⟩:=hq;cases e;exact h)
 have hqn:qs.length≤140737488351232:=by obtain ⟨A',c',e,_,h,_⟩:=hq;have:=h.1;simp only [RuR] at this;omega
 clear hl hq
 go_enter Tryz.func25,Tryz.ntmps25
 go_upto_region 2 with fail
 go_loopw [13] (fun i wr=>∃k:Nat,k≤qs.length∧i=.int .i64 k∧Hid (Below w.heap.size w wr)) (fun i _=>qs.length-(intOf i).toNat)
 case atStart=>exact ⟨0,zo _,rfl,zl (zp _ _)⟩
 case round=>
  obtain ⟨k,hk,rfl,HW⟩:=hrel
  have hszr:=HW.out.size
  have hBr:B≤wr.heap.size:=zm hB hszr
  by_cases hlt:k<qs.length
  ·obtain ⟨b,off,rfl,hob⟩:=(HQL.out.keep HW.out hB).base (zp _ _) hBr (by omega)
   obtain ⟨q,vs,hx,hlen,hcell,hr⟩:=(HQL.out.keep HW.out hB).at_ (zp _ _) hBr hlt
   have HQ:=zl hr
   obtain ⟨_,_,_,_,rfl,_,⟨A0,c0,rfl,_⟩,⟨A1,c1,rfl,_⟩,⟨A2,c2,rfl,_⟩,⟨A3,c3,rfl,_⟩⟩:=hr
   have p0:wr.cell? ⟨b,off+k*5,none⟩=some (.string q.head.name):=hcell 0 _ rfl
   have p1:wr.cell? ⟨b,off+k*5+1,none⟩=some (.slice A0 q.head.terms.length c0):=hcell 1 _ rfl
   have p2:wr.cell? ⟨b,off+k*5+2,none⟩=some (.slice A1 q.body.length c1):=hcell 2 _ rfl
   have p3:wr.cell? ⟨b,off+k*5+3,none⟩=some (.slice A2 q.exprs.length c2):=hcell 3 _ rfl
   have p4:wr.cell? ⟨b,off+k*5+4,none⟩=some (.slice A3 q.scopes.length c3):=hcell 4 _ rfl
   clear hcell hlen hx
   go_upto_region 4 with fail
   generalize hW:World.alloc _ _=w3
   obtain ⟨hb3,hz3⟩:=al1 hW
   have HK3:=zl (n11 hW)
   have HB3:=zl (ab HW.out hb3)
   have HQ3:=zl ((RuR (d+1)).keep hb3 hBr HQ.out)
   have hsz3:=hb3.size
   clear hW hb3 hz3 p0 p1 p2 p3 p4
   have k_r:=HK3.out.cell
   have l_r:=HK3.out.lt
   by_cases hg:(20:Int)≤(k:Int)
   ·go_wp2_with fail
    go_ret
    exact ⟨yw.no,HB3.out⟩
   ·go_wp2_with fail
    refine (sF (d:=d) (B:=B) (l:=l) (r:=q) (vr:=[_,_,_,_,_]) (HL.out.keep HB3.out hB) HQ3.out (by omega) hn).mono ?_
    rintro z w4 ⟨⟨v,rfl⟩,hb4⟩
    have HB4:=zl (ab HB3.out hb4)
    clear hb4 k_r l_r
    by_cases hv:(0:Int)<v
    ·go_wp2_with fail
     go_ret
     exact ⟨yw.no,HB4.out⟩
    ·go_wp2_with fail
     go_roundw
     case rel=>exact ⟨k+1,by omega,by go_num,HB4⟩
     case measure=>simp [intOf];omega
  ·generalize wr=w2 at *
   go_wp2_with fail
   refine (mp (HL.out.keep HW.out hB) hBr hn).mono ?_
   rintro z w3 ⟨⟨v,rfl,hv⟩,hb3⟩
   have HB3:=zl (ab HW.out hb3)
   clear hb3
   by_cases hv0:v=0
   rotate_left
   ·have hv1:((0:Int)==v)=false:=by rw [beq_eq_false_iff_ne];omega
    clear hv
    go_wp2_with fail
    go_ret
    exact ⟨yw.no,HB3.out⟩
   ·have hl6:=hv hv0
    subst hv0
    clear hv
    by_cases hb20:(blk.length:Int)≤20
    rotate_left
    ·go_wp2_with fail
     go_ret
     exact ⟨yw.no,HB3.out⟩
    ·by_cases hk20:(keys.length:Int)≤20
     rotate_left
     ·go_wp2_with fail
      go_ret
      exact ⟨yw.no,HB3.out⟩
     ·go_wp2_with fail
      refine (oU (d:=d+1) (B:=B) (l:=qs) (HQS.out.keep HB3.out hB) (zm hB HB3.out.size)).mono ?_
      rintro z w4 ⟨⟨v,rfl⟩,hb4⟩
      have HB4:=zl (ab HB3.out hb4)
      clear hb4
      go_wp2_with fail
      go_ret
      exact ⟨⟨_,rfl,fun _=>⟨hl6,by omega,by omega⟩⟩,HB4.out⟩
section
variable {fs:List Fc} {blk:List Sc} {own:Int} {keys:List ByteArray} {qs:List Ru} {r:Ru}
end
theorem stL_few {l:List Fc} {xs:List FV} (h:xs.map FV.f=stL l) (hl:l.length≤1000):xs.length≤100000:=by
 have h1:=qH l []
 have h2:=congrArg List.length h
 rw [List.length_map] at h2
 unfold stL at h2
 simp only [List.length_nil] at h1
 omega
def awS:ByteArray:=⟨#[112]⟩
def awX:ByteArray:=⟨#[120]⟩
def awT (n:Int):Tm:=⟨2,n,⟨#[]⟩,[]⟩
def awV:Tm:=⟨1,0,awX,[]⟩
def awF (n:Int):Fc:=⟨⟨awS,[awT n]⟩,1⟩
def awA (n:Int):Ans:=⟨⟨[[120]],[awT n]⟩,1⟩
def awE:List OpD:=[⟨1,awV,0,0⟩,⟨1,awT 2,0,0⟩,⟨3,⟨0,0,⟨#[]⟩,[]⟩,1,0⟩]
def awQ:Ru:=⟨⟨⟨#[]⟩,[]⟩,[⟨awS,[awV]⟩],[awE],[]⟩
theorem tP:stL [awF 1,awF 2]=[awF 1,awF 2]:=by kernel_rfl
theorem pz:ay awQ=true:=by kernel_rfl
theorem awq_run:dQ [awF 1,awF 2] 1 [awE] [⟨awS,[awV]⟩] fC ⟨0,[],0⟩=⟨2,[awA 1],0⟩:=by kernel_rfl
theorem wQ:dQ [awF 1,awF 2] 1 [] [⟨awS,[awV]⟩] fC ⟨0,[],0⟩=⟨2,[awA 1,awA 2],0⟩:=by kernel_rfl
theorem aw1_one:eE (awA 1).b [awE] true=(true,0):=by kernel_rfl
theorem aw1_no:eE (awA 1).b [awE] false=(false,0):=by kernel_rfl
theorem aw2_one:eE (awA 2).b [awE] true=(false,0):=by kernel_rfl
theorem aw2_no:eE (awA 2).b [awE] false=(false,0):=by kernel_rfl
theorem tO:ga (stL [awF 1,awF 2]) 1 awQ=(true,0):=by
 have h:zg (stL [awF 1,awF 2]) 1 awQ=⟨2,[awA 1],0⟩:=by rw [tP];exact awq_run
 have h2:aQ (stL [awF 1,awF 2]) 1 awQ=([awA 1],0):=by
  rw [gW,if_pos (by rw [pz,Bool.or_true]),h,if_pos rfl,wk]
 unfold ga
 rw [if_pos pz,h2]
 rfl
theorem nY:∀{L:List Ans} {a:Bool},(∀x∈L,x=awA 1∨x=awA 2)→awA 2∈L∨a=false→hX [awE] L a=(false,0)
 | [],a,h,h2=>by
   obtain h2 | h2:=h2
   ·cases h2
   ·rw [h2];rfl
 | x::xs,a,h,h2=>by
   have hxs:∀y∈xs,y=awA 1∨y=awA 2:=fun y hy=>h y (List.mem_cons_of_mem _ hy)
   obtain rfl | rfl:=h x List.mem_cons_self
   ·cases a
    ·rw [hX,aw1_no];exact nY hxs (.inr rfl)
    ·rw [hX,aw1_one]
     refine nY hxs (.inl ?_)
     obtain h2 | h2:=h2
     ·obtain e | h2:=List.mem_cons.1 h2
      ·exact absurd e (by simp [awA,awT])
      ·exact h2
     ·cases h2
   ·cases a
    ·rw [hX,aw2_no];exact nY hxs (.inr rfl)
    ·rw [hX,aw2_one];exact nY hxs (.inr rfl)
theorem tN:dE (stL [awF 1,awF 2]) 1 awQ=(false,0):=by
 have hm:(bl (pB awQ)||ay (pB awQ))=true:=by kernel_rfl
 have h:zg (stL [awF 1,awF 2]) 1 (pB awQ)=⟨2,[awA 1,awA 2],0⟩:=by rw [tP];exact wQ
 have h2:bY (stL [awF 1,awF 2]) 1 awQ=(ly [awA 1,awA 2],0):=by
  unfold bY
  rw [if_neg (by simp [awQ]),gW,if_pos hm,h,if_pos rfl]
 obtain ⟨_,h3,h4⟩:=tg [awA 1,awA 2]
 unfold dE
 rw [if_pos pz,h2,if_neg (by simp)]
 refine nY (fun x hx=>by have:=h4 x hx;simpa using this) (.inl ?_)
 obtain ⟨y,hy,e⟩:=h3 (awA 2) (by simp)
 obtain rfl | rfl:=(show y=awA 1∨y=awA 2 by have:=h4 y hy;simpa using this)
 ·exact absurd e (of_decide_eq_false (by kernel_rfl))
 ·exact hy
end Go.Proofs.YtdphibjibnffeaaGreat
