/- slices.BinarySearchFunc at facts. -/
import Derived.Test.YtjpndglegpcdnaaGreatFc3
set_option linter.unusedVariables false
set_option linter.unusedSimpArgs false
set_option maxRecDepth 100000
set_option maxHeartbeats 8000000
namespace Go.Proofs.YtjpndglegpcdnaaGreat
open Go.ChangeShapes Go.WideShapes Go.ChangeAt Go.RowKit
def pT (n:Nat) (cs:Nat→Int):Nat:=(List.range n).findIdx (fun i=>!decide (cs i<0))
theorem og {n:Nat} {cs:Nat→Int} {i:Nat} (h:i≤n) (h1:∀k,k<i→cs k<0) (h2:i<n→¬cs i<0):pT n cs=i:=by
 unfold pT
 rcases Nat.lt_or_ge i n with hlt | hge
 ·refine (List.findIdx_eq (by simpa using hlt)).2 ⟨by simpa using h2 hlt,fun j hj=>?_⟩
  simpa using h1 j hj
 ·obtain rfl:i=n:=by omega
  have:(List.range i).findIdx (fun i=>!decide (cs i<0))=(List.range i).length:=List.findIdx_eq_length.2 fun x hx=>by simpa using h1 x (List.mem_range.1 hx)
  rw [this,List.length_range]
theorem wX (n:Nat) (cs:Nat→Int):pT n cs≤n:=by
 have:=List.findIdx_le_length (xs:=List.range n) (p:=fun i=>!decide (cs i<0))
 rwa [List.length_range] at this
theorem lV {n:Nat} {cs:Nat→Int} {k:Nat} (h:k<pT n cs):cs k<0:=by
 have h1:=List.not_of_lt_findIdx h
 simpa using h1
theorem wW {n:Nat} {cs:Nat→Int} (h:pT n cs<n):¬cs (pT n cs)<0:=by
 intro hlt
 have h1:=List.findIdx_getElem (xs:=List.range n) (p:=fun i=>!decide (cs i<0)) (w:=by rw [List.length_range];exact h)
 have h2:0≤cs (pT n cs):=by simpa [pT] using h1
 omega
theorem vA:∀args (w:World),(callFunc 35 args).run Tryz.prog w=.ok (.enter 35 args) w:=ent Tryz.func35 (by kernel_rfl) rfl
theorem zJ:∀args (w:World),(callFunc 26 args).run Tryz.prog w=.ok (.enter 26 args) w:=ent Tryz.func26 (by kernel_rfl) rfl
def dG (f:Fc) (name:ByteArray) (n:Int):Int:=orL [dh (bs f.pr.name) (bs name),cW f.pr.terms.length n]
theorem uP {d B G:Nat} {f:Fc} {vf:List Value} {name:ByteArray} {n:Int} {w:World} (hf:(ay (d+1)).rd w B f vf) (hG:Blk w G #[.string name]) (hB:B≤w.heap.size) :
 Calls Tryz.prog 26 #[.agg vf.toArray,.int .i64 n,.pointer (some ⟨G,0,none⟩)] w fun z w'=>z=.returned (.int .i64 (dG f name n))∧Below w.heap.size w w':=by
 obtain ⟨A,c,rfl,hs,h1,h2,h3,hl,ho⟩:=aG hf
 have HG:=AE hG
 clear hf hl ho hG
 go_enter Tryz.func26,Tryz.ntmps26
 go_upto_region 1 with fail
 generalize hW:World.alloc _ _=w1
 obtain ⟨hb,hz⟩:=al1 hW
 have HA1:=AE (n11 hW)
 have HG1:=AE (HG.out.later hb)
 have HU1:=AE hb
 clear hW hb
 have hsz:=HU1.out.size
 have HSL:Hid (∀{w':World},Below w1.heap.size w1 w'→(w'.cell? ⟨w.heap.size,0,none⟩=some (.string f.pr.name)∧w'.cell? ⟨w.heap.size,1,none⟩=some (.slice A f.pr.terms.length c)∧w'.cell? ⟨w.heap.size,2,none⟩=some (.int .u32 f.o)∧w'.cell? ⟨G,0,none⟩=some (.string name))):=AE (fun hb=>⟨(HA1.out.later hb).cell 0,(HA1.out.later hb).cell 1,(HA1.out.later hb).cell 2,(HG1.out.later hb).cell 0⟩)
 refine aM (fun w'=>w'.cell? ⟨w.heap.size,0,none⟩=some (.string f.pr.name)∧w'.cell? ⟨w.heap.size,1,none⟩=some (.slice A f.pr.terms.length c)∧w'.cell? ⟨w.heap.size,2,none⟩=some (.int .u32 f.o)∧w'.cell? ⟨G,0,none⟩=some (.string name)) (by kernel_rfl) (HSL.out (AI _ _).drew) ?_
 refine ab 0 ?_
 refine ab 1 ?_
 refine ab 2 ?_
 refine ab 3 ?_
 refine ab 5 ?_
 refine ab 6 ?_
 refine ab 7 ?_
 refine ab 8 ?_
 refine ab 9 ?_
 generalize hD:World.drew w1=w2
 have HU:Hid (Below w1.heap.size w1 w2):=AE (hD▸(AI w1.heap.size w1).drew)
 clear hD
 refine aw (rs:=[4]) (by kernel_rfl) rfl ?_
 refine ak.cons rfl (fun K hK=>?_) ak.nil
 go_simp
 refine (di _ _ _).mono ?_
 rintro e w' ⟨rfl,rfl⟩
 refine hK.out _ _ (HSL.out HU.out) ?_
 clear hK
 refine aw (rs:=[10]) (by kernel_rfl) rfl ?_
 refine ak.cons rfl (fun K hK=>?_) ak.nil
 go_simp
 refine (dS _ _ _).mono ?_
 rintro e w' ⟨rfl,rfl⟩
 refine hK.out _ _ (HSL.out HU.out) ?_
 clear hK
 refine aw (rs:=[11]) (by kernel_rfl) rfl ?_
 refine ak.cons rfl (fun K hK=>?_) ak.nil
 go_simp
 generalize hW:World.alloc _ _=w4
 obtain ⟨hb4,hz4⟩:=al1 hW
 have HL4:=AE (n11 hW)
 have HU4:Hid (Below w1.heap.size w1 w4):=AE (HU.out.trans (hb4.mono HU.out.size))
 clear hW hb4
 refine hK.out _ _ (HSL.out HU4.out) ?_
 clear hK
 refine aw (rs:=[12]) (by kernel_rfl) rfl ?_
 refine ak.cons rfl (fun K hK=>?_) ak.nil
 go_simp
 refine (jd [dh (bs f.pr.name) (bs name),cW f.pr.terms.length n] w2.heap.size w4 (fun i hi=>by
  rw [HL4.out.cell i]
  match i,hi with
  | 0,_=>rfl
  | 1,_=>rfl) (by simp)).mono ?_
 rintro e w' ⟨rfl,rfl⟩
 refine hK.out _ _ (HSL.out HU4.out) ?_
 clear hK
 refine ab 13 ?_
 refine bN (by kernel_rfl) ?_
 go_wp2_with fail
 go_ret
 exact ⟨av rfl,HU1.out.trans (HU4.out.mono hsz)⟩
theorem lh {d e B c:Nat} {fs:List Fc} {t:Fc} {vt:List Value} {A:Option Addr} {w:World} (hl:RL (ay (d+1)) w B fs A) (ht:(ay (e+1)).rd w B t vt) (hok:∀f∈fs,FcOk f) (htn:t.pr.terms.length*40≤140737488351232) (hn:fs.length≤1000000) (hB:B≤w.heap.size)
 (cs:Nat→Int) (hcs:∀i (hi:i<fs.length),cs i=aF fs[i] t) (hmono:∀i j,i≤j→j<fs.length→cs j<0→cs i<0) :
 Calls Tryz.prog 34 #[.slice A fs.length c,.agg vt.toArray,.func (.func 35) #[] #[]] w fun z w'=>z=.returned (.tuple #[.int .i64 (pT fs.length cs),.bool (decide (pT fs.length cs<fs.length∧cs (pT fs.length cs)=0))])∧Below w.heap.size w w':=by
 have HL:=AE hl
 have HOK:=AE hok
 have HCS:=AE hcs
 have HMO:=AE hmono
 have hen:=vA
 have HT:=AE ht
 obtain ⟨At,ct,rfl,_,_,_,_,_,_⟩:=aG ht
 clear hl hok hcs hmono ht
 go_enter Tryz.func34,Tryz.ntmps34
 go_upto_region 3 with fail
 generalize hW:World.alloc _ _=w1
 obtain ⟨hb1,hz⟩:=al1 hW
 have HBT:=AE (n11 hW)
 have HB1:=AE hb1
 have hsz1:=hb1.size
 clear hW hb1
 have hB1:B≤w1.heap.size:=by omega
 go_loopw [9,10] (fun u v wr=>∃i j:Nat,i≤j∧j≤fs.length∧u=.int .i64 i∧v=.int .i64 j∧Hid (∀k,k<i→cs k<0)∧Hid (∀k,j≤k→k<fs.length→¬cs k<0)∧Hid (Below w1.heap.size w1 wr)) (fun u v _=>(intOf v).toNat-(intOf u).toNat)
 case atStart=>exact ⟨0,fs.length,AH _,AG _,rfl,rfl,AE (fun k h=>absurd h (by omega)),AE (fun k h h2=>absurd h2 (by omega)),AE (AI _ _)⟩
 case round=>
  obtain ⟨i,j,hij,hj,rfl,rfl,HLO,HHI,HWR⟩:=hrel
  have hszr:=HWR.out.size
  have hBr:B≤wr.heap.size:=by omega
  have HBTr:=AE (HBT.out.later HWR.out)
  by_cases hlt:i<j
  ·obtain ⟨m,hm⟩:∃m:Nat,m=(i+j) / 2:=⟨_,rfl⟩
   have hml:m<fs.length:=by omega
   have hm1:(m:Int)<fs.length:=by omega
   have hm0:(0:Int)≤m:=Int.natCast_nonneg _
   go_upto_region 5 with fail
   have hmi:((i:Int)+j) / 2=m:=by omega
   rw [hmi]
   have HM:=AE hm
   clear hmi hm
   obtain ⟨bp_,offp,rfl,hobp⟩:=(HL.out.keep (HB1.out.trans (HWR.out.mono hsz1)) hB).base (AI _ _) hBr (by omega)
   obtain ⟨f,vs,hx,hlen,hcell,hr⟩:=(HL.out.keep (HB1.out.trans (HWR.out.mono hsz1)) hB).at_ (AI _ _) hBr hml
   have HF:=AE hr
   have HFE:Hid (fs[m]=f):=AE (by rw [AO hml] at hx;simpa using hx)
   have HFO:Hid (FcOk f):=AE (HOK.out f (List.mem_of_getElem? hx))
   obtain ⟨Af,cf,rfl,g1,g2,g3,g4,_⟩:=aG (show (ay (d+1)).rd wr B f vs from hr)
   have HFC:Hid (∀w',Below wr.heap.size wr w'→w'.cell? ⟨bp_,offp+m*3,none⟩=some (.string f.pr.name)∧w'.cell? ⟨bp_,offp+m*3+1,none⟩=some (.slice Af f.pr.terms.length cf)∧w'.cell? ⟨bp_,offp+m*3+2,none⟩=some (.int .u32 f.o)):=AE (fun w' hb=>⟨(hb.cell (p:=⟨bp_,_,none⟩) hobp).trans (hcell 0 _ rfl),(hb.cell (p:=⟨bp_,_,none⟩) hobp).trans (hcell 1 _ rfl),(hb.cell (p:=⟨bp_,_,none⟩) hobp).trans (hcell 2 _ rfl)⟩)
   have hf8:f.pr.terms.length≤8:=HFO.out.few
   clear hcell hlen hx hr g1 g2 g3 g4
   have HE:Hid (cs m=aF f t):=AE (by rw [HCS.out m hml,HFE.out])
   have HSL:Hid (∀{w':World},Below wr.heap.size wr w'→(w'.cell? ⟨bp_,offp+m*3,none⟩=some (.string f.pr.name)∧w'.cell? ⟨bp_,offp+m*3+1,none⟩=some (.slice Af f.pr.terms.length cf)∧w'.cell? ⟨bp_,offp+m*3+2,none⟩=some (.int .u32 f.o)∧w'.cell? ⟨w.heap.size,0,none⟩=some (.string t.pr.name)∧w'.cell? ⟨w.heap.size,1,none⟩=some (.slice At t.pr.terms.length ct)∧w'.cell? ⟨w.heap.size,2,none⟩=some (.int .u32 t.o))):=AE (fun hb=>have h:=HFC.out _ hb;⟨h.1,h.2.1,h.2.2,(HBTr.out.later hb).cell 0,(HBTr.out.later hb).cell 1,(HBTr.out.later hb).cell 2⟩)
   refine aM (fun w'=>w'.cell? ⟨bp_,offp+m*3,none⟩=some (.string f.pr.name)∧w'.cell? ⟨bp_,offp+m*3+1,none⟩=some (.slice Af f.pr.terms.length cf)∧w'.cell? ⟨bp_,offp+m*3+2,none⟩=some (.int .u32 f.o)∧w'.cell? ⟨w.heap.size,0,none⟩=some (.string t.pr.name)∧w'.cell? ⟨w.heap.size,1,none⟩=some (.slice At t.pr.terms.length ct)∧w'.cell? ⟨w.heap.size,2,none⟩=some (.int .u32 t.o)) (by kernel_rfl) (HSL.out (AI _ _).drew) ?_
   refine ab 0 ?_
   refine ab 1 ?_
   refine ab 2 ?_
   refine ab 3 ?_
   refine ab 4 ?_
   refine ab 5 ?_
   generalize hD:World.drew wr=w2
   have HU:Hid (Below wr.heap.size wr w2):=AE (hD▸(AI wr.heap.size wr).drew)
   clear hD
   refine aw (rs:=[6]) (by kernel_rfl) rfl ?_
   refine ak.cons rfl (fun K hK=>?_) ak.nil
   go_simp
   refine (cN (d:=d+1) (e:=e+1) (B:=B) (a:=f) (b:=t) (va:=[_,_,_]) (vb:=[_,_,_]) ((ay (d+1)).keep HU.out hBr HF.out) ((ay (e+1)).keep (HB1.out.trans ((HWR.out.trans (HU.out.mono hszr)).mono hsz1)) hB HT.out) (by omega) htn (AF hBr HU.out.size)).mono ?_
   rintro e w7 ⟨rfl,hb7⟩
   have HW7:Hid (Below w1.heap.size w1 w7):=AE (HWR.out.trans ((HU.out.trans (hb7.mono HU.out.size)).mono hszr))
   have HX7:Hid (Below wr.heap.size wr w7):=AE (HU.out.trans (hb7.mono HU.out.size))
   clear hb7
   refine hK.out _ _ (HSL.out HX7.out) ?_
   clear hK
   refine ab 7 ?_
   refine bN (by kernel_rfl) ?_
   by_cases hneg:cs m<0
   ·have HN:=AE hneg
    rw [HE.out] at hneg
    have hneg':decide (aF f t<0)=true:=by simpa using hneg
    generalize hgc:aF f t=r at *
    clear hgc
    go_wp2_with fail
    go_roundw
    case rel=>exact ⟨m+1,j,by have:=HM.out;omega,hj,by go_num,rfl,AE (fun k h=>by
     rcases Nat.lt_or_ge k m with h1 | h1
     ·exact HMO.out k m (by omega) hml HN.out
     ·obtain rfl:k=m:=by omega
      exact HN.out),AE (fun k h h2=>by have:=HHI.out k h h2;omega),HW7⟩
    case measure=>have:=HM.out;simp [intOf];omega
   ·have HN:=AE hneg
    rw [HE.out] at hneg
    have hneg':decide (aF f t<0)=false:=by simpa using hneg
    generalize hgc:aF f t=r at *
    clear hgc
    go_wp2_with fail
    go_roundw
    case rel=>exact ⟨i,m,by have:=HM.out;omega,by omega,rfl,by go_num,HLO,AE (fun k h h2=>by have h4:=HMO.out m k h h2;have h5:=HN.out;omega),HW7⟩
    case measure=>have:=HM.out;simp [intOf];omega
  ·obtain rfl:i=j:=by omega
   have HP:=AE (og (cs:=cs) hj HLO.out (fun h=>by have:=HHI.out i (AG _) h;omega))
   by_cases hin:i<fs.length
   ·have hml:=hin
    have hm1:(i:Int)<fs.length:=by omega
    have hm0:(0:Int)≤i:=Int.natCast_nonneg _
    obtain ⟨bp_,offp,rfl,hobp⟩:=(HL.out.keep (HB1.out.trans (HWR.out.mono hsz1)) hB).base (AI _ _) hBr (by omega)
    obtain ⟨f,vs,hx,hlen,hcell,hr⟩:=(HL.out.keep (HB1.out.trans (HWR.out.mono hsz1)) hB).at_ (AI _ _) hBr hml
    have HF:=AE hr
    have HFE:Hid (fs[i]=f):=AE (by rw [AO hml] at hx;simpa using hx)
    have HFO:Hid (FcOk f):=AE (HOK.out f (List.mem_of_getElem? hx))
    obtain ⟨Af,cf,rfl,g1,g2,g3,g4,_⟩:=aG (show (ay (d+1)).rd wr B f vs from hr)
    have HFC:Hid (∀w',Below wr.heap.size wr w'→w'.cell? ⟨bp_,offp+i*3,none⟩=some (.string f.pr.name)∧w'.cell? ⟨bp_,offp+i*3+1,none⟩=some (.slice Af f.pr.terms.length cf)∧w'.cell? ⟨bp_,offp+i*3+2,none⟩=some (.int .u32 f.o)):=AE (fun w' hb=>⟨(hb.cell (p:=⟨bp_,_,none⟩) hobp).trans (hcell 0 _ rfl),(hb.cell (p:=⟨bp_,_,none⟩) hobp).trans (hcell 1 _ rfl),(hb.cell (p:=⟨bp_,_,none⟩) hobp).trans (hcell 2 _ rfl)⟩)
    have hf8:f.pr.terms.length≤8:=HFO.out.few
    clear hcell hlen hx hr g1 g2 g3 g4
    have HE:Hid (cs i=aF f t):=AE (by rw [HCS.out i hml,HFE.out])
    go_upto_region 8 with fail
    have HSL:Hid (∀{w':World},Below wr.heap.size wr w'→(w'.cell? ⟨bp_,offp+i*3,none⟩=some (.string f.pr.name)∧w'.cell? ⟨bp_,offp+i*3+1,none⟩=some (.slice Af f.pr.terms.length cf)∧w'.cell? ⟨bp_,offp+i*3+2,none⟩=some (.int .u32 f.o)∧w'.cell? ⟨w.heap.size,0,none⟩=some (.string t.pr.name)∧w'.cell? ⟨w.heap.size,1,none⟩=some (.slice At t.pr.terms.length ct)∧w'.cell? ⟨w.heap.size,2,none⟩=some (.int .u32 t.o))):=AE (fun hb=>have h:=HFC.out _ hb;⟨h.1,h.2.1,h.2.2,(HBTr.out.later hb).cell 0,(HBTr.out.later hb).cell 1,(HBTr.out.later hb).cell 2⟩)
    refine aM (fun w'=>w'.cell? ⟨bp_,offp+i*3,none⟩=some (.string f.pr.name)∧w'.cell? ⟨bp_,offp+i*3+1,none⟩=some (.slice Af f.pr.terms.length cf)∧w'.cell? ⟨bp_,offp+i*3+2,none⟩=some (.int .u32 f.o)∧w'.cell? ⟨w.heap.size,0,none⟩=some (.string t.pr.name)∧w'.cell? ⟨w.heap.size,1,none⟩=some (.slice At t.pr.terms.length ct)∧w'.cell? ⟨w.heap.size,2,none⟩=some (.int .u32 t.o)) (by kernel_rfl) (HSL.out (AI _ _).drew) ?_
    refine ab 0 ?_ (by simp only [List.getElem?_toArray,List.getElem?_cons_succ,AU];rfl)
    (try simp only [Act.put,List.setIfInBounds_toArray,List.set_cons_zero,List.set_cons_succ])
    refine ab 1 ?_ (by simp only [List.getElem?_toArray,List.getElem?_cons_succ,AU];rfl)
    (try simp only [Act.put,List.setIfInBounds_toArray,List.set_cons_zero,List.set_cons_succ])
    refine ab 2 ?_ (by simp only [List.getElem?_toArray,List.getElem?_cons_succ,AU];rfl)
    (try simp only [Act.put,List.setIfInBounds_toArray,List.set_cons_zero,List.set_cons_succ])
    refine ab 3 ?_ (by simp only [List.getElem?_toArray,List.getElem?_cons_succ,AU];rfl)
    (try simp only [Act.put,List.setIfInBounds_toArray,List.set_cons_zero,List.set_cons_succ])
    refine ab 4 ?_ (by simp only [List.getElem?_toArray,List.getElem?_cons_succ,AU];rfl)
    (try simp only [Act.put,List.setIfInBounds_toArray,List.set_cons_zero,List.set_cons_succ])
    refine ab 5 ?_ (by simp only [List.getElem?_toArray,List.getElem?_cons_succ,AU];rfl)
    (try simp only [Act.put,List.setIfInBounds_toArray,List.set_cons_zero,List.set_cons_succ])
    refine ab 6 ?_ (by simp only [List.getElem?_toArray,List.getElem?_cons_succ,AU];rfl)
    (try simp only [Act.put,List.setIfInBounds_toArray,List.set_cons_zero,List.set_cons_succ])
    refine ab 7 ?_ (by simp only [List.getElem?_toArray,List.getElem?_cons_succ,AU];rfl)
    (try simp only [Act.put,List.setIfInBounds_toArray,List.set_cons_zero,List.set_cons_succ])
    refine ab 8 ?_ (by simp only [List.getElem?_toArray,List.getElem?_cons_succ,AU];rfl)
    (try simp only [Act.put,List.setIfInBounds_toArray,List.set_cons_zero,List.set_cons_succ])
    refine ab 9 ?_ (by simp only [List.getElem?_toArray,List.getElem?_cons_succ,AU];rfl)
    (try simp only [Act.put,List.setIfInBounds_toArray,List.set_cons_zero,List.set_cons_succ])
    refine ab 10 ?_ (by simp only [List.getElem?_toArray,List.getElem?_cons_succ,AU];rfl)
    (try simp only [Act.put,List.setIfInBounds_toArray,List.set_cons_zero,List.set_cons_succ])
    generalize hD:World.drew wr=w2
    have HU:Hid (Below wr.heap.size wr w2):=AE (hD▸(AI wr.heap.size wr).drew)
    clear hD
    refine aw (rs:=[11]) (by kernel_rfl) rfl ?_
    refine ak.cons (by simp only [List.getElem?_toArray,List.getElem?_cons_succ,AU];rfl) (fun K hK=>?_) ak.nil
    go_simp
    refine (cN (d:=d+1) (e:=e+1) (B:=B) (a:=f) (b:=t) (va:=[_,_,_]) (vb:=[_,_,_]) ((ay (d+1)).keep HU.out hBr HF.out) ((ay (e+1)).keep (HB1.out.trans ((HWR.out.trans (HU.out.mono hszr)).mono hsz1)) hB HT.out) (by omega) htn (AF hBr HU.out.size)).mono ?_
    rintro e w7 ⟨rfl,hb7⟩
    have HW7:Hid (Below w1.heap.size w1 w7):=AE (HWR.out.trans ((HU.out.trans (hb7.mono HU.out.size)).mono hszr))
    have HX7:Hid (Below wr.heap.size wr w7):=AE (HU.out.trans (hb7.mono HU.out.size))
    clear hb7
    refine hK.out _ _ (HSL.out HX7.out) ?_
    clear hK
    (try simp only [Act.put,List.setIfInBounds_toArray,List.set_cons_zero,List.set_cons_succ])
    refine ab 12 ?_ (by simp only [List.getElem?_toArray,List.getElem?_cons_succ,AU];rfl)
    (try simp only [Act.put,List.setIfInBounds_toArray,List.set_cons_zero,List.set_cons_succ])
    refine ab 13 ?_ (by simp only [List.getElem?_toArray,List.getElem?_cons_succ,AU];rfl)
    (try simp only [Act.put,List.setIfInBounds_toArray,List.set_cons_zero,List.set_cons_succ])
    refine ab 14 ?_ (by simp only [List.getElem?_toArray,List.getElem?_cons_succ,AU];rfl)
    (try simp only [Act.put,List.setIfInBounds_toArray,List.set_cons_zero,List.set_cons_succ])
    refine ab 15 ?_ (by simp only [List.getElem?_toArray,List.getElem?_cons_succ,AU];rfl)
    (try simp only [Act.put,List.setIfInBounds_toArray,List.set_cons_zero,List.set_cons_succ])
    refine bN (by kernel_rfl) ?_
    have HQ:Hid ((decide (i<fs.length)&&decide (cs i=0))=(aF f t==0)):=AE (Bool.eq_iff_iff.2 (by rw [HE.out];simp [hin]))
    generalize hgc:aF f t=r at *
    go_wp2_with fail
    go_ret2
    refine ⟨km (by rw [HP.out]) (by rw [HP.out];first | rw [HQ.out] | rw [Bool.decide_and,HQ.out]),HB1.out.trans (HW7.out.mono hsz1)⟩
   ·go_upto_region 8 with fail
    have hi2:i=fs.length:=by omega
    have hgd:decide ((i:Int)<(fs.length:Int))=false:=by simp;omega
    refine wp_region_quiet_below (by kernel_rfl) (by kernel_rfl) ?_
    repeat (go_big_quiet_step (fail))
    refine wpQuiet_nil ?_
    intro w9 hw_
    have hb:Below wr.heap.size wr w9:=by obtain ⟨p_,rfl⟩:=hw_;exact below_regrown _ _ _
    clear hw_
    go_wp2_with fail
    go_ret2
    have hf:decide (i<fs.length)=false:=decide_eq_false (by omega)
    exact ⟨km (by rw [HP.out];omega) (by rw [HP.out];first | rw [hf,Bool.false_and] | rw [Bool.decide_and,hf,Bool.false_and]),HB1.out.trans ((HWR.out.trans (hb.mono hszr)).mono hsz1)⟩
theorem tj {d B c G:Nat} {fs:List Fc} {name:ByteArray} {n:Int} {A:Option Addr} {w:World} (hl:RL (ay (d+1)) w B fs A) (hG:Blk w G #[.string name]) (hok:∀f∈fs,FcOk f) (hn:fs.length≤1000000) (hB:B≤w.heap.size)
 (cs:Nat→Int) (hcs:∀i (hi:i<fs.length),cs i=dG fs[i] name n) (hmono:∀i j,i≤j→j<fs.length→cs j<0→cs i<0) :
 Calls Tryz.prog 30 #[.slice A fs.length c,.int .i64 n,.func (.func 26) #[] #[.pointer (some ⟨G,0,none⟩)]] w fun z w'=>z=.returned (.tuple #[.int .i64 (pT fs.length cs),.bool (decide (pT fs.length cs<fs.length∧cs (pT fs.length cs)=0))])∧Below w.heap.size w w':=by
 have HL:=AE hl
 have HOK:=AE hok
 have HCS:=AE hcs
 have HMO:=AE hmono
 have hen:=zJ
 have HG:=AE hG
 clear hl hok hcs hmono hG
 go_enter Tryz.func30,Tryz.ntmps30
 go_upto_region 3 with fail
 obtain ⟨w1,hw1⟩:∃w1,w1=w:=⟨_,rfl⟩
 have HB1:Hid (Below w.heap.size w w1):=AE (hw1▸AI _ _)
 have HBT:Hid (Blk w1 G #[.string name]):=AE (hw1▸HG.out)
 rw [←hw1]
 have hsz1:=HB1.out.size
 have hB1:B≤w1.heap.size:=by omega
 clear hw1
 go_loopw [9,10] (fun u v wr=>∃i j:Nat,i≤j∧j≤fs.length∧u=.int .i64 i∧v=.int .i64 j∧Hid (∀k,k<i→cs k<0)∧Hid (∀k,j≤k→k<fs.length→¬cs k<0)∧Hid (Below w1.heap.size w1 wr)) (fun u v _=>(intOf v).toNat-(intOf u).toNat)
 case atStart=>exact ⟨0,fs.length,AH _,AG _,rfl,rfl,AE (fun k h=>absurd h (by omega)),AE (fun k h h2=>absurd h2 (by omega)),AE (AI _ _)⟩
 case round=>
  obtain ⟨i,j,hij,hj,rfl,rfl,HLO,HHI,HWR⟩:=hrel
  have hszr:=HWR.out.size
  have hBr:B≤wr.heap.size:=by omega
  have HBTr:=AE (HBT.out.later HWR.out)
  by_cases hlt:i<j
  ·obtain ⟨m,hm⟩:∃m:Nat,m=(i+j) / 2:=⟨_,rfl⟩
   have hml:m<fs.length:=by omega
   have hm1:(m:Int)<fs.length:=by omega
   have hm0:(0:Int)≤m:=Int.natCast_nonneg _
   go_upto_region 5 with fail
   have hmi:((i:Int)+j) / 2=m:=by omega
   rw [hmi]
   have HM:=AE hm
   clear hmi hm
   obtain ⟨bp_,offp,rfl,hobp⟩:=(HL.out.keep (HB1.out.trans (HWR.out.mono hsz1)) hB).base (AI _ _) hBr (by omega)
   obtain ⟨f,vs,hx,hlen,hcell,hr⟩:=(HL.out.keep (HB1.out.trans (HWR.out.mono hsz1)) hB).at_ (AI _ _) hBr hml
   have HF:=AE hr
   have HFE:Hid (fs[m]=f):=AE (by rw [AO hml] at hx;simpa using hx)
   have HFO:Hid (FcOk f):=AE (HOK.out f (List.mem_of_getElem? hx))
   obtain ⟨Af,cf,rfl,g1,g2,g3,g4,_⟩:=aG (show (ay (d+1)).rd wr B f vs from hr)
   have HFC:Hid (∀w',Below wr.heap.size wr w'→w'.cell? ⟨bp_,offp+m*3,none⟩=some (.string f.pr.name)∧w'.cell? ⟨bp_,offp+m*3+1,none⟩=some (.slice Af f.pr.terms.length cf)∧w'.cell? ⟨bp_,offp+m*3+2,none⟩=some (.int .u32 f.o)):=AE (fun w' hb=>⟨(hb.cell (p:=⟨bp_,_,none⟩) hobp).trans (hcell 0 _ rfl),(hb.cell (p:=⟨bp_,_,none⟩) hobp).trans (hcell 1 _ rfl),(hb.cell (p:=⟨bp_,_,none⟩) hobp).trans (hcell 2 _ rfl)⟩)
   have hf8:f.pr.terms.length≤8:=HFO.out.few
   clear hcell hlen hx hr g1 g2 g3 g4
   have HE:Hid (cs m=dG f name n):=AE (by rw [HCS.out m hml,HFE.out])
   obtain ⟨c0,c1,c2⟩:=HFC.out wr (AI _ _)
   go_wp2_with fail
   refine (uP (d:=d) (B:=B) (f:=f) (vf:=[_,_,_]) (name:=name) (n:=n) HF.out HBTr.out hBr).mono ?_
   rintro e w7 ⟨rfl,hb7⟩
   have HW7:Hid (Below w1.heap.size w1 w7):=AE (HWR.out.trans (hb7.mono hszr))
   clear hb7 c0 c1 c2
   by_cases hneg:cs m<0
   ·have HN:=AE hneg
    rw [HE.out] at hneg
    have hneg':decide (dG f name n<0)=true:=by simpa using hneg
    generalize hgc:dG f name n=r at *
    clear hgc
    go_wp2_with fail
    go_roundw
    case rel=>exact ⟨m+1,j,by have:=HM.out;omega,hj,by go_num,rfl,AE (fun k h=>by
     rcases Nat.lt_or_ge k m with h1 | h1
     ·exact HMO.out k m (by omega) hml HN.out
     ·obtain rfl:k=m:=by omega
      exact HN.out),AE (fun k h h2=>by have:=HHI.out k h h2;omega),HW7⟩
    case measure=>have:=HM.out;simp [intOf];omega
   ·have HN:=AE hneg
    rw [HE.out] at hneg
    have hneg':decide (dG f name n<0)=false:=by simpa using hneg
    generalize hgc:dG f name n=r at *
    clear hgc
    go_wp2_with fail
    go_roundw
    case rel=>exact ⟨i,m,by have:=HM.out;omega,by omega,rfl,by go_num,HLO,AE (fun k h h2=>by have h4:=HMO.out m k h h2;have h5:=HN.out;omega),HW7⟩
    case measure=>have:=HM.out;simp [intOf];omega
  ·obtain rfl:i=j:=by omega
   have HP:=AE (og (cs:=cs) hj HLO.out (fun h=>by have:=HHI.out i (AG _) h;omega))
   by_cases hin:i<fs.length
   ·have hml:=hin
    have hm1:(i:Int)<fs.length:=by omega
    have hm0:(0:Int)≤i:=Int.natCast_nonneg _
    obtain ⟨bp_,offp,rfl,hobp⟩:=(HL.out.keep (HB1.out.trans (HWR.out.mono hsz1)) hB).base (AI _ _) hBr (by omega)
    obtain ⟨f,vs,hx,hlen,hcell,hr⟩:=(HL.out.keep (HB1.out.trans (HWR.out.mono hsz1)) hB).at_ (AI _ _) hBr hml
    have HF:=AE hr
    have HFE:Hid (fs[i]=f):=AE (by rw [AO hml] at hx;simpa using hx)
    have HFO:Hid (FcOk f):=AE (HOK.out f (List.mem_of_getElem? hx))
    obtain ⟨Af,cf,rfl,g1,g2,g3,g4,_⟩:=aG (show (ay (d+1)).rd wr B f vs from hr)
    have HFC:Hid (∀w',Below wr.heap.size wr w'→w'.cell? ⟨bp_,offp+i*3,none⟩=some (.string f.pr.name)∧w'.cell? ⟨bp_,offp+i*3+1,none⟩=some (.slice Af f.pr.terms.length cf)∧w'.cell? ⟨bp_,offp+i*3+2,none⟩=some (.int .u32 f.o)):=AE (fun w' hb=>⟨(hb.cell (p:=⟨bp_,_,none⟩) hobp).trans (hcell 0 _ rfl),(hb.cell (p:=⟨bp_,_,none⟩) hobp).trans (hcell 1 _ rfl),(hb.cell (p:=⟨bp_,_,none⟩) hobp).trans (hcell 2 _ rfl)⟩)
    have hf8:f.pr.terms.length≤8:=HFO.out.few
    clear hcell hlen hx hr g1 g2 g3 g4
    have HE:Hid (cs i=dG f name n):=AE (by rw [HCS.out i hml,HFE.out])
    go_upto_region 8 with fail
    obtain ⟨c0,c1,c2⟩:=HFC.out wr (AI _ _)
    go_wp2_with fail
    refine (uP (d:=d) (B:=B) (f:=f) (vf:=[_,_,_]) (name:=name) (n:=n) HF.out HBTr.out hBr).mono ?_
    rintro e w7 ⟨rfl,hb7⟩
    have HW7:Hid (Below w1.heap.size w1 w7):=AE (HWR.out.trans (hb7.mono hszr))
    clear hb7 c0 c1 c2
    have HQ:Hid ((decide (i<fs.length)&&decide (cs i=0))=(dG f name n==0)):=AE (Bool.eq_iff_iff.2 (by rw [HE.out];simp [hin]))
    generalize hgc:dG f name n=r at *
    go_wp2_with fail
    go_ret2
    refine ⟨km (by rw [HP.out]) (by rw [HP.out];first | rw [HQ.out] | rw [Bool.decide_and,HQ.out]),HB1.out.trans (HW7.out.mono hsz1)⟩
   ·go_upto_region 8 with fail
    have hi2:i=fs.length:=by omega
    have hgd:decide ((i:Int)<(fs.length:Int))=false:=by simp;omega
    have hb:=AI wr.heap.size wr
    go_wp2_with fail
    go_ret2
    have hf:decide (i<fs.length)=false:=decide_eq_false (by omega)
    exact ⟨km (by rw [HP.out];omega) (by rw [HP.out];first | rw [hf,Bool.false_and] | rw [Bool.decide_and,hf,Bool.false_and]),HB1.out.trans ((HWR.out.trans (hb.mono hszr)).mono hsz1)⟩
end Go.Proofs.YtjpndglegpcdnaaGreat
