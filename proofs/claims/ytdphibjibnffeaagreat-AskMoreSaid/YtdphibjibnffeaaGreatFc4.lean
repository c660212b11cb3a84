/- slices.BinarySearchFunc at facts. -/
import Derived.Test.YtdphibjibnffeaaGreatFc3
set_option linter.unusedVariables false
set_option linter.unusedSimpArgs false
set_option maxRecDepth 100000
set_option maxHeartbeats 8000000
namespace Go.Proofs.YtdphibjibnffeaaGreat
open Go.ChangeShapes Go.WideShapes Go.ChangeAt Go.RowKit
def oL (n:Nat) (cs:Nat→Int):Nat:=(List.range n).findIdx (fun i=>!decide (cs i<0))
theorem mZ {n:Nat} {cs:Nat→Int} {i:Nat} (h:i≤n) (h1:∀k,k<i→cs k<0) (h2:i<n→¬cs i<0):oL n cs=i:=by
 unfold oL
 rcases Nat.lt_or_ge i n with hlt | hge
 ·refine (List.findIdx_eq (by simpa using hlt)).2 ⟨by simpa using h2 hlt,fun j hj=>?_⟩
  simpa using h1 j hj
 ·obtain rfl:i=n:=by omega
  have:(List.range i).findIdx (fun i=>!decide (cs i<0))=(List.range i).length:=List.findIdx_eq_length.2 fun x hx=>by simpa using h1 x (List.mem_range.1 hx)
  rw [this,List.length_range]
theorem vu (n:Nat) (cs:Nat→Int):oL n cs≤n:=by
 have:=List.findIdx_le_length (xs:=List.range n) (p:=fun i=>!decide (cs i<0))
 rwa [List.length_range] at this
theorem li {n:Nat} {cs:Nat→Int} {k:Nat} (h:k<oL n cs):cs k<0:=by
 have h1:=List.not_of_lt_findIdx h
 simpa using h1
theorem vq {n:Nat} {cs:Nat→Int} (h:oL n cs<n):¬cs (oL n cs)<0:=by
 intro hlt
 have h1:=List.findIdx_getElem (xs:=List.range n) (p:=fun i=>!decide (cs i<0)) (w:=by rw [List.length_range];exact h)
 have h2:0≤cs (oL n cs):=by simpa [oL] using h1
 omega
theorem ul:∀args (w:World),(callFunc 95 args).run Tryz.prog w=.ok (.enter 95 args) w:=ent Tryz.func95 (by kernel_rfl) rfl
theorem yo:∀args (w:World),(callFunc 90 args).run Tryz.prog w=.ok (.enter 90 args) w:=ent Tryz.func90 (by kernel_rfl) rfl
def dy (f:Fc) (name:ByteArray) (n:Int):Int:=orL [cZ (bs f.pr.name) (bs name),cR f.pr.terms.length n]
theorem tB {d B G:Nat} {f:Fc} {vf:List Value} {name:ByteArray} {n:Int} {w:World} (hf:(ax (d+1)).rd w B f vf) (hG:Blk w G #[.string name]) (hB:B≤w.heap.size) :
 Calls Tryz.prog 90 #[.agg vf.toArray,.int .i64 n,.pointer (some ⟨G,0,none⟩)] w fun z w'=>z=.returned (.int .i64 (dy f name n))∧Below w.heap.size w w':=by
 obtain ⟨A,c,rfl,hs,h1,h2,h3,hl,ho⟩:=aI hf
 have HG:=yW hG
 clear hf hl ho hG
 go_enter Tryz.func90,Tryz.ntmps90
 go_upto_region 1 with fail
 generalize hW:World.alloc _ _=w1
 obtain ⟨hb,hz⟩:=al1 hW
 have HA1:=yW (n11 hW)
 have HG1:=yW (HG.out.later hb)
 have HU1:=yW hb
 clear hW hb
 have hsz:=HU1.out.size
 have HSL:Hid (∀{w':World},Below w1.heap.size w1 w'→(w'.cell? ⟨w.heap.size,0,none⟩=some (.string f.pr.name)∧w'.cell? ⟨w.heap.size,1,none⟩=some (.slice A f.pr.terms.length c)∧w'.cell? ⟨w.heap.size,2,none⟩=some (.int .u32 f.o)∧w'.cell? ⟨G,0,none⟩=some (.string name))):=yW (fun hb=>⟨(HA1.out.later hb).cell 0,(HA1.out.later hb).cell 1,(HA1.out.later hb).cell 2,(HG1.out.later hb).cell 0⟩)
 refine aG (fun w'=>w'.cell? ⟨w.heap.size,0,none⟩=some (.string f.pr.name)∧w'.cell? ⟨w.heap.size,1,none⟩=some (.slice A f.pr.terms.length c)∧w'.cell? ⟨w.heap.size,2,none⟩=some (.int .u32 f.o)∧w'.cell? ⟨G,0,none⟩=some (.string name)) (by kernel_rfl) (HSL.out (za _ _).drew) ?_
 refine aa (i:=0) (v:=?v1_) rfl (by kernel_rfl) (by kernel_rfl) (by kernel_rfl) ?hq1_ ?hw1_ ?hy1_ ?rest1_
 case hq1_=>exact fun _ _ _ h=>h
 case hw1_=>rfl
 case hy1_=>(intro w' hS';(try dsimp only at hS');go_simp;(try with_reducible rfl))
 refine aa (i:=1) (v:=?v2_) rfl (by kernel_rfl) (by kernel_rfl) (by kernel_rfl) ?hq2_ ?hw2_ ?hy2_ ?rest2_
 case hq2_=>exact fun _ _ _ h=>h
 case hw2_=>rfl
 case hy2_=>(intro w' hS';(try dsimp only at hS');go_simp;(try with_reducible rfl))
 refine aa (i:=2) (v:=?v3_) rfl (by kernel_rfl) (by kernel_rfl) (by kernel_rfl) ?hq3_ ?hw3_ ?hy3_ ?rest3_
 case hq3_=>exact fun _ _ _ h=>h
 case hw3_=>rfl
 case hy3_=>(intro w' hS';(try dsimp only at hS');go_simp;(try with_reducible rfl))
 refine aa (i:=3) (v:=?v4_) rfl (by kernel_rfl) (by kernel_rfl) (by kernel_rfl) ?hq4_ ?hw4_ ?hy4_ ?rest4_
 case hq4_=>exact fun _ _ _ h=>h
 case hw4_=>rfl
 case hy4_=>(intro w' hS';(try dsimp only at hS');go_simp;(try with_reducible rfl))
 refine aa (i:=5) (v:=?v5_) rfl (by kernel_rfl) (by kernel_rfl) (by kernel_rfl) ?hq5_ ?hw5_ ?hy5_ ?rest5_
 case hq5_=>exact fun _ _ _ h=>h
 case hw5_=>rfl
 case hy5_=>(intro w' hS';(try dsimp only at hS');go_simp;(try with_reducible rfl))
 refine aa (i:=6) (v:=?v6_) rfl (by kernel_rfl) (by kernel_rfl) (by kernel_rfl) ?hq6_ ?hw6_ ?hy6_ ?rest6_
 case hq6_=>exact fun _ _ _ h=>h
 case hw6_=>rfl
 case hy6_=>(intro w' hS';(try dsimp only at hS');go_simp;(try with_reducible rfl))
 refine aa (i:=7) (v:=?v7_) rfl (by kernel_rfl) (by kernel_rfl) (by kernel_rfl) ?hq7_ ?hw7_ ?hy7_ ?rest7_
 case hq7_=>exact fun _ _ _ h=>h
 case hw7_=>rfl
 case hy7_=>(intro w' hS';(try dsimp only at hS');go_simp;(try with_reducible rfl))
 refine aa (i:=8) (v:=?v8_) rfl (by kernel_rfl) (by kernel_rfl) (by kernel_rfl) ?hq8_ ?hw8_ ?hy8_ ?rest8_
 case hq8_=>exact fun _ _ _ h=>h
 case hw8_=>rfl
 case hy8_=>(intro w' hS';(try dsimp only at hS');go_simp;(try with_reducible rfl))
 refine aa (i:=9) (v:=?v9_) rfl (by kernel_rfl) (by kernel_rfl) (by kernel_rfl) ?hq9_ ?hw9_ ?hy9_ ?rest9_
 case hq9_=>exact fun _ _ _ h=>h
 case hw9_=>rfl
 case hy9_=>(intro w' hS';(try dsimp only at hS');go_simp;(try with_reducible rfl))
 generalize hD:World.drew w1=w2
 have HU:Hid (Below w1.heap.size w1 w2):=yW (hD▸(za w1.heap.size w1).drew)
 clear hD
 refine au (rs:=[4]) (by kernel_rfl) rfl ?_
 refine ak.cons rfl (fun K hK=>?_) ak.nil
 go_simp
 refine (de _ _ _).mono ?_
 rintro e w' ⟨rfl,rfl⟩
 refine hK.out _ _ (HSL.out HU.out) ?_
 clear hK
 refine au (rs:=[10]) (by kernel_rfl) rfl ?_
 refine ak.cons rfl (fun K hK=>?_) ak.nil
 go_simp
 refine (dJ _ _ _).mono ?_
 rintro e w' ⟨rfl,rfl⟩
 refine hK.out _ _ (HSL.out HU.out) ?_
 clear hK
 refine au (rs:=[11]) (by kernel_rfl) rfl ?_
 refine ak.cons rfl (fun K hK=>?_) ak.nil
 go_simp
 generalize hW:World.alloc _ _=w4
 obtain ⟨hb4,hz4⟩:=al1 hW
 have HL4:=yW (n11 hW)
 have HU4:Hid (Below w1.heap.size w1 w4):=yW (HU.out.trans (hb4.mono HU.out.size))
 clear hW hb4
 refine hK.out _ _ (HSL.out HU4.out) ?_
 clear hK
 refine au (rs:=[12]) (by kernel_rfl) rfl ?_
 refine ak.cons rfl (fun K hK=>?_) ak.nil
 go_simp
 refine (iH [cZ (bs f.pr.name) (bs name),cR f.pr.terms.length n] w2.heap.size w4 (fun i hi=>by
  rw [HL4.out.cell i]
  match i,hi with
  | 0,_=>rfl
  | 1,_=>rfl) (by simp)).mono ?_
 rintro e w' ⟨rfl,rfl⟩
 refine hK.out _ _ (HSL.out HU4.out) ?_
 clear hK
 refine aa (i:=13) (v:=?v10_) rfl (by kernel_rfl) (by kernel_rfl) (by kernel_rfl) ?hq10_ ?hw10_ ?hy10_ ?rest10_
 case hq10_=>exact fun _ _ _ h=>h
 case hw10_=>rfl
 case hy10_=>(intro w' hS';(try dsimp only at hS');go_simp;(try with_reducible rfl))
 refine bG (by kernel_rfl) ?_
 go_wp2_with fail
 go_ret
 exact ⟨ar rfl,HU1.out.trans (HU4.out.mono hsz)⟩
theorem pE {d e B c:Nat} {fs:List Fc} {t:Fc} {vt:List Value} {A:Option Addr} {w:World} (hl:RL (ax (d+1)) w B fs A) (ht:(ax (e+1)).rd w B t vt) (hok:∀f∈fs,FcOk f) (htn:t.pr.terms.length*40≤140737488351232) (hn:fs.length≤1000000) (hB:B≤w.heap.size)
 (cs:Nat→Int) (hcs:∀i (hi:i<fs.length),cs i=aW fs[i] t) (hmono:∀i j,i≤j→j<fs.length→cs j<0→cs i<0) :
 Calls Tryz.prog 94 #[.slice A fs.length c,.agg vt.toArray,.func (.func 95) #[] #[]] w fun z w'=>z=.returned (.tuple #[.int .i64 (oL fs.length cs),.bool (decide (oL fs.length cs<fs.length∧cs (oL fs.length cs)=0))])∧Below w.heap.size w w':=by
 have HL:=yW hl
 have HOK:=yW hok
 have HCS:=yW hcs
 have HMO:=yW hmono
 have hen:=ul
 have HT:=yW ht
 obtain ⟨At,ct,rfl,_,_,_,_,_,_⟩:=aI ht
 clear hl hok hcs hmono ht
 go_enter Tryz.func94,Tryz.ntmps94
 go_upto_region 3 with fail
 generalize hW:World.alloc _ _=w1
 obtain ⟨hb1,hz⟩:=al1 hW
 have HBT:=yW (n11 hW)
 have HB1:=yW hb1
 have hsz1:=hb1.size
 clear hW hb1
 have hB1:B≤w1.heap.size:=by omega
 go_loopw [9,10] (fun u v wr=>∃i j:Nat,i≤j∧j≤fs.length∧u=.int .i64 i∧v=.int .i64 j∧Hid (∀k,k<i→cs k<0)∧Hid (∀k,j≤k→k<fs.length→¬cs k<0)∧Hid (Below w1.heap.size w1 wr)) (fun u v _=>(intOf v).toNat-(intOf u).toNat)
 case atStart=>exact ⟨0,fs.length,yZ _,yY _,rfl,rfl,yW (fun k h=>absurd h (by omega)),yW (fun k h h2=>absurd h2 (by omega)),yW (za _ _)⟩
 case round=>
  obtain ⟨i,j,hij,hj,rfl,rfl,HLO,HHI,HWR⟩:=hrel
  have hszr:=HWR.out.size
  have hBr:B≤wr.heap.size:=by omega
  have HBTr:=yW (HBT.out.later HWR.out)
  by_cases hlt:i<j
  ·obtain ⟨m,hm⟩:∃m:Nat,m=(i+j) / 2:=⟨_,rfl⟩
   have hml:m<fs.length:=by omega
   have hm1:(m:Int)<fs.length:=by omega
   have hm0:(0:Int)≤m:=Int.natCast_nonneg _
   go_upto_region 5 with fail
   have hmi:((i:Int)+j) / 2=m:=by omega
   rw [hmi]
   have HM:=yW hm
   clear hmi hm
   obtain ⟨bp_,offp,rfl,hobp⟩:=(HL.out.keep (HB1.out.trans (HWR.out.mono hsz1)) hB).base (za _ _) hBr (by omega)
   obtain ⟨f,vs,hx,hlen,hcell,hr⟩:=(HL.out.keep (HB1.out.trans (HWR.out.mono hsz1)) hB).at_ (za _ _) hBr hml
   have HF:=yW hr
   have HFE:Hid (fs[m]=f):=yW (by rw [List.getElem?_eq_getElem hml] at hx;simpa using hx)
   have HFO:Hid (FcOk f):=yW (HOK.out f (List.mem_of_getElem? hx))
   obtain ⟨Af,cf,rfl,g1,g2,g3,g4,_⟩:=aI (show (ax (d+1)).rd wr B f vs from hr)
   have HFC:Hid (∀w',Below wr.heap.size wr w'→w'.cell? ⟨bp_,offp+m*3,none⟩=some (.string f.pr.name)∧w'.cell? ⟨bp_,offp+m*3+1,none⟩=some (.slice Af f.pr.terms.length cf)∧w'.cell? ⟨bp_,offp+m*3+2,none⟩=some (.int .u32 f.o)):=yW (fun w' hb=>⟨(hb.cell (p:=⟨bp_,_,none⟩) hobp).trans (hcell 0 _ rfl),(hb.cell (p:=⟨bp_,_,none⟩) hobp).trans (hcell 1 _ rfl),(hb.cell (p:=⟨bp_,_,none⟩) hobp).trans (hcell 2 _ rfl)⟩)
   have hf8:f.pr.terms.length≤8:=HFO.out.few
   clear hcell hlen hx hr g1 g2 g3 g4
   have HE:Hid (cs m=aW f t):=yW (by rw [HCS.out m hml,HFE.out])
   have HSL:Hid (∀{w':World},Below wr.heap.size wr w'→(w'.cell? ⟨bp_,offp+m*3,none⟩=some (.string f.pr.name)∧w'.cell? ⟨bp_,offp+m*3+1,none⟩=some (.slice Af f.pr.terms.length cf)∧w'.cell? ⟨bp_,offp+m*3+2,none⟩=some (.int .u32 f.o)∧w'.cell? ⟨w.heap.size,0,none⟩=some (.string t.pr.name)∧w'.cell? ⟨w.heap.size,1,none⟩=some (.slice At t.pr.terms.length ct)∧w'.cell? ⟨w.heap.size,2,none⟩=some (.int .u32 t.o))):=yW (fun hb=>have h:=HFC.out _ hb;⟨h.1,h.2.1,h.2.2,(HBTr.out.later hb).cell 0,(HBTr.out.later hb).cell 1,(HBTr.out.later hb).cell 2⟩)
   refine aG (fun w'=>w'.cell? ⟨bp_,offp+m*3,none⟩=some (.string f.pr.name)∧w'.cell? ⟨bp_,offp+m*3+1,none⟩=some (.slice Af f.pr.terms.length cf)∧w'.cell? ⟨bp_,offp+m*3+2,none⟩=some (.int .u32 f.o)∧w'.cell? ⟨w.heap.size,0,none⟩=some (.string t.pr.name)∧w'.cell? ⟨w.heap.size,1,none⟩=some (.slice At t.pr.terms.length ct)∧w'.cell? ⟨w.heap.size,2,none⟩=some (.int .u32 t.o)) (by kernel_rfl) (HSL.out (za _ _).drew) ?_
   refine aa (i:=0) (v:=?v11_) rfl (by kernel_rfl) (by kernel_rfl) (by kernel_rfl) ?hq11_ ?hw11_ ?hy11_ ?rest11_
   case hq11_=>exact fun _ _ _ h=>h
   case hw11_=>rfl
   case hy11_=>(intro w' hS';(try dsimp only at hS');go_simp;(try with_reducible rfl))
   refine aa (i:=1) (v:=?v12_) rfl (by kernel_rfl) (by kernel_rfl) (by kernel_rfl) ?hq12_ ?hw12_ ?hy12_ ?rest12_
   case hq12_=>exact fun _ _ _ h=>h
   case hw12_=>rfl
   case hy12_=>(intro w' hS';(try dsimp only at hS');go_simp;(try with_reducible rfl))
   refine aa (i:=2) (v:=?v13_) rfl (by kernel_rfl) (by kernel_rfl) (by kernel_rfl) ?hq13_ ?hw13_ ?hy13_ ?rest13_
   case hq13_=>exact fun _ _ _ h=>h
   case hw13_=>rfl
   case hy13_=>(intro w' hS';(try dsimp only at hS');go_simp;(try with_reducible rfl))
   refine aa (i:=3) (v:=?v14_) rfl (by kernel_rfl) (by kernel_rfl) (by kernel_rfl) ?hq14_ ?hw14_ ?hy14_ ?rest14_
   case hq14_=>exact fun _ _ _ h=>h
   case hw14_=>rfl
   case hy14_=>(intro w' hS';(try dsimp only at hS');go_simp;(try with_reducible rfl))
   refine aa (i:=4) (v:=?v15_) rfl (by kernel_rfl) (by kernel_rfl) (by kernel_rfl) ?hq15_ ?hw15_ ?hy15_ ?rest15_
   case hq15_=>exact fun _ _ _ h=>h
   case hw15_=>rfl
   case hy15_=>(intro w' hS';(try dsimp only at hS');go_simp;(try with_reducible rfl))
   refine aa (i:=5) (v:=?v16_) rfl (by kernel_rfl) (by kernel_rfl) (by kernel_rfl) ?hq16_ ?hw16_ ?hy16_ ?rest16_
   case hq16_=>exact fun _ _ _ h=>h
   case hw16_=>rfl
   case hy16_=>(intro w' hS';(try dsimp only at hS');go_simp;(try with_reducible rfl))
   generalize hD:World.drew wr=w2
   have HU:Hid (Below wr.heap.size wr w2):=yW (hD▸(za wr.heap.size wr).drew)
   clear hD
   refine au (rs:=[6]) (by kernel_rfl) rfl ?_
   refine ak.cons rfl (fun K hK=>?_) ak.nil
   go_simp
   refine (fJ (d:=d+1) (e:=e+1) (B:=B) (a:=f) (b:=t) (va:=[_,_,_]) (vb:=[_,_,_]) ((ax (d+1)).keep HU.out hBr HF.out) ((ax (e+1)).keep (HB1.out.trans ((HWR.out.trans (HU.out.mono hszr)).mono hsz1)) hB HT.out) (by omega) htn (yX hBr HU.out.size)).mono ?_
   rintro e w7 ⟨rfl,hb7⟩
   have HW7:Hid (Below w1.heap.size w1 w7):=yW (HWR.out.trans ((HU.out.trans (hb7.mono HU.out.size)).mono hszr))
   have HX7:Hid (Below wr.heap.size wr w7):=yW (HU.out.trans (hb7.mono HU.out.size))
   clear hb7
   refine hK.out _ _ (HSL.out HX7.out) ?_
   clear hK
   refine aa (i:=7) (v:=?v17_) rfl (by kernel_rfl) (by kernel_rfl) (by kernel_rfl) ?hq17_ ?hw17_ ?hy17_ ?rest17_
   case hq17_=>exact fun _ _ _ h=>h
   case hw17_=>rfl
   case hy17_=>(intro w' hS';(try dsimp only at hS');go_simp;(try with_reducible rfl))
   refine bG (by kernel_rfl) ?_
   by_cases hneg:cs m<0
   ·have HN:=yW hneg
    rw [HE.out] at hneg
    have hneg':decide (aW f t<0)=true:=by simpa using hneg
    generalize hgc:aW f t=r at *
    clear hgc
    go_wp2_with fail
    go_roundw
    case rel=>exact ⟨m+1,j,by have:=HM.out;omega,hj,by go_num,rfl,yW (fun k h=>by
     rcases Nat.lt_or_ge k m with h1 | h1
     ·exact HMO.out k m (by omega) hml HN.out
     ·obtain rfl:k=m:=by omega
      exact HN.out),yW (fun k h h2=>by have:=HHI.out k h h2;omega),HW7⟩
    case measure=>have:=HM.out;simp [intOf];omega
   ·have HN:=yW hneg
    rw [HE.out] at hneg
    have hneg':decide (aW f t<0)=false:=by simpa using hneg
    generalize hgc:aW f t=r at *
    clear hgc
    go_wp2_with fail
    go_roundw
    case rel=>exact ⟨i,m,by have:=HM.out;omega,by omega,rfl,by go_num,HLO,yW (fun k h h2=>by have h4:=HMO.out m k h h2;have h5:=HN.out;omega),HW7⟩
    case measure=>have:=HM.out;simp [intOf];omega
  ·obtain rfl:i=j:=by omega
   have HP:=yW (mZ (cs:=cs) hj HLO.out (fun h=>by have:=HHI.out i (yY _) h;omega))
   by_cases hin:i<fs.length
   ·have hml:=hin
    have hm1:(i:Int)<fs.length:=by omega
    have hm0:(0:Int)≤i:=Int.natCast_nonneg _
    obtain ⟨bp_,offp,rfl,hobp⟩:=(HL.out.keep (HB1.out.trans (HWR.out.mono hsz1)) hB).base (za _ _) hBr (by omega)
    obtain ⟨f,vs,hx,hlen,hcell,hr⟩:=(HL.out.keep (HB1.out.trans (HWR.out.mono hsz1)) hB).at_ (za _ _) hBr hml
    have HF:=yW hr
    have HFE:Hid (fs[i]=f):=yW (by rw [List.getElem?_eq_getElem hml] at hx;simpa using hx)
    have HFO:Hid (FcOk f):=yW (HOK.out f (List.mem_of_getElem? hx))
    obtain ⟨Af,cf,rfl,g1,g2,g3,g4,_⟩:=aI (show (ax (d+1)).rd wr B f vs from hr)
    have HFC:Hid (∀w',Below wr.heap.size wr w'→w'.cell? ⟨bp_,offp+i*3,none⟩=some (.string f.pr.name)∧w'.cell? ⟨bp_,offp+i*3+1,none⟩=some (.slice Af f.pr.terms.length cf)∧w'.cell? ⟨bp_,offp+i*3+2,none⟩=some (.int .u32 f.o)):=yW (fun w' hb=>⟨(hb.cell (p:=⟨bp_,_,none⟩) hobp).trans (hcell 0 _ rfl),(hb.cell (p:=⟨bp_,_,none⟩) hobp).trans (hcell 1 _ rfl),(hb.cell (p:=⟨bp_,_,none⟩) hobp).trans (hcell 2 _ rfl)⟩)
    have hf8:f.pr.terms.length≤8:=HFO.out.few
    clear hcell hlen hx hr g1 g2 g3 g4
    have HE:Hid (cs i=aW f t):=yW (by rw [HCS.out i hml,HFE.out])
    go_upto_region 8 with fail
    have HSL:Hid (∀{w':World},Below wr.heap.size wr w'→(w'.cell? ⟨bp_,offp+i*3,none⟩=some (.string f.pr.name)∧w'.cell? ⟨bp_,offp+i*3+1,none⟩=some (.slice Af f.pr.terms.length cf)∧w'.cell? ⟨bp_,offp+i*3+2,none⟩=some (.int .u32 f.o)∧w'.cell? ⟨w.heap.size,0,none⟩=some (.string t.pr.name)∧w'.cell? ⟨w.heap.size,1,none⟩=some (.slice At t.pr.terms.length ct)∧w'.cell? ⟨w.heap.size,2,none⟩=some (.int .u32 t.o))):=yW (fun hb=>have h:=HFC.out _ hb;⟨h.1,h.2.1,h.2.2,(HBTr.out.later hb).cell 0,(HBTr.out.later hb).cell 1,(HBTr.out.later hb).cell 2⟩)
    refine aG (fun w'=>w'.cell? ⟨bp_,offp+i*3,none⟩=some (.string f.pr.name)∧w'.cell? ⟨bp_,offp+i*3+1,none⟩=some (.slice Af f.pr.terms.length cf)∧w'.cell? ⟨bp_,offp+i*3+2,none⟩=some (.int .u32 f.o)∧w'.cell? ⟨w.heap.size,0,none⟩=some (.string t.pr.name)∧w'.cell? ⟨w.heap.size,1,none⟩=some (.slice At t.pr.terms.length ct)∧w'.cell? ⟨w.heap.size,2,none⟩=some (.int .u32 t.o)) (by kernel_rfl) (HSL.out (za _ _).drew) ?_
    refine aa (i:=0) (v:=?v18_) (by simp only [List.getElem?_toArray,List.getElem?_cons_succ,List.getElem?_cons_zero];rfl) (by kernel_rfl) (by kernel_rfl) (by kernel_rfl) ?hq18_ ?hw18_ ?hy18_ ?rest18_
    case hq18_=>exact fun _ _ _ h=>h
    case hw18_=>rfl
    case hy18_=>(intro w' hS';(try dsimp only at hS');go_simp;(try with_reducible rfl))
    (try simp only [Act.put,List.setIfInBounds_toArray,List.set_cons_zero,List.set_cons_succ])
    refine aa (i:=1) (v:=?v19_) (by simp only [List.getElem?_toArray,List.getElem?_cons_succ,List.getElem?_cons_zero];rfl) (by kernel_rfl) (by kernel_rfl) (by kernel_rfl) ?hq19_ ?hw19_ ?hy19_ ?rest19_
    case hq19_=>exact fun _ _ _ h=>h
    case hw19_=>rfl
    case hy19_=>(intro w' hS';(try dsimp only at hS');go_simp;(try with_reducible rfl))
    (try simp only [Act.put,List.setIfInBounds_toArray,List.set_cons_zero,List.set_cons_succ])
    refine aa (i:=2) (v:=?v20_) (by simp only [List.getElem?_toArray,List.getElem?_cons_succ,List.getElem?_cons_zero];rfl) (by kernel_rfl) (by kernel_rfl) (by kernel_rfl) ?hq20_ ?hw20_ ?hy20_ ?rest20_
    case hq20_=>exact fun _ _ _ h=>h
    case hw20_=>rfl
    case hy20_=>(intro w' hS';(try dsimp only at hS');go_simp;(try with_reducible rfl))
    (try simp only [Act.put,List.setIfInBounds_toArray,List.set_cons_zero,List.set_cons_succ])
    refine aa (i:=3) (v:=?v21_) (by simp only [List.getElem?_toArray,List.getElem?_cons_succ,List.getElem?_cons_zero];rfl) (by kernel_rfl) (by kernel_rfl) (by kernel_rfl) ?hq21_ ?hw21_ ?hy21_ ?rest21_
    case hq21_=>exact fun _ _ _ h=>h
    case hw21_=>rfl
    case hy21_=>(intro w' hS';(try dsimp only at hS');go_simp;(try with_reducible rfl))
    (try simp only [Act.put,List.setIfInBounds_toArray,List.set_cons_zero,List.set_cons_succ])
    refine aa (i:=4) (v:=?v22_) (by simp only [List.getElem?_toArray,List.getElem?_cons_succ,List.getElem?_cons_zero];rfl) (by kernel_rfl) (by kernel_rfl) (by kernel_rfl) ?hq22_ ?hw22_ ?hy22_ ?rest22_
    case hq22_=>exact fun _ _ _ h=>h
    case hw22_=>rfl
    case hy22_=>(intro w' hS';(try dsimp only at hS');go_simp;(try with_reducible rfl))
    (try simp only [Act.put,List.setIfInBounds_toArray,List.set_cons_zero,List.set_cons_succ])
    refine aa (i:=5) (v:=?v23_) (by simp only [List.getElem?_toArray,List.getElem?_cons_succ,List.getElem?_cons_zero];rfl) (by kernel_rfl) (by kernel_rfl) (by kernel_rfl) ?hq23_ ?hw23_ ?hy23_ ?rest23_
    case hq23_=>exact fun _ _ _ h=>h
    case hw23_=>rfl
    case hy23_=>(intro w' hS';(try dsimp only at hS');go_simp;(try with_reducible rfl))
    (try simp only [Act.put,List.setIfInBounds_toArray,List.set_cons_zero,List.set_cons_succ])
    refine aa (i:=6) (v:=?v24_) (by simp only [List.getElem?_toArray,List.getElem?_cons_succ,List.getElem?_cons_zero];rfl) (by kernel_rfl) (by kernel_rfl) (by kernel_rfl) ?hq24_ ?hw24_ ?hy24_ ?rest24_
    case hq24_=>exact fun _ _ _ h=>h
    case hw24_=>rfl
    case hy24_=>(intro w' hS';(try dsimp only at hS');go_simp;(try with_reducible rfl))
    (try simp only [Act.put,List.setIfInBounds_toArray,List.set_cons_zero,List.set_cons_succ])
    refine aa (i:=7) (v:=?v25_) (by simp only [List.getElem?_toArray,List.getElem?_cons_succ,List.getElem?_cons_zero];rfl) (by kernel_rfl) (by kernel_rfl) (by kernel_rfl) ?hq25_ ?hw25_ ?hy25_ ?rest25_
    case hq25_=>exact fun _ _ _ h=>h
    case hw25_=>rfl
    case hy25_=>(intro w' hS';(try dsimp only at hS');go_simp;(try with_reducible rfl))
    (try simp only [Act.put,List.setIfInBounds_toArray,List.set_cons_zero,List.set_cons_succ])
    refine aa (i:=8) (v:=?v26_) (by simp only [List.getElem?_toArray,List.getElem?_cons_succ,List.getElem?_cons_zero];rfl) (by kernel_rfl) (by kernel_rfl) (by kernel_rfl) ?hq26_ ?hw26_ ?hy26_ ?rest26_
    case hq26_=>exact fun _ _ _ h=>h
    case hw26_=>rfl
    case hy26_=>(intro w' hS';(try dsimp only at hS');go_simp;(try with_reducible rfl))
    (try simp only [Act.put,List.setIfInBounds_toArray,List.set_cons_zero,List.set_cons_succ])
    refine aa (i:=9) (v:=?v27_) (by simp only [List.getElem?_toArray,List.getElem?_cons_succ,List.getElem?_cons_zero];rfl) (by kernel_rfl) (by kernel_rfl) (by kernel_rfl) ?hq27_ ?hw27_ ?hy27_ ?rest27_
    case hq27_=>exact fun _ _ _ h=>h
    case hw27_=>rfl
    case hy27_=>(intro w' hS';(try dsimp only at hS');go_simp;(try with_reducible rfl))
    (try simp only [Act.put,List.setIfInBounds_toArray,List.set_cons_zero,List.set_cons_succ])
    refine aa (i:=10) (v:=?v28_) (by simp only [List.getElem?_toArray,List.getElem?_cons_succ,List.getElem?_cons_zero];rfl) (by kernel_rfl) (by kernel_rfl) (by kernel_rfl) ?hq28_ ?hw28_ ?hy28_ ?rest28_
    case hq28_=>exact fun _ _ _ h=>h
    case hw28_=>rfl
    case hy28_=>(intro w' hS';(try dsimp only at hS');go_simp;(try with_reducible rfl))
    (try simp only [Act.put,List.setIfInBounds_toArray,List.set_cons_zero,List.set_cons_succ])
    generalize hD:World.drew wr=w2
    have HU:Hid (Below wr.heap.size wr w2):=yW (hD▸(za wr.heap.size wr).drew)
    clear hD
    refine au (rs:=[11]) (by kernel_rfl) rfl ?_
    refine ak.cons (by simp only [List.getElem?_toArray,List.getElem?_cons_succ,List.getElem?_cons_zero];rfl) (fun K hK=>?_) ak.nil
    go_simp
    refine (fJ (d:=d+1) (e:=e+1) (B:=B) (a:=f) (b:=t) (va:=[_,_,_]) (vb:=[_,_,_]) ((ax (d+1)).keep HU.out hBr HF.out) ((ax (e+1)).keep (HB1.out.trans ((HWR.out.trans (HU.out.mono hszr)).mono hsz1)) hB HT.out) (by omega) htn (yX hBr HU.out.size)).mono ?_
    rintro e w7 ⟨rfl,hb7⟩
    have HW7:Hid (Below w1.heap.size w1 w7):=yW (HWR.out.trans ((HU.out.trans (hb7.mono HU.out.size)).mono hszr))
    have HX7:Hid (Below wr.heap.size wr w7):=yW (HU.out.trans (hb7.mono HU.out.size))
    clear hb7
    refine hK.out _ _ (HSL.out HX7.out) ?_
    clear hK
    (try simp only [Act.put,List.setIfInBounds_toArray,List.set_cons_zero,List.set_cons_succ])
    refine aa (i:=12) (v:=?v29_) (by simp only [List.getElem?_toArray,List.getElem?_cons_succ,List.getElem?_cons_zero];rfl) (by kernel_rfl) (by kernel_rfl) (by kernel_rfl) ?hq29_ ?hw29_ ?hy29_ ?rest29_
    case hq29_=>exact fun _ _ _ h=>h
    case hw29_=>rfl
    case hy29_=>(intro w' hS';(try dsimp only at hS');go_simp;(try with_reducible rfl))
    (try simp only [Act.put,List.setIfInBounds_toArray,List.set_cons_zero,List.set_cons_succ])
    refine aa (i:=13) (v:=?v30_) (by simp only [List.getElem?_toArray,List.getElem?_cons_succ,List.getElem?_cons_zero];rfl) (by kernel_rfl) (by kernel_rfl) (by kernel_rfl) ?hq30_ ?hw30_ ?hy30_ ?rest30_
    case hq30_=>exact fun _ _ _ h=>h
    case hw30_=>rfl
    case hy30_=>(intro w' hS';(try dsimp only at hS');go_simp;(try with_reducible rfl))
    (try simp only [Act.put,List.setIfInBounds_toArray,List.set_cons_zero,List.set_cons_succ])
    refine aa (i:=14) (v:=?v31_) (by simp only [List.getElem?_toArray,List.getElem?_cons_succ,List.getElem?_cons_zero];rfl) (by kernel_rfl) (by kernel_rfl) (by kernel_rfl) ?hq31_ ?hw31_ ?hy31_ ?rest31_
    case hq31_=>exact fun _ _ _ h=>h
    case hw31_=>rfl
    case hy31_=>(intro w' hS';(try dsimp only at hS');go_simp;(try with_reducible rfl))
    (try simp only [Act.put,List.setIfInBounds_toArray,List.set_cons_zero,List.set_cons_succ])
    refine aa (i:=15) (v:=?v32_) (by simp only [List.getElem?_toArray,List.getElem?_cons_succ,List.getElem?_cons_zero];rfl) (by kernel_rfl) (by kernel_rfl) (by kernel_rfl) ?hq32_ ?hw32_ ?hy32_ ?rest32_
    case hq32_=>exact fun _ _ _ h=>h
    case hw32_=>rfl
    case hy32_=>(intro w' hS';(try dsimp only at hS');go_simp;(try with_reducible rfl))
    (try simp only [Act.put,List.setIfInBounds_toArray,List.set_cons_zero,List.set_cons_succ])
    refine bG (by kernel_rfl) ?_
    have HQ:Hid ((decide (i<fs.length)&&decide (cs i=0))=(aW f t==0)):=yW (Bool.eq_iff_iff.2 (by rw [HE.out];simp [hin]))
    generalize hgc:aW f t=r at *
    go_wp2_with fail
    go_ret2
    refine ⟨jF (by rw [HP.out]) (by rw [HP.out];first | rw [HQ.out] | rw [Bool.decide_and,HQ.out]),HB1.out.trans (HW7.out.mono hsz1)⟩
   ·go_upto_region 8 with fail
    have hi2:i=fs.length:=by omega
    have hgd:decide ((i:Int)<(fs.length:Int))=false:=by simp;omega
    refine wp_region_quiet_below (by kernel_rfl) (by kernel_rfl) ?_
    repeat (go_big_quiet_step (fail))
    refine wpQuiet_nil ?_
    intro w9 hw_
    have hb:Below wr.heap.size wr w9:=by obtain ⟨p_,rfl⟩:=hw_;exact below_regrown _ _ _
    clear hw_
    go_wp2_with fail
    go_ret2
    have hf:decide (i<fs.length)=false:=decide_eq_false (by omega)
    exact ⟨jF (by rw [HP.out];omega) (by rw [HP.out];first | rw [hf,Bool.false_and] | rw [Bool.decide_and,hf,Bool.false_and]),HB1.out.trans ((HWR.out.trans (hb.mono hszr)).mono hsz1)⟩
theorem rQ {d B c G:Nat} {fs:List Fc} {name:ByteArray} {n:Int} {A:Option Addr} {w:World} (hl:RL (ax (d+1)) w B fs A) (hG:Blk w G #[.string name]) (hok:∀f∈fs,FcOk f) (hn:fs.length≤1000000) (hB:B≤w.heap.size)
 (cs:Nat→Int) (hcs:∀i (hi:i<fs.length),cs i=dy fs[i] name n) (hmono:∀i j,i≤j→j<fs.length→cs j<0→cs i<0) :
 Calls Tryz.prog 93 #[.slice A fs.length c,.int .i64 n,.func (.func 90) #[] #[.pointer (some ⟨G,0,none⟩)]] w fun z w'=>z=.returned (.tuple #[.int .i64 (oL fs.length cs),.bool (decide (oL fs.length cs<fs.length∧cs (oL fs.length cs)=0))])∧Below w.heap.size w w':=by
 have HL:=yW hl
 have HOK:=yW hok
 have HCS:=yW hcs
 have HMO:=yW hmono
 have hen:=yo
 have HG:=yW hG
 clear hl hok hcs hmono hG
 go_enter Tryz.func93,Tryz.ntmps93
 go_upto_region 3 with fail
 obtain ⟨w1,hw1⟩:∃w1,w1=w:=⟨_,rfl⟩
 have HB1:Hid (Below w.heap.size w w1):=yW (hw1▸za _ _)
 have HBT:Hid (Blk w1 G #[.string name]):=yW (hw1▸HG.out)
 rw [←hw1]
 have hsz1:=HB1.out.size
 have hB1:B≤w1.heap.size:=by omega
 clear hw1
 go_loopw [9,10] (fun u v wr=>∃i j:Nat,i≤j∧j≤fs.length∧u=.int .i64 i∧v=.int .i64 j∧Hid (∀k,k<i→cs k<0)∧Hid (∀k,j≤k→k<fs.length→¬cs k<0)∧Hid (Below w1.heap.size w1 wr)) (fun u v _=>(intOf v).toNat-(intOf u).toNat)
 case atStart=>exact ⟨0,fs.length,yZ _,yY _,rfl,rfl,yW (fun k h=>absurd h (by omega)),yW (fun k h h2=>absurd h2 (by omega)),yW (za _ _)⟩
 case round=>
  obtain ⟨i,j,hij,hj,rfl,rfl,HLO,HHI,HWR⟩:=hrel
  have hszr:=HWR.out.size
  have hBr:B≤wr.heap.size:=by omega
  have HBTr:=yW (HBT.out.later HWR.out)
  by_cases hlt:i<j
  ·obtain ⟨m,hm⟩:∃m:Nat,m=(i+j) / 2:=⟨_,rfl⟩
   have hml:m<fs.length:=by omega
   have hm1:(m:Int)<fs.length:=by omega
   have hm0:(0:Int)≤m:=Int.natCast_nonneg _
   go_upto_region 5 with fail
   have hmi:((i:Int)+j) / 2=m:=by omega
   rw [hmi]
   have HM:=yW hm
   clear hmi hm
   obtain ⟨bp_,offp,rfl,hobp⟩:=(HL.out.keep (HB1.out.trans (HWR.out.mono hsz1)) hB).base (za _ _) hBr (by omega)
   obtain ⟨f,vs,hx,hlen,hcell,hr⟩:=(HL.out.keep (HB1.out.trans (HWR.out.mono hsz1)) hB).at_ (za _ _) hBr hml
   have HF:=yW hr
   have HFE:Hid (fs[m]=f):=yW (by rw [List.getElem?_eq_getElem hml] at hx;simpa using hx)
   have HFO:Hid (FcOk f):=yW (HOK.out f (List.mem_of_getElem? hx))
   obtain ⟨Af,cf,rfl,g1,g2,g3,g4,_⟩:=aI (show (ax (d+1)).rd wr B f vs from hr)
   have HFC:Hid (∀w',Below wr.heap.size wr w'→w'.cell? ⟨bp_,offp+m*3,none⟩=some (.string f.pr.name)∧w'.cell? ⟨bp_,offp+m*3+1,none⟩=some (.slice Af f.pr.terms.length cf)∧w'.cell? ⟨bp_,offp+m*3+2,none⟩=some (.int .u32 f.o)):=yW (fun w' hb=>⟨(hb.cell (p:=⟨bp_,_,none⟩) hobp).trans (hcell 0 _ rfl),(hb.cell (p:=⟨bp_,_,none⟩) hobp).trans (hcell 1 _ rfl),(hb.cell (p:=⟨bp_,_,none⟩) hobp).trans (hcell 2 _ rfl)⟩)
   have hf8:f.pr.terms.length≤8:=HFO.out.few
   clear hcell hlen hx hr g1 g2 g3 g4
   have HE:Hid (cs m=dy f name n):=yW (by rw [HCS.out m hml,HFE.out])
   obtain ⟨c0,c1,c2⟩:=HFC.out wr (za _ _)
   go_wp2_with fail
   refine (tB (d:=d) (B:=B) (f:=f) (vf:=[_,_,_]) (name:=name) (n:=n) HF.out HBTr.out hBr).mono ?_
   rintro e w7 ⟨rfl,hb7⟩
   have HW7:Hid (Below w1.heap.size w1 w7):=yW (HWR.out.trans (hb7.mono hszr))
   clear hb7 c0 c1 c2
   by_cases hneg:cs m<0
   ·have HN:=yW hneg
    rw [HE.out] at hneg
    have hneg':decide (dy f name n<0)=true:=by simpa using hneg
    generalize hgc:dy f name n=r at *
    clear hgc
    go_wp2_with fail
    go_roundw
    case rel=>exact ⟨m+1,j,by have:=HM.out;omega,hj,by go_num,rfl,yW (fun k h=>by
     rcases Nat.lt_or_ge k m with h1 | h1
     ·exact HMO.out k m (by omega) hml HN.out
     ·obtain rfl:k=m:=by omega
      exact HN.out),yW (fun k h h2=>by have:=HHI.out k h h2;omega),HW7⟩
    case measure=>have:=HM.out;simp [intOf];omega
   ·have HN:=yW hneg
    rw [HE.out] at hneg
    have hneg':decide (dy f name n<0)=false:=by simpa using hneg
    generalize hgc:dy f name n=r at *
    clear hgc
    go_wp2_with fail
    go_roundw
    case rel=>exact ⟨i,m,by have:=HM.out;omega,by omega,rfl,by go_num,HLO,yW (fun k h h2=>by have h4:=HMO.out m k h h2;have h5:=HN.out;omega),HW7⟩
    case measure=>have:=HM.out;simp [intOf];omega
  ·obtain rfl:i=j:=by omega
   have HP:=yW (mZ (cs:=cs) hj HLO.out (fun h=>by have:=HHI.out i (yY _) h;omega))
   by_cases hin:i<fs.length
   ·have hml:=hin
    have hm1:(i:Int)<fs.length:=by omega
    have hm0:(0:Int)≤i:=Int.natCast_nonneg _
    obtain ⟨bp_,offp,rfl,hobp⟩:=(HL.out.keep (HB1.out.trans (HWR.out.mono hsz1)) hB).base (za _ _) hBr (by omega)
    obtain ⟨f,vs,hx,hlen,hcell,hr⟩:=(HL.out.keep (HB1.out.trans (HWR.out.mono hsz1)) hB).at_ (za _ _) hBr hml
    have HF:=yW hr
    have HFE:Hid (fs[i]=f):=yW (by rw [List.getElem?_eq_getElem hml] at hx;simpa using hx)
    have HFO:Hid (FcOk f):=yW (HOK.out f (List.mem_of_getElem? hx))
    obtain ⟨Af,cf,rfl,g1,g2,g3,g4,_⟩:=aI (show (ax (d+1)).rd wr B f vs from hr)
    have HFC:Hid (∀w',Below wr.heap.size wr w'→w'.cell? ⟨bp_,offp+i*3,none⟩=some (.string f.pr.name)∧w'.cell? ⟨bp_,offp+i*3+1,none⟩=some (.slice Af f.pr.terms.length cf)∧w'.cell? ⟨bp_,offp+i*3+2,none⟩=some (.int .u32 f.o)):=yW (fun w' hb=>⟨(hb.cell (p:=⟨bp_,_,none⟩) hobp).trans (hcell 0 _ rfl),(hb.cell (p:=⟨bp_,_,none⟩) hobp).trans (hcell 1 _ rfl),(hb.cell (p:=⟨bp_,_,none⟩) hobp).trans (hcell 2 _ rfl)⟩)
    have hf8:f.pr.terms.length≤8:=HFO.out.few
    clear hcell hlen hx hr g1 g2 g3 g4
    have HE:Hid (cs i=dy f name n):=yW (by rw [HCS.out i hml,HFE.out])
    go_upto_region 8 with fail
    obtain ⟨c0,c1,c2⟩:=HFC.out wr (za _ _)
    go_wp2_with fail
    refine (tB (d:=d) (B:=B) (f:=f) (vf:=[_,_,_]) (name:=name) (n:=n) HF.out HBTr.out hBr).mono ?_
    rintro e w7 ⟨rfl,hb7⟩
    have HW7:Hid (Below w1.heap.size w1 w7):=yW (HWR.out.trans (hb7.mono hszr))
    clear hb7 c0 c1 c2
    have HQ:Hid ((decide (i<fs.length)&&decide (cs i=0))=(dy f name n==0)):=yW (Bool.eq_iff_iff.2 (by rw [HE.out];simp [hin]))
    generalize hgc:dy f name n=r at *
    go_wp2_with fail
    go_ret2
    refine ⟨jF (by rw [HP.out]) (by rw [HP.out];first | rw [HQ.out] | rw [Bool.decide_and,HQ.out]),HB1.out.trans (HW7.out.mono hsz1)⟩
   ·go_upto_region 8 with fail
    have hi2:i=fs.length:=by omega
    have hgd:decide ((i:Int)<(fs.length:Int))=false:=by simp;omega
    have hb:=za wr.heap.size wr
    go_wp2_with fail
    go_ret2
    have hf:decide (i<fs.length)=false:=decide_eq_false (by omega)
    exact ⟨jF (by rw [HP.out];omega) (by rw [HP.out];first | rw [hf,Bool.false_and] | rw [Bool.decide_and,hf,Bool.false_and]),HB1.out.trans ((HWR.out.trans (hb.mono hszr)).mono hsz1)⟩
end Go.Proofs.YtdphibjibnffeaaGreat
