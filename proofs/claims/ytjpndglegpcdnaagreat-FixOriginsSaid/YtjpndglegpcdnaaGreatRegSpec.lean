/- Patterns as programs: what regex.Compile computes, as functions (a mirror of the program's own steps). -/
import Derived.Test.YtjpndglegpcdnaaGreatFound
import Derived.Test.YtjpndglegpcdnaaGreatFc1
import Derived.Test.YtjpndglegpcdnaaGreatSingle
set_option linter.unusedVariables false
set_option linter.unusedSimpArgs false
set_option maxRecDepth 100000
set_option maxHeartbeats 8000000
namespace Go.Proofs.YtjpndglegpcdnaaGreat
open Go.ChangeShapes Go.WideShapes Go.ChangeAt Go.RowKit
def iq (b:Bd) (i:Nat):Bool:=
 match b.names[i]?,b.terms[i]?,b.names[i-1]? with
 | some n,some t,some p=>dO n&&af t&&(decide (i=0)||decide (p<n))
 | _,_,_=>false
def bH (b:Bd):Bool:=decide (b.names.length=b.terms.length)&&decide (b.names.length≤32)&&(List.range b.names.length).all (iq b)
theorem dm {d B cn ct:Nat} {b:Bd} {An At:Option Addr} {w:World} (hn:RL cV w B (b.names.map mkS) An) (ht:RL (TmR (d+1)) w B b.terms At) (hB:B≤w.heap.size) :
 Calls Tryz.prog 82 #[.agg (bdV An b.names.length cn At b.terms.length ct)] w fun e w'=>e=.returned (.bool (bH b))∧Below w.heap.size w w':=by
 have HN:=zu hn
 have HT:=zu ht
 clear hn ht
 unfold bdV
 go_enter Tryz.func82,Tryz.ntmps82
 by_cases hlen:b.names.length=b.terms.length
 ·have ql:((b.names.length:Int) !=b.terms.length)=false:=by simp [hlen]
  have HLN:=zu hlen
  clear hlen
  by_cases hfew:b.names.length≤32
  ·have qf:decide ((32:Int)<b.names.length)=false:=by simp;omega
   go_wp2_with fail
   generalize hW:World.alloc _ _=w1
   obtain ⟨hb1,hz⟩:=al1 hW
   have HBB:=zu (n11 hW)
   have HB1:=zu hb1
   clear hW hb1
   go_loopw [21] (fun i wr=>∃k:Nat,k≤b.names.length∧i=.int .i64 k∧Below w1.heap.size w1 wr∧∀i,i<k→iq b i=true) (fun i _=>b.names.length-(intOf i).toNat)
   case atStart=>exact ⟨0,zx _,rfl,zy _ _,fun i h=>absurd h (by omega)⟩
   case round=>
    obtain ⟨k,hk,rfl,hbw,hall⟩:=hrel
    have HA:=zu hall
    have HWR:=zu hbw
    have HBR:=zu (HBB.out.later hbw)
    have HBw:Hid (Below w.heap.size w wr):=zu (aa HB1.out hbw)
    have hB1:B≤w1.heap.size:=by omega
    have hsz:=hbw.size
    clear hall hbw
    by_cases hlt:k<b.names.length
    ·have HN1:=zu (HN.out.keep HBw.out hB)
     have HT1:=zu (HT.out.keep HBw.out hB)
     have hBr:B≤wr.heap.size:=by omega
     have hlt2:k<b.terms.length:=by rw [←HLN.out];exact hlt
     obtain ⟨bn_,offn,rfl,hobn,hcn⟩:=lS HN1.out (zy _ _) hBr (by omega)
     obtain ⟨bt_,offt,rfl,hobt⟩:=HT1.out.base (zy _ _) hBr (by omega)
     obtain ⟨x,vs,hx,hlen,hcell,hr⟩:=HT1.out.at_ (zy _ _) hBr hlt2
     obtain ⟨Ax,cx,rfl,g1,g2,g3,g4,g5,_⟩:=RTm.cells (show RTm wr B (d+1) x vs from hr)
     have c0:wr.cell? ⟨bt_,offt+k*4,none⟩=some (.int .i64 x.kind):=hcell 0 _ rfl
     have c1:wr.cell? ⟨bt_,offt+k*4+1,none⟩=some (.int .i64 x.n):=hcell 1 _ rfl
     have c2:wr.cell? ⟨bt_,offt+k*4+2,none⟩=some (.string x.s):=hcell 2 _ rfl
     have c3:wr.cell? ⟨bt_,offt+k*4+3,none⟩=some (.slice Ax x.l.length cx):=hcell 3 _ rfl
     have cn0:=hcn k hlt
     have cn1:=hcn (k-1) (by omega)
     have k_b:=HBR.out.cell
     have l_b:=HBR.out.lt
     have hxe:b.terms[k]=x:=by
      rw [zD hlt2] at hx
      simpa using hx
     obtain ⟨y,vy,hy,_,_,hry⟩:=HN1.out.at_ (zy _ _) hBr (k:=k) (by simpa using hlt)
     have hye:y=mkS b.names[k]:=by simpa [hlt,eq_comm] using hy
     have hsz16:(mkS b.names[k]).size≤140737488351232:=hye▸(show cV.rd wr B y vy from hry).2
     have HX:=zu hr
     have HAT:Hid (iq b k=(dO (bs (mkS b.names[k]))&&af x&&(decide (k=0)||decide (bs (mkS b.names[k-1])<bs (mkS b.names[k]))))):=zu (by
      unfold iq
      rw [zD hlt,zD hlt2,zD (show k-1<b.names.length by omega),hxe,jE,jE])
     clear hcell hlen hcn hx hr hry hy hye hxe
     generalize mkS b.names[k]=nk at *
     generalize mkS b.names[k-1]=np at *
     have HNO:Hid (iq b k=false→bH b=false):=zu (fun h=>by
      rw [Bool.eq_false_iff]
      intro h2
      unfold bH at h2
      rw [zC,List.all_eq_true] at h2
      have:=h2.2 k (by simpa using hlt)
      rw [h] at this
      cases this)
     by_cases hnm:dO (bs nk)=true
     ·by_cases hfx:af x=true
      ·have hk1:(k:Int)-1=((k-1:Nat):Int)∨k=0:=by omega
       have hle:(!Op.bytesLess np.toList nk.toList) = !decide (bs np<bs nk):=by rw [dw,ByteArray.toList_eq,ByteArray.toList_eq]
       rcases Nat.eq_zero_or_pos k with h0 | h0
       ·have hAT:iq b k=true:=by rw [HAT.out,hnm,hfx,decide_eq_true h0];rfl
        have HAT2:=zu hAT
        have H0:=zu h0
        clear h0 hAT hle hk1
        go_wp2_with (first
         | (go_at_call 44;refine (fh _ _ (by unfold maxLen;omega)).mono ?_;rintro e w' ⟨rfl,rfl⟩)
         | (go_at_call 47;refine (ai HX.out hBr).mono ?_;rintro e w2 ⟨rfl,hb2⟩;have cn2:=(hb2.cell (p:=⟨bn_,offn+(k-1),none⟩) hobn).trans cn1;have k_b2:=(HBR.out.later hb2).cell;have HB2:=zu (aa HBw.out hb2);have HBR2:=zu (Below.trans HWR.out (hb2.mono hsz));clear hb2))
        ·exact absurd H0.out (by omega)
        all_goals
         go_roundw
         case rel=>exact ⟨k+1,by omega,by go_num,HBR2.out,fun i hi=>by
          rcases Nat.lt_or_ge i k with h1 | h1
          ·exact HA.out i h1
          ·obtain rfl:i=k:=by omega
           exact HAT2.out⟩
         case measure=>simp [intOf];omega
       ·have hk2:(k:Int)-1=((k-1:Nat):Int):=by omega
        have q0:decide ((0:Int)<k)=true:=by simp;omega
        clear hk1
        have HLE:=zu hle
        clear hle
        go_wp2_with (first
         | (go_at_call 44;refine (fh _ _ (by unfold maxLen;omega)).mono ?_;rintro e w' ⟨rfl,rfl⟩)
         | (go_at_call 47;refine (ai HX.out hBr).mono ?_;rintro e w2 ⟨rfl,hb2⟩;have cn2:=(hb2.cell (p:=⟨bn_,offn+(k-1),none⟩) hobn).trans cn1;have k_b2:=(HBR.out.later hb2).cell;have HB2:=zu (aa HBw.out hb2);have HBR2:=zu (Below.trans HWR.out (hb2.mono hsz));clear hb2))
        ·rename_i hq
         go_ret
         refine ⟨ac ?_,HB2.out⟩
         rw [HLE.out] at hq
         have hq2:decide (bs np<bs nk)=false:=by simpa using hq
         have hq1:decide (k=0)=false:=by simp;omega
         rw [HNO.out (by rw [HAT.out,hnm,hfx,hq1,hq2];rfl)]
        ·rename_i hq
         rw [HLE.out] at hq
         have hq2:decide (bs np<bs nk)=true:=by simpa using hq
         have HAT2:Hid (iq b k=true):=zu (by rw [HAT.out,hnm,hfx,hq2,Bool.or_true];rfl)
         clear hq hq2
         go_roundw
         case rel=>exact ⟨k+1,by omega,by go_num,HBR2.out,fun i hi=>by
          rcases Nat.lt_or_ge i k with h1 | h1
          ·exact HA.out i h1
          ·obtain rfl:i=k:=by omega
           exact HAT2.out⟩
         case measure=>simp [intOf];omega
      ·have hfx':af x=false:=by simpa using hfx
       clear hfx
       go_wp2_with (first
        | (go_at_call 44;refine (fh _ _ (by unfold maxLen;omega)).mono ?_;rintro e w' ⟨rfl,rfl⟩)
        | (go_at_call 47;refine (ai HX.out hBr).mono ?_;rintro e w2 ⟨rfl,hb2⟩;have cn2:=(hb2.cell (p:=⟨bn_,offn+(k-1),none⟩) hobn).trans cn1;have k_b2:=(HBR.out.later hb2).cell;have HB2:=zu (aa HBw.out hb2);have HBR2:=zu (Below.trans HWR.out (hb2.mono hsz));clear hb2))
       go_ret
       refine ⟨ac ?_,HB2.out⟩
       rw [HNO.out (by rw [HAT.out,hnm,hfx'];rfl)]
     ·have hnm':dO (bs nk)=false:=by simpa using hnm
      clear hnm
      go_wp2_with (first
       | (go_at_call 44;refine (fh _ _ (by unfold maxLen;omega)).mono ?_;rintro e w' ⟨rfl,rfl⟩)
       | (go_at_call 47;refine (ai HX.out hBr).mono ?_;rintro e w2 ⟨rfl,hb2⟩;have cn2:=(hb2.cell (p:=⟨bn_,offn+(k-1),none⟩) hobn).trans cn1;have k_b2:=(HBR.out.later hb2).cell;have HB2:=zu (aa HBw.out hb2);have HBR2:=zu (Below.trans HWR.out (hb2.mono hsz));clear hb2))
      go_ret
      refine ⟨ac ?_,HBw.out⟩
      rw [HNO.out (by rw [HAT.out,hnm'];rfl)]
    ·go_wp2_with fail
     go_ret
     obtain rfl:k=b.names.length:=by omega
     refine ⟨ac ?_,HBw.out⟩
     unfold bH
     rw [eq_comm,zC,zC,List.all_eq_true]
     exact ⟨⟨decide_eq_true HLN.out,decide_eq_true hfew⟩,fun i hi=>HA.out i (by simpa using hi)⟩
  ·have qf:decide ((32:Int)<b.names.length)=true:=by simp;omega
   go_wp2_with fail
   go_ret
   refine ⟨ac ?_,ar rfl⟩
   unfold bH
   simp [hfew]
 ·have ql:((b.names.length:Int) !=b.terms.length)=true:=by simp;omega
  have HLN:=zu hlen
  clear hlen
  go_wp2_with fail
  go_ret
  refine ⟨ac ?_,ar rfl⟩
  unfold bH
  simp [HLN.out]
theorem dU {b:Bd} (h:bH b=true):BdOk b∧∀n∈b.names,dO n=true:=by
 unfold bH at h
 rw [zC,zC,List.all_eq_true] at h
 obtain ⟨⟨h1,h2⟩,h3⟩:=h
 have hlen:=of_decide_eq_true h1
 have hat:∀i (hi:i<b.names.length),dO b.names[i]=true∧af (b.terms[i]'(hlen▸hi))=true∧(i=0∨b.names[i-1]<b.names[i]):=by
  intro i hi
  have:=h3 i (by simpa using hi)
  unfold iq at this
  rw [zD hi,zD (hlen▸hi),zD (show i-1<b.names.length by omega)] at this
  simpa [and_assoc] using this
 refine ⟨⟨hlen,of_decide_eq_true h2,?_,fun t ht=>?_⟩,fun n hn=>?_⟩
 ·rw [List.pairwise_iff_getElem]
  intro i j hi hj hij
  have:∀m,∀hm:i+m+1<b.names.length,b.names[i]<b.names[i+m+1]:=by
   intro m
   induction m with
   | zero=>
     intro hm
     rcases (hat (i+0+1) hm).2.2 with h | h
     ·omega
     ·exact h
   | succ m ih=>
     intro hm
     rcases (hat (i+(m+1)+1) hm).2.2 with h | h
     ·omega
     ·exact List.lt_trans (ih (by omega)) h
  have:=this (j-i-1) (by omega)
  have e:i+(j-i-1)+1=j:=by omega
  simpa only [e] using this
 ·obtain ⟨i,hi,rfl⟩:=List.getElem_of_mem ht
  exact (hat i (hlen▸hi)).2.1
 ·obtain ⟨i,hi,rfl⟩:=List.getElem_of_mem hn
  exact (hat i hi).1
theorem xM {d B cn ct:Nat} {b:Bd} {An At:Option Addr} {name:ByteArray} {w:World} (hn:RL cV w B (b.names.map mkS) An) (ht:RL (TmR (d+1)) w B b.terms At) (hB:B≤w.heap.size) :
 Calls Tryz.prog 83 #[.agg (bdV An b.names.length cn At b.terms.length ct),.string name] w fun e w'=>my d w w' (if bH b=true then cY b (bs name) else none) e:=by
 have HN:=zu hn
 have HT:=zu ht
 clear hn ht
 unfold bdV
 by_cases hok:bH b=true
 ·rw [if_pos hok]
  have HOK:=zu hok
  clear hok
  go_enter Tryz.func83,Tryz.ntmps83
  go_wp2_with fail
  generalize hW:World.alloc _ _=w1
  obtain ⟨hb1,hz⟩:=al2 hW
  have b_b:=n21 hW
  have b_r:=n22 hW
  have HB1:=zu hb1
  clear hW
  refine (dm (cn:=cn) (ct:=ct) (HN.out.keep hb1 hB) (HT.out.keep hb1 hB) (zv hB hb1.size)).mono ?_
  rintro e w2 ⟨rfl,hb2⟩
  have HB2:=zu (aa HB1.out hb2)
  have b_b2:=b_b.later hb2
  have b_r2:=b_r.later hb2
  clear b_b b_r hb1 hb2
  have k_b:=b_b2.cell
  have l_b:=b_b2.lt
  have k_r:=b_r2.cell
  have f_r:=b_r2.free
  have l_r:=b_r2.lt
  rw [HOK.out]
  have HBD:=zu (dU HOK.out).1
  go_wp2_with fail
  refine (lc (cn:=cn) (ct:=ct) (name:=name) HBD.out (HN.out.keep HB2.out hB) (HT.out.keep HB2.out hB) (zv hB HB2.out.size)).mono ?_
  rintro e w3 ⟨⟨A3,c3,rfl,hown⟩,hb3⟩
  have HO:=zu hown
  have HB3:=zu (aa HB2.out hb3)
  have b_r3:=b_r2.later hb3
  have hsz2:=HB2.out.size
  clear hown hb3 k_b l_b k_r f_r b_b2
  have k_r:=b_r3.cell
  have f_r:=b_r3.free
  have l_r3:=b_r3.lt
  generalize hq:cY b (bs name)=q at *
  go_wp2_with fail
  refine bodyPost_ret (al rfl rfl (dy b_r3 (.int .i64 (q.getD noT).kind) (.int .i64 (q.getD noT).n) (.string (q.getD noT).s) (.slice A3 (q.getD noT).l.length c3)) rfl) rfl ?_
  rw [hq]
  exact ⟨⟨A3,c3,rfl,(HO.out.put4 (g:=w.heap.size+1) l_r _ _ _ _).lower (by omega)⟩,cB HB3.out (by omega) _ _ _ _⟩
 ·rw [if_neg hok]
  have hno:bH b=false:=by simpa using hok
  have HOK:=zu hno
  clear hok hno
  go_enter Tryz.func83,Tryz.ntmps83
  go_wp2_with fail
  generalize hW:World.alloc _ _=w1
  obtain ⟨hb1,hz⟩:=al2 hW
  have b_b:=n21 hW
  have b_r:=n22 hW
  have HB1:=zu hb1
  clear hW
  refine (dm (cn:=cn) (ct:=ct) (HN.out.keep hb1 hB) (HT.out.keep hb1 hB) (zv hB hb1.size)).mono ?_
  rintro e w2 ⟨rfl,hb2⟩
  have HB2:=zu (aa HB1.out hb2)
  have b_b2:=b_b.later hb2
  have b_r2:=b_r.later hb2
  clear b_b b_r hb1 hb2
  have k_b:=b_b2.cell
  have l_b:=b_b2.lt
  have k_r:=b_r2.cell
  have f_r:=b_r2.free
  have l_r:=b_r2.lt
  rw [HOK.out]
  go_wp2_with fail
  refine bodyPost_ret (al rfl rfl (dy b_r2 (.int .i64 0) (.int .i64 0) (.string ⟨#[]⟩) (.slice none 0 0)) rfl) rfl ?_
  exact ⟨⟨none,0,rfl,TmOwn.no⟩,cB HB2.out (by omega) _ _ _ _⟩
def dF:List aY→List aY→Int
 | [],[]=>0
 | [],_::_=>-1
 | _::_,[]=>1
 | x::xs,y::ys=>if dg x y=0 then dF xs ys else dg x y
theorem go (xs ys:List aY) (A A':Option Addr) (c c' B:Nat) (w:World) (hA:RL cV w B (xs.map mkS) A) (hA':RL cV w B (ys.map mkS) A') (hB:B≤w.heap.size) (hn:xs.length≤1000000) (hn':ys.length≤1000000) :
 Calls Tryz.prog 100 #[.slice A xs.length c,.slice A' ys.length c'] w fun e w'=>e=.returned (.int .i64 (dF xs ys))∧w=w':=by
 have HA:=zu hA
 have HA':=zu hA'
 clear hA hA'
 go_enter Tryz.func100,Tryz.ntmps100
 go_wp2_with fail
 go_loop [11] (fun i=>∃k:Nat,k≤xs.length∧i=.int .i64 k∧Hid (dF xs ys=dF (xs.drop k) (ys.drop k))) (fun i=>xs.length-(intOf i).toNat)
 case atStart=>exact ⟨0,zx _,rfl,zu rfl⟩
 case round=>
  obtain ⟨k,hk,rfl,HE⟩:=hrel
  by_cases hlt:k<xs.length
  ·obtain ⟨b,off,rfl,hb,hc⟩:=lS HA.out (zy _ _) hB (by omega)
   have c0:=hc k hlt
   clear hc
   have hI0:(0:Int)≤(k:Int):=Int.natCast_nonneg _
   have hI1:(k:Int)<(xs.length:Int):=by omega
   have hx':xs.drop k=xs[k]::xs.drop (k+1):=List.drop_eq_getElem_cons hlt
   by_cases hlt2:k<ys.length
   ·obtain ⟨b',off',rfl,hb',hc'⟩:=lS HA'.out (zy _ _) hB (by omega)
    have c1:=hc' k hlt2
    clear hc'
    have hI2:(k:Int)<(ys.length:Int):=by omega
    have hg:decide ((k:Int)≥ys.length)=false:=by simp;omega
    have hg2:decide ((ys.length:Int)≤(k:Int))=false:=by simp;omega
    have hy':ys.drop k=ys[k]::ys.drop (k+1):=List.drop_eq_getElem_cons hlt2
    have HE2:Hid (dF xs ys=if dg xs[k] ys[k]=0 then dF (xs.drop (k+1)) (ys.drop (k+1)) else dg xs[k] ys[k]):=zu (by rw [HE.out,hx',hy'];rfl)
    have HCE:Hid (dg (bs (mkS xs[k])) (bs (mkS ys[k]))=dg xs[k] ys[k]):=zu (by rw [jE,jE])
    clear hx' hy' HE
    go_wp2_with (go_at_call 28;refine (dh _ _ _).mono ?_;rintro e w' ⟨rfl,rfl⟩;rw [HCE.out];by_cases hz:dg xs[k] ys[k]=0)
    ·have hz':(dg xs[k] ys[k] !=0)=false:=by simpa using hz
     have HZ:=zu hz
     generalize dg xs[k] ys[k]=r at *
     clear hz
     go_wp2_with fail
     go_round
     case rel=>exact ⟨k+1,by omega,by go_num,zu (by rw [HE2.out,if_pos HZ.out])⟩
     case measure=>simp [intOf];omega
    ·have hz':(dg xs[k] ys[k] !=0)=true:=by simpa using hz
     have HZ:=zu hz
     generalize dg xs[k] ys[k]=r at *
     clear hz
     go_wp2_with fail
     go_ret
     exact ⟨au (by rw [HE2.out,if_neg HZ.out]),rfl⟩
   ·have hg:decide ((k:Int)≥ys.length)=true:=by simp;omega
    have hg2:decide ((ys.length:Int)≤(k:Int))=true:=by simp;omega
    have HE2:Hid (dF xs ys=1):=zu (by rw [HE.out,hx',List.drop_eq_nil_of_le (show ys.length≤k by omega)];rfl)
    clear hx' HE
    go_wp2_with fail
    go_ret
    exact ⟨au HE2.out.symm,rfl⟩
  ·have hz:xs.drop k=[]:=List.drop_eq_nil_of_le (by omega)
   obtain rfl:k=xs.length:=by omega
   by_cases hlt2:xs.length<ys.length
   ·have HE2:Hid (dF xs ys=-1):=zu (by rw [HE.out,hz,List.drop_eq_getElem_cons hlt2];rfl)
    clear hz HE
    go_wp2_with fail
    go_ret
    exact ⟨au HE2.out.symm,rfl⟩
   ·have HE2:Hid (dF xs ys=0):=zu (by rw [HE.out,hz,List.drop_eq_nil_of_le (by omega)];rfl)
    clear hz HE
    go_wp2_with fail
    go_ret
    exact ⟨au HE2.out.symm,rfl⟩
structure Ans where
 b:Bd
 o:Int
def aT (x y:Ans):Int:=orL [dF x.b.names y.b.names,bM (aV 3) x.b.terms y.b.terms,cU x.o y.o]
def anV (x:Ans) (An:Option Addr) (cn:Nat) (At:Option Addr) (ct:Nat):List Value:=[.slice An x.b.names.length cn,.slice At x.b.terms.length ct,.int .u32 x.o]
def mZ (d:Nat):Reader Ans where
 k:=3
 rd:=fun w B x vs=>∃An cn At ct,vs=anV x An cn At ct∧RL cV w B (x.b.names.map mkS) An∧RL (TmR d) w B x.b.terms At
 keep:=fun hw hB ⟨An,cn,At,ct,e,h1,h2⟩=>⟨An,cn,At,ct,e,h1.keep hw hB,h2.keep hw hB⟩
 wide:=fun hB ⟨An,cn,At,ct,e,h1,h2⟩=>⟨An,cn,At,ct,e,h1.wide hB,h2.wide hB⟩
 len:=fun ⟨_,_,_,_,e,_⟩=>by rw [e];rfl
structure AnOk (x:Ans):Prop where
 nm:x.b.names.length≤32
 tm:x.b.terms.length≤32
theorem mg {d e B:Nat} {x y:Ans} {va vb:List Value} {w:World} (ha:(mZ d).rd w B x va) (hb:(mZ e).rd w B y vb) (hx:AnOk x) (hy:AnOk y) (hB:B≤w.heap.size) :
 Calls Tryz.prog 78 #[.agg va.toArray,.agg vb.toArray] w fun z w'=>z=.returned (.int .i64 (aT x y))∧Below w.heap.size w w':=by
 obtain ⟨An,cn,At,ct,rfl,hn,ht⟩:=ha
 obtain ⟨An',cn',At',ct',rfl,hn',ht'⟩:=hb
 have HN:=zu hn
 have HT:=zu ht
 have HN':=zu hn'
 have HT':=zu ht'
 obtain ⟨x1,x2⟩:=hx
 obtain ⟨y1,y2⟩:=hy
 clear hn ht hn' ht'
 unfold anV
 go_enter Tryz.func78,Tryz.ntmps78
 go_upto_region 1 with fail
 generalize hW:World.alloc _ _=w1
 obtain ⟨hb,hz⟩:=al2 hW
 have HA1:=zu (n21 hW)
 have HB1:=zu (n22 hW)
 have HU1:=zu hb
 clear hW hb
 have hsz:=HU1.out.size
 have hB1:B≤w1.heap.size:=zv hB hsz
 have HSL:Hid (∀{w':World},Below w1.heap.size w1 w'→(w'.cell? ⟨w.heap.size,0,none⟩=some (.slice An x.b.names.length cn)∧w'.cell? ⟨w.heap.size,1,none⟩=some (.slice At x.b.terms.length ct)∧w'.cell? ⟨w.heap.size,2,none⟩=some (.int .u32 x.o)∧w'.cell? ⟨w.heap.size+1,0,none⟩=some (.slice An' y.b.names.length cn')∧w'.cell? ⟨w.heap.size+1,1,none⟩=some (.slice At' y.b.terms.length ct')∧w'.cell? ⟨w.heap.size+1,2,none⟩=some (.int .u32 y.o))):=zu (fun hb=>⟨(HA1.out.later hb).cell 0,(HA1.out.later hb).cell 1,(HA1.out.later hb).cell 2,(HB1.out.later hb).cell 0,(HB1.out.later hb).cell 1,(HB1.out.later hb).cell 2⟩)
 refine aL (fun w'=>w'.cell? ⟨w.heap.size,0,none⟩=some (.slice An x.b.names.length cn)∧w'.cell? ⟨w.heap.size,1,none⟩=some (.slice At x.b.terms.length ct)∧w'.cell? ⟨w.heap.size,2,none⟩=some (.int .u32 x.o)∧w'.cell? ⟨w.heap.size+1,0,none⟩=some (.slice An' y.b.names.length cn')∧w'.cell? ⟨w.heap.size+1,1,none⟩=some (.slice At' y.b.terms.length ct')∧w'.cell? ⟨w.heap.size+1,2,none⟩=some (.int .u32 y.o)) (by kernel_rfl) (HSL.out (zy _ _).drew) ?_
 refine ab 0 ?_
 refine ab 1 ?_
 refine ab 2 ?_
 refine ab 3 ?_
 refine ab 4 ?_
 refine ab 5 ?_
 refine ab 7 ?_
 refine ab 8 ?_
 refine ab 9 ?_
 refine ab 10 ?_
 refine ab 11 ?_
 refine ab 12 ?_
 refine ab 14 ?_
 refine ab 15 ?_
 refine ab 16 ?_
 refine ab 17 ?_
 generalize hD:World.drew w1=w2
 have HU:Hid (Below w1.heap.size w1 w2):=zu (hD▸(zy w1.heap.size w1).drew)
 clear hD
 refine av (rs:=[6]) (by kernel_rfl) rfl ?_
 refine aj.cons rfl (fun K hK=>?_) aj.nil
 go_simp
 refine (go x.b.names y.b.names An An' cn cn' B w2 (HN.out.keep (HU1.out.trans (HU.out.mono hsz)) hB) (HN'.out.keep (HU1.out.trans (HU.out.mono hsz)) hB) (zv hB1 HU.out.size) (by omega) (by omega)).mono ?_
 rintro e w' ⟨rfl,rfl⟩
 refine hK.out _ _ (HSL.out HU.out) ?_
 clear hK
 refine av (rs:=[13]) (by kernel_rfl) rfl ?_
 refine aj.cons rfl (fun K hK=>?_) aj.nil
 go_simp
 refine (dZ 55 #[] (aV 3) d e x.b.terms y.b.terms At At' ct ct' B w2 ia (HT.out.keep (HU1.out.trans (HU.out.mono hsz)) hB) (HT'.out.keep (HU1.out.trans (HU.out.mono hsz)) hB) (zv hB1 HU.out.size) (by omega) (by omega) (fun x y vs ws w9 hb9 hx hy=>di d e x y vs ws B w9 hx hy (zv (zv hB1 HU.out.size) hb9.size))).mono ?_
 rintro z w3 ⟨rfl,hb3⟩
 have HU3:Hid (Below w1.heap.size w1 w3):=zu (HU.out.trans (hb3.mono HU.out.size))
 clear hb3
 refine hK.out _ _ (HSL.out HU3.out) ?_
 clear hK
 refine av (rs:=[18]) (by kernel_rfl) rfl ?_
 refine aj.cons rfl (fun K hK=>?_) aj.nil
 go_simp
 refine (jg _ _ _).mono ?_
 rintro e w' ⟨rfl,rfl⟩
 refine hK.out _ _ (HSL.out HU3.out) ?_
 clear hK
 refine av (rs:=[19]) (by kernel_rfl) rfl ?_
 refine aj.cons rfl (fun K hK=>?_) aj.nil
 go_simp
 generalize hW:World.alloc _ _=w4
 obtain ⟨hb4,hz4⟩:=al1 hW
 have HL4:=zu (n11 hW)
 have HU4:Hid (Below w1.heap.size w1 w4):=zu (HU3.out.trans (hb4.mono HU3.out.size))
 clear hW hb4
 refine hK.out _ _ (HSL.out HU4.out) ?_
 clear hK
 refine av (rs:=[20]) (by kernel_rfl) rfl ?_
 refine aj.cons rfl (fun K hK=>?_) aj.nil
 go_simp
 refine (iM [dF x.b.names y.b.names,bM (aV 3) x.b.terms y.b.terms,cU x.o y.o] w3.heap.size w4 (fun i hi=>by
  rw [HL4.out.cell i]
  match i,hi with
  | 0,_=>rfl
  | 1,_=>rfl
  | 2,_=>rfl) (by simp)).mono ?_
 rintro e w' ⟨rfl,rfl⟩
 refine hK.out _ _ (HSL.out HU4.out) ?_
 clear hK
 refine ab 21 ?_
 refine bN (by kernel_rfl) ?_
 go_wp2_with fail
 go_ret
 exact ⟨au rfl,HU1.out.trans (HU4.out.mono hsz)⟩
theorem kA {d e B:Nat} {x y:Ans} {va vb:List Value} {w:World} (ha:(mZ d).rd w B x va) (hb:(mZ e).rd w B y vb) (hx:AnOk x) (hy:AnOk y) (hB:B≤w.heap.size) :
 Calls Tryz.prog 80 #[.agg va.toArray,.agg vb.toArray] w fun z w'=>z=.returned (.bool (aT x y==0))∧Below w.heap.size w w':=by
 have HA:=zu ha
 have HB:=zu hb
 obtain ⟨An,cn,At,ct,rfl,_,_⟩:=ha
 obtain ⟨An',cn',At',ct',rfl,_,_⟩:=hb
 unfold anV at HA HB ⊢
 go_enter Tryz.func80,Tryz.ntmps80
 go_wp2_with fail
 generalize hW:World.alloc _ _=w1
 obtain ⟨hb,hz⟩:=al2 hW
 have HU1:=zu hb
 have hsz:=hb.size
 clear hW hb
 refine (mg (d:=d) (e:=e) (B:=B) (va:=[_,_,_]) (vb:=[_,_,_]) ((mZ d).keep HU1.out hB HA.out) ((mZ e).keep HU1.out hB HB.out) hx hy (zv hB hsz)).mono ?_
 rintro z w2 ⟨rfl,hb⟩
 have HU2:=zu (aa HU1.out hb)
 clear hb
 go_wp2_with fail
 go_ret
 exact ⟨rfl,HU2.out⟩
structure BelowD (B:Nat) (w w':World):Prop where
 b:Below B w w'
 d:w.drawn≤w'.drawn
theorem BelowD.size {B:Nat} {w w':World} (h:BelowD B w w'):w.heap.size≤w'.heap.size:=h.b.size
theorem BelowD.refl (B:Nat) (w:World):BelowD B w w:=⟨zy B w,zw _⟩
theorem BelowD.trans {B:Nat} {w v u:World} (h:BelowD B w v) (k:BelowD B v u):BelowD B w u:=⟨h.b.trans k.b,zv h.d k.d⟩
theorem BelowD.mono {B C:Nat} {w v:World} (h:BelowD B w v) (k:C≤B):BelowD C w v:=⟨h.b.mono k,h.d⟩
theorem BelowD.drew {B:Nat} {w v:World} (h:BelowD B w v):BelowD B w v.drew:=⟨h.b.drew,Nat.le_succ_of_le h.d⟩
theorem BelowD.alloc {B:Nat} {w v:World} (h:BelowD B w v) (k:B≤v.heap.size) (o:Obj):BelowD B w (v.alloc o):=⟨h.b.alloc k o,h.d⟩
theorem BelowD.cell {B:Nat} {w v:World} (h:BelowD B w v) {p:Addr} (hp:p.block<B):v.cell? p=w.cell? p:=h.b.cell hp
theorem dr1 {w W:World} {o:Obj} (h:w.alloc o=W):W.drawn=w.drawn:=by subst h;rfl
theorem dr2 {w W:World} {o p:Obj} (h:(w.alloc o).alloc p=W):W.drawn=w.drawn:=by subst h;rfl
theorem fw (F:FuncId) (cap:Array Value) (f:Tm→Tm→Int) (d e:Nat) (xs ys:List Tm) (A A':Option Addr) (c c' B:Nat) (w:World)
 (hF:∀args (w:World),(callFunc F args).run Tryz.prog w=.ok (.enter F args) w)
 (hA:jd w B d xs A) (hA':jd w B e ys A') (hB:B≤w.heap.size) (hn:xs.length*40≤140737488351232) (hn':ys.length*40≤140737488351232)
 (hf:∀(x y:Tm) (vs ws:List Value) (w1:World),BelowD w.heap.size w w1→RTm w1 B d x vs→RTm w1 B e y ws →
  Calls Tryz.prog F (#[.agg vs.toArray,.agg ws.toArray]++cap) w1 fun e w'=>e=.returned (.int .i64 (f x y))∧BelowD w1.heap.size w1 w') :
 Calls Tryz.prog 54 #[.slice A xs.length c,.slice A' ys.length c',.func (.func F) #[] cap] w fun e w'=>e=.returned (.int .i64 (bM f xs ys))∧BelowD w.heap.size w w':=by
 have HF:=zu hf
 clear hf
 go_enter Tryz.func54,Tryz.ntmps54
 go_wp2_with fail
 go_loopw [13] (fun i wr=>∃k:Nat,k≤xs.length∧i=.int .i64 k∧BelowD w.heap.size w wr∧bM f xs ys=bM f (xs.drop k) (ys.drop k)) (fun i _=>xs.length-(intOf i).toNat)
 case atStart=>exact ⟨0,zx _,rfl,BelowD.refl _ _,rfl⟩
 case round=>
  obtain ⟨k,hk,rfl,hbw,heq⟩:=hrel
  have HE:=zu heq
  clear heq
  by_cases hlt:k<xs.length
  ·obtain ⟨b,off,x,Ax,cx,rfl,hb,hx,c0,c1,c2,c3,hr⟩:=hA.elem hbw.b hB hlt
   by_cases hlt2:k<ys.length
   ·obtain ⟨b',off',y,Ay,cy,rfl,hb',hy,e0,e1,e2,e3,hr'⟩:=hA'.elem hbw.b hB hlt2
    have hsz:=hbw.size
    have hbw2:∀o o':Obj,BelowD w.heap.size w ((wr.alloc o).alloc o'):=fun o o'=>(hbw.alloc hsz _).alloc (by simp;omega) _
    have hbr2:∀o o':Obj,BelowD wr.heap.size wr ((wr.alloc o).alloc o'):=fun o o'=>((BelowD.refl _ _).alloc (zw _) _).alloc (by simp) _
    have HB:=zu hbw2
    have HR:=zu hbr2
    have hx':xs.drop k=x::xs.drop (k+1):=by
     obtain ⟨h1,h2⟩:=List.getElem?_eq_some_iff.1 hx
     rw [←h2];exact List.drop_eq_getElem_cons h1
    have hy':ys.drop k=y::ys.drop (k+1):=by
     obtain ⟨h1,h2⟩:=List.getElem?_eq_some_iff.1 hy
     rw [←h2];exact List.drop_eq_getElem_cons h1
    have HE2:Hid (bM f xs ys=if f x y=0 then bM f (xs.drop (k+1)) (ys.drop (k+1)) else f x y):=by
     have:=HE.out
     rw [hx',hy'] at this
     exact this
    clear hbw2 hbr2 hx' hy' HE
    go_wp2_with fail
    refine (HF.out x y [_,_,_,_] [_,_,_,_] _ (HB.out _ _) (hr.below (HR.out _ _).b (by omega)) (hr'.below (HR.out _ _).b (by omega))).mono ?_
    rintro e w1 ⟨rfl,hb1⟩
    have hbw1:=zu ((HB.out _ _).trans (hb1.mono (by simp;omega)))
    clear hb1
    by_cases hz:(f x y !=0)=true
    ·go_wp2_with fail
     go_ret
     exact ⟨au (by rw [HE2.out,if_neg (by simpa using hz)]),hbw1.out⟩
    ·have hz':(f x y !=0)=false:=by simpa using hz
     go_wp2_with fail
     go_roundw
     case rel=>exact ⟨k+1,by omega,by go_num,hbw1.out,by rw [HE2.out,if_pos (by simpa using hz')]⟩
     case measure=>simp [intOf];omega
   ·have hz:ys.drop k=[]:=List.drop_eq_nil_iff.2 (by omega)
    have HE2:Hid (bM f xs ys=1):=by
     have:=HE.out
     obtain ⟨h1,h2⟩:=List.getElem?_eq_some_iff.1 hx
     rw [List.drop_eq_getElem_cons h1,hz] at this
     exact this
    have hbw2:=zu (fun o:Obj=>hbw.alloc hbw.size o)
    clear HE hz
    go_wp2_with fail
    go_ret
    exact ⟨au HE2.out.symm,hbw2.out _⟩
  ·have hz:xs.drop k=[]:=List.drop_eq_nil_iff.2 (by omega)
   have HE2:=HE.out
   rw [hz] at HE2
   have HE3:=zu HE2
   clear HE HE2 hz
   by_cases hlt2:xs.length<ys.length
   ·go_wp2_with fail
    go_ret
    obtain rfl:k=xs.length:=by omega
    exact ⟨au (by rw [HE3.out,List.drop_eq_getElem_cons hlt2];rfl),hbw⟩
   ·go_wp2_with fail
    go_ret
    obtain rfl:k=xs.length:=by omega
    exact ⟨au (by rw [HE3.out,List.drop_eq_nil_iff.2 (by omega)];rfl),hbw⟩
theorem qg (w:World) (o1 o2 o3 o4:Obj):BelowD w.heap.size w ((((w.alloc o1).alloc o2).alloc o3).alloc o4).drew:=
 ((((((BelowD.refl _ _).alloc (zw _) _).alloc (by simp) _).alloc (by simp;omega) _).alloc (by simp;omega) _)).drew
theorem mj (d:Nat) (hd:d≤100) (ih:∀(da db:Nat) (a b:Tm) (vs ws:List Value) (B:Nat) (w:World),RTm w B da a vs→RTm w B db b ws→B≤w.heap.size →
 Calls Tryz.prog 73 #[.agg vs.toArray,.agg ws.toArray,.int .i64 d] w fun e w'=>e=.returned (.int .i64 (aV d a b))∧BelowD w.heap.size w w')
 (da db:Nat) (a b:Tm) (vs ws:List Value) (G B:Nat) (w:World) (hG:w.cell? ⟨G,0,none⟩=some (.int .i64 (d+1))) (ha:RTm w B da a vs) (hb:RTm w B db b ws) (hB:B≤w.heap.size) :
 Calls Tryz.prog 95 #[.agg vs.toArray,.agg ws.toArray,.pointer (some ⟨G,0,none⟩)] w fun e w'=>e=.returned (.int .i64 (aV d a b))∧BelowD w.heap.size w w':=by
 have HI:=zu ih
 clear ih
 obtain ⟨A,c,rfl,_⟩:=ha.cells
 obtain ⟨A',c',rfl,_⟩:=hb.cells
 have hGl:G<w.heap.size:=block_lt_of_cell hG
 go_enter Tryz.func95,Tryz.ntmps95
 have hbel:BelowD w.heap.size w ((w.alloc (.cells #[.int .i64 a.kind,.int .i64 a.n,.string a.s,.slice A a.l.length c] 29)).alloc (.cells #[.int .i64 b.kind,.int .i64 b.n,.string b.s,.slice A' b.l.length c'] 29)):=
  ((BelowD.refl _ _).alloc (zw _) _).alloc (by simp) _
 have HB:=zu hbel
 clear hbel
 go_wp2_with fail
 refine (HI.out da db a b [_,_,_,_] [_,_,_,_] B _ (ha.below HB.out.b hB) (hb.below HB.out.b hB) (zv hB HB.out.size)).mono ?_
 rintro e w1 ⟨rfl,hb1⟩
 have hfin:=zu (HB.out.trans (hb1.mono HB.out.size))
 clear hb1
 go_wp2_with fail
 go_ret
 exact ⟨rfl,hfin.out⟩
theorem nu (d:Nat) (hd:d≤100):∀(da db:Nat) (a b:Tm) (vs ws:List Value) (B:Nat) (w:World),RTm w B da a vs→RTm w B db b ws→B≤w.heap.size →
 Calls Tryz.prog 73 #[.agg vs.toArray,.agg ws.toArray,.int .i64 d] w fun e w'=>e=.returned (.int .i64 (aV d a b))∧BelowD w.heap.size w w':=by
 induction d with
 | zero=>
   intro da db a b vs ws B w ha hb hB
   obtain ⟨A,c,rfl,_⟩:=ha.cells
   obtain ⟨A',c',rfl,_⟩:=hb.cells
   show Calls _ _ #[_,_,.int .i64 0] _ _
   go_enter Tryz.func73,Tryz.ntmps73
   go_wp2_with fail
   refine bm 15 (by kernel_rfl) (by kernel_rfl) ?_
   simp only [List.take_succ_cons,List.take_zero,List.drop_succ_cons,List.drop_zero]
   repeat still_step
   still_call (jU (dP _ _ _))
   repeat still_step
   still_call (jU (eA _ _ _))
   repeat still_step
   still_call (jU (dh _ _ _))
   refine wpStill_nil ?_
   go_wp2_with fail
   refine (iN (cU a.kind b.kind) (cU a.n b.n) (dg (bs a.s) (bs b.s)) _ _ (by go_simp) (by go_simp) (by go_simp)).mono ?_
   rintro e w' ⟨rfl,rfl⟩
   by_cases hz:(im a b !=0)=true
   all_goals (unfold im at hz;try rw [Bool.not_eq_true] at hz)
   all_goals
    go_wp2_with fail
    go_ret
    exact ⟨rfl,qg _ _ _ _ _⟩
 | succ d ih=>
   intro da db a b vs ws B w ha hb hB
   obtain ⟨A,c,rfl,_⟩:=ha.cells
   obtain ⟨A',c',rfl,_⟩:=hb.cells
   go_enter Tryz.func73,Tryz.ntmps73
   go_wp2_with fail
   refine bm 15 (by kernel_rfl) (by kernel_rfl) ?_
   simp only [List.take_succ_cons,List.take_zero,List.drop_succ_cons,List.drop_zero]
   repeat still_step
   still_call (jU (dP _ _ _))
   repeat still_step
   still_call (jU (eA _ _ _))
   repeat still_step
   still_call (jU (dh _ _ _))
   refine wpStill_nil ?_
   go_wp2_with fail
   refine (iN (cU a.kind b.kind) (cU a.n b.n) (dg (bs a.s) (bs b.s)) _ _ (by go_simp) (by go_simp) (by go_simp)).mono ?_
   rintro e w' ⟨rfl,rfl⟩
   have hd0:(((d+1:Nat):Int)==0)=false:=by simp;omega
   by_cases hz:(im a b !=0)=true
   all_goals (have HZ:=zu hz;unfold im at hz;try rw [Bool.not_eq_true] at hz)
   ·go_wp2_with fail
    go_ret
    exact ⟨au (by rw [aV,if_neg (by simpa using HZ.out)];rfl),qg _ _ _ _ _⟩
   ·go_wp2_with fail
    obtain ⟨_,_,e1,a1,a2,a3,a4,a5,hA⟩:=ha.cells
    obtain ⟨rfl,rfl⟩:_∧_:=by simpa using e1
    obtain ⟨_,_,e2,b1,b2,b3,b4,b5,hB'⟩:=hb.cells
    obtain ⟨rfl,rfl⟩:_∧_:=by simpa using e2
    have hbel:=qg w (.cells #[.int .i64 a.kind,.int .i64 a.n,.string a.s,.slice A a.l.length c] 29) (.cells #[.int .i64 b.kind,.int .i64 b.n,.string b.s,.slice A' b.l.length c'] 29)
     (.cells #[.int .i64 (d+1)] 3) (.cells #[.int .i64 (cU a.kind b.kind),.int .i64 (cU a.n b.n),.int .i64 (dg (bs a.s) (bs b.s))] 3)
    refine (fw 95 _ (aV d) (da-1) (db-1) a.l b.l A A' c c' B _ rB (hA.below hbel.b hB) (hB'.below hbel.b hB) (zv hB hbel.size) (by omega) (by omega) ?_).mono ?_
    ·intro x y vs ws w1 hb1 hx hy
     refine (mj d (by omega) (fun da db a b vs ws B w h1 h2 h3=>ih (by omega) da db a b vs ws B w h1 h2 h3) _ _ x y vs ws _ B w1 ((hb1.cell (by simp)).trans (by go_simp)) hx hy (zv hB (zv hbel.size hb1.size)))
    ·rintro e w1 ⟨rfl,hb1⟩
     have hfin:=hbel.trans (hb1.mono hbel.size)
     clear hb1 hbel
     go_wp2_with fail
     go_ret
     exact ⟨au (by rw [aV,if_pos (by simpa using HZ.out)]),hfin⟩
theorem oG (da db:Nat) (a b:Tm) (vs ws:List Value) (B:Nat) (w:World) (ha:RTm w B da a vs) (hb:RTm w B db b ws) (hB:B≤w.heap.size) :
 Calls Tryz.prog 55 #[.agg vs.toArray,.agg ws.toArray] w fun e w'=>e=.returned (.int .i64 (aV 3 a b))∧BelowD w.heap.size w w':=by
 obtain ⟨A,c,rfl,_⟩:=ha.cells
 obtain ⟨A',c',rfl,_⟩:=hb.cells
 have hbel:BelowD w.heap.size w ((w.alloc (.cells #[.int .i64 a.kind,.int .i64 a.n,.string a.s,.slice A a.l.length c] 29)).alloc (.cells #[.int .i64 b.kind,.int .i64 b.n,.string b.s,.slice A' b.l.length c'] 29)):=
  ((BelowD.refl _ _).alloc (zw _) _).alloc (by simp) _
 have HB:=zu hbel
 clear hbel
 go_enter Tryz.func55,Tryz.ntmps55
 go_wp2_with fail
 refine (nu 3 (by omega) da db a b [_,_,_,_] [_,_,_,_] B _ (ha.below HB.out.b hB) (hb.below HB.out.b hB) (zv hB HB.out.size)).mono ?_
 rintro e w1 ⟨rfl,hb1⟩
 have hfin:=zu (HB.out.trans (hb1.mono HB.out.size))
 clear hb1
 go_wp2_with fail
 go_ret
 exact ⟨rfl,hfin.out⟩
theorem kx {d e B:Nat} {x y:Ans} {va vb:List Value} {w:World} (ha:(mZ d).rd w B x va) (hb:(mZ e).rd w B y vb) (hx:AnOk x) (hy:AnOk y) (hB:B≤w.heap.size) :
 Calls Tryz.prog 78 #[.agg va.toArray,.agg vb.toArray] w fun z w'=>z=.returned (.int .i64 (aT x y))∧BelowD w.heap.size w w':=by
 obtain ⟨An,cn,At,ct,rfl,hn,ht⟩:=ha
 obtain ⟨An',cn',At',ct',rfl,hn',ht'⟩:=hb
 have HN:=zu hn
 have HT:=zu ht
 have HN':=zu hn'
 have HT':=zu ht'
 obtain ⟨x1,x2⟩:=hx
 obtain ⟨y1,y2⟩:=hy
 clear hn ht hn' ht'
 unfold anV
 go_enter Tryz.func78,Tryz.ntmps78
 go_upto_region 1 with fail
 generalize hW:World.alloc _ _=w1
 have hdr:=dr2 hW
 obtain ⟨hb,hz⟩:=al2 hW
 have HA1:=zu (n21 hW)
 have HB1:=zu (n22 hW)
 have HU1:=zu (BelowD.mk hb (Nat.le_of_eq hdr.symm))
 clear hW hb hdr
 have hsz:=HU1.out.size
 have hB1:B≤w1.heap.size:=zv hB hsz
 have HSL:Hid (∀{w':World},Below w1.heap.size w1 w'→(w'.cell? ⟨w.heap.size,0,none⟩=some (.slice An x.b.names.length cn)∧w'.cell? ⟨w.heap.size,1,none⟩=some (.slice At x.b.terms.length ct)∧w'.cell? ⟨w.heap.size,2,none⟩=some (.int .u32 x.o)∧w'.cell? ⟨w.heap.size+1,0,none⟩=some (.slice An' y.b.names.length cn')∧w'.cell? ⟨w.heap.size+1,1,none⟩=some (.slice At' y.b.terms.length ct')∧w'.cell? ⟨w.heap.size+1,2,none⟩=some (.int .u32 y.o))):=zu (fun hb=>⟨(HA1.out.later hb).cell 0,(HA1.out.later hb).cell 1,(HA1.out.later hb).cell 2,(HB1.out.later hb).cell 0,(HB1.out.later hb).cell 1,(HB1.out.later hb).cell 2⟩)
 refine aL (fun w'=>w'.cell? ⟨w.heap.size,0,none⟩=some (.slice An x.b.names.length cn)∧w'.cell? ⟨w.heap.size,1,none⟩=some (.slice At x.b.terms.length ct)∧w'.cell? ⟨w.heap.size,2,none⟩=some (.int .u32 x.o)∧w'.cell? ⟨w.heap.size+1,0,none⟩=some (.slice An' y.b.names.length cn')∧w'.cell? ⟨w.heap.size+1,1,none⟩=some (.slice At' y.b.terms.length ct')∧w'.cell? ⟨w.heap.size+1,2,none⟩=some (.int .u32 y.o)) (by kernel_rfl) (HSL.out (zy _ _).drew) ?_
 refine ab 0 ?_
 refine ab 1 ?_
 refine ab 2 ?_
 refine ab 3 ?_
 refine ab 4 ?_
 refine ab 5 ?_
 refine ab 7 ?_
 refine ab 8 ?_
 refine ab 9 ?_
 refine ab 10 ?_
 refine ab 11 ?_
 refine ab 12 ?_
 refine ab 14 ?_
 refine ab 15 ?_
 refine ab 16 ?_
 refine ab 17 ?_
 generalize hD:World.drew w1=w2
 have HU:Hid (BelowD w1.heap.size w1 w2):=zu (hD▸(BelowD.refl w1.heap.size w1).drew)
 clear hD
 refine av (rs:=[6]) (by kernel_rfl) rfl ?_
 refine aj.cons rfl (fun K hK=>?_) aj.nil
 go_simp
 refine (go x.b.names y.b.names An An' cn cn' B w2 (HN.out.keep (HU1.out.trans (HU.out.mono hsz)).b hB) (HN'.out.keep (HU1.out.trans (HU.out.mono hsz)).b hB) (zv hB1 HU.out.size) (by omega) (by omega)).mono ?_
 rintro e w' ⟨rfl,rfl⟩
 refine hK.out _ _ (HSL.out HU.out.b) ?_
 clear hK
 refine av (rs:=[13]) (by kernel_rfl) rfl ?_
 refine aj.cons rfl (fun K hK=>?_) aj.nil
 go_simp
 refine (fw 55 #[] (aV 3) d e x.b.terms y.b.terms At At' ct ct' B w2 ia (HT.out.keep (HU1.out.trans (HU.out.mono hsz)).b hB) (HT'.out.keep (HU1.out.trans (HU.out.mono hsz)).b hB) (zv hB1 HU.out.size) (by omega) (by omega) (fun x y vs ws w9 hb9 hx hy=>oG d e x y vs ws B w9 hx hy (zv (zv hB1 HU.out.size) hb9.size))).mono ?_
 rintro z w3 ⟨rfl,hb3⟩
 have HU3:Hid (BelowD w1.heap.size w1 w3):=zu (HU.out.trans (hb3.mono HU.out.size))
 clear hb3
 refine hK.out _ _ (HSL.out HU3.out.b) ?_
 clear hK
 refine av (rs:=[18]) (by kernel_rfl) rfl ?_
 refine aj.cons rfl (fun K hK=>?_) aj.nil
 go_simp
 refine (jg _ _ _).mono ?_
 rintro e w' ⟨rfl,rfl⟩
 refine hK.out _ _ (HSL.out HU3.out.b) ?_
 clear hK
 refine av (rs:=[19]) (by kernel_rfl) rfl ?_
 refine aj.cons rfl (fun K hK=>?_) aj.nil
 go_simp
 generalize hW:World.alloc _ _=w4
 have hb4:BelowD w3.heap.size w3 w4:=⟨(al1 hW).1,Nat.le_of_eq (dr1 hW).symm⟩
 have HL4:=zu (n11 hW)
 have HU4:Hid (BelowD w1.heap.size w1 w4):=zu (HU3.out.trans (hb4.mono HU3.out.size))
 clear hW hb4
 refine hK.out _ _ (HSL.out HU4.out.b) ?_
 clear hK
 refine av (rs:=[20]) (by kernel_rfl) rfl ?_
 refine aj.cons rfl (fun K hK=>?_) aj.nil
 go_simp
 refine (iM [dF x.b.names y.b.names,bM (aV 3) x.b.terms y.b.terms,cU x.o y.o] w3.heap.size w4 (fun i hi=>by
  rw [HL4.out.cell i]
  match i,hi with
  | 0,_=>rfl
  | 1,_=>rfl
  | 2,_=>rfl) (by simp)).mono ?_
 rintro e w' ⟨rfl,rfl⟩
 refine hK.out _ _ (HSL.out HU4.out.b) ?_
 clear hK
 refine ab 21 ?_
 refine bN (by kernel_rfl) ?_
 go_wp2_with fail
 go_ret
 exact ⟨au rfl,HU1.out.trans (HU4.out.mono hsz)⟩
theorem sU {w w':World} (h:BelowD w.heap.size w w'):∃q os,w'=Sort.grow (w.drewN q) os:=by
 obtain ⟨p,hp⟩:=regrown_of_below h.b
 refine ⟨w'.drawn-w.drawn,p.os,?_⟩
 have hd:=h.d
 have e1:w'.drawn=p.d:=by rw [hp];rfl
 rw [hp]
 unfold Sort.grow redrawn World.drewN
 simp only [World.mk.injEq,true_and,and_true]
 show p.d=w.drawn+(p.d-w.drawn)
 omega
structure Ins where
 kind:Int
 a:Int
 b:Int
 c:Int
 d:Int
 x:Int
 y:Int
def Ins.word (i:Ins) (j:Nat):Int:=if j=0 then i.a else if j=1 then i.b else if j=2 then i.c else i.d
def Ins.put (i:Ins) (j:Nat) (v:Int):Ins:=if j=0 then { i with a:=v } else if j=1 then { i with b:=v } else if j=2 then { i with c:=v } else { i with d:=v }
def me (i:Ins) (c:Nat):Ins:=i.put (c / 64) (bits .or .u64 (i.word (c / 64)) (IntKind.u64.wrap (1*2 ^ (c % 64))))
def ci:Ins:=⟨1,0,0,0,0,0,0⟩
def ng:Int:=18446744073709551615
def anyI:Ins:=⟨1,ng,ng,ng,ng,0,0⟩
def gT (k:Int) (i:Ins):Ins:=if i.kind=2 then { i with x:=wrap64 (i.x+k),y:=wrap64 (i.y+k) } else if i.kind=3 then { i with x:=wrap64 (i.x+k) } else i
def bE (x y:Int):Ins:=⟨2,0,0,0,0,x,y⟩
def iG (x:Int):Ins:=⟨3,0,0,0,0,x,0⟩
def qw:Ins:=⟨6,0,0,0,0,0,0⟩
def aK (l:List Ins) (k:Int):List Ins:=l.map (gT k)
def hJ (a b:List Ins):List Ins:=[bE 1 (a.length+2)]++aK a 1++[iG (a.length+2+b.length)]++aK b (a.length+2)
structure PS where
 at_:Nat
 deep:Nat
 e:Int
def ch (s:ByteArray) (k:Nat):Nat:=((bs s)[k]?.map UInt8.toNat).getD 0
def bP (s:ByteArray) (p:PS):Bool:=decide (p.e≠0)||decide (s.size≤p.at_)
def isP (s:ByteArray) (p:PS) (c:Nat):Bool:=!bP s p&&decide (ch s p.at_=c)
def bh (p:PS) (e:Int):PS:=if p.e=0 then { p with e:=e } else p
def PS.step (p:PS):PS:={ p with at_:=p.at_+1 }
def aH (s:ByteArray) (p:PS):Nat × PS:=if bP s p then (0,bh p 3) else (ch s p.at_,p.step)
def aQ (s:ByteArray) (p:PS):Nat × PS:=
 let r:=aH s p
 if r.1=92 then aH s r.2 else r
def ei (i:Ins) (f t:Nat):Ins:=(List.range (t+1-f)).foldl (fun i k=>me i (f+k)) i
def eU (s:ByteArray) (p:PS):(Nat × Nat) × PS:=
 let r:=aQ s p
 if isP s r.2 45&&(decide (r.2.at_+1<s.size)&&decide (ch s (r.2.at_+1)≠93)) then
  let q:=aQ s r.2.step
  ((r.1,q.1),q.2)
 else ((r.1,r.1),r.2)
def bk (s:ByteArray):Nat→PS→Ins→Ins × PS
 | 0,p,i=>(i,p)
 | n+1,p,i=>
   if !bP s p&&!isP s p 93 then
    let r:=eU s p
    bk s n (if r.1.2<r.1.1 then bh r.2 3 else r.2) (ei i r.1.1 r.1.2)
   else (i,p)
def oF (v:Int):Int:=bits .xor .u64 (if IntKind.u64.signed=true then -1 else IntKind.u64.max) v
def ry (i:Ins):Ins:=⟨i.kind,oF i.a,oF i.b,oF i.c,oF i.d,i.x,i.y⟩
def dV (s:ByteArray) (p:PS):Ins × PS:=
 let not_:=isP s p 94
 let p1:=if not_ then p.step else p
 let p2:=if isP s p1 93 then bh p1 3 else p1
 let r:=bk s (s.size+1-p2.at_) p2 ci
 let q:=aH s r.2
 (if not_ then ry r.1 else r.1,q.2)
def kE (c:Nat):Bool:=decide (c=41)||decide (c=42)||decide (c=43)||decide (c=63)||decide (c=124)
mutual
def qS (s:ByteArray):Nat→PS→List Ins × PS
 | 0,p=>([],p)
 | n+1,p=>
   let r:=jv s n p []
   if isP s r.2 124 then
    let q:=qS s n r.2.step
    (hJ r.1 q.1,q.2)
   else r
def jv (s:ByteArray):Nat→PS→List Ins→List Ins × PS
 | 0,p,out=>(out,p)
 | n+1,p,out=>
   if !bP s p&&(!isP s p 124&&!isP s p 41) then
    let r:=eQ s n p
    jv s n r.2 (out++aK r.1 out.length)
   else (out,p)
def eQ (s:ByteArray):Nat→PS→List Ins × PS
 | 0,p=>([],p)
 | n+1,p=>
   let r:=fI s n p
   if isP s r.2 42 then ([bE 1 (r.1.length+2)]++aK r.1 1++[iG 0],r.2.step)
   else if isP s r.2 43 then (r.1++[bE 0 (r.1.length+1)],r.2.step)
   else if isP s r.2 63 then ([bE 1 (r.1.length+1)]++aK r.1 1,r.2.step)
   else r
def fI (s:ByteArray):Nat→PS→List Ins × PS
 | 0,p=>([],p)
 | n+1,p=>
   let r:=aH s p
   if r.1=40∧r.2.e=0 then
    if r.2.deep=20 then ([],bh r.2 4)
    else
     let q:=qS s n ⟨r.2.at_,r.2.deep+1,r.2.e⟩
     let z:=aH s q.2
     let f:=if z.1≠41 then bh z.2 3 else z.2
     (q.1,⟨f.at_,f.deep-1,f.e⟩)
   else if r.1=91 then
    let q:=dV s r.2
    ([q.1],q.2)
   else if r.1=46 then ([anyI],r.2)
   else if r.1=94 then ([⟨4,0,0,0,0,0,0⟩],r.2)
   else if r.1=36 then ([⟨5,0,0,0,0,0,0⟩],r.2)
   else if r.1=92 then
    let q:=aH s r.2
    ([me ci q.1],q.2)
   else if kE r.1 then ([ci],bh r.2 3)
   else ([me ci r.1],r.2)
end
def fx (rem:Nat):Nat:=4*rem+4
def yR (s:ByteArray) (p:PS):PS:=if bP s p then p else bh p 3
def dY (s:ByteArray):List Ins × Int:=
 if 256<s.size then ([],4)
 else
  let r:=qS s (fx s.size) ⟨0,0,0⟩
  if (yR s r.2).e=0 then (r.1++[qw],0) else ([],(yR s r.2).e)
end Go.Proofs.YtjpndglegpcdnaaGreat
