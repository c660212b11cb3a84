/- The comparison of answers, once more: it draws, it does not undraw (what slices.SortFunc's contract asks). Printed by mk_cmpd.py. -/
import Derived.Test.YtdphibjibnffeaaGreatFound
import Derived.Test.YtdphibjibnffeaaGreatFc1
import Derived.Test.YtdphibjibnffeaaGreatBSearch
set_option linter.unusedVariables false
set_option linter.unusedSimpArgs false
set_option maxRecDepth 100000
set_option maxHeartbeats 8000000
namespace Go.Proofs.YtdphibjibnffeaaGreat
open Go.ChangeShapes Go.WideShapes Go.ChangeAt Go.RowKit
def iz (b:Bd) (i:Nat):Bool:=
 match b.names[i]?,b.terms[i]?,b.names[i-1]? with
 | some n,some t,some p=>fC n&&af t&&(decide (i=0)||decide (p<n))
 | _,_,_=>false
def bj (b:Bd):Bool:=decide (b.names.length=b.terms.length)&&decide (b.names.length≤32)&&(List.range b.names.length).all (iz b)
theorem dh {d B cn ct:Nat} {b:Bd} {An At:Option Addr} {w:World} (hn:RL cU w B (b.names.map mkS) An) (ht:RL (TmR (d+1)) w B b.terms At) (hB:B≤w.heap.size) :
 Calls Tryz.prog 67 #[.agg (bdV An b.names.length cn At b.terms.length ct)] w fun e w'=>e=.returned (.bool (bj b))∧Below w.heap.size w w':=by
 have HN:=zE hn
 have HT:=zE ht
 clear hn ht
 unfold bdV
 go_enter Tryz.func67,Tryz.ntmps67
 by_cases hlen:b.names.length=b.terms.length
 ·have ql:((b.names.length:Int) !=b.terms.length)=false:=by simp [hlen]
  have HLN:=zE hlen
  clear hlen
  by_cases hfew:b.names.length≤32
  ·have qf:decide ((32:Int)<b.names.length)=false:=by simp;omega
   go_wp2_with fail
   generalize hW:World.alloc _ _=w1
   obtain ⟨hb1,hz⟩:=al1 hW
   have HBB:=zE (n11 hW)
   have HB1:=zE hb1
   clear hW hb1
   go_loopw [21] (fun i wr=>∃k:Nat,k≤b.names.length∧i=.int .i64 k∧Below w1.heap.size w1 wr∧∀i,i<k→iz b i=true) (fun i _=>b.names.length-(intOf i).toNat)
   case atStart=>exact ⟨0,zH _,rfl,zI _ _,fun i h=>absurd h (by omega)⟩
   case round=>
    obtain ⟨k,hk,rfl,hbw,hall⟩:=hrel
    have HA:=zE hall
    have HWR:=zE hbw
    have HBR:=zE (HBB.out.later hbw)
    have HBw:Hid (Below w.heap.size w wr):=zE (ab HB1.out hbw)
    have hB1:B≤w1.heap.size:=by omega
    have hsz:=hbw.size
    clear hall hbw
    by_cases hlt:k<b.names.length
    ·have HN1:=zE (HN.out.keep HBw.out hB)
     have HT1:=zE (HT.out.keep HBw.out hB)
     have hBr:B≤wr.heap.size:=by omega
     have hlt2:k<b.terms.length:=by rw [←HLN.out];exact hlt
     obtain ⟨bn_,offn,rfl,hobn,hcn⟩:=lT HN1.out (zI _ _) hBr (by omega)
     obtain ⟨bt_,offt,rfl,hobt⟩:=HT1.out.base (zI _ _) hBr (by omega)
     obtain ⟨x,vs,hx,hlen,hcell,hr⟩:=HT1.out.at_ (zI _ _) hBr hlt2
     obtain ⟨Ax,cx,rfl,g1,g2,g3,g4,g5,_⟩:=RTm.cells (show RTm wr B (d+1) x vs from hr)
     have c0:wr.cell? ⟨bt_,offt+k*4,none⟩=some (.int .i64 x.kind):=hcell 0 _ rfl
     have c1:wr.cell? ⟨bt_,offt+k*4+1,none⟩=some (.int .i64 x.n):=hcell 1 _ rfl
     have c2:wr.cell? ⟨bt_,offt+k*4+2,none⟩=some (.string x.s):=hcell 2 _ rfl
     have c3:wr.cell? ⟨bt_,offt+k*4+3,none⟩=some (.slice Ax x.l.length cx):=hcell 3 _ rfl
     have cn0:=hcn k hlt
     have cn1:=hcn (k-1) (by omega)
     have k_b:=HBR.out.cell
     have l_b:=HBR.out.lt
     have hxe:b.terms[k]=x:=by
      rw [List.getElem?_eq_getElem hlt2] at hx
      simpa using hx
     obtain ⟨y,vy,hy,_,_,hry⟩:=HN1.out.at_ (zI _ _) hBr (k:=k) (by simpa using hlt)
     have hye:y=mkS b.names[k]:=by simpa [hlt,eq_comm] using hy
     have hsz16:(mkS b.names[k]).size≤140737488351232:=hye▸(show cU.rd wr B y vy from hry).2
     have HX:=zE hr
     have HAT:Hid (iz b k=(fC (bs (mkS b.names[k]))&&af x&&(decide (k=0)||decide (bs (mkS b.names[k-1])<bs (mkS b.names[k]))))):=zE (by
      unfold iz
      rw [List.getElem?_eq_getElem hlt,List.getElem?_eq_getElem hlt2,List.getElem?_eq_getElem (show k-1<b.names.length by omega),hxe,jM,jM])
     clear hcell hlen hcn hx hr hry hy hye hxe
     generalize mkS b.names[k]=nk at *
     generalize mkS b.names[k-1]=np at *
     have HNO:Hid (iz b k=false→bj b=false):=zE (fun h=>by
      rw [Bool.eq_false_iff]
      intro h2
      unfold bj at h2
      rw [Bool.and_eq_true,List.all_eq_true] at h2
      have:=h2.2 k (by simpa using hlt)
      rw [h] at this
      cases this)
     by_cases hnm:fC (bs nk)=true
     ·by_cases hfx:af x=true
      ·have hk1:(k:Int)-1=((k-1:Nat):Int)∨k=0:=by omega
       have hle:(!Op.bytesLess np.toList nk.toList) = !decide (bs np<bs nk):=by rw [dq,ByteArray.toList_eq,ByteArray.toList_eq]
       rcases Nat.eq_zero_or_pos k with h0 | h0
       ·have hAT:iz b k=true:=by rw [HAT.out,hnm,hfx,decide_eq_true h0];rfl
        have HAT2:=zE hAT
        have H0:=zE h0
        clear h0 hAT hle hk1
        go_wp2_with (first
         | (go_at_call 103;refine (fg _ _ (by unfold maxLen;omega)).mono ?_;rintro e w' ⟨rfl,rfl⟩)
         | (go_at_call 106;refine (aj HX.out hBr).mono ?_;rintro e w2 ⟨rfl,hb2⟩;have cn2:=(hb2.cell (p:=⟨bn_,offn+(k-1),none⟩) hobn).trans cn1;have k_b2:=(HBR.out.later hb2).cell;have HB2:=zE (ab HBw.out hb2);have HBR2:=zE (Below.trans HWR.out (hb2.mono hsz));clear hb2))
        ·exact absurd H0.out (by omega)
        all_goals
         go_roundw
         case rel=>exact ⟨k+1,by omega,by go_num,HBR2.out,fun i hi=>by
          rcases Nat.lt_or_ge i k with h1 | h1
          ·exact HA.out i h1
          ·obtain rfl:i=k:=by omega
           exact HAT2.out⟩
         case measure=>simp [intOf];omega
       ·have hk2:(k:Int)-1=((k-1:Nat):Int):=by omega
        have q0:decide ((0:Int)<k)=true:=by simp;omega
        clear hk1
        have HLE:=zE hle
        clear hle
        go_wp2_with (first
         | (go_at_call 103;refine (fg _ _ (by unfold maxLen;omega)).mono ?_;rintro e w' ⟨rfl,rfl⟩)
         | (go_at_call 106;refine (aj HX.out hBr).mono ?_;rintro e w2 ⟨rfl,hb2⟩;have cn2:=(hb2.cell (p:=⟨bn_,offn+(k-1),none⟩) hobn).trans cn1;have k_b2:=(HBR.out.later hb2).cell;have HB2:=zE (ab HBw.out hb2);have HBR2:=zE (Below.trans HWR.out (hb2.mono hsz));clear hb2))
        ·rename_i hq
         go_ret
         refine ⟨ae ?_,HB2.out⟩
         rw [HLE.out] at hq
         have hq2:decide (bs np<bs nk)=false:=by simpa using hq
         have hq1:decide (k=0)=false:=by simp;omega
         rw [HNO.out (by rw [HAT.out,hnm,hfx,hq1,hq2];rfl)]
        ·rename_i hq
         rw [HLE.out] at hq
         have hq2:decide (bs np<bs nk)=true:=by simpa using hq
         have HAT2:Hid (iz b k=true):=zE (by rw [HAT.out,hnm,hfx,hq2,Bool.or_true];rfl)
         clear hq hq2
         go_roundw
         case rel=>exact ⟨k+1,by omega,by go_num,HBR2.out,fun i hi=>by
          rcases Nat.lt_or_ge i k with h1 | h1
          ·exact HA.out i h1
          ·obtain rfl:i=k:=by omega
           exact HAT2.out⟩
         case measure=>simp [intOf];omega
      ·have hfx':af x=false:=by simpa using hfx
       clear hfx
       go_wp2_with (first
        | (go_at_call 103;refine (fg _ _ (by unfold maxLen;omega)).mono ?_;rintro e w' ⟨rfl,rfl⟩)
        | (go_at_call 106;refine (aj HX.out hBr).mono ?_;rintro e w2 ⟨rfl,hb2⟩;have cn2:=(hb2.cell (p:=⟨bn_,offn+(k-1),none⟩) hobn).trans cn1;have k_b2:=(HBR.out.later hb2).cell;have HB2:=zE (ab HBw.out hb2);have HBR2:=zE (Below.trans HWR.out (hb2.mono hsz));clear hb2))
       go_ret
       refine ⟨ae ?_,HB2.out⟩
       rw [HNO.out (by rw [HAT.out,hnm,hfx'];rfl)]
     ·have hnm':fC (bs nk)=false:=by simpa using hnm
      clear hnm
      go_wp2_with (first
       | (go_at_call 103;refine (fg _ _ (by unfold maxLen;omega)).mono ?_;rintro e w' ⟨rfl,rfl⟩)
       | (go_at_call 106;refine (aj HX.out hBr).mono ?_;rintro e w2 ⟨rfl,hb2⟩;have cn2:=(hb2.cell (p:=⟨bn_,offn+(k-1),none⟩) hobn).trans cn1;have k_b2:=(HBR.out.later hb2).cell;have HB2:=zE (ab HBw.out hb2);have HBR2:=zE (Below.trans HWR.out (hb2.mono hsz));clear hb2))
      go_ret
      refine ⟨ae ?_,HBw.out⟩
      rw [HNO.out (by rw [HAT.out,hnm'];rfl)]
    ·go_wp2_with fail
     go_ret
     obtain rfl:k=b.names.length:=by omega
     refine ⟨ae ?_,HBw.out⟩
     unfold bj
     rw [eq_comm,Bool.and_eq_true,Bool.and_eq_true,List.all_eq_true]
     exact ⟨⟨decide_eq_true HLN.out,decide_eq_true hfew⟩,fun i hi=>HA.out i (by simpa using hi)⟩
  ·have qf:decide ((32:Int)<b.names.length)=true:=by simp;omega
   go_wp2_with fail
   go_ret
   refine ⟨ae ?_,av rfl⟩
   unfold bj
   simp [hfew]
 ·have ql:((b.names.length:Int) !=b.terms.length)=true:=by simp;omega
  have HLN:=zE hlen
  clear hlen
  go_wp2_with fail
  go_ret
  refine ⟨ae ?_,av rfl⟩
  unfold bj
  simp [HLN.out]
theorem dU {b:Bd} (h:bj b=true):BdOk b∧∀n∈b.names,fC n=true:=by
 unfold bj at h
 rw [Bool.and_eq_true,Bool.and_eq_true,List.all_eq_true] at h
 obtain ⟨⟨h1,h2⟩,h3⟩:=h
 have hlen:=of_decide_eq_true h1
 have hat:∀i (hi:i<b.names.length),fC b.names[i]=true∧af (b.terms[i]'(hlen▸hi))=true∧(i=0∨b.names[i-1]<b.names[i]):=by
  intro i hi
  have:=h3 i (by simpa using hi)
  unfold iz at this
  rw [List.getElem?_eq_getElem hi,List.getElem?_eq_getElem (hlen▸hi),List.getElem?_eq_getElem (show i-1<b.names.length by omega)] at this
  simpa [and_assoc] using this
 refine ⟨⟨hlen,of_decide_eq_true h2,?_,fun t ht=>?_⟩,fun n hn=>?_⟩
 ·rw [List.pairwise_iff_getElem]
  intro i j hi hj hij
  have:∀m,∀hm:i+m+1<b.names.length,b.names[i]<b.names[i+m+1]:=by
   intro m
   induction m with
   | zero=>
     intro hm
     rcases (hat (i+0+1) hm).2.2 with h | h
     ·omega
     ·exact h
   | succ m ih=>
     intro hm
     rcases (hat (i+(m+1)+1) hm).2.2 with h | h
     ·omega
     ·exact List.lt_trans (ih (by omega)) h
  have:=this (j-i-1) (by omega)
  have e:i+(j-i-1)+1=j:=by omega
  simpa only [e] using this
 ·obtain ⟨i,hi,rfl⟩:=List.getElem_of_mem ht
  exact (hat i (hlen▸hi)).2.1
 ·obtain ⟨i,hi,rfl⟩:=List.getElem_of_mem hn
  exact (hat i hi).1
theorem ya {d B cn ct:Nat} {b:Bd} {An At:Option Addr} {name:ByteArray} {w:World} (hn:RL cU w B (b.names.map mkS) An) (ht:RL (TmR (d+1)) w B b.terms At) (hB:B≤w.heap.size) :
 Calls Tryz.prog 68 #[.agg (bdV An b.names.length cn At b.terms.length ct),.string name] w fun e w'=>mv d w w' (if bj b=true then cW b (bs name) else none) e:=by
 have HN:=zE hn
 have HT:=zE ht
 clear hn ht
 unfold bdV
 by_cases hok:bj b=true
 ·rw [if_pos hok]
  have HOK:=zE hok
  clear hok
  go_enter Tryz.func68,Tryz.ntmps68
  go_wp2_with fail
  generalize hW:World.alloc _ _=w1
  obtain ⟨hb1,hz⟩:=al2 hW
  have b_b:=n21 hW
  have b_r:=n22 hW
  have HB1:=zE hb1
  clear hW
  refine (dh (cn:=cn) (ct:=ct) (HN.out.keep hb1 hB) (HT.out.keep hb1 hB) (zF hB hb1.size)).mono ?_
  rintro e w2 ⟨rfl,hb2⟩
  have HB2:=zE (ab HB1.out hb2)
  have b_b2:=b_b.later hb2
  have b_r2:=b_r.later hb2
  clear b_b b_r hb1 hb2
  have k_b:=b_b2.cell
  have l_b:=b_b2.lt
  have k_r:=b_r2.cell
  have f_r:=b_r2.free
  have l_r:=b_r2.lt
  rw [HOK.out]
  have HBD:=zE (dU HOK.out).1
  go_wp2_with fail
  refine (lm (cn:=cn) (ct:=ct) (name:=name) HBD.out (HN.out.keep HB2.out hB) (HT.out.keep HB2.out hB) (zF hB HB2.out.size)).mono ?_
  rintro e w3 ⟨⟨A3,c3,rfl,hown⟩,hb3⟩
  have HO:=zE hown
  have HB3:=zE (ab HB2.out hb3)
  have b_r3:=b_r2.later hb3
  have hsz2:=HB2.out.size
  clear hown hb3 k_b l_b k_r f_r b_b2
  have k_r:=b_r3.cell
  have f_r:=b_r3.free
  have l_r3:=b_r3.lt
  generalize hq:cW b (bs name)=q at *
  go_wp2_with fail
  refine bodyPost_ret (aq rfl rfl (dv b_r3 (.int .i64 (q.getD noT).kind) (.int .i64 (q.getD noT).n) (.string (q.getD noT).s) (.slice A3 (q.getD noT).l.length c3)) rfl) rfl ?_
  rw [hq]
  exact ⟨⟨A3,c3,rfl,(HO.out.put4 (g:=w.heap.size+1) l_r _ _ _ _).lower (by omega)⟩,cC HB3.out (by omega) _ _ _ _⟩
 ·rw [if_neg hok]
  have hno:bj b=false:=by simpa using hok
  have HOK:=zE hno
  clear hok hno
  go_enter Tryz.func68,Tryz.ntmps68
  go_wp2_with fail
  generalize hW:World.alloc _ _=w1
  obtain ⟨hb1,hz⟩:=al2 hW
  have b_b:=n21 hW
  have b_r:=n22 hW
  have HB1:=zE hb1
  clear hW
  refine (dh (cn:=cn) (ct:=ct) (HN.out.keep hb1 hB) (HT.out.keep hb1 hB) (zF hB hb1.size)).mono ?_
  rintro e w2 ⟨rfl,hb2⟩
  have HB2:=zE (ab HB1.out hb2)
  have b_b2:=b_b.later hb2
  have b_r2:=b_r.later hb2
  clear b_b b_r hb1 hb2
  have k_b:=b_b2.cell
  have l_b:=b_b2.lt
  have k_r:=b_r2.cell
  have f_r:=b_r2.free
  have l_r:=b_r2.lt
  rw [HOK.out]
  go_wp2_with fail
  refine bodyPost_ret (aq rfl rfl (dv b_r2 (.int .i64 0) (.int .i64 0) (.string ⟨#[]⟩) (.slice none 0 0)) rfl) rfl ?_
  exact ⟨⟨none,0,rfl,TmOwn.no⟩,cC HB2.out (by omega) _ _ _ _⟩
def dA:List aZ→List aZ→Int
 | [],[]=>0
 | [],_::_=>-1
 | _::_,[]=>1
 | x::xs,y::ys=>if dO x y=0 then dA xs ys else dO x y
theorem gv (xs ys:List aZ) (A A':Option Addr) (c c' B:Nat) (w:World) (hA:RL cU w B (xs.map mkS) A) (hA':RL cU w B (ys.map mkS) A') (hB:B≤w.heap.size) (hn:xs.length≤1000000) (hn':ys.length≤1000000) :
 Calls Tryz.prog 60 #[.slice A xs.length c,.slice A' ys.length c'] w fun e w'=>e=.returned (.int .i64 (dA xs ys))∧w=w':=by
 have HA:=zE hA
 have HA':=zE hA'
 clear hA hA'
 go_enter Tryz.func60,Tryz.ntmps60
 go_wp2_with fail
 go_loop [11] (fun i=>∃k:Nat,k≤xs.length∧i=.int .i64 k∧Hid (dA xs ys=dA (xs.drop k) (ys.drop k))) (fun i=>xs.length-(intOf i).toNat)
 case atStart=>exact ⟨0,zH _,rfl,zE rfl⟩
 case round=>
  obtain ⟨k,hk,rfl,HE⟩:=hrel
  by_cases hlt:k<xs.length
  ·obtain ⟨b,off,rfl,hb,hc⟩:=lT HA.out (zI _ _) hB (by omega)
   have c0:=hc k hlt
   clear hc
   have hI0:(0:Int)≤(k:Int):=Int.natCast_nonneg _
   have hI1:(k:Int)<(xs.length:Int):=by omega
   have hx':xs.drop k=xs[k]::xs.drop (k+1):=List.drop_eq_getElem_cons hlt
   by_cases hlt2:k<ys.length
   ·obtain ⟨b',off',rfl,hb',hc'⟩:=lT HA'.out (zI _ _) hB (by omega)
    have c1:=hc' k hlt2
    clear hc'
    have hI2:(k:Int)<(ys.length:Int):=by omega
    have hg:decide ((k:Int)≥ys.length)=false:=by simp;omega
    have hg2:decide ((ys.length:Int)≤(k:Int))=false:=by simp;omega
    have hy':ys.drop k=ys[k]::ys.drop (k+1):=List.drop_eq_getElem_cons hlt2
    have HE2:Hid (dA xs ys=if dO xs[k] ys[k]=0 then dA (xs.drop (k+1)) (ys.drop (k+1)) else dO xs[k] ys[k]):=zE (by rw [HE.out,hx',hy'];rfl)
    have HCE:Hid (dO (bs (mkS xs[k])) (bs (mkS ys[k]))=dO xs[k] ys[k]):=zE (by rw [jM,jM])
    clear hx' hy' HE
    go_wp2_with (go_at_call 91;refine (cZ _ _ _).mono ?_;rintro e w' ⟨rfl,rfl⟩;rw [HCE.out];by_cases hz:dO xs[k] ys[k]=0)
    ·have hz':(dO xs[k] ys[k] !=0)=false:=by simpa using hz
     have HZ:=zE hz
     generalize dO xs[k] ys[k]=r at *
     clear hz
     go_wp2_with fail
     go_round
     case rel=>exact ⟨k+1,by omega,by go_num,zE (by rw [HE2.out,if_pos HZ.out])⟩
     case measure=>simp [intOf];omega
    ·have hz':(dO xs[k] ys[k] !=0)=true:=by simpa using hz
     have HZ:=zE hz
     generalize dO xs[k] ys[k]=r at *
     clear hz
     go_wp2_with fail
     go_ret
     exact ⟨aC (by rw [HE2.out,if_neg HZ.out]),rfl⟩
   ·have hg:decide ((k:Int)≥ys.length)=true:=by simp;omega
    have hg2:decide ((ys.length:Int)≤(k:Int))=true:=by simp;omega
    have HE2:Hid (dA xs ys=1):=zE (by rw [HE.out,hx',List.drop_eq_nil_of_le (show ys.length≤k by omega)];rfl)
    clear hx' HE
    go_wp2_with fail
    go_ret
    exact ⟨aC HE2.out.symm,rfl⟩
  ·have hz:xs.drop k=[]:=List.drop_eq_nil_of_le (by omega)
   obtain rfl:k=xs.length:=by omega
   by_cases hlt2:xs.length<ys.length
   ·have HE2:Hid (dA xs ys=-1):=zE (by rw [HE.out,hz,List.drop_eq_getElem_cons hlt2];rfl)
    clear hz HE
    go_wp2_with fail
    go_ret
    exact ⟨aC HE2.out.symm,rfl⟩
   ·have HE2:Hid (dA xs ys=0):=zE (by rw [HE.out,hz,List.drop_eq_nil_of_le (by omega)];rfl)
    clear hz HE
    go_wp2_with fail
    go_ret
    exact ⟨aC HE2.out.symm,rfl⟩
structure Ans where
 b:Bd
 o:Int
def aU (x y:Ans):Int:=orL [dA x.b.names y.b.names,dN (cM 3) x.b.terms y.b.terms,eG x.o y.o]
def anV (x:Ans) (An:Option Addr) (cn:Nat) (At:Option Addr) (ct:Nat):List Value:=[.slice An x.b.names.length cn,.slice At x.b.terms.length ct,.int .u32 x.o]
def ng (d:Nat):Reader Ans where
 k:=3
 rd:=fun w B x vs=>∃An cn At ct,vs=anV x An cn At ct∧RL cU w B (x.b.names.map mkS) An∧RL (TmR d) w B x.b.terms At
 keep:=fun hw hB ⟨An,cn,At,ct,e,h1,h2⟩=>⟨An,cn,At,ct,e,h1.keep hw hB,h2.keep hw hB⟩
 wide:=fun hB ⟨An,cn,At,ct,e,h1,h2⟩=>⟨An,cn,At,ct,e,h1.wide hB,h2.wide hB⟩
 len:=fun ⟨_,_,_,_,e,_⟩=>by rw [e];rfl
structure AnOk (x:Ans):Prop where
 nm:x.b.names.length≤32
 tm:x.b.terms.length≤32
theorem me {d e B:Nat} {x y:Ans} {va vb:List Value} {w:World} (ha:(ng d).rd w B x va) (hb:(ng e).rd w B y vb) (hx:AnOk x) (hy:AnOk y) (hB:B≤w.heap.size) :
 Calls Tryz.prog 19 #[.agg va.toArray,.agg vb.toArray] w fun z w'=>z=.returned (.int .i64 (aU x y))∧Below w.heap.size w w':=by
 obtain ⟨An,cn,At,ct,rfl,hn,ht⟩:=ha
 obtain ⟨An',cn',At',ct',rfl,hn',ht'⟩:=hb
 have HN:=zE hn
 have HT:=zE ht
 have HN':=zE hn'
 have HT':=zE ht'
 obtain ⟨x1,x2⟩:=hx
 obtain ⟨y1,y2⟩:=hy
 clear hn ht hn' ht'
 unfold anV
 go_enter Tryz.func19,Tryz.ntmps19
 go_upto_region 1 with fail
 generalize hW:World.alloc _ _=w1
 obtain ⟨hb,hz⟩:=al2 hW
 have HA1:=zE (n21 hW)
 have HB1:=zE (n22 hW)
 have HU1:=zE hb
 clear hW hb
 have hsz:=HU1.out.size
 have hB1:B≤w1.heap.size:=zF hB hsz
 have HSL:Hid (∀{w':World},Below w1.heap.size w1 w'→(w'.cell? ⟨w.heap.size,0,none⟩=some (.slice An x.b.names.length cn)∧w'.cell? ⟨w.heap.size,1,none⟩=some (.slice At x.b.terms.length ct)∧w'.cell? ⟨w.heap.size,2,none⟩=some (.int .u32 x.o)∧w'.cell? ⟨w.heap.size+1,0,none⟩=some (.slice An' y.b.names.length cn')∧w'.cell? ⟨w.heap.size+1,1,none⟩=some (.slice At' y.b.terms.length ct')∧w'.cell? ⟨w.heap.size+1,2,none⟩=some (.int .u32 y.o))):=zE (fun hb=>⟨(HA1.out.later hb).cell 0,(HA1.out.later hb).cell 1,(HA1.out.later hb).cell 2,(HB1.out.later hb).cell 0,(HB1.out.later hb).cell 1,(HB1.out.later hb).cell 2⟩)
 refine aQ (fun w'=>w'.cell? ⟨w.heap.size,0,none⟩=some (.slice An x.b.names.length cn)∧w'.cell? ⟨w.heap.size,1,none⟩=some (.slice At x.b.terms.length ct)∧w'.cell? ⟨w.heap.size,2,none⟩=some (.int .u32 x.o)∧w'.cell? ⟨w.heap.size+1,0,none⟩=some (.slice An' y.b.names.length cn')∧w'.cell? ⟨w.heap.size+1,1,none⟩=some (.slice At' y.b.terms.length ct')∧w'.cell? ⟨w.heap.size+1,2,none⟩=some (.int .u32 y.o)) (by kernel_rfl) (HSL.out (zI _ _).drew) ?_
 refine aa 0 ?_
 refine aa 1 ?_
 refine aa 2 ?_
 refine aa 3 ?_
 refine aa 4 ?_
 refine aa 5 ?_
 refine aa 7 ?_
 refine aa 8 ?_
 refine aa 9 ?_
 refine aa 10 ?_
 refine aa 11 ?_
 refine aa 12 ?_
 refine aa 14 ?_
 refine aa 15 ?_
 refine aa 16 ?_
 refine aa 17 ?_
 generalize hD:World.drew w1=w2
 have HU:Hid (Below w1.heap.size w1 w2):=zE (hD▸(zI w1.heap.size w1).drew)
 clear hD
 refine aw (rs:=[6]) (by kernel_rfl) rfl ?_
 refine al.cons rfl (fun K hK=>?_) al.nil
 go_simp
 refine (gv x.b.names y.b.names An An' cn cn' B w2 (HN.out.keep (HU1.out.trans (HU.out.mono hsz)) hB) (HN'.out.keep (HU1.out.trans (HU.out.mono hsz)) hB) (zF hB1 HU.out.size) (by omega) (by omega)).mono ?_
 rintro e w' ⟨rfl,rfl⟩
 refine hK.out _ _ (HSL.out HU.out) ?_
 clear hK
 refine aw (rs:=[13]) (by kernel_rfl) rfl ?_
 refine al.cons rfl (fun K hK=>?_) al.nil
 go_simp
 refine (dX 62 #[] (cM 3) d e x.b.terms y.b.terms At At' ct ct' B w2 il (HT.out.keep (HU1.out.trans (HU.out.mono hsz)) hB) (HT'.out.keep (HU1.out.trans (HU.out.mono hsz)) hB) (zF hB1 HU.out.size) (by omega) (by omega) (fun x y vs ws w9 hb9 hx hy=>de d e x y vs ws B w9 hx hy (zF (zF hB1 HU.out.size) hb9.size))).mono ?_
 rintro z w3 ⟨rfl,hb3⟩
 have HU3:Hid (Below w1.heap.size w1 w3):=zE (HU.out.trans (hb3.mono HU.out.size))
 clear hb3
 refine hK.out _ _ (HSL.out HU3.out) ?_
 clear hK
 refine aw (rs:=[18]) (by kernel_rfl) rfl ?_
 refine al.cons rfl (fun K hK=>?_) al.nil
 go_simp
 refine (jp _ _ _).mono ?_
 rintro e w' ⟨rfl,rfl⟩
 refine hK.out _ _ (HSL.out HU3.out) ?_
 clear hK
 refine aw (rs:=[19]) (by kernel_rfl) rfl ?_
 refine al.cons rfl (fun K hK=>?_) al.nil
 go_simp
 generalize hW:World.alloc _ _=w4
 obtain ⟨hb4,hz4⟩:=al1 hW
 have HL4:=zE (n11 hW)
 have HU4:Hid (Below w1.heap.size w1 w4):=zE (HU3.out.trans (hb4.mono HU3.out.size))
 clear hW hb4
 refine hK.out _ _ (HSL.out HU4.out) ?_
 clear hK
 refine aw (rs:=[20]) (by kernel_rfl) rfl ?_
 refine al.cons rfl (fun K hK=>?_) al.nil
 go_simp
 refine (iS [dA x.b.names y.b.names,dN (cM 3) x.b.terms y.b.terms,eG x.o y.o] w3.heap.size w4 (fun i hi=>by
  rw [HL4.out.cell i]
  match i,hi with
  | 0,_=>rfl
  | 1,_=>rfl
  | 2,_=>rfl) (by simp)).mono ?_
 rintro e w' ⟨rfl,rfl⟩
 refine hK.out _ _ (HSL.out HU4.out) ?_
 clear hK
 refine aa 21 ?_
 refine bZ (by kernel_rfl) ?_
 go_wp2_with fail
 go_ret
 exact ⟨aC rfl,HU1.out.trans (HU4.out.mono hsz)⟩
theorem kJ {d e B:Nat} {x y:Ans} {va vb:List Value} {w:World} (ha:(ng d).rd w B x va) (hb:(ng e).rd w B y vb) (hx:AnOk x) (hy:AnOk y) (hB:B≤w.heap.size) :
 Calls Tryz.prog 58 #[.agg va.toArray,.agg vb.toArray] w fun z w'=>z=.returned (.bool (aU x y==0))∧Below w.heap.size w w':=by
 have HA:=zE ha
 have HB:=zE hb
 obtain ⟨An,cn,At,ct,rfl,_,_⟩:=ha
 obtain ⟨An',cn',At',ct',rfl,_,_⟩:=hb
 unfold anV at HA HB ⊢
 go_enter Tryz.func58,Tryz.ntmps58
 go_wp2_with fail
 generalize hW:World.alloc _ _=w1
 obtain ⟨hb,hz⟩:=al2 hW
 have HU1:=zE hb
 have hsz:=hb.size
 clear hW hb
 refine (me (d:=d) (e:=e) (B:=B) (va:=[_,_,_]) (vb:=[_,_,_]) ((ng d).keep HU1.out hB HA.out) ((ng e).keep HU1.out hB HB.out) hx hy (zF hB hsz)).mono ?_
 rintro z w2 ⟨rfl,hb⟩
 have HU2:=zE (ab HU1.out hb)
 clear hb
 go_wp2_with fail
 go_ret
 exact ⟨rfl,HU2.out⟩
structure BelowD (B:Nat) (w w':World):Prop where
 b:Below B w w'
 d:w.drawn≤w'.drawn
theorem BelowD.size {B:Nat} {w w':World} (h:BelowD B w w'):w.heap.size≤w'.heap.size:=h.b.size
theorem BelowD.refl (B:Nat) (w:World):BelowD B w w:=⟨zI B w,zG _⟩
theorem BelowD.trans {B:Nat} {w v u:World} (h:BelowD B w v) (k:BelowD B v u):BelowD B w u:=⟨h.b.trans k.b,zF h.d k.d⟩
theorem BelowD.mono {B C:Nat} {w v:World} (h:BelowD B w v) (k:C≤B):BelowD C w v:=⟨h.b.mono k,h.d⟩
theorem BelowD.drew {B:Nat} {w v:World} (h:BelowD B w v):BelowD B w v.drew:=⟨h.b.drew,Nat.le_succ_of_le h.d⟩
theorem BelowD.alloc {B:Nat} {w v:World} (h:BelowD B w v) (k:B≤v.heap.size) (o:Obj):BelowD B w (v.alloc o):=⟨h.b.alloc k o,h.d⟩
theorem BelowD.cell {B:Nat} {w v:World} (h:BelowD B w v) {p:Addr} (hp:p.block<B):v.cell? p=w.cell? p:=h.b.cell hp
theorem dr1 {w W:World} {o:Obj} (h:w.alloc o=W):W.drawn=w.drawn:=by subst h;rfl
theorem dr2 {w W:World} {o p:Obj} (h:(w.alloc o).alloc p=W):W.drawn=w.drawn:=by subst h;rfl
theorem fv (F:FuncId) (cap:Array Value) (f:Tm→Tm→Int) (d e:Nat) (xs ys:List Tm) (A A':Option Addr) (c c' B:Nat) (w:World)
 (hF:∀args (w:World),(callFunc F args).run Tryz.prog w=.ok (.enter F args) w)
 (hA:jL w B d xs A) (hA':jL w B e ys A') (hB:B≤w.heap.size) (hn:xs.length*40≤140737488351232) (hn':ys.length*40≤140737488351232)
 (hf:∀(x y:Tm) (vs ws:List Value) (w1:World),BelowD w.heap.size w w1→RTm w1 B d x vs→RTm w1 B e y ws →
  Calls Tryz.prog F (#[.agg vs.toArray,.agg ws.toArray]++cap) w1 fun e w'=>e=.returned (.int .i64 (f x y))∧BelowD w1.heap.size w1 w') :
 Calls Tryz.prog 61 #[.slice A xs.length c,.slice A' ys.length c',.func (.func F) #[] cap] w fun e w'=>e=.returned (.int .i64 (dN f xs ys))∧BelowD w.heap.size w w':=by
 have HF:=zE hf
 clear hf
 go_enter Tryz.func61,Tryz.ntmps61
 go_wp2_with fail
 go_loopw [13] (fun i wr=>∃k:Nat,k≤xs.length∧i=.int .i64 k∧BelowD w.heap.size w wr∧dN f xs ys=dN f (xs.drop k) (ys.drop k)) (fun i _=>xs.length-(intOf i).toNat)
 case atStart=>exact ⟨0,zH _,rfl,BelowD.refl _ _,rfl⟩
 case round=>
  obtain ⟨k,hk,rfl,hbw,heq⟩:=hrel
  have HE:=zE heq
  clear heq
  by_cases hlt:k<xs.length
  ·obtain ⟨b,off,x,Ax,cx,rfl,hb,hx,c0,c1,c2,c3,hr⟩:=hA.elem hbw.b hB hlt
   by_cases hlt2:k<ys.length
   ·obtain ⟨b',off',y,Ay,cy,rfl,hb',hy,e0,e1,e2,e3,hr'⟩:=hA'.elem hbw.b hB hlt2
    have hsz:=hbw.size
    have hbw2:∀o o':Obj,BelowD w.heap.size w ((wr.alloc o).alloc o'):=fun o o'=>(hbw.alloc hsz _).alloc (by simp;omega) _
    have hbr2:∀o o':Obj,BelowD wr.heap.size wr ((wr.alloc o).alloc o'):=fun o o'=>((BelowD.refl _ _).alloc (zG _) _).alloc (by simp) _
    have HB:=zE hbw2
    have HR:=zE hbr2
    have hx':xs.drop k=x::xs.drop (k+1):=by
     obtain ⟨h1,h2⟩:=List.getElem?_eq_some_iff.1 hx
     rw [←h2];exact List.drop_eq_getElem_cons h1
    have hy':ys.drop k=y::ys.drop (k+1):=by
     obtain ⟨h1,h2⟩:=List.getElem?_eq_some_iff.1 hy
     rw [←h2];exact List.drop_eq_getElem_cons h1
    have HE2:Hid (dN f xs ys=if f x y=0 then dN f (xs.drop (k+1)) (ys.drop (k+1)) else f x y):=by
     have:=HE.out
     rw [hx',hy'] at this
     exact this
    clear hbw2 hbr2 hx' hy' HE
    go_wp2_with fail
    refine (HF.out x y [_,_,_,_] [_,_,_,_] _ (HB.out _ _) (hr.below (HR.out _ _).b (by omega)) (hr'.below (HR.out _ _).b (by omega))).mono ?_
    rintro e w1 ⟨rfl,hb1⟩
    have hbw1:=zE ((HB.out _ _).trans (hb1.mono (by simp;omega)))
    clear hb1
    by_cases hz:(f x y !=0)=true
    ·go_wp2_with fail
     go_ret
     exact ⟨aC (by rw [HE2.out,if_neg (by simpa using hz)]),hbw1.out⟩
    ·have hz':(f x y !=0)=false:=by simpa using hz
     go_wp2_with fail
     go_roundw
     case rel=>exact ⟨k+1,by omega,by go_num,hbw1.out,by rw [HE2.out,if_pos (by simpa using hz')]⟩
     case measure=>simp [intOf];omega
   ·have hz:ys.drop k=[]:=List.drop_eq_nil_iff.2 (by omega)
    have HE2:Hid (dN f xs ys=1):=by
     have:=HE.out
     obtain ⟨h1,h2⟩:=List.getElem?_eq_some_iff.1 hx
     rw [List.drop_eq_getElem_cons h1,hz] at this
     exact this
    have hbw2:=zE (fun o:Obj=>hbw.alloc hbw.size o)
    clear HE hz
    go_wp2_with fail
    go_ret
    exact ⟨aC HE2.out.symm,hbw2.out _⟩
  ·have hz:xs.drop k=[]:=List.drop_eq_nil_iff.2 (by omega)
   have HE2:=HE.out
   rw [hz] at HE2
   have HE3:=zE HE2
   clear HE HE2 hz
   by_cases hlt2:xs.length<ys.length
   ·go_wp2_with fail
    go_ret
    obtain rfl:k=xs.length:=by omega
    exact ⟨aC (by rw [HE3.out,List.drop_eq_getElem_cons hlt2];rfl),hbw⟩
   ·go_wp2_with fail
    go_ret
    obtain rfl:k=xs.length:=by omega
    exact ⟨aC (by rw [HE3.out,List.drop_eq_nil_iff.2 (by omega)];rfl),hbw⟩
theorem qm (w:World) (o1 o2 o3 o4:Obj):BelowD w.heap.size w ((((w.alloc o1).alloc o2).alloc o3).alloc o4).drew:=
 ((((((BelowD.refl _ _).alloc (zG _) _).alloc (by simp) _).alloc (by simp;omega) _).alloc (by simp;omega) _)).drew
theorem mh (d:Nat) (hd:d≤100) (ih:∀(da db:Nat) (a b:Tm) (vs ws:List Value) (B:Nat) (w:World),RTm w B da a vs→RTm w B db b ws→B≤w.heap.size →
 Calls Tryz.prog 118 #[.agg vs.toArray,.agg ws.toArray,.int .i64 d] w fun e w'=>e=.returned (.int .i64 (cM d a b))∧BelowD w.heap.size w w')
 (da db:Nat) (a b:Tm) (vs ws:List Value) (G B:Nat) (w:World) (hG:w.cell? ⟨G,0,none⟩=some (.int .i64 (d+1))) (ha:RTm w B da a vs) (hb:RTm w B db b ws) (hB:B≤w.heap.size) :
 Calls Tryz.prog 185 #[.agg vs.toArray,.agg ws.toArray,.pointer (some ⟨G,0,none⟩)] w fun e w'=>e=.returned (.int .i64 (cM d a b))∧BelowD w.heap.size w w':=by
 have HI:=zE ih
 clear ih
 obtain ⟨A,c,rfl,_⟩:=ha.cells
 obtain ⟨A',c',rfl,_⟩:=hb.cells
 have hGl:G<w.heap.size:=block_lt_of_cell hG
 go_enter Tryz.func185,Tryz.ntmps185
 have hbel:BelowD w.heap.size w ((w.alloc (.cells #[.int .i64 a.kind,.int .i64 a.n,.string a.s,.slice A a.l.length c] 79)).alloc (.cells #[.int .i64 b.kind,.int .i64 b.n,.string b.s,.slice A' b.l.length c'] 79)):=
  ((BelowD.refl _ _).alloc (zG _) _).alloc (by simp) _
 have HB:=zE hbel
 clear hbel
 go_wp2_with fail
 refine (HI.out da db a b [_,_,_,_] [_,_,_,_] B _ (ha.below HB.out.b hB) (hb.below HB.out.b hB) (zF hB HB.out.size)).mono ?_
 rintro e w1 ⟨rfl,hb1⟩
 have hfin:=zE (HB.out.trans (hb1.mono HB.out.size))
 clear hb1
 go_wp2_with fail
 go_ret
 exact ⟨rfl,hfin.out⟩
theorem nz (d:Nat) (hd:d≤100):∀(da db:Nat) (a b:Tm) (vs ws:List Value) (B:Nat) (w:World),RTm w B da a vs→RTm w B db b ws→B≤w.heap.size →
 Calls Tryz.prog 118 #[.agg vs.toArray,.agg ws.toArray,.int .i64 d] w fun e w'=>e=.returned (.int .i64 (cM d a b))∧BelowD w.heap.size w w':=by
 induction d with
 | zero=>
   intro da db a b vs ws B w ha hb hB
   obtain ⟨A,c,rfl,_⟩:=ha.cells
   obtain ⟨A',c',rfl,_⟩:=hb.cells
   show Calls _ _ #[_,_,.int .i64 0] _ _
   go_enter Tryz.func118,Tryz.ntmps118
   go_wp2_with fail
   refine bm 15 (by kernel_rfl) (by kernel_rfl) ?_
   simp only [List.take_succ_cons,List.take_zero,List.drop_succ_cons,List.drop_zero]
   repeat still_step
   still_call (kk (dM _ _ _))
   repeat still_step
   still_call (kk (er _ _ _))
   repeat still_step
   still_call (kk (cZ _ _ _))
   refine wpStill_nil ?_
   go_wp2_with fail
   refine (iT (eG a.kind b.kind) (eG a.n b.n) (dO (bs a.s) (bs b.s)) _ _ (by go_simp) (by go_simp) (by go_simp)).mono ?_
   rintro e w' ⟨rfl,rfl⟩
   by_cases hz:(mE a b !=0)=true
   all_goals (unfold mE at hz;try rw [Bool.not_eq_true] at hz)
   all_goals
    go_wp2_with fail
    go_ret
    exact ⟨rfl,qm _ _ _ _ _⟩
 | succ d ih=>
   intro da db a b vs ws B w ha hb hB
   obtain ⟨A,c,rfl,_⟩:=ha.cells
   obtain ⟨A',c',rfl,_⟩:=hb.cells
   go_enter Tryz.func118,Tryz.ntmps118
   go_wp2_with fail
   refine bm 15 (by kernel_rfl) (by kernel_rfl) ?_
   simp only [List.take_succ_cons,List.take_zero,List.drop_succ_cons,List.drop_zero]
   repeat still_step
   still_call (kk (dM _ _ _))
   repeat still_step
   still_call (kk (er _ _ _))
   repeat still_step
   still_call (kk (cZ _ _ _))
   refine wpStill_nil ?_
   go_wp2_with fail
   refine (iT (eG a.kind b.kind) (eG a.n b.n) (dO (bs a.s) (bs b.s)) _ _ (by go_simp) (by go_simp) (by go_simp)).mono ?_
   rintro e w' ⟨rfl,rfl⟩
   have hd0:(((d+1:Nat):Int)==0)=false:=by simp;omega
   by_cases hz:(mE a b !=0)=true
   all_goals (have HZ:=zE hz;unfold mE at hz;try rw [Bool.not_eq_true] at hz)
   ·go_wp2_with fail
    go_ret
    exact ⟨aC (by rw [cM,if_neg (by simpa using HZ.out)];rfl),qm _ _ _ _ _⟩
   ·go_wp2_with fail
    obtain ⟨_,_,e1,a1,a2,a3,a4,a5,hA⟩:=ha.cells
    obtain ⟨rfl,rfl⟩:_∧_:=by simpa using e1
    obtain ⟨_,_,e2,b1,b2,b3,b4,b5,hB'⟩:=hb.cells
    obtain ⟨rfl,rfl⟩:_∧_:=by simpa using e2
    have hbel:=qm w (.cells #[.int .i64 a.kind,.int .i64 a.n,.string a.s,.slice A a.l.length c] 79) (.cells #[.int .i64 b.kind,.int .i64 b.n,.string b.s,.slice A' b.l.length c'] 79)
     (.cells #[.int .i64 (d+1)] 3) (.cells #[.int .i64 (eG a.kind b.kind),.int .i64 (eG a.n b.n),.int .i64 (dO (bs a.s) (bs b.s))] 3)
    refine (fv 185 _ (cM d) (da-1) (db-1) a.l b.l A A' c c' B _ rK (hA.below hbel.b hB) (hB'.below hbel.b hB) (zF hB hbel.size) (by omega) (by omega) ?_).mono ?_
    ·intro x y vs ws w1 hb1 hx hy
     refine (mh d (by omega) (fun da db a b vs ws B w h1 h2 h3=>ih (by omega) da db a b vs ws B w h1 h2 h3) _ _ x y vs ws _ B w1 ((hb1.cell (by simp)).trans (by go_simp)) hx hy (zF hB (zF hbel.size hb1.size)))
    ·rintro e w1 ⟨rfl,hb1⟩
     have hfin:=hbel.trans (hb1.mono hbel.size)
     clear hb1 hbel
     go_wp2_with fail
     go_ret
     exact ⟨aC (by rw [cM,if_pos (by simpa using HZ.out)]),hfin⟩
theorem oK (da db:Nat) (a b:Tm) (vs ws:List Value) (B:Nat) (w:World) (ha:RTm w B da a vs) (hb:RTm w B db b ws) (hB:B≤w.heap.size) :
 Calls Tryz.prog 62 #[.agg vs.toArray,.agg ws.toArray] w fun e w'=>e=.returned (.int .i64 (cM 3 a b))∧BelowD w.heap.size w w':=by
 obtain ⟨A,c,rfl,_⟩:=ha.cells
 obtain ⟨A',c',rfl,_⟩:=hb.cells
 have hbel:BelowD w.heap.size w ((w.alloc (.cells #[.int .i64 a.kind,.int .i64 a.n,.string a.s,.slice A a.l.length c] 79)).alloc (.cells #[.int .i64 b.kind,.int .i64 b.n,.string b.s,.slice A' b.l.length c'] 79)):=
  ((BelowD.refl _ _).alloc (zG _) _).alloc (by simp) _
 have HB:=zE hbel
 clear hbel
 go_enter Tryz.func62,Tryz.ntmps62
 go_wp2_with fail
 refine (nz 3 (by omega) da db a b [_,_,_,_] [_,_,_,_] B _ (ha.below HB.out.b hB) (hb.below HB.out.b hB) (zF hB HB.out.size)).mono ?_
 rintro e w1 ⟨rfl,hb1⟩
 have hfin:=zE (HB.out.trans (hb1.mono HB.out.size))
 clear hb1
 go_wp2_with fail
 go_ret
 exact ⟨rfl,hfin.out⟩
theorem kI {d e B:Nat} {x y:Ans} {va vb:List Value} {w:World} (ha:(ng d).rd w B x va) (hb:(ng e).rd w B y vb) (hx:AnOk x) (hy:AnOk y) (hB:B≤w.heap.size) :
 Calls Tryz.prog 19 #[.agg va.toArray,.agg vb.toArray] w fun z w'=>z=.returned (.int .i64 (aU x y))∧BelowD w.heap.size w w':=by
 obtain ⟨An,cn,At,ct,rfl,hn,ht⟩:=ha
 obtain ⟨An',cn',At',ct',rfl,hn',ht'⟩:=hb
 have HN:=zE hn
 have HT:=zE ht
 have HN':=zE hn'
 have HT':=zE ht'
 obtain ⟨x1,x2⟩:=hx
 obtain ⟨y1,y2⟩:=hy
 clear hn ht hn' ht'
 unfold anV
 go_enter Tryz.func19,Tryz.ntmps19
 go_upto_region 1 with fail
 generalize hW:World.alloc _ _=w1
 have hdr:=dr2 hW
 obtain ⟨hb,hz⟩:=al2 hW
 have HA1:=zE (n21 hW)
 have HB1:=zE (n22 hW)
 have HU1:=zE (BelowD.mk hb (Nat.le_of_eq hdr.symm))
 clear hW hb hdr
 have hsz:=HU1.out.size
 have hB1:B≤w1.heap.size:=zF hB hsz
 have HSL:Hid (∀{w':World},Below w1.heap.size w1 w'→(w'.cell? ⟨w.heap.size,0,none⟩=some (.slice An x.b.names.length cn)∧w'.cell? ⟨w.heap.size,1,none⟩=some (.slice At x.b.terms.length ct)∧w'.cell? ⟨w.heap.size,2,none⟩=some (.int .u32 x.o)∧w'.cell? ⟨w.heap.size+1,0,none⟩=some (.slice An' y.b.names.length cn')∧w'.cell? ⟨w.heap.size+1,1,none⟩=some (.slice At' y.b.terms.length ct')∧w'.cell? ⟨w.heap.size+1,2,none⟩=some (.int .u32 y.o))):=zE (fun hb=>⟨(HA1.out.later hb).cell 0,(HA1.out.later hb).cell 1,(HA1.out.later hb).cell 2,(HB1.out.later hb).cell 0,(HB1.out.later hb).cell 1,(HB1.out.later hb).cell 2⟩)
 refine aQ (fun w'=>w'.cell? ⟨w.heap.size,0,none⟩=some (.slice An x.b.names.length cn)∧w'.cell? ⟨w.heap.size,1,none⟩=some (.slice At x.b.terms.length ct)∧w'.cell? ⟨w.heap.size,2,none⟩=some (.int .u32 x.o)∧w'.cell? ⟨w.heap.size+1,0,none⟩=some (.slice An' y.b.names.length cn')∧w'.cell? ⟨w.heap.size+1,1,none⟩=some (.slice At' y.b.terms.length ct')∧w'.cell? ⟨w.heap.size+1,2,none⟩=some (.int .u32 y.o)) (by kernel_rfl) (HSL.out (zI _ _).drew) ?_
 refine aa 0 ?_
 refine aa 1 ?_
 refine aa 2 ?_
 refine aa 3 ?_
 refine aa 4 ?_
 refine aa 5 ?_
 refine aa 7 ?_
 refine aa 8 ?_
 refine aa 9 ?_
 refine aa 10 ?_
 refine aa 11 ?_
 refine aa 12 ?_
 refine aa 14 ?_
 refine aa 15 ?_
 refine aa 16 ?_
 refine aa 17 ?_
 generalize hD:World.drew w1=w2
 have HU:Hid (BelowD w1.heap.size w1 w2):=zE (hD▸(BelowD.refl w1.heap.size w1).drew)
 clear hD
 refine aw (rs:=[6]) (by kernel_rfl) rfl ?_
 refine al.cons rfl (fun K hK=>?_) al.nil
 go_simp
 refine (gv x.b.names y.b.names An An' cn cn' B w2 (HN.out.keep (HU1.out.trans (HU.out.mono hsz)).b hB) (HN'.out.keep (HU1.out.trans (HU.out.mono hsz)).b hB) (zF hB1 HU.out.size) (by omega) (by omega)).mono ?_
 rintro e w' ⟨rfl,rfl⟩
 refine hK.out _ _ (HSL.out HU.out.b) ?_
 clear hK
 refine aw (rs:=[13]) (by kernel_rfl) rfl ?_
 refine al.cons rfl (fun K hK=>?_) al.nil
 go_simp
 refine (fv 62 #[] (cM 3) d e x.b.terms y.b.terms At At' ct ct' B w2 il (HT.out.keep (HU1.out.trans (HU.out.mono hsz)).b hB) (HT'.out.keep (HU1.out.trans (HU.out.mono hsz)).b hB) (zF hB1 HU.out.size) (by omega) (by omega) (fun x y vs ws w9 hb9 hx hy=>oK d e x y vs ws B w9 hx hy (zF (zF hB1 HU.out.size) hb9.size))).mono ?_
 rintro z w3 ⟨rfl,hb3⟩
 have HU3:Hid (BelowD w1.heap.size w1 w3):=zE (HU.out.trans (hb3.mono HU.out.size))
 clear hb3
 refine hK.out _ _ (HSL.out HU3.out.b) ?_
 clear hK
 refine aw (rs:=[18]) (by kernel_rfl) rfl ?_
 refine al.cons rfl (fun K hK=>?_) al.nil
 go_simp
 refine (jp _ _ _).mono ?_
 rintro e w' ⟨rfl,rfl⟩
 refine hK.out _ _ (HSL.out HU3.out.b) ?_
 clear hK
 refine aw (rs:=[19]) (by kernel_rfl) rfl ?_
 refine al.cons rfl (fun K hK=>?_) al.nil
 go_simp
 generalize hW:World.alloc _ _=w4
 have hb4:BelowD w3.heap.size w3 w4:=⟨(al1 hW).1,Nat.le_of_eq (dr1 hW).symm⟩
 have HL4:=zE (n11 hW)
 have HU4:Hid (BelowD w1.heap.size w1 w4):=zE (HU3.out.trans (hb4.mono HU3.out.size))
 clear hW hb4
 refine hK.out _ _ (HSL.out HU4.out.b) ?_
 clear hK
 refine aw (rs:=[20]) (by kernel_rfl) rfl ?_
 refine al.cons rfl (fun K hK=>?_) al.nil
 go_simp
 refine (iS [dA x.b.names y.b.names,dN (cM 3) x.b.terms y.b.terms,eG x.o y.o] w3.heap.size w4 (fun i hi=>by
  rw [HL4.out.cell i]
  match i,hi with
  | 0,_=>rfl
  | 1,_=>rfl
  | 2,_=>rfl) (by simp)).mono ?_
 rintro e w' ⟨rfl,rfl⟩
 refine hK.out _ _ (HSL.out HU4.out.b) ?_
 clear hK
 refine aa 21 ?_
 refine bZ (by kernel_rfl) ?_
 go_wp2_with fail
 go_ret
 exact ⟨aC rfl,HU1.out.trans (HU4.out.mono hsz)⟩
theorem tf {w w':World} (h:BelowD w.heap.size w w'):∃q os,w'=Sort.grow (w.drewN q) os:=by
 obtain ⟨p,hp⟩:=regrown_of_below h.b
 refine ⟨w'.drawn-w.drawn,p.os,?_⟩
 have hd:=h.d
 have e1:w'.drawn=p.d:=by rw [hp];rfl
 rw [hp]
 unfold Sort.grow redrawn World.drewN
 simp only [World.mk.injEq,true_and,and_true]
 show p.d=w.drawn+(p.d-w.drawn)
 omega
end Go.Proofs.YtdphibjibnffeaaGreat
