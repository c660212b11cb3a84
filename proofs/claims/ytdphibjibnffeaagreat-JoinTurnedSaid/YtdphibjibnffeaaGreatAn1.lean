/- An answer as data; slices.Compare at texts; join.Compare. -/
import Derived.Test.YtdphibjibnffeaaGreatBSearch
import Derived.Test.YtdphibjibnffeaaGreatHeapLaw
import Derived.Test.YtdphibjibnffeaaGreatSet2
import Derived.Test.YtdphibjibnffeaaGreatFc1
import Derived.Test.YtdphibjibnffeaaGreatBS
set_option linter.unusedVariables false
set_option linter.unusedSimpArgs false
set_option maxRecDepth 100000
set_option maxHeartbeats 8000000
namespace Go.Proofs.YtdphibjibnffeaaGreat
open Go.ChangeShapes Go.WideShapes Go.ChangeAt Go.RowKit
structure Bd where
 names:List aY
 terms:List Tm
def dZ (b:Bd) (name:aY):Option Tm:=if name∈b.names then b.terms[gS b.names name]? else none
structure BdOk (b:Bd):Prop where
 len:b.names.length=b.terms.length
 few:b.names.length≤32
 rise:b.names.Pairwise (· < ·)
 fixed:∀t∈b.terms,ah t=true
def bdV (An:Option Addr) (nn cn:Nat) (At:Option Addr) (nt ct:Nat):Array Value:=#[.slice An nn cn,.slice At nt ct]
theorem bC {t:Tm} (h:ah t=true):(∀u∈t.l,lg u)∧t.l.length≤16:=by
 have:=kn h
 by_cases h7:t.kind=7
 ·rw [if_pos h7] at this
  exact ⟨(dl this.2.2).2,(dl this.2.2).1⟩
 ·rw [if_neg h7] at this
  rw [this];exact ⟨fun u hu=>(List.not_mem_nil hu).elim,by simp⟩
def mK (d:Nat) (w w':World) (r:Option Tm) (z:Ending):Prop:=
 (∃A c,z=.returned (.tuple #[.agg #[.int .i64 (r.getD noT).kind,.int .i64 (r.getD noT).n,.string (r.getD noT).s,.slice A (r.getD noT).l.length c],.bool r.isSome])∧TmOwn d w.heap.size w' (r.getD noT) A c)∧Below w.heap.size w w'
theorem uf {L:List aY} {t:aY} (h:t∈L):gS L t<L.length:=by
 unfold gS
 rw [List.findIdx_lt_length]
 exact ⟨t,h,by simp [List.lt_irrefl]⟩
theorem nq {d B cn ct:Nat} {b:Bd} {An At:Option Addr} {name:ByteArray} {w:World} (hok:BdOk b) (hn:RL cR w B (b.names.map mkS) An) (ht:RL (TmR (d+1)) w B b.terms At) (hB:B≤w.heap.size) :
 Calls Tryz.prog 125 #[.agg (bdV An b.names.length cn At b.terms.length ct),.string name] w fun e w'=>mK d w w' (dZ b (bs name)) e:=by
 have HOK:=Lib.hid hok
 have HN:=Lib.hid hn
 have HT:=Lib.hid ht
 have hf:=hok.few
 have hlen:=hok.len
 have HLN:=Lib.hid hlen
 clear hok hn ht hlen
 unfold bdV
 go_enter Tryz.func125,Tryz.ntmps125
 go_wp2_with fail
 generalize hW:World.alloc _ _=w1
 obtain ⟨hb1,hz⟩:=al2 hW
 have b_b:=n21 hW
 have b_r:=n22 hW
 have HB1:=Lib.hid hb1
 clear hW hb1
 refine (gE b.names An cn B name w1 (HN.out.keep HB1.out hB) (Nat.le_trans hB HB1.out.size) (by omega) HOK.out.rise).mono ?_
 rintro e w2 ⟨rfl,rfl⟩
 have BB:=Lib.hid b_b
 have BR:=Lib.hid b_r
 by_cases hm:bs name∈b.names
 ·have hp:=uf hm
  have hp2:gS b.names (bs name)<b.terms.length:=by rw [←HLN.out];exact hp
  have HR:Hid (dZ b (bs name)=some (b.terms[gS b.names (bs name)])):=Lib.hid (by unfold dZ;rw [if_pos hm,List.getElem?_eq_getElem hp2])
  have hd:decide (bs name∈b.names)=true:=by simpa using hm
  rw [hd]
  have hB1:=Nat.le_trans hB HB1.out.size
  have HT1:=Lib.hid (HT.out.keep HB1.out hB)
  obtain ⟨b_,off,rfl,hob⟩:=HT1.out.base (Below.refl _ _) hB1 (by omega)
  obtain ⟨x,vs,hx,hlen,hcell,hr⟩:=HT1.out.at_ (Below.refl _ _) hB1 hp2
  obtain ⟨Ax,cx,rfl,g1,g2,g3,g4,g5,_⟩:=RTm.cells (show RTm w1 B (d+1) x vs from hr)
  have c0:w1.cell? ⟨b_,off+gS b.names (bs name)*4,none⟩=some (.int .i64 x.kind):=hcell 0 _ rfl
  have c1:w1.cell? ⟨b_,off+gS b.names (bs name)*4+1,none⟩=some (.int .i64 x.n):=hcell 1 _ rfl
  have c2:w1.cell? ⟨b_,off+gS b.names (bs name)*4+2,none⟩=some (.string x.s):=hcell 2 _ rfl
  have c3:w1.cell? ⟨b_,off+gS b.names (bs name)*4+3,none⟩=some (.slice Ax x.l.length cx):=hcell 3 _ rfl
  have hex:b.terms[gS b.names (bs name)]=x:=by
   rw [List.getElem?_eq_getElem hp2] at hx
   simpa using hx
  rw [hex] at HR
  have HF:Hid (ah x=true):=Lib.hid (HOK.out.fixed x (List.mem_of_getElem? hx))
  have HXR:Hid (RL (TmR d) w1 B x.l Ax):=Lib.hid (iB.rl ‹iB w1 B (d+1-1) x.l Ax›)
  have HI:Hid (I64 x.kind∧I64 x.n∧x.s.size≤140737488351232):=Lib.hid ⟨‹_›,‹_›,‹_›⟩
  have k_b:=b_b.cell
  have l_b:=b_b.lt
  have l_r:=b_r.lt
  clear hcell hlen hx hr hex hm hd
  generalize gS b.names (bs name)=p at *
  go_wp2_with fail
  generalize hW:World.alloc _ _=w2
  obtain ⟨hb2,hz2⟩:=al1 hW
  have b_x:=n11 hW
  rw [hz] at b_x
  have b_r2:=b_r.later hb2
  have HB2:=Lib.hid (ac HB1.out hb2)
  have HX2:=Lib.hid (HXR.out.keep hb2 hB1)
  clear hW
  obtain ⟨hle,hl16⟩:=bC HF.out
  have HLE:=Lib.hid hle
  clear hle
  refine (bN HX2.out (Nat.le_trans hB1 hb2.size) (by omega)).mono ?_
  rintro e w3 ⟨⟨v,rfl,hv⟩,hb⟩
  obtain ⟨A3,cc,rfl⟩:=hv.form
  have HV:=Lib.hid (hv.leaves HLE.out)
  have HB3:=Lib.hid (ac HB2.out hb)
  have b_r3:=b_r2.later hb
  have b_x3:=b_x.later hb
  clear hv hb
  have k_x:=b_x3.cell
  have l_x:=b_x3.lt
  have f_x:=b_x3.free
  have k_r:=b_r3.cell
  have f_r:=b_r3.free
  have l_r3:=b_r3.lt
  clear k_b l_b l_r c0 c1 c2 c3
  go_wp2_with fail
  have hbase:w2.heap.size=w.heap.size+1+1+1:=by omega
  have HO:TmOwn d w2.heap.size w3 x A3 cc:=⟨HV.out,HI.out.1,HI.out.2.1,HI.out.2.2,by omega⟩
  have HO4:=(HO.far (g:=w.heap.size+1+1) (i:=3) (by omega) (.slice A3 x.l.length cc)).put4 (g:=w.heap.size+1) (by omega) (.int .i64 x.kind) (.int .i64 x.n) (.string x.s) (.slice A3 x.l.length cc)
  have b_r4:=b_r3.far (c:=w.heap.size+1+1) (by omega) 3 (.slice A3 x.l.length cc)
  refine bodyPost_ret (ar rfl rfl (dQ b_r4 (.int .i64 x.kind) (.int .i64 x.n) (.string x.s) (.slice A3 x.l.length cc)) rfl) rfl ?_
  rw [HR.out]
  exact ⟨⟨A3,cc,rfl,HO4.lower (by omega)⟩,dx (HB3.out.setCell (p:=⟨w.heap.size+1+1,3,none⟩) (by show w.heap.size≤w.heap.size+1+1;omega) _) (by omega) _ _ _ _⟩
 ·have HR:Hid (dZ b (bs name)=none):=Lib.hid (by unfold dZ;rw [if_neg hm])
  have hd:decide (bs name∈b.names)=false:=by simpa using hm
  rw [hd]
  clear hm hd
  have k_r:=b_r.cell
  have f_r:=b_r.free
  go_wp2_with fail
  refine bodyPost_ret (ar rfl rfl (dQ BR.out (.int .i64 0) (.int .i64 0) (.string ⟨#[]⟩) (.slice none 0 0)) rfl) rfl ?_
  rw [HR.out]
  exact ⟨⟨none,0,rfl,TmOwn.no⟩,dx HB1.out (by omega) _ _ _ _⟩
def gU (b:Bd) (i:Nat):Bool:=
 match b.names[i]?,b.terms[i]?,b.names[i-1]? with
 | some n,some t,some p=>dN n&&ah t&&(decide (i=0)||decide (p<n))
 | _,_,_=>false
def cj (b:Bd):Bool:=decide (b.names.length=b.terms.length)&&decide (b.names.length≤32)&&(List.range b.names.length).all (gU b)
theorem gM {d B cn ct:Nat} {b:Bd} {An At:Option Addr} {w:World} (hn:RL cR w B (b.names.map mkS) An) (ht:RL (TmR (d+1)) w B b.terms At) (hB:B≤w.heap.size) :
 Calls Tryz.prog 67 #[.agg (bdV An b.names.length cn At b.terms.length ct)] w fun e w'=>e=.returned (.bool (cj b))∧Below w.heap.size w w':=by
 have HN:=Lib.hid hn
 have HT:=Lib.hid ht
 clear hn ht
 unfold bdV
 go_enter Tryz.func67,Tryz.ntmps67
 by_cases hlen:b.names.length=b.terms.length
 ·have ql:((b.names.length:Int) !=b.terms.length)=false:=by simp [hlen]
  have HLN:=Lib.hid hlen
  clear hlen
  by_cases hfew:b.names.length≤32
  ·have qf:decide ((32:Int)<b.names.length)=false:=by simp;omega
   go_wp2_with fail
   generalize hW:World.alloc _ _=w1
   obtain ⟨hb1,hz⟩:=al1 hW
   have HBB:=Lib.hid (n11 hW)
   have HB1:=Lib.hid hb1
   clear hW hb1
   go_loopw [21] (fun i wr=>∃k:Nat,k≤b.names.length∧i=.int .i64 k∧Below w1.heap.size w1 wr∧∀i,i<k→gU b i=true) (fun i _=>b.names.length-(intOf i).toNat)
   case atStart=>exact ⟨0,Nat.zero_le _,rfl,Below.refl _ _,fun i h=>absurd h (by omega)⟩
   case round=>
    obtain ⟨k,hk,rfl,hbw,hall⟩:=hrel
    have HA:=Lib.hid hall
    have HWR:=Lib.hid hbw
    have HBR:=Lib.hid (HBB.out.later hbw)
    have HBw:Hid (Below w.heap.size w wr):=Lib.hid (ac HB1.out hbw)
    have hB1:B≤w1.heap.size:=by omega
    have hsz:=hbw.size
    clear hall hbw
    by_cases hlt:k<b.names.length
    ·have HN1:=Lib.hid (HN.out.keep HBw.out hB)
     have HT1:=Lib.hid (HT.out.keep HBw.out hB)
     have hBr:B≤wr.heap.size:=by omega
     have hlt2:k<b.terms.length:=by rw [←HLN.out];exact hlt
     obtain ⟨bn_,offn,rfl,hobn,hcn⟩:=kY HN1.out (Below.refl _ _) hBr (by omega)
     obtain ⟨bt_,offt,rfl,hobt⟩:=HT1.out.base (Below.refl _ _) hBr (by omega)
     obtain ⟨x,vs,hx,hlen,hcell,hr⟩:=HT1.out.at_ (Below.refl _ _) hBr hlt2
     obtain ⟨Ax,cx,rfl,g1,g2,g3,g4,g5,_⟩:=RTm.cells (show RTm wr B (d+1) x vs from hr)
     have c0:wr.cell? ⟨bt_,offt+k*4,none⟩=some (.int .i64 x.kind):=hcell 0 _ rfl
     have c1:wr.cell? ⟨bt_,offt+k*4+1,none⟩=some (.int .i64 x.n):=hcell 1 _ rfl
     have c2:wr.cell? ⟨bt_,offt+k*4+2,none⟩=some (.string x.s):=hcell 2 _ rfl
     have c3:wr.cell? ⟨bt_,offt+k*4+3,none⟩=some (.slice Ax x.l.length cx):=hcell 3 _ rfl
     have cn0:=hcn k hlt
     have cn1:=hcn (k-1) (by omega)
     have k_b:=HBR.out.cell
     have l_b:=HBR.out.lt
     have hxe:b.terms[k]=x:=by
      rw [List.getElem?_eq_getElem hlt2] at hx
      simpa using hx
     obtain ⟨y,vy,hy,_,_,hry⟩:=HN1.out.at_ (Below.refl _ _) hBr (k:=k) (by simpa using hlt)
     have hye:y=mkS b.names[k]:=by simpa [hlt,eq_comm] using hy
     have hsz16:(mkS b.names[k]).size≤140737488351232:=hye▸(show cR.rd wr B y vy from hry).2
     have HX:=Lib.hid hr
     have HAT:Hid (gU b k=(dN (bs (mkS b.names[k]))&&ah x&&(decide (k=0)||decide (bs (mkS b.names[k-1])<bs (mkS b.names[k]))))):=Lib.hid (by
      unfold gU
      rw [List.getElem?_eq_getElem hlt,List.getElem?_eq_getElem hlt2,List.getElem?_eq_getElem (show k-1<b.names.length by omega),hxe,jc,jc])
     clear hcell hlen hcn hx hr hry hy hye hxe
     generalize mkS b.names[k]=nk at *
     generalize mkS b.names[k-1]=np at *
     have HNO:Hid (gU b k=false→cj b=false):=Lib.hid (fun h=>by
      rw [Bool.eq_false_iff]
      intro h2
      unfold cj at h2
      rw [Bool.and_eq_true,List.all_eq_true] at h2
      have:=h2.2 k (by simpa using hlt)
      rw [h] at this
      cases this)
     by_cases hnm:dN (bs nk)=true
     ·by_cases hfx:ah x=true
      ·have hk1:(k:Int)-1=((k-1:Nat):Int)∨k=0:=by omega
       have hle:(!Op.bytesLess np.toList nk.toList) = !decide (bs np<bs nk):=by rw [di,ByteArray.toList_eq,ByteArray.toList_eq]
       rcases Nat.eq_zero_or_pos k with h0 | h0
       ·have hAT:gU b k=true:=by rw [HAT.out,hnm,hfx,decide_eq_true h0];rfl
        have HAT2:=Lib.hid hAT
        have H0:=Lib.hid h0
        clear h0 hAT hle hk1
        go_wp2_with (first
         | (go_at_call 103;refine (eP _ _ (by unfold maxLen;omega)).mono ?_;rintro e w' ⟨rfl,rfl⟩)
         | (go_at_call 106;refine (ak HX.out hBr).mono ?_;rintro e w2 ⟨rfl,hb2⟩;have cn2:=(hb2.cell (p:=⟨bn_,offn+(k-1),none⟩) hobn).trans cn1;have k_b2:=(HBR.out.later hb2).cell;have HB2:=Lib.hid (ac HBw.out hb2);have HBR2:=Lib.hid (Below.trans HWR.out (hb2.mono hsz));clear hb2))
        ·exact absurd H0.out (by omega)
        all_goals
         go_roundw
         case rel=>exact ⟨k+1,by omega,by go_num,HBR2.out,fun i hi=>by
          rcases Nat.lt_or_ge i k with h1 | h1
          ·exact HA.out i h1
          ·obtain rfl:i=k:=by omega
           exact HAT2.out⟩
         case measure=>simp [intOf];omega
       ·have hk2:(k:Int)-1=((k-1:Nat):Int):=by omega
        have q0:decide ((0:Int)<k)=true:=by simp;omega
        clear hk1
        have HLE:=Lib.hid hle
        clear hle
        go_wp2_with (first
         | (go_at_call 103;refine (eP _ _ (by unfold maxLen;omega)).mono ?_;rintro e w' ⟨rfl,rfl⟩)
         | (go_at_call 106;refine (ak HX.out hBr).mono ?_;rintro e w2 ⟨rfl,hb2⟩;have cn2:=(hb2.cell (p:=⟨bn_,offn+(k-1),none⟩) hobn).trans cn1;have k_b2:=(HBR.out.later hb2).cell;have HB2:=Lib.hid (ac HBw.out hb2);have HBR2:=Lib.hid (Below.trans HWR.out (hb2.mono hsz));clear hb2))
        ·rename_i hq
         go_ret
         refine ⟨ae ?_,HB2.out⟩
         rw [HLE.out] at hq
         have hq2:decide (bs np<bs nk)=false:=by simpa using hq
         have hq1:decide (k=0)=false:=by simp;omega
         rw [HNO.out (by rw [HAT.out,hnm,hfx,hq1,hq2];rfl)]
        ·rename_i hq
         rw [HLE.out] at hq
         have hq2:decide (bs np<bs nk)=true:=by simpa using hq
         have HAT2:Hid (gU b k=true):=Lib.hid (by rw [HAT.out,hnm,hfx,hq2,Bool.or_true];rfl)
         clear hq hq2
         go_roundw
         case rel=>exact ⟨k+1,by omega,by go_num,HBR2.out,fun i hi=>by
          rcases Nat.lt_or_ge i k with h1 | h1
          ·exact HA.out i h1
          ·obtain rfl:i=k:=by omega
           exact HAT2.out⟩
         case measure=>simp [intOf];omega
      ·have hfx':ah x=false:=by simpa using hfx
       clear hfx
       go_wp2_with (first
        | (go_at_call 103;refine (eP _ _ (by unfold maxLen;omega)).mono ?_;rintro e w' ⟨rfl,rfl⟩)
        | (go_at_call 106;refine (ak HX.out hBr).mono ?_;rintro e w2 ⟨rfl,hb2⟩;have cn2:=(hb2.cell (p:=⟨bn_,offn+(k-1),none⟩) hobn).trans cn1;have k_b2:=(HBR.out.later hb2).cell;have HB2:=Lib.hid (ac HBw.out hb2);have HBR2:=Lib.hid (Below.trans HWR.out (hb2.mono hsz));clear hb2))
       go_ret
       refine ⟨ae ?_,HB2.out⟩
       rw [HNO.out (by rw [HAT.out,hnm,hfx'];rfl)]
     ·have hnm':dN (bs nk)=false:=by simpa using hnm
      clear hnm
      go_wp2_with (first
       | (go_at_call 103;refine (eP _ _ (by unfold maxLen;omega)).mono ?_;rintro e w' ⟨rfl,rfl⟩)
       | (go_at_call 106;refine (ak HX.out hBr).mono ?_;rintro e w2 ⟨rfl,hb2⟩;have cn2:=(hb2.cell (p:=⟨bn_,offn+(k-1),none⟩) hobn).trans cn1;have k_b2:=(HBR.out.later hb2).cell;have HB2:=Lib.hid (ac HBw.out hb2);have HBR2:=Lib.hid (Below.trans HWR.out (hb2.mono hsz));clear hb2))
      go_ret
      refine ⟨ae ?_,HBw.out⟩
      rw [HNO.out (by rw [HAT.out,hnm'];rfl)]
    ·go_wp2_with fail
     go_ret
     obtain rfl:k=b.names.length:=by omega
     refine ⟨ae ?_,HBw.out⟩
     unfold cj
     rw [eq_comm,Bool.and_eq_true,Bool.and_eq_true,List.all_eq_true]
     exact ⟨⟨decide_eq_true HLN.out,decide_eq_true hfew⟩,fun i hi=>HA.out i (by simpa using hi)⟩
  ·have qf:decide ((32:Int)<b.names.length)=true:=by simp;omega
   go_wp2_with fail
   go_ret
   refine ⟨ae ?_,ax rfl⟩
   unfold cj
   simp [hfew]
 ·have ql:((b.names.length:Int) !=b.terms.length)=true:=by simp;omega
  have HLN:=Lib.hid hlen
  clear hlen
  go_wp2_with fail
  go_ret
  refine ⟨ae ?_,ax rfl⟩
  unfold cj
  simp [HLN.out]
theorem jQ {b:Bd} (h:cj b=true):BdOk b∧∀n∈b.names,dN n=true:=by
 unfold cj at h
 rw [Bool.and_eq_true,Bool.and_eq_true,List.all_eq_true] at h
 obtain ⟨⟨h1,h2⟩,h3⟩:=h
 have hlen:=of_decide_eq_true h1
 have hat:∀i (hi:i<b.names.length),dN b.names[i]=true∧ah (b.terms[i]'(hlen▸hi))=true∧(i=0∨b.names[i-1]<b.names[i]):=by
  intro i hi
  have:=h3 i (by simpa using hi)
  unfold gU at this
  rw [List.getElem?_eq_getElem hi,List.getElem?_eq_getElem (hlen▸hi),List.getElem?_eq_getElem (show i-1<b.names.length by omega)] at this
  simpa [and_assoc] using this
 refine ⟨⟨hlen,of_decide_eq_true h2,?_,fun t ht=>?_⟩,fun n hn=>?_⟩
 ·rw [List.pairwise_iff_getElem]
  intro i j hi hj hij
  have:∀m,∀hm:i+m+1<b.names.length,b.names[i]<b.names[i+m+1]:=by
   intro m
   induction m with
   | zero=>
     intro hm
     rcases (hat (i+0+1) hm).2.2 with h | h
     ·omega
     ·exact h
   | succ m ih=>
     intro hm
     rcases (hat (i+(m+1)+1) hm).2.2 with h | h
     ·omega
     ·exact List.lt_trans (ih (by omega)) h
  have:=this (j-i-1) (by omega)
  have e:i+(j-i-1)+1=j:=by omega
  simpa only [e] using this
 ·obtain ⟨i,hi,rfl⟩:=List.getElem_of_mem ht
  exact (hat i (hlen▸hi)).2.1
 ·obtain ⟨i,hi,rfl⟩:=List.getElem_of_mem hn
  exact (hat i hi).1
def eo:List aY→List aY→Int
 | [],[]=>0
 | [],_::_=>-1
 | _::_,[]=>1
 | x::xs,y::ys=>if cT x y=0 then eo xs ys else cT x y
theorem fL (xs ys:List aY) (A A':Option Addr) (c c' B:Nat) (w:World) (hA:RL cR w B (xs.map mkS) A) (hA':RL cR w B (ys.map mkS) A') (hB:B≤w.heap.size) (hn:xs.length≤1000000) (hn':ys.length≤1000000) :
 Calls Tryz.prog 60 #[.slice A xs.length c,.slice A' ys.length c'] w fun e w'=>e=.returned (.int .i64 (eo xs ys))∧w=w':=by
 have HA:=Lib.hid hA
 have HA':=Lib.hid hA'
 clear hA hA'
 go_enter Tryz.func60,Tryz.ntmps60
 go_wp2_with fail
 go_loop [11] (fun i=>∃k:Nat,k≤xs.length∧i=.int .i64 k∧Hid (eo xs ys=eo (xs.drop k) (ys.drop k))) (fun i=>xs.length-(intOf i).toNat)
 case atStart=>exact ⟨0,Nat.zero_le _,rfl,Lib.hid rfl⟩
 case round=>
  obtain ⟨k,hk,rfl,HE⟩:=hrel
  by_cases hlt:k<xs.length
  ·obtain ⟨b,off,rfl,hb,hc⟩:=kY HA.out (Below.refl _ _) hB (by omega)
   have c0:=hc k hlt
   clear hc
   have hI0:(0:Int)≤(k:Int):=Int.natCast_nonneg _
   have hI1:(k:Int)<(xs.length:Int):=by omega
   have hx':xs.drop k=xs[k]::xs.drop (k+1):=List.drop_eq_getElem_cons hlt
   by_cases hlt2:k<ys.length
   ·obtain ⟨b',off',rfl,hb',hc'⟩:=kY HA'.out (Below.refl _ _) hB (by omega)
    have c1:=hc' k hlt2
    clear hc'
    have hI2:(k:Int)<(ys.length:Int):=by omega
    have hg:decide ((k:Int)≥ys.length)=false:=by simp;omega
    have hg2:decide ((ys.length:Int)≤(k:Int))=false:=by simp;omega
    have hy':ys.drop k=ys[k]::ys.drop (k+1):=List.drop_eq_getElem_cons hlt2
    have HE2:Hid (eo xs ys=if cT xs[k] ys[k]=0 then eo (xs.drop (k+1)) (ys.drop (k+1)) else cT xs[k] ys[k]):=Lib.hid (by rw [HE.out,hx',hy'];rfl)
    have HCE:Hid (cT (bs (mkS xs[k])) (bs (mkS ys[k]))=cT xs[k] ys[k]):=Lib.hid (by rw [jc,jc])
    clear hx' hy' HE
    go_wp2_with (go_at_call 91;refine (cU _ _ _).mono ?_;rintro e w' ⟨rfl,rfl⟩;rw [HCE.out];by_cases hz:cT xs[k] ys[k]=0)
    ·have hz':(cT xs[k] ys[k] !=0)=false:=by simpa using hz
     have HZ:=Lib.hid hz
     generalize cT xs[k] ys[k]=r at *
     clear hz
     go_wp2_with fail
     go_round
     case rel=>exact ⟨k+1,by omega,by go_num,Lib.hid (by rw [HE2.out,if_pos HZ.out])⟩
     case measure=>simp [intOf];omega
    ·have hz':(cT xs[k] ys[k] !=0)=true:=by simpa using hz
     have HZ:=Lib.hid hz
     generalize cT xs[k] ys[k]=r at *
     clear hz
     go_wp2_with fail
     go_ret
     exact ⟨ay (by rw [HE2.out,if_neg HZ.out]),rfl⟩
   ·have hg:decide ((k:Int)≥ys.length)=true:=by simp;omega
    have hg2:decide ((ys.length:Int)≤(k:Int))=true:=by simp;omega
    have HE2:Hid (eo xs ys=1):=Lib.hid (by rw [HE.out,hx',List.drop_eq_nil_of_le (show ys.length≤k by omega)];rfl)
    clear hx' HE
    go_wp2_with fail
    go_ret
    exact ⟨ay HE2.out.symm,rfl⟩
  ·have hz:xs.drop k=[]:=List.drop_eq_nil_of_le (by omega)
   obtain rfl:k=xs.length:=by omega
   by_cases hlt2:xs.length<ys.length
   ·have HE2:Hid (eo xs ys=-1):=Lib.hid (by rw [HE.out,hz,List.drop_eq_getElem_cons hlt2];rfl)
    clear hz HE
    go_wp2_with fail
    go_ret
    exact ⟨ay HE2.out.symm,rfl⟩
   ·have HE2:Hid (eo xs ys=0):=Lib.hid (by rw [HE.out,hz,List.drop_eq_nil_of_le (by omega)];rfl)
    clear hz HE
    go_wp2_with fail
    go_ret
    exact ⟨ay HE2.out.symm,rfl⟩
structure Ans where
 b:Bd
 o:Int
def aH (x y:Ans):Int:=orL [eo x.b.names y.b.names,bW (aW 3) x.b.terms y.b.terms,cM x.o y.o]
def anV (x:Ans) (An:Option Addr) (cn:Nat) (At:Option Addr) (ct:Nat):List Value:=[.slice An x.b.names.length cn,.slice At x.b.terms.length ct,.int .u32 x.o]
def jt (d:Nat):Reader Ans where
 k:=3
 rd:=fun w B x vs=>∃An cn At ct,vs=anV x An cn At ct∧RL cR w B (x.b.names.map mkS) An∧RL (TmR d) w B x.b.terms At
 keep:=fun hw hB ⟨An,cn,At,ct,e,h1,h2⟩=>⟨An,cn,At,ct,e,h1.keep hw hB,h2.keep hw hB⟩
 wide:=fun hB ⟨An,cn,At,ct,e,h1,h2⟩=>⟨An,cn,At,ct,e,h1.wide hB,h2.wide hB⟩
 len:=fun ⟨_,_,_,_,e,_⟩=>by rw [e];rfl
structure AnOk (x:Ans):Prop where
 nm:x.b.names.length≤32
 tm:x.b.terms.length≤32
theorem gr {d e B:Nat} {x y:Ans} {va vb:List Value} {w:World} (ha:(jt d).rd w B x va) (hb:(jt e).rd w B y vb) (hx:AnOk x) (hy:AnOk y) (hB:B≤w.heap.size) :
 Calls Tryz.prog 19 #[.agg va.toArray,.agg vb.toArray] w fun z w'=>z=.returned (.int .i64 (aH x y))∧Below w.heap.size w w':=by
 obtain ⟨An,cn,At,ct,rfl,hn,ht⟩:=ha
 obtain ⟨An',cn',At',ct',rfl,hn',ht'⟩:=hb
 have HN:=Lib.hid hn
 have HT:=Lib.hid ht
 have HN':=Lib.hid hn'
 have HT':=Lib.hid ht'
 obtain ⟨x1,x2⟩:=hx
 obtain ⟨y1,y2⟩:=hy
 clear hn ht hn' ht'
 unfold anV
 go_enter Tryz.func19,Tryz.ntmps19
 go_upto_region 1 with fail
 generalize hW:World.alloc _ _=w1
 obtain ⟨hb,hz⟩:=al2 hW
 have HA1:=Lib.hid (n21 hW)
 have HB1:=Lib.hid (n22 hW)
 have HU1:=Lib.hid hb
 clear hW hb
 have hsz:=HU1.out.size
 have hB1:B≤w1.heap.size:=Nat.le_trans hB hsz
 have HSL:Hid (∀{w':World},Below w1.heap.size w1 w'→(w'.cell? ⟨w.heap.size,0,none⟩=some (.slice An x.b.names.length cn)∧w'.cell? ⟨w.heap.size,1,none⟩=some (.slice At x.b.terms.length ct)∧w'.cell? ⟨w.heap.size,2,none⟩=some (.int .u32 x.o)∧w'.cell? ⟨w.heap.size+1,0,none⟩=some (.slice An' y.b.names.length cn')∧w'.cell? ⟨w.heap.size+1,1,none⟩=some (.slice At' y.b.terms.length ct')∧w'.cell? ⟨w.heap.size+1,2,none⟩=some (.int .u32 y.o))):=Lib.hid (fun hb=>⟨(HA1.out.later hb).cell 0,(HA1.out.later hb).cell 1,(HA1.out.later hb).cell 2,(HB1.out.later hb).cell 0,(HB1.out.later hb).cell 1,(HB1.out.later hb).cell 2⟩)
 refine aD (fun w'=>w'.cell? ⟨w.heap.size,0,none⟩=some (.slice An x.b.names.length cn)∧w'.cell? ⟨w.heap.size,1,none⟩=some (.slice At x.b.terms.length ct)∧w'.cell? ⟨w.heap.size,2,none⟩=some (.int .u32 x.o)∧w'.cell? ⟨w.heap.size+1,0,none⟩=some (.slice An' y.b.names.length cn')∧w'.cell? ⟨w.heap.size+1,1,none⟩=some (.slice At' y.b.terms.length ct')∧w'.cell? ⟨w.heap.size+1,2,none⟩=some (.int .u32 y.o)) (by kernel_rfl) (HSL.out (Below.refl _ _).drew) ?_
 refine aa (i:=0) (v:=?v1_) rfl (by kernel_rfl) (by kernel_rfl) (by kernel_rfl) ?hq1_ ?hw1_ ?hy1_ ?rest1_
 case hq1_=>exact fun _ _ _ h=>h
 case hw1_=>rfl
 case hy1_=>(intro w' hS';(try dsimp only at hS');go_simp;(try with_reducible rfl))
 refine aa (i:=1) (v:=?v2_) rfl (by kernel_rfl) (by kernel_rfl) (by kernel_rfl) ?hq2_ ?hw2_ ?hy2_ ?rest2_
 case hq2_=>exact fun _ _ _ h=>h
 case hw2_=>rfl
 case hy2_=>(intro w' hS';(try dsimp only at hS');go_simp;(try with_reducible rfl))
 refine aa (i:=2) (v:=?v3_) rfl (by kernel_rfl) (by kernel_rfl) (by kernel_rfl) ?hq3_ ?hw3_ ?hy3_ ?rest3_
 case hq3_=>exact fun _ _ _ h=>h
 case hw3_=>rfl
 case hy3_=>(intro w' hS';(try dsimp only at hS');go_simp;(try with_reducible rfl))
 refine aa (i:=3) (v:=?v4_) rfl (by kernel_rfl) (by kernel_rfl) (by kernel_rfl) ?hq4_ ?hw4_ ?hy4_ ?rest4_
 case hq4_=>exact fun _ _ _ h=>h
 case hw4_=>rfl
 case hy4_=>(intro w' hS';(try dsimp only at hS');go_simp;(try with_reducible rfl))
 refine aa (i:=4) (v:=?v5_) rfl (by kernel_rfl) (by kernel_rfl) (by kernel_rfl) ?hq5_ ?hw5_ ?hy5_ ?rest5_
 case hq5_=>exact fun _ _ _ h=>h
 case hw5_=>rfl
 case hy5_=>(intro w' hS';(try dsimp only at hS');go_simp;(try with_reducible rfl))
 refine aa (i:=5) (v:=?v6_) rfl (by kernel_rfl) (by kernel_rfl) (by kernel_rfl) ?hq6_ ?hw6_ ?hy6_ ?rest6_
 case hq6_=>exact fun _ _ _ h=>h
 case hw6_=>rfl
 case hy6_=>(intro w' hS';(try dsimp only at hS');go_simp;(try with_reducible rfl))
 refine aa (i:=7) (v:=?v7_) rfl (by kernel_rfl) (by kernel_rfl) (by kernel_rfl) ?hq7_ ?hw7_ ?hy7_ ?rest7_
 case hq7_=>exact fun _ _ _ h=>h
 case hw7_=>rfl
 case hy7_=>(intro w' hS';(try dsimp only at hS');go_simp;(try with_reducible rfl))
 refine aa (i:=8) (v:=?v8_) rfl (by kernel_rfl) (by kernel_rfl) (by kernel_rfl) ?hq8_ ?hw8_ ?hy8_ ?rest8_
 case hq8_=>exact fun _ _ _ h=>h
 case hw8_=>rfl
 case hy8_=>(intro w' hS';(try dsimp only at hS');go_simp;(try with_reducible rfl))
 refine aa (i:=9) (v:=?v9_) rfl (by kernel_rfl) (by kernel_rfl) (by kernel_rfl) ?hq9_ ?hw9_ ?hy9_ ?rest9_
 case hq9_=>exact fun _ _ _ h=>h
 case hw9_=>rfl
 case hy9_=>(intro w' hS';(try dsimp only at hS');go_simp;(try with_reducible rfl))
 refine aa (i:=10) (v:=?v10_) rfl (by kernel_rfl) (by kernel_rfl) (by kernel_rfl) ?hq10_ ?hw10_ ?hy10_ ?rest10_
 case hq10_=>exact fun _ _ _ h=>h
 case hw10_=>rfl
 case hy10_=>(intro w' hS';(try dsimp only at hS');go_simp;(try with_reducible rfl))
 refine aa (i:=11) (v:=?v11_) rfl (by kernel_rfl) (by kernel_rfl) (by kernel_rfl) ?hq11_ ?hw11_ ?hy11_ ?rest11_
 case hq11_=>exact fun _ _ _ h=>h
 case hw11_=>rfl
 case hy11_=>(intro w' hS';(try dsimp only at hS');go_simp;(try with_reducible rfl))
 refine aa (i:=12) (v:=?v12_) rfl (by kernel_rfl) (by kernel_rfl) (by kernel_rfl) ?hq12_ ?hw12_ ?hy12_ ?rest12_
 case hq12_=>exact fun _ _ _ h=>h
 case hw12_=>rfl
 case hy12_=>(intro w' hS';(try dsimp only at hS');go_simp;(try with_reducible rfl))
 refine aa (i:=14) (v:=?v13_) rfl (by kernel_rfl) (by kernel_rfl) (by kernel_rfl) ?hq13_ ?hw13_ ?hy13_ ?rest13_
 case hq13_=>exact fun _ _ _ h=>h
 case hw13_=>rfl
 case hy13_=>(intro w' hS';(try dsimp only at hS');go_simp;(try with_reducible rfl))
 refine aa (i:=15) (v:=?v14_) rfl (by kernel_rfl) (by kernel_rfl) (by kernel_rfl) ?hq14_ ?hw14_ ?hy14_ ?rest14_
 case hq14_=>exact fun _ _ _ h=>h
 case hw14_=>rfl
 case hy14_=>(intro w' hS';(try dsimp only at hS');go_simp;(try with_reducible rfl))
 refine aa (i:=16) (v:=?v15_) rfl (by kernel_rfl) (by kernel_rfl) (by kernel_rfl) ?hq15_ ?hw15_ ?hy15_ ?rest15_
 case hq15_=>exact fun _ _ _ h=>h
 case hw15_=>rfl
 case hy15_=>(intro w' hS';(try dsimp only at hS');go_simp;(try with_reducible rfl))
 refine aa (i:=17) (v:=?v16_) rfl (by kernel_rfl) (by kernel_rfl) (by kernel_rfl) ?hq16_ ?hw16_ ?hy16_ ?rest16_
 case hq16_=>exact fun _ _ _ h=>h
 case hw16_=>rfl
 case hy16_=>(intro w' hS';(try dsimp only at hS');go_simp;(try with_reducible rfl))
 generalize hD:World.drew w1=w2
 have HU:Hid (Below w1.heap.size w1 w2):=Lib.hid (hD▸(Below.refl w1.heap.size w1).drew)
 clear hD
 refine al (rs:=[6]) (by kernel_rfl) rfl ?_
 refine af.cons rfl (fun K hK=>?_) af.nil
 go_simp
 refine (fL x.b.names y.b.names An An' cn cn' B w2 (HN.out.keep (HU1.out.trans (HU.out.mono hsz)) hB) (HN'.out.keep (HU1.out.trans (HU.out.mono hsz)) hB) (Nat.le_trans hB1 HU.out.size) (by omega) (by omega)).mono ?_
 rintro e w' ⟨rfl,rfl⟩
 refine hK.out _ _ (HSL.out HU.out) ?_
 clear hK
 refine al (rs:=[13]) (by kernel_rfl) rfl ?_
 refine af.cons rfl (fun K hK=>?_) af.nil
 go_simp
 refine (dI 62 #[] (aW 3) d e x.b.terms y.b.terms At At' ct ct' B w2 gH (HT.out.keep (HU1.out.trans (HU.out.mono hsz)) hB) (HT'.out.keep (HU1.out.trans (HU.out.mono hsz)) hB) (Nat.le_trans hB1 HU.out.size) (by omega) (by omega) (fun x y vs ws w9 hb9 hx hy=>cV d e x y vs ws B w9 hx hy (Nat.le_trans (Nat.le_trans hB1 HU.out.size) hb9.size))).mono ?_
 rintro z w3 ⟨rfl,hb3⟩
 have HU3:Hid (Below w1.heap.size w1 w3):=Lib.hid (HU.out.trans (hb3.mono HU.out.size))
 clear hb3
 refine hK.out _ _ (HSL.out HU3.out) ?_
 clear hK
 refine al (rs:=[18]) (by kernel_rfl) rfl ?_
 refine af.cons rfl (fun K hK=>?_) af.nil
 go_simp
 refine (iF _ _ _).mono ?_
 rintro e w' ⟨rfl,rfl⟩
 refine hK.out _ _ (HSL.out HU3.out) ?_
 clear hK
 refine al (rs:=[19]) (by kernel_rfl) rfl ?_
 refine af.cons rfl (fun K hK=>?_) af.nil
 go_simp
 generalize hW:World.alloc _ _=w4
 obtain ⟨hb4,hz4⟩:=al1 hW
 have HL4:=Lib.hid (n11 hW)
 have HU4:Hid (Below w1.heap.size w1 w4):=Lib.hid (HU3.out.trans (hb4.mono HU3.out.size))
 clear hW hb4
 refine hK.out _ _ (HSL.out HU4.out) ?_
 clear hK
 refine al (rs:=[20]) (by kernel_rfl) rfl ?_
 refine af.cons rfl (fun K hK=>?_) af.nil
 go_simp
 refine (il [eo x.b.names y.b.names,bW (aW 3) x.b.terms y.b.terms,cM x.o y.o] w3.heap.size w4 (fun i hi=>by
  rw [HL4.out.cell i]
  match i,hi with
  | 0,_=>rfl
  | 1,_=>rfl
  | 2,_=>rfl) (by simp)).mono ?_
 rintro e w' ⟨rfl,rfl⟩
 refine hK.out _ _ (HSL.out HU4.out) ?_
 clear hK
 refine aa (i:=21) (v:=?v17_) rfl (by kernel_rfl) (by kernel_rfl) (by kernel_rfl) ?hq17_ ?hw17_ ?hy17_ ?rest17_
 case hq17_=>exact fun _ _ _ h=>h
 case hw17_=>rfl
 case hy17_=>(intro w' hS';(try dsimp only at hS');go_simp;(try with_reducible rfl))
 refine aX (by kernel_rfl) ?_
 go_wp2_with fail
 go_ret
 exact ⟨ay rfl,HU1.out.trans (HU4.out.mono hsz)⟩
theorem jM {d e B:Nat} {x y:Ans} {va vb:List Value} {w:World} (ha:(jt d).rd w B x va) (hb:(jt e).rd w B y vb) (hx:AnOk x) (hy:AnOk y) (hB:B≤w.heap.size) :
 Calls Tryz.prog 58 #[.agg va.toArray,.agg vb.toArray] w fun z w'=>z=.returned (.bool (aH x y==0))∧Below w.heap.size w w':=by
 have HA:=Lib.hid ha
 have HB:=Lib.hid hb
 obtain ⟨An,cn,At,ct,rfl,_,_⟩:=ha
 obtain ⟨An',cn',At',ct',rfl,_,_⟩:=hb
 unfold anV at HA HB ⊢
 go_enter Tryz.func58,Tryz.ntmps58
 go_wp2_with fail
 generalize hW:World.alloc _ _=w1
 obtain ⟨hb,hz⟩:=al2 hW
 have HU1:=Lib.hid hb
 have hsz:=hb.size
 clear hW hb
 refine (gr (d:=d) (e:=e) (B:=B) (va:=[_,_,_]) (vb:=[_,_,_]) ((jt d).keep HU1.out hB HA.out) ((jt e).keep HU1.out hB HB.out) hx hy (Nat.le_trans hB hsz)).mono ?_
 rintro z w2 ⟨rfl,hb⟩
 have HU2:=Lib.hid (ac HU1.out hb)
 clear hb
 go_wp2_with fail
 go_ret
 exact ⟨rfl,HU2.out⟩
end Go.Proofs.YtdphibjibnffeaaGreat
