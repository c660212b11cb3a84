/- An answer as data; slices.Compare at texts; join.Compare. -/
import Derived.Test.YtjpndglegpcdnaaGreatBSearch
import Derived.Test.YtjpndglegpcdnaaGreatHeapLaw
import Derived.Test.YtjpndglegpcdnaaGreatSet2
import Derived.Test.YtjpndglegpcdnaaGreatRule1
import Derived.Test.YtjpndglegpcdnaaGreatBS
set_option linter.unusedVariables false
set_option linter.unusedSimpArgs false
set_option maxRecDepth 100000
set_option maxHeartbeats 8000000
namespace Go.Proofs.YtjpndglegpcdnaaGreat
open Go.ChangeShapes Go.WideShapes Go.ChangeAt Go.RowKit
structure Bd where
 names:List aW
 terms:List Tm
def cT (b:Bd) (name:aW):Option Tm:=if name∈b.names then b.terms[ia b.names name]? else none
structure BdOk (b:Bd):Prop where
 len:b.names.length=b.terms.length
 few:b.names.length≤32
 rise:b.names.Pairwise (· < ·)
 fixed:∀t∈b.terms,af t=true
def bdV (An:Option Addr) (nn cn:Nat) (At:Option Addr) (nt ct:Nat):Array Value:=#[.slice An nn cn,.slice At nt ct]
theorem aJ {t:Tm} (h:af t=true):(∀u∈t.l,iP u)∧t.l.length≤16:=by
 have:=kL h
 by_cases h7:t.kind=7
 ·rw [if_pos h7] at this
  exact ⟨(dr this.2.2).2,(dr this.2.2).1⟩
 ·rw [if_neg h7] at this
  rw [this];exact ⟨fun u hu=>(List.not_mem_nil hu).elim,by simp⟩
def lZ (d:Nat) (w w':World) (r:Option Tm) (z:Ending):Prop:=
 (∃A c,z=.returned (.tuple #[.agg #[.int .i64 (r.getD noT).kind,.int .i64 (r.getD noT).n,.string (r.getD noT).s,.slice A (r.getD noT).l.length c],.bool r.isSome])∧TmOwn d w.heap.size w' (r.getD noT) A c)∧Below w.heap.size w w'
theorem uJ {L:List aW} {t:aW} (h:t∈L):ia L t<L.length:=by
 unfold ia
 rw [List.findIdx_lt_length]
 exact ⟨t,h,by simp [List.lt_irrefl]⟩
theorem kN {d B cn ct:Nat} {b:Bd} {An At:Option Addr} {name:ByteArray} {w:World} (hok:BdOk b) (hn:RL cR w B (b.names.map mkS) An) (ht:RL (TmR (d+1)) w B b.terms At) (hB:B≤w.heap.size) :
 Calls Tryz.prog 102 #[.agg (bdV An b.names.length cn At b.terms.length ct),.string name] w fun e w'=>lZ d w w' (cT b (bs name)) e:=by
 have HOK:=ym hok
 have HN:=ym hn
 have HT:=ym ht
 have hf:=hok.few
 have hlen:=hok.len
 have HLN:=ym hlen
 clear hok hn ht hlen
 unfold bdV
 go_enter Tryz.func102,Tryz.ntmps102
 go_wp2_with fail
 generalize hW:World.alloc _ _=w1
 obtain ⟨hb1,hz⟩:=al2 hW
 have b_b:=n21 hW
 have b_r:=n22 hW
 have HB1:=ym hb1
 clear hW hb1
 refine (gQ b.names An cn B name w1 (HN.out.keep HB1.out hB) (yn hB HB1.out.size) (by omega) HOK.out.rise).mono ?_
 rintro e w2 ⟨rfl,rfl⟩
 have BB:=ym b_b
 have BR:=ym b_r
 by_cases hm:bs name∈b.names
 ·have hp:=uJ hm
  have hp2:ia b.names (bs name)<b.terms.length:=by rw [←HLN.out];exact hp
  have HR:Hid (cT b (bs name)=some (b.terms[ia b.names (bs name)])):=ym (by unfold cT;rw [if_pos hm,yy hp2])
  have hd:decide (bs name∈b.names)=true:=by simpa using hm
  rw [hd]
  have hB1:=yn hB HB1.out.size
  have HT1:=ym (HT.out.keep HB1.out hB)
  obtain ⟨b_,off,rfl,hob⟩:=HT1.out.base (yq _ _) hB1 (by omega)
  obtain ⟨x,vs,hx,hlen,hcell,hr⟩:=HT1.out.at_ (yq _ _) hB1 hp2
  obtain ⟨Ax,cx,rfl,g1,g2,g3,g4,g5,_⟩:=RTm.cells (show RTm w1 B (d+1) x vs from hr)
  have c0:w1.cell? ⟨b_,off+ia b.names (bs name)*4,none⟩=some (.int .i64 x.kind):=hcell 0 _ rfl
  have c1:w1.cell? ⟨b_,off+ia b.names (bs name)*4+1,none⟩=some (.int .i64 x.n):=hcell 1 _ rfl
  have c2:w1.cell? ⟨b_,off+ia b.names (bs name)*4+2,none⟩=some (.string x.s):=hcell 2 _ rfl
  have c3:w1.cell? ⟨b_,off+ia b.names (bs name)*4+3,none⟩=some (.slice Ax x.l.length cx):=hcell 3 _ rfl
  have hex:b.terms[ia b.names (bs name)]=x:=by
   rw [yy hp2] at hx
   simpa using hx
  rw [hex] at HR
  have HF:Hid (af x=true):=ym (HOK.out.fixed x (List.mem_of_getElem? hx))
  have HXR:Hid (RL (TmR d) w1 B x.l Ax):=ym (jJ.rl ‹jJ w1 B (d+1-1) x.l Ax›)
  have HI:Hid (I64 x.kind∧I64 x.n∧x.s.size≤140737488351232):=ym ⟨‹_›,‹_›,‹_›⟩
  have k_b:=b_b.cell
  have l_b:=b_b.lt
  have l_r:=b_r.lt
  clear hcell hlen hx hr hex hm hd
  generalize ia b.names (bs name)=p at *
  go_wp2_with fail
  generalize hW:World.alloc _ _=w2
  obtain ⟨hb2,hz2⟩:=al1 hW
  have b_x:=n11 hW
  rw [hz] at b_x
  have b_r2:=b_r.later hb2
  have HB2:=ym (ac HB1.out hb2)
  have HX2:=ym (HXR.out.keep hb2 hB1)
  clear hW
  obtain ⟨hle,hl16⟩:=aJ HF.out
  have HLE:=ym hle
  clear hle
  refine (bP HX2.out (yn hB1 hb2.size) (by omega)).mono ?_
  rintro e w3 ⟨⟨v,rfl,hv⟩,hb⟩
  obtain ⟨A3,cc,rfl⟩:=hv.form
  have HV:=ym (hv.leaves HLE.out)
  have HB3:=ym (ac HB2.out hb)
  have b_r3:=b_r2.later hb
  have b_x3:=b_x.later hb
  clear hv hb
  have k_x:=b_x3.cell
  have l_x:=b_x3.lt
  have f_x:=b_x3.free
  have k_r:=b_r3.cell
  have f_r:=b_r3.free
  have l_r3:=b_r3.lt
  clear k_b l_b l_r c0 c1 c2 c3
  go_wp2_with fail
  have hbase:w2.heap.size=w.heap.size+1+1+1:=by omega
  have HO:TmOwn d w2.heap.size w3 x A3 cc:=⟨HV.out,HI.out.1,HI.out.2.1,HI.out.2.2,by omega⟩
  have HO4:=(HO.far (g:=w.heap.size+1+1) (i:=3) (by omega) (.slice A3 x.l.length cc)).put4 (g:=w.heap.size+1) (by omega) (.int .i64 x.kind) (.int .i64 x.n) (.string x.s) (.slice A3 x.l.length cc)
  have b_r4:=b_r3.far (c:=w.heap.size+1+1) (by omega) 3 (.slice A3 x.l.length cc)
  refine bodyPost_ret (al rfl rfl (dq b_r4 (.int .i64 x.kind) (.int .i64 x.n) (.string x.s) (.slice A3 x.l.length cc)) rfl) rfl ?_
  rw [HR.out]
  exact ⟨⟨A3,cc,rfl,HO4.lower (by omega)⟩,cB (HB3.out.setCell (p:=⟨w.heap.size+1+1,3,none⟩) (by show w.heap.size≤w.heap.size+1+1;omega) _) (by omega) _ _ _ _⟩
 ·have HR:Hid (cT b (bs name)=none):=ym (by unfold cT;rw [if_neg hm])
  have hd:decide (bs name∈b.names)=false:=by simpa using hm
  rw [hd]
  clear hm hd
  have k_r:=b_r.cell
  have f_r:=b_r.free
  go_wp2_with fail
  refine bodyPost_ret (al rfl rfl (dq BR.out (.int .i64 0) (.int .i64 0) (.string ⟨#[]⟩) (.slice none 0 0)) rfl) rfl ?_
  rw [HR.out]
  exact ⟨⟨none,0,rfl,TmOwn.no⟩,cB HB1.out (by omega) _ _ _ _⟩
def ic (b:Bd) (i:Nat):Bool:=
 match b.names[i]?,b.terms[i]?,b.names[i-1]? with
 | some n,some t,some p=>fp n&&af t&&(decide (i=0)||decide (p<n))
 | _,_,_=>false
def bB (b:Bd):Bool:=decide (b.names.length=b.terms.length)&&decide (b.names.length≤32)&&(List.range b.names.length).all (ic b)
theorem de {d B cn ct:Nat} {b:Bd} {An At:Option Addr} {w:World} (hn:RL cR w B (b.names.map mkS) An) (ht:RL (TmR (d+1)) w B b.terms At) (hB:B≤w.heap.size) :
 Calls Tryz.prog 82 #[.agg (bdV An b.names.length cn At b.terms.length ct)] w fun e w'=>e=.returned (.bool (bB b))∧Below w.heap.size w w':=by
 have HN:=ym hn
 have HT:=ym ht
 clear hn ht
 unfold bdV
 go_enter Tryz.func82,Tryz.ntmps82
 by_cases hlen:b.names.length=b.terms.length
 ·have ql:((b.names.length:Int) !=b.terms.length)=false:=by simp [hlen]
  have HLN:=ym hlen
  clear hlen
  by_cases hfew:b.names.length≤32
  ·have qf:decide ((32:Int)<b.names.length)=false:=by simp;omega
   go_wp2_with fail
   generalize hW:World.alloc _ _=w1
   obtain ⟨hb1,hz⟩:=al1 hW
   have HBB:=ym (n11 hW)
   have HB1:=ym hb1
   clear hW hb1
   go_loopw [21] (fun i wr=>∃k:Nat,k≤b.names.length∧i=.int .i64 k∧Below w1.heap.size w1 wr∧∀i,i<k→ic b i=true) (fun i _=>b.names.length-(intOf i).toNat)
   case atStart=>exact ⟨0,yp _,rfl,yq _ _,fun i h=>absurd h (by omega)⟩
   case round=>
    obtain ⟨k,hk,rfl,hbw,hall⟩:=hrel
    have HA:=ym hall
    have HWR:=ym hbw
    have HBR:=ym (HBB.out.later hbw)
    have HBw:Hid (Below w.heap.size w wr):=ym (ac HB1.out hbw)
    have hB1:B≤w1.heap.size:=by omega
    have hsz:=hbw.size
    clear hall hbw
    by_cases hlt:k<b.names.length
    ·have HN1:=ym (HN.out.keep HBw.out hB)
     have HT1:=ym (HT.out.keep HBw.out hB)
     have hBr:B≤wr.heap.size:=by omega
     have hlt2:k<b.terms.length:=by rw [←HLN.out];exact hlt
     obtain ⟨bn_,offn,rfl,hobn,hcn⟩:=lz HN1.out (yq _ _) hBr (by omega)
     obtain ⟨bt_,offt,rfl,hobt⟩:=HT1.out.base (yq _ _) hBr (by omega)
     obtain ⟨x,vs,hx,hlen,hcell,hr⟩:=HT1.out.at_ (yq _ _) hBr hlt2
     obtain ⟨Ax,cx,rfl,g1,g2,g3,g4,g5,_⟩:=RTm.cells (show RTm wr B (d+1) x vs from hr)
     have c0:wr.cell? ⟨bt_,offt+k*4,none⟩=some (.int .i64 x.kind):=hcell 0 _ rfl
     have c1:wr.cell? ⟨bt_,offt+k*4+1,none⟩=some (.int .i64 x.n):=hcell 1 _ rfl
     have c2:wr.cell? ⟨bt_,offt+k*4+2,none⟩=some (.string x.s):=hcell 2 _ rfl
     have c3:wr.cell? ⟨bt_,offt+k*4+3,none⟩=some (.slice Ax x.l.length cx):=hcell 3 _ rfl
     have cn0:=hcn k hlt
     have cn1:=hcn (k-1) (by omega)
     have k_b:=HBR.out.cell
     have l_b:=HBR.out.lt
     have hxe:b.terms[k]=x:=by
      rw [yy hlt2] at hx
      simpa using hx
     obtain ⟨y,vy,hy,_,_,hry⟩:=HN1.out.at_ (yq _ _) hBr (k:=k) (by simpa using hlt)
     have hye:y=mkS b.names[k]:=by simpa [hlt,eq_comm] using hy
     have hsz16:(mkS b.names[k]).size≤140737488351232:=hye▸(show cR.rd wr B y vy from hry).2
     have HX:=ym hr
     have HAT:Hid (ic b k=(fp (bs (mkS b.names[k]))&&af x&&(decide (k=0)||decide (bs (mkS b.names[k-1])<bs (mkS b.names[k]))))):=ym (by
      unfold ic
      rw [yy hlt,yy hlt2,yy (show k-1<b.names.length by omega),hxe,jq,jq])
     clear hcell hlen hcn hx hr hry hy hye hxe
     generalize mkS b.names[k]=nk at *
     generalize mkS b.names[k-1]=np at *
     have HNO:Hid (ic b k=false→bB b=false):=ym (fun h=>by
      rw [Bool.eq_false_iff]
      intro h2
      unfold bB at h2
      rw [yx,List.all_eq_true] at h2
      have:=h2.2 k (by simpa using hlt)
      rw [h] at this
      cases this)
     by_cases hnm:fp (bs nk)=true
     ·by_cases hfx:af x=true
      ·have hk1:(k:Int)-1=((k-1:Nat):Int)∨k=0:=by omega
       have hle:(!Op.bytesLess np.toList nk.toList) = !decide (bs np<bs nk):=by rw [dj,ByteArray.toList_eq,ByteArray.toList_eq]
       rcases Nat.eq_zero_or_pos k with h0 | h0
       ·have hAT:ic b k=true:=by rw [HAT.out,hnm,hfx,decide_eq_true h0];rfl
        have HAT2:=ym hAT
        have H0:=ym h0
        clear h0 hAT hle hk1
        go_wp2_with (first
         | (go_at_call 44;refine (eU _ _ (by unfold maxLen;omega)).mono ?_;rintro e w' ⟨rfl,rfl⟩)
         | (go_at_call 47;refine (ai HX.out hBr).mono ?_;rintro e w2 ⟨rfl,hb2⟩;have cn2:=(hb2.cell (p:=⟨bn_,offn+(k-1),none⟩) hobn).trans cn1;have k_b2:=(HBR.out.later hb2).cell;have HB2:=ym (ac HBw.out hb2);have HBR2:=ym (Below.trans HWR.out (hb2.mono hsz));clear hb2))
        ·exact absurd H0.out (by omega)
        all_goals
         go_roundw
         case rel=>exact ⟨k+1,by omega,by go_num,HBR2.out,fun i hi=>by
          rcases Nat.lt_or_ge i k with h1 | h1
          ·exact HA.out i h1
          ·obtain rfl:i=k:=by omega
           exact HAT2.out⟩
         case measure=>simp [intOf];omega
       ·have hk2:(k:Int)-1=((k-1:Nat):Int):=by omega
        have q0:decide ((0:Int)<k)=true:=by simp;omega
        clear hk1
        have HLE:=ym hle
        clear hle
        go_wp2_with (first
         | (go_at_call 44;refine (eU _ _ (by unfold maxLen;omega)).mono ?_;rintro e w' ⟨rfl,rfl⟩)
         | (go_at_call 47;refine (ai HX.out hBr).mono ?_;rintro e w2 ⟨rfl,hb2⟩;have cn2:=(hb2.cell (p:=⟨bn_,offn+(k-1),none⟩) hobn).trans cn1;have k_b2:=(HBR.out.later hb2).cell;have HB2:=ym (ac HBw.out hb2);have HBR2:=ym (Below.trans HWR.out (hb2.mono hsz));clear hb2))
        ·rename_i hq
         go_ret
         refine ⟨ae ?_,HB2.out⟩
         rw [HLE.out] at hq
         have hq2:decide (bs np<bs nk)=false:=by simpa using hq
         have hq1:decide (k=0)=false:=by simp;omega
         rw [HNO.out (by rw [HAT.out,hnm,hfx,hq1,hq2];rfl)]
        ·rename_i hq
         rw [HLE.out] at hq
         have hq2:decide (bs np<bs nk)=true:=by simpa using hq
         have HAT2:Hid (ic b k=true):=ym (by rw [HAT.out,hnm,hfx,hq2,Bool.or_true];rfl)
         clear hq hq2
         go_roundw
         case rel=>exact ⟨k+1,by omega,by go_num,HBR2.out,fun i hi=>by
          rcases Nat.lt_or_ge i k with h1 | h1
          ·exact HA.out i h1
          ·obtain rfl:i=k:=by omega
           exact HAT2.out⟩
         case measure=>simp [intOf];omega
      ·have hfx':af x=false:=by simpa using hfx
       clear hfx
       go_wp2_with (first
        | (go_at_call 44;refine (eU _ _ (by unfold maxLen;omega)).mono ?_;rintro e w' ⟨rfl,rfl⟩)
        | (go_at_call 47;refine (ai HX.out hBr).mono ?_;rintro e w2 ⟨rfl,hb2⟩;have cn2:=(hb2.cell (p:=⟨bn_,offn+(k-1),none⟩) hobn).trans cn1;have k_b2:=(HBR.out.later hb2).cell;have HB2:=ym (ac HBw.out hb2);have HBR2:=ym (Below.trans HWR.out (hb2.mono hsz));clear hb2))
       go_ret
       refine ⟨ae ?_,HB2.out⟩
       rw [HNO.out (by rw [HAT.out,hnm,hfx'];rfl)]
     ·have hnm':fp (bs nk)=false:=by simpa using hnm
      clear hnm
      go_wp2_with (first
       | (go_at_call 44;refine (eU _ _ (by unfold maxLen;omega)).mono ?_;rintro e w' ⟨rfl,rfl⟩)
       | (go_at_call 47;refine (ai HX.out hBr).mono ?_;rintro e w2 ⟨rfl,hb2⟩;have cn2:=(hb2.cell (p:=⟨bn_,offn+(k-1),none⟩) hobn).trans cn1;have k_b2:=(HBR.out.later hb2).cell;have HB2:=ym (ac HBw.out hb2);have HBR2:=ym (Below.trans HWR.out (hb2.mono hsz));clear hb2))
      go_ret
      refine ⟨ae ?_,HBw.out⟩
      rw [HNO.out (by rw [HAT.out,hnm'];rfl)]
    ·go_wp2_with fail
     go_ret
     obtain rfl:k=b.names.length:=by omega
     refine ⟨ae ?_,HBw.out⟩
     unfold bB
     rw [eq_comm,yx,yx,List.all_eq_true]
     exact ⟨⟨decide_eq_true HLN.out,decide_eq_true hfew⟩,fun i hi=>HA.out i (by simpa using hi)⟩
  ·have qf:decide ((32:Int)<b.names.length)=true:=by simp;omega
   go_wp2_with fail
   go_ret
   refine ⟨ae ?_,ar rfl⟩
   unfold bB
   simp [hfew]
 ·have ql:((b.names.length:Int) !=b.terms.length)=true:=by simp;omega
  have HLN:=ym hlen
  clear hlen
  go_wp2_with fail
  go_ret
  refine ⟨ae ?_,ar rfl⟩
  unfold bB
  simp [HLN.out]
theorem dJ {b:Bd} (h:bB b=true):BdOk b∧∀n∈b.names,fp n=true:=by
 unfold bB at h
 rw [yx,yx,List.all_eq_true] at h
 obtain ⟨⟨h1,h2⟩,h3⟩:=h
 have hlen:=of_decide_eq_true h1
 have hat:∀i (hi:i<b.names.length),fp b.names[i]=true∧af (b.terms[i]'(hlen▸hi))=true∧(i=0∨b.names[i-1]<b.names[i]):=by
  intro i hi
  have:=h3 i (by simpa using hi)
  unfold ic at this
  rw [yy hi,yy (hlen▸hi),yy (show i-1<b.names.length by omega)] at this
  simpa [and_assoc] using this
 refine ⟨⟨hlen,of_decide_eq_true h2,?_,fun t ht=>?_⟩,fun n hn=>?_⟩
 ·rw [List.pairwise_iff_getElem]
  intro i j hi hj hij
  have:∀m,∀hm:i+m+1<b.names.length,b.names[i]<b.names[i+m+1]:=by
   intro m
   induction m with
   | zero=>
     intro hm
     rcases (hat (i+0+1) hm).2.2 with h | h
     ·omega
     ·exact h
   | succ m ih=>
     intro hm
     rcases (hat (i+(m+1)+1) hm).2.2 with h | h
     ·omega
     ·exact List.lt_trans (ih (by omega)) h
  have:=this (j-i-1) (by omega)
  have e:i+(j-i-1)+1=j:=by omega
  simpa only [e] using this
 ·obtain ⟨i,hi,rfl⟩:=List.getElem_of_mem ht
  exact (hat i (hlen▸hi)).2.1
 ·obtain ⟨i,hi,rfl⟩:=List.getElem_of_mem hn
  exact (hat i hi).1
theorem wJ {d B cn ct:Nat} {b:Bd} {An At:Option Addr} {name:ByteArray} {w:World} (hn:RL cR w B (b.names.map mkS) An) (ht:RL (TmR (d+1)) w B b.terms At) (hB:B≤w.heap.size) :
 Calls Tryz.prog 83 #[.agg (bdV An b.names.length cn At b.terms.length ct),.string name] w fun e w'=>lZ d w w' (if bB b=true then cT b (bs name) else none) e:=by
 have HN:=ym hn
 have HT:=ym ht
 clear hn ht
 unfold bdV
 by_cases hok:bB b=true
 ·rw [if_pos hok]
  have HOK:=ym hok
  clear hok
  go_enter Tryz.func83,Tryz.ntmps83
  go_wp2_with fail
  generalize hW:World.alloc _ _=w1
  obtain ⟨hb1,hz⟩:=al2 hW
  have b_b:=n21 hW
  have b_r:=n22 hW
  have HB1:=ym hb1
  clear hW
  refine (de (cn:=cn) (ct:=ct) (HN.out.keep hb1 hB) (HT.out.keep hb1 hB) (yn hB hb1.size)).mono ?_
  rintro e w2 ⟨rfl,hb2⟩
  have HB2:=ym (ac HB1.out hb2)
  have b_b2:=b_b.later hb2
  have b_r2:=b_r.later hb2
  clear b_b b_r hb1 hb2
  have k_b:=b_b2.cell
  have l_b:=b_b2.lt
  have k_r:=b_r2.cell
  have f_r:=b_r2.free
  have l_r:=b_r2.lt
  rw [HOK.out]
  have HBD:=ym (dJ HOK.out).1
  go_wp2_with fail
  refine (kN (cn:=cn) (ct:=ct) (name:=name) HBD.out (HN.out.keep HB2.out hB) (HT.out.keep HB2.out hB) (yn hB HB2.out.size)).mono ?_
  rintro e w3 ⟨⟨A3,c3,rfl,hown⟩,hb3⟩
  have HO:=ym hown
  have HB3:=ym (ac HB2.out hb3)
  have b_r3:=b_r2.later hb3
  have hsz2:=HB2.out.size
  clear hown hb3 k_b l_b k_r f_r b_b2
  have k_r:=b_r3.cell
  have f_r:=b_r3.free
  have l_r3:=b_r3.lt
  generalize hq:cT b (bs name)=q at *
  go_wp2_with fail
  refine bodyPost_ret (al rfl rfl (dq b_r3 (.int .i64 (q.getD noT).kind) (.int .i64 (q.getD noT).n) (.string (q.getD noT).s) (.slice A3 (q.getD noT).l.length c3)) rfl) rfl ?_
  rw [hq]
  exact ⟨⟨A3,c3,rfl,(HO.out.put4 (g:=w.heap.size+1) l_r _ _ _ _).lower (by omega)⟩,cB HB3.out (by omega) _ _ _ _⟩
 ·rw [if_neg hok]
  have hno:bB b=false:=by simpa using hok
  have HOK:=ym hno
  clear hok hno
  go_enter Tryz.func83,Tryz.ntmps83
  go_wp2_with fail
  generalize hW:World.alloc _ _=w1
  obtain ⟨hb1,hz⟩:=al2 hW
  have b_b:=n21 hW
  have b_r:=n22 hW
  have HB1:=ym hb1
  clear hW
  refine (de (cn:=cn) (ct:=ct) (HN.out.keep hb1 hB) (HT.out.keep hb1 hB) (yn hB hb1.size)).mono ?_
  rintro e w2 ⟨rfl,hb2⟩
  have HB2:=ym (ac HB1.out hb2)
  have b_b2:=b_b.later hb2
  have b_r2:=b_r.later hb2
  clear b_b b_r hb1 hb2
  have k_b:=b_b2.cell
  have l_b:=b_b2.lt
  have k_r:=b_r2.cell
  have f_r:=b_r2.free
  have l_r:=b_r2.lt
  rw [HOK.out]
  go_wp2_with fail
  refine bodyPost_ret (al rfl rfl (dq b_r2 (.int .i64 0) (.int .i64 0) (.string ⟨#[]⟩) (.slice none 0 0)) rfl) rfl ?_
  exact ⟨⟨none,0,rfl,TmOwn.no⟩,cB HB2.out (by omega) _ _ _ _⟩
def dv:List aW→List aW→Int
 | [],[]=>0
 | [],_::_=>-1
 | _::_,[]=>1
 | x::xs,y::ys=>if dE x y=0 then dv xs ys else dE x y
theorem fW (xs ys:List aW) (A A':Option Addr) (c c' B:Nat) (w:World) (hA:RL cR w B (xs.map mkS) A) (hA':RL cR w B (ys.map mkS) A') (hB:B≤w.heap.size) (hn:xs.length≤1000000) (hn':ys.length≤1000000) :
 Calls Tryz.prog 100 #[.slice A xs.length c,.slice A' ys.length c'] w fun e w'=>e=.returned (.int .i64 (dv xs ys))∧w=w':=by
 have HA:=ym hA
 have HA':=ym hA'
 clear hA hA'
 go_enter Tryz.func100,Tryz.ntmps100
 go_wp2_with fail
 go_loop [11] (fun i=>∃k:Nat,k≤xs.length∧i=.int .i64 k∧Hid (dv xs ys=dv (xs.drop k) (ys.drop k))) (fun i=>xs.length-(intOf i).toNat)
 case atStart=>exact ⟨0,yp _,rfl,ym rfl⟩
 case round=>
  obtain ⟨k,hk,rfl,HE⟩:=hrel
  by_cases hlt:k<xs.length
  ·obtain ⟨b,off,rfl,hb,hc⟩:=lz HA.out (yq _ _) hB (by omega)
   have c0:=hc k hlt
   clear hc
   have hI0:(0:Int)≤(k:Int):=Int.natCast_nonneg _
   have hI1:(k:Int)<(xs.length:Int):=by omega
   have hx':xs.drop k=xs[k]::xs.drop (k+1):=List.drop_eq_getElem_cons hlt
   by_cases hlt2:k<ys.length
   ·obtain ⟨b',off',rfl,hb',hc'⟩:=lz HA'.out (yq _ _) hB (by omega)
    have c1:=hc' k hlt2
    clear hc'
    have hI2:(k:Int)<(ys.length:Int):=by omega
    have hg:decide ((k:Int)≥ys.length)=false:=by simp;omega
    have hg2:decide ((ys.length:Int)≤(k:Int))=false:=by simp;omega
    have hy':ys.drop k=ys[k]::ys.drop (k+1):=List.drop_eq_getElem_cons hlt2
    have HE2:Hid (dv xs ys=if dE xs[k] ys[k]=0 then dv (xs.drop (k+1)) (ys.drop (k+1)) else dE xs[k] ys[k]):=ym (by rw [HE.out,hx',hy'];rfl)
    have HCE:Hid (dE (bs (mkS xs[k])) (bs (mkS ys[k]))=dE xs[k] ys[k]):=ym (by rw [jq,jq])
    clear hx' hy' HE
    go_wp2_with (go_at_call 28;refine (cW _ _ _).mono ?_;rintro e w' ⟨rfl,rfl⟩;rw [HCE.out];by_cases hz:dE xs[k] ys[k]=0)
    ·have hz':(dE xs[k] ys[k] !=0)=false:=by simpa using hz
     have HZ:=ym hz
     generalize dE xs[k] ys[k]=r at *
     clear hz
     go_wp2_with fail
     go_round
     case rel=>exact ⟨k+1,by omega,by go_num,ym (by rw [HE2.out,if_pos HZ.out])⟩
     case measure=>simp [intOf];omega
    ·have hz':(dE xs[k] ys[k] !=0)=true:=by simpa using hz
     have HZ:=ym hz
     generalize dE xs[k] ys[k]=r at *
     clear hz
     go_wp2_with fail
     go_ret
     exact ⟨az (by rw [HE2.out,if_neg HZ.out]),rfl⟩
   ·have hg:decide ((k:Int)≥ys.length)=true:=by simp;omega
    have hg2:decide ((ys.length:Int)≤(k:Int))=true:=by simp;omega
    have HE2:Hid (dv xs ys=1):=ym (by rw [HE.out,hx',List.drop_eq_nil_of_le (show ys.length≤k by omega)];rfl)
    clear hx' HE
    go_wp2_with fail
    go_ret
    exact ⟨az HE2.out.symm,rfl⟩
  ·have hz:xs.drop k=[]:=List.drop_eq_nil_of_le (by omega)
   obtain rfl:k=xs.length:=by omega
   by_cases hlt2:xs.length<ys.length
   ·have HE2:Hid (dv xs ys=-1):=ym (by rw [HE.out,hz,List.drop_eq_getElem_cons hlt2];rfl)
    clear hz HE
    go_wp2_with fail
    go_ret
    exact ⟨az HE2.out.symm,rfl⟩
   ·have HE2:Hid (dv xs ys=0):=ym (by rw [HE.out,hz,List.drop_eq_nil_of_le (by omega)];rfl)
    clear hz HE
    go_wp2_with fail
    go_ret
    exact ⟨az HE2.out.symm,rfl⟩
structure Ans where
 b:Bd
 o:Int
def aR (x y:Ans):Int:=orL [dv x.b.names y.b.names,dG (cH 3) x.b.terms y.b.terms,eA x.o y.o]
def anV (x:Ans) (An:Option Addr) (cn:Nat) (At:Option Addr) (ct:Nat):List Value:=[.slice An x.b.names.length cn,.slice At x.b.terms.length ct,.int .u32 x.o]
def mJ (d:Nat):Reader Ans where
 k:=3
 rd:=fun w B x vs=>∃An cn At ct,vs=anV x An cn At ct∧RL cR w B (x.b.names.map mkS) An∧RL (TmR d) w B x.b.terms At
 keep:=fun hw hB ⟨An,cn,At,ct,e,h1,h2⟩=>⟨An,cn,At,ct,e,h1.keep hw hB,h2.keep hw hB⟩
 wide:=fun hB ⟨An,cn,At,ct,e,h1,h2⟩=>⟨An,cn,At,ct,e,h1.wide hB,h2.wide hB⟩
 len:=fun ⟨_,_,_,_,e,_⟩=>by rw [e];rfl
structure AnOk (x:Ans):Prop where
 nm:x.b.names.length≤32
 tm:x.b.terms.length≤32
theorem lK {d e B:Nat} {x y:Ans} {va vb:List Value} {w:World} (ha:(mJ d).rd w B x va) (hb:(mJ e).rd w B y vb) (hx:AnOk x) (hy:AnOk y) (hB:B≤w.heap.size) :
 Calls Tryz.prog 78 #[.agg va.toArray,.agg vb.toArray] w fun z w'=>z=.returned (.int .i64 (aR x y))∧Below w.heap.size w w':=by
 obtain ⟨An,cn,At,ct,rfl,hn,ht⟩:=ha
 obtain ⟨An',cn',At',ct',rfl,hn',ht'⟩:=hb
 have HN:=ym hn
 have HT:=ym ht
 have HN':=ym hn'
 have HT':=ym ht'
 obtain ⟨x1,x2⟩:=hx
 obtain ⟨y1,y2⟩:=hy
 clear hn ht hn' ht'
 unfold anV
 go_enter Tryz.func78,Tryz.ntmps78
 go_upto_region 1 with fail
 generalize hW:World.alloc _ _=w1
 obtain ⟨hb,hz⟩:=al2 hW
 have HA1:=ym (n21 hW)
 have HB1:=ym (n22 hW)
 have HU1:=ym hb
 clear hW hb
 have hsz:=HU1.out.size
 have hB1:B≤w1.heap.size:=yn hB hsz
 have HSL:Hid (∀{w':World},Below w1.heap.size w1 w'→(w'.cell? ⟨w.heap.size,0,none⟩=some (.slice An x.b.names.length cn)∧w'.cell? ⟨w.heap.size,1,none⟩=some (.slice At x.b.terms.length ct)∧w'.cell? ⟨w.heap.size,2,none⟩=some (.int .u32 x.o)∧w'.cell? ⟨w.heap.size+1,0,none⟩=some (.slice An' y.b.names.length cn')∧w'.cell? ⟨w.heap.size+1,1,none⟩=some (.slice At' y.b.terms.length ct')∧w'.cell? ⟨w.heap.size+1,2,none⟩=some (.int .u32 y.o))):=ym (fun hb=>⟨(HA1.out.later hb).cell 0,(HA1.out.later hb).cell 1,(HA1.out.later hb).cell 2,(HB1.out.later hb).cell 0,(HB1.out.later hb).cell 1,(HB1.out.later hb).cell 2⟩)
 refine aN (fun w'=>w'.cell? ⟨w.heap.size,0,none⟩=some (.slice An x.b.names.length cn)∧w'.cell? ⟨w.heap.size,1,none⟩=some (.slice At x.b.terms.length ct)∧w'.cell? ⟨w.heap.size,2,none⟩=some (.int .u32 x.o)∧w'.cell? ⟨w.heap.size+1,0,none⟩=some (.slice An' y.b.names.length cn')∧w'.cell? ⟨w.heap.size+1,1,none⟩=some (.slice At' y.b.terms.length ct')∧w'.cell? ⟨w.heap.size+1,2,none⟩=some (.int .u32 y.o)) (by kernel_rfl) (HSL.out (yq _ _).drew) ?_
 refine ab 0 ?_
 refine ab 1 ?_
 refine ab 2 ?_
 refine ab 3 ?_
 refine ab 4 ?_
 refine ab 5 ?_
 refine ab 7 ?_
 refine ab 8 ?_
 refine ab 9 ?_
 refine ab 10 ?_
 refine ab 11 ?_
 refine ab 12 ?_
 refine ab 14 ?_
 refine ab 15 ?_
 refine ab 16 ?_
 refine ab 17 ?_
 generalize hD:World.drew w1=w2
 have HU:Hid (Below w1.heap.size w1 w2):=ym (hD▸(yq w1.heap.size w1).drew)
 clear hD
 refine au (rs:=[6]) (by kernel_rfl) rfl ?_
 refine aj.cons rfl (fun K hK=>?_) aj.nil
 go_simp
 refine (fW x.b.names y.b.names An An' cn cn' B w2 (HN.out.keep (HU1.out.trans (HU.out.mono hsz)) hB) (HN'.out.keep (HU1.out.trans (HU.out.mono hsz)) hB) (yn hB1 HU.out.size) (by omega) (by omega)).mono ?_
 rintro e w' ⟨rfl,rfl⟩
 refine hK.out _ _ (HSL.out HU.out) ?_
 clear hK
 refine au (rs:=[13]) (by kernel_rfl) rfl ?_
 refine aj.cons rfl (fun K hK=>?_) aj.nil
 go_simp
 refine (dO 55 #[] (cH 3) d e x.b.terms y.b.terms At At' ct ct' B w2 gU (HT.out.keep (HU1.out.trans (HU.out.mono hsz)) hB) (HT'.out.keep (HU1.out.trans (HU.out.mono hsz)) hB) (yn hB1 HU.out.size) (by omega) (by omega) (fun x y vs ws w9 hb9 hx hy=>cX d e x y vs ws B w9 hx hy (yn (yn hB1 HU.out.size) hb9.size))).mono ?_
 rintro z w3 ⟨rfl,hb3⟩
 have HU3:Hid (Below w1.heap.size w1 w3):=ym (HU.out.trans (hb3.mono HU.out.size))
 clear hb3
 refine hK.out _ _ (HSL.out HU3.out) ?_
 clear hK
 refine au (rs:=[18]) (by kernel_rfl) rfl ?_
 refine aj.cons rfl (fun K hK=>?_) aj.nil
 go_simp
 refine (iT _ _ _).mono ?_
 rintro e w' ⟨rfl,rfl⟩
 refine hK.out _ _ (HSL.out HU3.out) ?_
 clear hK
 refine au (rs:=[19]) (by kernel_rfl) rfl ?_
 refine aj.cons rfl (fun K hK=>?_) aj.nil
 go_simp
 generalize hW:World.alloc _ _=w4
 obtain ⟨hb4,hz4⟩:=al1 hW
 have HL4:=ym (n11 hW)
 have HU4:Hid (Below w1.heap.size w1 w4):=ym (HU3.out.trans (hb4.mono HU3.out.size))
 clear hW hb4
 refine hK.out _ _ (HSL.out HU4.out) ?_
 clear hK
 refine au (rs:=[20]) (by kernel_rfl) rfl ?_
 refine aj.cons rfl (fun K hK=>?_) aj.nil
 go_simp
 refine (iB [dv x.b.names y.b.names,dG (cH 3) x.b.terms y.b.terms,eA x.o y.o] w3.heap.size w4 (fun i hi=>by
  rw [HL4.out.cell i]
  match i,hi with
  | 0,_=>rfl
  | 1,_=>rfl
  | 2,_=>rfl) (by simp)).mono ?_
 rintro e w' ⟨rfl,rfl⟩
 refine hK.out _ _ (HSL.out HU4.out) ?_
 clear hK
 refine ab 21 ?_
 refine bY (by kernel_rfl) ?_
 go_wp2_with fail
 go_ret
 exact ⟨az rfl,HU1.out.trans (HU4.out.mono hsz)⟩
theorem kn {d e B:Nat} {x y:Ans} {va vb:List Value} {w:World} (ha:(mJ d).rd w B x va) (hb:(mJ e).rd w B y vb) (hx:AnOk x) (hy:AnOk y) (hB:B≤w.heap.size) :
 Calls Tryz.prog 80 #[.agg va.toArray,.agg vb.toArray] w fun z w'=>z=.returned (.bool (aR x y==0))∧Below w.heap.size w w':=by
 have HA:=ym ha
 have HB:=ym hb
 obtain ⟨An,cn,At,ct,rfl,_,_⟩:=ha
 obtain ⟨An',cn',At',ct',rfl,_,_⟩:=hb
 unfold anV at HA HB ⊢
 go_enter Tryz.func80,Tryz.ntmps80
 go_wp2_with fail
 generalize hW:World.alloc _ _=w1
 obtain ⟨hb,hz⟩:=al2 hW
 have HU1:=ym hb
 have hsz:=hb.size
 clear hW hb
 refine (lK (d:=d) (e:=e) (B:=B) (va:=[_,_,_]) (vb:=[_,_,_]) ((mJ d).keep HU1.out hB HA.out) ((mJ e).keep HU1.out hB HB.out) hx hy (yn hB hsz)).mono ?_
 rintro z w2 ⟨rfl,hb⟩
 have HU2:=ym (ac HU1.out hb)
 clear hb
 go_wp2_with fail
 go_ret
 exact ⟨rfl,HU2.out⟩
end Go.Proofs.YtjpndglegpcdnaaGreat
