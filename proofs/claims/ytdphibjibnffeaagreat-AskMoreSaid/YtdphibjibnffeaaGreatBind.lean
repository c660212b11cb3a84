/- expr.MayBind. -/
import Derived.Test.YtdphibjibnffeaaGreatRule1
import Derived.Test.YtdphibjibnffeaaGreatShelf
import Derived.Lib.OwnBridge
import Derived.Test.YtdphibjibnffeaaGreatReg1
import Derived.Test.YtdphibjibnffeaaGreatReg3
import Derived.Test.YtdphibjibnffeaaGreatSet2
set_option linter.unusedVariables false
set_option linter.unusedSimpArgs false
set_option maxRecDepth 100000
set_option maxHeartbeats 8000000
namespace Go.Proofs.YtdphibjibnffeaaGreat
open Go.ChangeShapes Go.WideShapes Go.ChangeAt Go.RowKit
theorem nQ (s:ByteArray):encStr (bs s)=.string s:=by simp [encStr]
def mkS (l:List UInt8):ByteArray:=⟨l.toArray⟩
theorem ju (l:List UInt8):bs (mkS l)=l:=by simp [mkS,bs]
theorem mkS_bs (s:ByteArray):mkS (bs s)=s:=by cases s;simp [mkS,bs]
def jt (w:World) (base:Nat) (v:Value) (L:List (List UInt8)):Prop:=w.ownsRow base 9 1 v L.length (L.map encStr)
theorem oG {w:World} {base:Nat} {e:TypeId} {size n:Nat} {v:Value} {xs:List Value} (h:w.ownsRow base e size v n xs) (os:Array Obj):(Sort.grow w os).ownsRow base e size v n xs:=by
 refine ⟨h.1,?_⟩
 rcases h.2 with h2 | ⟨g,cap,cur,hv,hg,hh,r⟩
 ·exact .inl h2
 ·refine .inr ⟨g,cap,cur,hv,hg,?_,r⟩
  have hlt:g<w.heap.size:=by
   rcases Nat.lt_or_ge g w.heap.size with h' | h'
   ·exact h'
   ·rw [Array.getElem?_eq_none h'] at hh;cases hh
  show (w.heap++os)[g]? = _
  rw [Array.getElem?_append_left hlt]
  exact hh
theorem rH {B:Nat} {w w':World} (h:Below B w w') (hB:B≤w'.heap.size) (os:Array Obj):Below B w (Sort.grow w' os):=
 ⟨h.os,h.tape,h.output,by have:=h.size;simp [Sort.grow];omega,fun k hk=>by
  rw [←h.block k hk]
  show (w'.heap++os)[k]? = _
  rw [Array.getElem?_append_left (by omega)]⟩
def jQ (L:List (List UInt8)):List (List UInt8):=L.mergeSort fun x y=>decide (x≤y)
theorem cE (L:List (List UInt8)):(jQ L).length=L.length:=List.length_mergeSort _
theorem oY (w:World) (base:Nat) (v:Value) (L:List (List UInt8)) (h:jt w base v L) (hb:base≤w.heap.size) (hn:L.length≤1000000000) :
 Calls Tryz.prog 168 #[v] w fun e w'=>e=.returned (.tuple #[])∧jt w' base v (jQ L)∧Below base w w':=by
 by_cases hv:v=.slice none 0 0
 ·subst hv
  have hL:L=[]:=by
   rcases h.2 with ⟨_,h2⟩ | ⟨g,cap,cur,hv,_⟩
   ·exact List.eq_nil_of_length_eq_zero h2
   ·cases hv
  subst hL
  refine (Tryz.slices_Sort_string_none none 0 w).mono fun e w' ⟨he,hw⟩=>?_
  subst hw
  exact ⟨he,by simpa [jQ,jt] using h,za _ _⟩
 ·obtain ⟨g,cap,rfl,hbg,hg,hnc,hm,hl,hH⟩:=Lib.holds_of_ownsRow h hv
  refine (Tryz.slices_Sort_string g 0 cap L w hH hg (by omega)).mono fun e w' ⟨he,n,os,hw⟩=>?_
  subst hw
  refine ⟨he,?_,rH (Lib.below_putRow (za _ _) hbg) (by simp [Sort.ahead];omega) os⟩
  have h1:=Lib.ownsRow_putRow (q:=n) (k:=L.length) (ys:=jQ L) h (cE L) (yY _)
  have h2:=oG h1 os
  unfold jt
  rw [cE]
  rw [List.take_of_length_le (by rw [cE];exact yY _)] at h2
  exact h2
theorem jw (w:World) (base:Nat) (v:Value) (L:List (List UInt8)) (h:jt w base v L) (hn:L.length≤1000000000) :
 Calls Tryz.prog 169 #[v] w fun e w'=>∃v',e=.returned v'∧jt w' base v' (Lib.compact L)∧Below base w w':=by
 by_cases hv:v=.slice none 0 0
 ·subst hv
  have hL:L=[]:=by
   rcases h.2 with ⟨_,h2⟩ | ⟨g,cap,cur,hv,_⟩
   ·exact List.eq_nil_of_length_eq_zero h2
   ·cases hv
  subst hL
  refine (Tryz.slices_Compact_string_empty none 0 w).mono fun e w' ⟨he,hw⟩=>?_
  subst hw
  exact ⟨_,he,by simpa [Lib.compact,Lib.compactUpTo,jt] using h,za _ _⟩
 ·obtain ⟨g,cap,rfl,hbg,hg,hnc,hm,hl,hH⟩:=Lib.holds_of_ownsRow h hv
  refine (Tryz.slices_Compact_string g 0 cap L w hH (by omega) hnc).mono fun e w' ⟨he,q,hw⟩=>?_
  subst hw
  have hc:=Lib.compact_length_le L
  refine ⟨_,he,?_,Lib.below_putRow (za _ _) hbg⟩
  have h1:=Lib.ownsRow_putRow (q:=q) (k:=(Lib.compact L).length) (ys:=Lib.compact L++List.replicate (L.length-(Lib.compact L).length) []) h (by simp;omega) hc
  rw [List.take_left'] at h1
  ·exact h1
  ·rfl
abbrev aS:=List UInt8
theorem uT (x y:aS):x≤y∨y≤x:=List.le_total x y
theorem uU {x y z:aS} (h:x≤y) (k:y≤z):x≤z:=List.le_trans h k
theorem pZ {x y:aS} (h:x≤y) (k:x≠y):x<y:=by
 rcases List.le_iff_lt_or_eq.1 h with h | h
 ·exact h
 ·exact absurd h k
theorem pY {x y z:aS} (h:x≤y) (k:y<z):x<z:=List.lt_of_le_of_lt h k
theorem jH (L:List aS):(jQ L).Pairwise (·≤·):=by
 have:=List.pairwise_mergeSort (le:=fun x y:aS=>decide (x≤y)) (fun a b c h k=>by simp at *;exact uU h k) (fun a b=>by simpa using uT a b) L
 exact this.imp (by simp)
theorem vj (L:List aS) (x:aS):x∈jQ L↔x∈L:=List.mem_mergeSort
theorem fm (zs:List aS) (hs:zs.Pairwise (·≤·)):∀m,m≤zs.length→(∀x,x∈Lib.compactUpTo zs.toArray m↔x∈zs.take m)∧(Lib.compactUpTo zs.toArray m).Pairwise (· < ·):=by
 intro m
 induction m with
 | zero=>intro _;simp [Lib.compactUpTo]
 | succ m ih=>
   intro hm
   obtain ⟨h1,h2⟩:=ih (by omega)
   have hget:zs.toArray[m]! = zs[m]:=by simp [show m<zs.length by omega]
   rw [Lib.compactUpTo_succ]
   have htake:zs.take (m+1)=zs.take m++[zs[m]]:=by rw [List.take_succ_eq_append_getElem (by omega)]
   have hle:∀x,x∈zs.take m→x≤zs[m]:=by
    intro x hx
    obtain ⟨i,hi,rfl⟩:=List.getElem_of_mem hx
    simp only [List.length_take] at hi
    rw [List.getElem_take]
    exact List.pairwise_iff_getElem.1 hs i m _ _ (by omega)
   by_cases hk:Lib.keeps zs.toArray m=true
   ·rw [if_pos hk,hget]
    refine ⟨fun x=>by rw [htake,List.mem_append,List.mem_append,h1],?_⟩
    rw [List.pairwise_append]
    refine ⟨h2,by simp,fun a ha b hb=>?_⟩
    obtain rfl:b=zs[m]:=by simpa using hb
    have ha':=(h1 a).1 ha
    rcases Nat.eq_zero_or_pos m with h0 | h0
    ·subst h0;simp at ha'
    ·have hprev:zs.toArray[m-1]! = zs[m-1]'(by omega):=by simp [show m-1<zs.length by omega]
     have hne:zs[m]≠zs[m-1]'(by omega):=by
      intro e
      have:=Lib.keeps_neg (d:=zs.toArray) h0 (by rw [hget,hprev,e])
      rw [this] at hk;cases hk
     have hle2:a≤zs[m-1]'(by omega):=by
      obtain ⟨i,hi,rfl⟩:=List.getElem_of_mem ha'
      simp only [List.length_take] at hi
      rw [List.getElem_take]
      rcases Nat.lt_or_ge i (m-1) with h | h
      ·exact List.pairwise_iff_getElem.1 hs i (m-1) _ _ h
      ·obtain rfl:i=m-1:=by omega
       exact List.le_refl _
     exact pY hle2 (pZ (hle _ (by rw [List.mem_take_iff_getElem];exact ⟨m-1,by omega,rfl⟩)) (Ne.symm hne))
   ·rw [if_neg hk,List.append_nil]
    refine ⟨fun x=>?_,h2⟩
    rw [htake,List.mem_append,h1]
    constructor
    ·exact .inl
    ·rintro (h | h)
     ·exact h
     ·obtain rfl:x=zs[m]:=by simpa using h
      rcases Nat.eq_zero_or_pos m with h0 | h0
      ·exact absurd (Lib.keeps_lt_one _ m (by omega)) hk
      ·have hprev:zs.toArray[m-1]! = zs[m-1]'(by omega):=by simp [show m-1<zs.length by omega]
       have he:zs[m]=zs[m-1]'(by omega):=by
        apply Classical.byContradiction
        intro hne
        exact hk (Lib.keeps_pos (by rw [hget,hprev];exact hne))
       rw [he,List.mem_take_iff_getElem]
       exact ⟨m-1,by omega,rfl⟩
def eR (L:List aS):List aS:=Lib.compact (jQ L)
theorem oy (L:List aS) (x:aS):x∈eR L↔x∈L:=by
 have:=(fm (jQ L) (jH L) (jQ L).length (yY _)).1 x
 rw [List.take_length,vj] at this
 exact this
theorem jI (L:List aS):(eR L).Pairwise (· < ·):=(fm (jQ L) (jH L) (jQ L).length (yY _)).2
theorem ey (L:List aS):(eR L).length≤L.length:=by
 have:=Lib.compact_length_le (jQ L)
 rwa [cE] at this
theorem qt {k:IntKind} {a b:Int} {x y:Bool} (h:a=b) (h':x=y):Ending.returned (.tuple #[.int k a,.bool x])=.returned (.tuple #[.int k b,.bool y]):=by rw [h,h']
theorem kV (x y:ByteArray) (w:World) :
 Calls Tryz.prog 223 #[.string x,.string y] w fun e w'=>e=.returned (.bool (decide (bs x<bs y)))∧w=w':=by
 go_enter Tryz.func223,Tryz.ntmps223
 go_wp2
 all_goals go_ret
 all_goals refine ⟨ac ?_,rfl⟩
 all_goals
  rw [dr,ByteArray.toList_eq,ByteArray.toList_eq]
theorem og (x:ByteArray) (w:World):Calls Tryz.prog 224 #[.string x] w fun e w'=>e=.returned (.bool false)∧w=w':=by
 go_enter Tryz.func224,Tryz.ntmps224
 go_wp2
 all_goals go_ret
 all_goals exact ⟨ac (by simp),rfl⟩
def ig (L:List aS) (t:aS):Nat:=L.findIdx (fun x=>!decide (x<t))
theorem lw {L:List aS} {A:Option Addr} {B:Nat} {w wr:World} (hl:RL cX w B (L.map mkS) A) (hbw:Below w.heap.size w wr) (hB:B≤w.heap.size) (h0:0<L.length) :
 ∃b off,A=some ⟨b,off,none⟩∧b<wr.heap.size∧∀m (hm:m<L.length),wr.cell? ⟨b,off+m,none⟩=some (.string (mkS L[m])):=by
 obtain ⟨b,off,rfl,hb⟩:=hl.base hbw hB (by simpa using h0)
 refine ⟨b,off,rfl,hb,fun m hm=>?_⟩
 obtain ⟨x,vs,hx,hlen,hcell,hr⟩:=hl.at_ hbw hB (k:=m) (by simpa using hm)
 obtain ⟨rfl,_⟩:=hr
 have:=hcell 0 _ rfl
 have e:x=mkS L[m]:=by simpa [hm,eq_comm] using hx
 rw [←e]
 simpa [cX] using this
theorem vv {L:List aS} {t:aS} {i:Nat} (h:i≤L.length) (h1:∀k (hk:k<L.length),k<i→L[k]<t) (h2:∀k (hk:k<L.length),i≤k→¬L[k]<t):ig L t=i:=by
 unfold ig
 rcases Nat.lt_or_ge i L.length with hlt | hge
 ·refine (List.findIdx_eq hlt).2 ⟨by simpa using h2 i hlt (yY _),fun j hj=>?_⟩
  simpa using h1 j (by omega) hj
 ·obtain rfl:i=L.length:=by omega
  refine List.findIdx_eq_length.2 fun x hx=>?_
  obtain ⟨k,hk,rfl⟩:=List.getElem_of_mem hx
  simpa using h1 k hk hk
theorem mem_at {L:List aS} {t:aS} {i:Nat} (hi:i<L.length) (h1:∀k (hk:k<L.length),k<i→L[k]<t) (hs:L.Pairwise (· < ·)) (h2:¬L[i]<t):t∈L↔L[i]=t:=by
 constructor
 ·intro h
  obtain ⟨k,hk,rfl⟩:=List.getElem_of_mem h
  rcases Nat.lt_trichotomy k i with h | h | h
  ·exact absurd (h1 k hk h) (List.lt_irrefl _)
  ·subst h;rfl
  ·exact absurd (List.pairwise_iff_getElem.1 hs i k hi hk h) h2
 ·intro h;rw [←h];exact List.getElem_mem hi
theorem gT (L:List aS) (A:Option Addr) (c B:Nat) (t:ByteArray) (w:World) (hl:RL cX w B (L.map mkS) A) (hB:B≤w.heap.size) (hn:L.length≤1000000) (hs:L.Pairwise (· < ·)) :
 Calls Tryz.prog 167 #[.slice A L.length c,.string t] w fun e w'=>e=.returned (.tuple #[.int .i64 (ig L (bs t)),.bool (decide (bs t∈L))])∧w=w':=by
 go_enter Tryz.func167,Tryz.ntmps167
 go_wp2_with fail
 go_loop [7,8] (fun u v=>∃i j:Nat,i≤j∧j≤L.length∧u=.int .i64 i∧v=.int .i64 j∧(∀k (hk:k<L.length),k<i→L[k]<bs t)∧(∀k (hk:k<L.length),j≤k→¬L[k]<bs t)) (fun u v=>(intOf v).toNat-(intOf u).toNat)
 case atStart=>exact ⟨0,L.length,yZ _,yY _,rfl,rfl,fun k hk h=>absurd h (by omega),fun k hk h=>absurd h (by omega)⟩
 case round=>
  obtain ⟨i,j,hij,hj,rfl,rfl,hlo,hhi⟩:=hrel
  have HLO:=yW hlo
  have HHI:=yW hhi
  have HL:=yW hl
  have HS:=yW hs
  clear hlo hhi hl hs
  by_cases hlt:i<j
  ·obtain ⟨b,off,rfl,hb,hc⟩:=lw HL.out (za _ _) hB (by omega)
   have hcm:=hc ((i+j) / 2) (by omega)
   have hm1:((i:Int)+j) / 2<L.length:=by omega
   have hm0:0≤((i:Int)+j) / 2:=by omega
   clear hc
   by_cases hless:L[(i+j) / 2]'(by omega)<bs t
   ·have HLS:=yW hless
    have hless':decide (bs (mkS (L[(i+j) / 2]'(by omega)))<bs t)=true:=by rw [ju];simpa using hless
    clear hless
    go_wp2_with (go_at_call 223;refine (kV _ _ _).mono ?_;rintro e w' ⟨rfl,rfl⟩)
    go_round
    case rel=>exact ⟨(i+j) / 2+1,j,by omega,hj,by go_num,rfl,fun k hk h=>by
     rcases Nat.lt_or_ge k ((i+j) / 2) with h1 | h1
     ·exact List.lt_trans (List.pairwise_iff_getElem.1 HS.out k _ hk (by omega) h1) HLS.out
     ·obtain rfl:k=(i+j) / 2:=by omega
      exact HLS.out,HHI.out⟩
    case measure=>simp [intOf];omega
   ·have HLS:=yW hless
    have hless':decide (bs (mkS (L[(i+j) / 2]'(by omega)))<bs t)=false:=by rw [ju];simpa using hless
    clear hless
    go_wp2_with (go_at_call 223;refine (kV _ _ _).mono ?_;rintro e w' ⟨rfl,rfl⟩)
    go_round
    case rel=>exact ⟨i,(i+j) / 2,by omega,by omega,rfl,by go_num,HLO.out,fun k hk h h2=>by
     rcases Nat.lt_or_ge ((i+j) / 2) k with h1 | h1
     ·exact HLS.out (List.lt_trans (List.pairwise_iff_getElem.1 HS.out _ k (by omega) hk h1) h2)
     ·obtain rfl:k=(i+j) / 2:=by omega
      exact HLS.out h2⟩
    case measure=>simp [intOf];omega
  ·obtain rfl:i=j:=by omega
   have HP:=yW (vv hj HLO.out HHI.out)
   by_cases hin:i<L.length
   ·obtain ⟨b,off,rfl,hb,hc⟩:=lw HL.out (za _ _) hB (by omega)
    have hcm:=hc i hin
    have HM:=yW (mem_at hin HLO.out HS.out (HHI.out i hin (yY _)))
    clear hc
    have hq:((mkS L[i]).toList==t.toList)=decide (L[i]=bs t):=by rw [dn,ju]
    by_cases he:L[i]=bs t
    ·have HE:=yW he
     have hq':((mkS L[i]).toList==t.toList)=true:=by rw [hq];simpa using he
     clear hq he
     go_wp2_with fail
     go_ret2
     exact ⟨qt (by rw [HP.out]) (by simpa using (HM.out.2 HE.out)),rfl⟩
    ·have HE:=yW he
     have hq':((mkS L[i]).toList==t.toList)=false:=by rw [hq];simpa using he
     clear hq he
     go_wp2_with (go_at_call 224;refine (og _ _).mono ?_;rintro e w' ⟨rfl,rfl⟩)
     go_ret2
     exact ⟨qt (by rw [HP.out]) (by simpa using (fun h=>HE.out (HM.out.1 h))),rfl⟩
   ·have hi2:i=L.length:=by omega
    subst hi2
    go_wp2_with fail
    go_ret2
    exact ⟨qt (by rw [HP.out]) (by
     have:bs t∉L:=fun h=>by
      obtain ⟨k,hk,e⟩:=List.getElem_of_mem h
      exact absurd (HLO.out k hk hk) (by rw [e];exact List.lt_irrefl _)
     simpa using this),rfl⟩
end Go.Proofs.YtdphibjibnffeaaGreat
namespace Go.Proofs.YtdphibjibnffeaaGreat
open Go.ChangeShapes Go.WideShapes Go.ChangeAt Go.RowKit
structure Bd where
 names:List aS
 terms:List Tm
def ek (b:Bd) (name:aS):Option Tm:=if name∈b.names then b.terms[ig b.names name]? else none
structure BdOk (b:Bd):Prop where
 len:b.names.length=b.terms.length
 few:b.names.length≤32
 rise:b.names.Pairwise (· < ·)
 fixed:∀t∈b.terms,af t=true
def bdV (An:Option Addr) (nn cn:Nat) (At:Option Addr) (nt ct:Nat):Array Value:=#[.slice An nn cn,.slice At nt ct]
theorem cB {t:Tm} (h:af t=true):(∀u∈t.l,lU u)∧t.l.length≤16:=by
 have:=kI h
 by_cases h7:t.kind=7
 ·rw [if_pos h7] at this
  exact ⟨(du this.2.2).2,(du this.2.2).1⟩
 ·rw [if_neg h7] at this
  rw [this];exact ⟨fun u hu=>(List.not_mem_nil hu).elim,by simp⟩
def nv (d:Nat) (w w':World) (r:Option Tm) (z:Ending):Prop:=
 (∃A c,z=.returned (.tuple #[.agg #[.int .i64 (r.getD noT).kind,.int .i64 (r.getD noT).n,.string (r.getD noT).s,.slice A (r.getD noT).l.length c],.bool r.isSome])∧TmOwn d w.heap.size w' (r.getD noT) A c)∧Below w.heap.size w w'
theorem vw {L:List aS} {t:aS} (h:t∈L):ig L t<L.length:=by
 unfold ig
 rw [List.findIdx_lt_length]
 exact ⟨t,h,by simp [List.lt_irrefl]⟩
theorem nX {d B cn ct:Nat} {b:Bd} {An At:Option Addr} {name:ByteArray} {w:World} (hok:BdOk b) (hn:RL cX w B (b.names.map mkS) An) (ht:RL (TmR (d+1)) w B b.terms At) (hB:B≤w.heap.size) :
 Calls Tryz.prog 125 #[.agg (bdV An b.names.length cn At b.terms.length ct),.string name] w fun e w'=>nv d w w' (ek b (bs name)) e:=by
 have HOK:=yW hok
 have HN:=yW hn
 have HT:=yW ht
 have hf:=hok.few
 have hlen:=hok.len
 have HLN:=yW hlen
 clear hok hn ht hlen
 unfold bdV
 go_enter Tryz.func125,Tryz.ntmps125
 go_wp2_with fail
 generalize hW:World.alloc _ _=w1
 obtain ⟨hb1,hz⟩:=al2 hW
 have b_b:=n21 hW
 have b_r:=n22 hW
 have HB1:=yW hb1
 clear hW hb1
 refine (gT b.names An cn B name w1 (HN.out.keep HB1.out hB) (yX hB HB1.out.size) (by omega) HOK.out.rise).mono ?_
 rintro e w2 ⟨rfl,rfl⟩
 have BB:=yW b_b
 have BR:=yW b_r
 by_cases hm:bs name∈b.names
 ·have hp:=vw hm
  have hp2:ig b.names (bs name)<b.terms.length:=by rw [←HLN.out];exact hp
  have HR:Hid (ek b (bs name)=some (b.terms[ig b.names (bs name)])):=yW (by unfold ek;rw [if_pos hm,List.getElem?_eq_getElem hp2])
  have hd:decide (bs name∈b.names)=true:=by simpa using hm
  rw [hd]
  have hB1:=yX hB HB1.out.size
  have HT1:=yW (HT.out.keep HB1.out hB)
  obtain ⟨b_,off,rfl,hob⟩:=HT1.out.base (za _ _) hB1 (by omega)
  obtain ⟨x,vs,hx,hlen,hcell,hr⟩:=HT1.out.at_ (za _ _) hB1 hp2
  obtain ⟨Ax,cx,rfl,g1,g2,g3,g4,g5,_⟩:=RTm.cells (show RTm w1 B (d+1) x vs from hr)
  have c0:w1.cell? ⟨b_,off+ig b.names (bs name)*4,none⟩=some (.int .i64 x.kind):=hcell 0 _ rfl
  have c1:w1.cell? ⟨b_,off+ig b.names (bs name)*4+1,none⟩=some (.int .i64 x.n):=hcell 1 _ rfl
  have c2:w1.cell? ⟨b_,off+ig b.names (bs name)*4+2,none⟩=some (.string x.s):=hcell 2 _ rfl
  have c3:w1.cell? ⟨b_,off+ig b.names (bs name)*4+3,none⟩=some (.slice Ax x.l.length cx):=hcell 3 _ rfl
  have hex:b.terms[ig b.names (bs name)]=x:=by
   rw [List.getElem?_eq_getElem hp2] at hx
   simpa using hx
  rw [hex] at HR
  have HF:Hid (af x=true):=yW (HOK.out.fixed x (List.mem_of_getElem? hx))
  have HXR:Hid (RL (TmR d) w1 B x.l Ax):=yW (iU.rl ‹iU w1 B (d+1-1) x.l Ax›)
  have HI:Hid (I64 x.kind∧I64 x.n∧x.s.size≤140737488351232):=yW ⟨‹_›,‹_›,‹_›⟩
  have k_b:=b_b.cell
  have l_b:=b_b.lt
  have l_r:=b_r.lt
  clear hcell hlen hx hr hex hm hd
  generalize ig b.names (bs name)=p at *
  go_wp2_with fail
  generalize hW:World.alloc _ _=w2
  obtain ⟨hb2,hz2⟩:=al1 hW
  have b_x:=n11 hW
  rw [hz] at b_x
  have b_r2:=b_r.later hb2
  have HB2:=yW (ab HB1.out hb2)
  have HX2:=yW (HXR.out.keep hb2 hB1)
  clear hW
  obtain ⟨hle,hl16⟩:=cB HF.out
  have HLE:=yW hle
  clear hle
  refine (bM HX2.out (yX hB1 hb2.size) (by omega)).mono ?_
  rintro e w3 ⟨⟨v,rfl,hv⟩,hb⟩
  obtain ⟨A3,cc,rfl⟩:=hv.form
  have HV:=yW (hv.leaves HLE.out)
  have HB3:=yW (ab HB2.out hb)
  have b_r3:=b_r2.later hb
  have b_x3:=b_x.later hb
  clear hv hb
  have k_x:=b_x3.cell
  have l_x:=b_x3.lt
  have f_x:=b_x3.free
  have k_r:=b_r3.cell
  have f_r:=b_r3.free
  have l_r3:=b_r3.lt
  clear k_b l_b l_r c0 c1 c2 c3
  go_wp2_with fail
  have hbase:w2.heap.size=w.heap.size+1+1+1:=by omega
  have HO:TmOwn d w2.heap.size w3 x A3 cc:=⟨HV.out,HI.out.1,HI.out.2.1,HI.out.2.2,by omega⟩
  have HO4:=(HO.far (g:=w.heap.size+1+1) (i:=3) (by omega) (.slice A3 x.l.length cc)).put4 (g:=w.heap.size+1) (by omega) (.int .i64 x.kind) (.int .i64 x.n) (.string x.s) (.slice A3 x.l.length cc)
  have b_r4:=b_r3.far (c:=w.heap.size+1+1) (by omega) 3 (.slice A3 x.l.length cc)
  refine bodyPost_ret (ao rfl rfl (dZ b_r4 (.int .i64 x.kind) (.int .i64 x.n) (.string x.s) (.slice A3 x.l.length cc)) rfl) rfl ?_
  rw [HR.out]
  exact ⟨⟨A3,cc,rfl,HO4.lower (by omega)⟩,dC (HB3.out.setCell (p:=⟨w.heap.size+1+1,3,none⟩) (by show w.heap.size≤w.heap.size+1+1;omega) _) (by omega) _ _ _ _⟩
 ·have HR:Hid (ek b (bs name)=none):=yW (by unfold ek;rw [if_neg hm])
  have hd:decide (bs name∈b.names)=false:=by simpa using hm
  rw [hd]
  clear hm hd
  have k_r:=b_r.cell
  have f_r:=b_r.free
  go_wp2_with fail
  refine bodyPost_ret (ao rfl rfl (dZ BR.out (.int .i64 0) (.int .i64 0) (.string ⟨#[]⟩) (.slice none 0 0)) rfl) rfl ?_
  rw [HR.out]
  exact ⟨⟨none,0,rfl,TmOwn.no⟩,dC HB1.out (by omega) _ _ _ _⟩
def ii (b:Bd) (i:Nat):Bool:=
 match b.names[i]?,b.terms[i]?,b.names[i-1]? with
 | some n,some t,some p=>dW n&&af t&&(decide (i=0)||decide (p<n))
 | _,_,_=>false
def cr (b:Bd):Bool:=decide (b.names.length=b.terms.length)&&decide (b.names.length≤32)&&(List.range b.names.length).all (ii b)
theorem hJ {d B cn ct:Nat} {b:Bd} {An At:Option Addr} {w:World} (hn:RL cX w B (b.names.map mkS) An) (ht:RL (TmR (d+1)) w B b.terms At) (hB:B≤w.heap.size) :
 Calls Tryz.prog 67 #[.agg (bdV An b.names.length cn At b.terms.length ct)] w fun e w'=>e=.returned (.bool (cr b))∧Below w.heap.size w w':=by
 have HN:=yW hn
 have HT:=yW ht
 clear hn ht
 unfold bdV
 go_enter Tryz.func67,Tryz.ntmps67
 by_cases hlen:b.names.length=b.terms.length
 ·have ql:((b.names.length:Int) !=b.terms.length)=false:=by simp [hlen]
  have HLN:=yW hlen
  clear hlen
  by_cases hfew:b.names.length≤32
  ·have qf:decide ((32:Int)<b.names.length)=false:=by simp;omega
   go_wp2_with fail
   generalize hW:World.alloc _ _=w1
   obtain ⟨hb1,hz⟩:=al1 hW
   have HBB:=yW (n11 hW)
   have HB1:=yW hb1
   clear hW hb1
   go_loopw [21] (fun i wr=>∃k:Nat,k≤b.names.length∧i=.int .i64 k∧Below w1.heap.size w1 wr∧∀i,i<k→ii b i=true) (fun i _=>b.names.length-(intOf i).toNat)
   case atStart=>exact ⟨0,yZ _,rfl,za _ _,fun i h=>absurd h (by omega)⟩
   case round=>
    obtain ⟨k,hk,rfl,hbw,hall⟩:=hrel
    have HA:=yW hall
    have HWR:=yW hbw
    have HBR:=yW (HBB.out.later hbw)
    have HBw:Hid (Below w.heap.size w wr):=yW (ab HB1.out hbw)
    have hB1:B≤w1.heap.size:=by omega
    have hsz:=hbw.size
    clear hall hbw
    by_cases hlt:k<b.names.length
    ·have HN1:=yW (HN.out.keep HBw.out hB)
     have HT1:=yW (HT.out.keep HBw.out hB)
     have hBr:B≤wr.heap.size:=by omega
     have hlt2:k<b.terms.length:=by rw [←HLN.out];exact hlt
     obtain ⟨bn_,offn,rfl,hobn,hcn⟩:=lw HN1.out (za _ _) hBr (by omega)
     obtain ⟨bt_,offt,rfl,hobt⟩:=HT1.out.base (za _ _) hBr (by omega)
     obtain ⟨x,vs,hx,hlen,hcell,hr⟩:=HT1.out.at_ (za _ _) hBr hlt2
     obtain ⟨Ax,cx,rfl,g1,g2,g3,g4,g5,_⟩:=RTm.cells (show RTm wr B (d+1) x vs from hr)
     have c0:wr.cell? ⟨bt_,offt+k*4,none⟩=some (.int .i64 x.kind):=hcell 0 _ rfl
     have c1:wr.cell? ⟨bt_,offt+k*4+1,none⟩=some (.int .i64 x.n):=hcell 1 _ rfl
     have c2:wr.cell? ⟨bt_,offt+k*4+2,none⟩=some (.string x.s):=hcell 2 _ rfl
     have c3:wr.cell? ⟨bt_,offt+k*4+3,none⟩=some (.slice Ax x.l.length cx):=hcell 3 _ rfl
     have cn0:=hcn k hlt
     have cn1:=hcn (k-1) (by omega)
     have k_b:=HBR.out.cell
     have l_b:=HBR.out.lt
     have hxe:b.terms[k]=x:=by
      rw [List.getElem?_eq_getElem hlt2] at hx
      simpa using hx
     obtain ⟨y,vy,hy,_,_,hry⟩:=HN1.out.at_ (za _ _) hBr (k:=k) (by simpa using hlt)
     have hye:y=mkS b.names[k]:=by simpa [hlt,eq_comm] using hy
     have hsz16:(mkS b.names[k]).size≤140737488351232:=hye▸(show cX.rd wr B y vy from hry).2
     have HX:=yW hr
     have HAT:Hid (ii b k=(dW (bs (mkS b.names[k]))&&af x&&(decide (k=0)||decide (bs (mkS b.names[k-1])<bs (mkS b.names[k]))))):=yW (by
      unfold ii
      rw [List.getElem?_eq_getElem hlt,List.getElem?_eq_getElem hlt2,List.getElem?_eq_getElem (show k-1<b.names.length by omega),hxe,ju,ju])
     clear hcell hlen hcn hx hr hry hy hye hxe
     generalize mkS b.names[k]=nk at *
     generalize mkS b.names[k-1]=np at *
     have HNO:Hid (ii b k=false→cr b=false):=yW (fun h=>by
      rw [Bool.eq_false_iff]
      intro h2
      unfold cr at h2
      rw [Bool.and_eq_true,List.all_eq_true] at h2
      have:=h2.2 k (by simpa using hlt)
      rw [h] at this
      cases this)
     by_cases hnm:dW (bs nk)=true
     ·by_cases hfx:af x=true
      ·have hk1:(k:Int)-1=((k-1:Nat):Int)∨k=0:=by omega
       have hle:(!Op.bytesLess np.toList nk.toList) = !decide (bs np<bs nk):=by rw [dr,ByteArray.toList_eq,ByteArray.toList_eq]
       rcases Nat.eq_zero_or_pos k with h0 | h0
       ·have hAT:ii b k=true:=by rw [HAT.out,hnm,hfx,decide_eq_true h0];rfl
        have HAT2:=yW hAT
        have H0:=yW h0
        clear h0 hAT hle hk1
        go_wp2_with (first
         | (go_at_call 103;refine (fc _ _ (by unfold maxLen;omega)).mono ?_;rintro e w' ⟨rfl,rfl⟩)
         | (go_at_call 106;refine (aj HX.out hBr).mono ?_;rintro e w2 ⟨rfl,hb2⟩;have cn2:=(hb2.cell (p:=⟨bn_,offn+(k-1),none⟩) hobn).trans cn1;have k_b2:=(HBR.out.later hb2).cell;have HB2:=yW (ab HBw.out hb2);have HBR2:=yW (Below.trans HWR.out (hb2.mono hsz));clear hb2))
        ·exact absurd H0.out (by omega)
        all_goals
         go_roundw
         case rel=>exact ⟨k+1,by omega,by go_num,HBR2.out,fun i hi=>by
          rcases Nat.lt_or_ge i k with h1 | h1
          ·exact HA.out i h1
          ·obtain rfl:i=k:=by omega
           exact HAT2.out⟩
         case measure=>simp [intOf];omega
       ·have hk2:(k:Int)-1=((k-1:Nat):Int):=by omega
        have q0:decide ((0:Int)<k)=true:=by simp;omega
        clear hk1
        have HLE:=yW hle
        clear hle
        go_wp2_with (first
         | (go_at_call 103;refine (fc _ _ (by unfold maxLen;omega)).mono ?_;rintro e w' ⟨rfl,rfl⟩)
         | (go_at_call 106;refine (aj HX.out hBr).mono ?_;rintro e w2 ⟨rfl,hb2⟩;have cn2:=(hb2.cell (p:=⟨bn_,offn+(k-1),none⟩) hobn).trans cn1;have k_b2:=(HBR.out.later hb2).cell;have HB2:=yW (ab HBw.out hb2);have HBR2:=yW (Below.trans HWR.out (hb2.mono hsz));clear hb2))
        ·rename_i hq
         go_ret
         refine ⟨ac ?_,HB2.out⟩
         rw [HLE.out] at hq
         have hq2:decide (bs np<bs nk)=false:=by simpa using hq
         have hq1:decide (k=0)=false:=by simp;omega
         rw [HNO.out (by rw [HAT.out,hnm,hfx,hq1,hq2];rfl)]
        ·rename_i hq
         rw [HLE.out] at hq
         have hq2:decide (bs np<bs nk)=true:=by simpa using hq
         have HAT2:Hid (ii b k=true):=yW (by rw [HAT.out,hnm,hfx,hq2,Bool.or_true];rfl)
         clear hq hq2
         go_roundw
         case rel=>exact ⟨k+1,by omega,by go_num,HBR2.out,fun i hi=>by
          rcases Nat.lt_or_ge i k with h1 | h1
          ·exact HA.out i h1
          ·obtain rfl:i=k:=by omega
           exact HAT2.out⟩
         case measure=>simp [intOf];omega
      ·have hfx':af x=false:=by simpa using hfx
       clear hfx
       go_wp2_with (first
        | (go_at_call 103;refine (fc _ _ (by unfold maxLen;omega)).mono ?_;rintro e w' ⟨rfl,rfl⟩)
        | (go_at_call 106;refine (aj HX.out hBr).mono ?_;rintro e w2 ⟨rfl,hb2⟩;have cn2:=(hb2.cell (p:=⟨bn_,offn+(k-1),none⟩) hobn).trans cn1;have k_b2:=(HBR.out.later hb2).cell;have HB2:=yW (ab HBw.out hb2);have HBR2:=yW (Below.trans HWR.out (hb2.mono hsz));clear hb2))
       go_ret
       refine ⟨ac ?_,HB2.out⟩
       rw [HNO.out (by rw [HAT.out,hnm,hfx'];rfl)]
     ·have hnm':dW (bs nk)=false:=by simpa using hnm
      clear hnm
      go_wp2_with (first
       | (go_at_call 103;refine (fc _ _ (by unfold maxLen;omega)).mono ?_;rintro e w' ⟨rfl,rfl⟩)
       | (go_at_call 106;refine (aj HX.out hBr).mono ?_;rintro e w2 ⟨rfl,hb2⟩;have cn2:=(hb2.cell (p:=⟨bn_,offn+(k-1),none⟩) hobn).trans cn1;have k_b2:=(HBR.out.later hb2).cell;have HB2:=yW (ab HBw.out hb2);have HBR2:=yW (Below.trans HWR.out (hb2.mono hsz));clear hb2))
      go_ret
      refine ⟨ac ?_,HBw.out⟩
      rw [HNO.out (by rw [HAT.out,hnm'];rfl)]
    ·go_wp2_with fail
     go_ret
     obtain rfl:k=b.names.length:=by omega
     refine ⟨ac ?_,HBw.out⟩
     unfold cr
     rw [eq_comm,Bool.and_eq_true,Bool.and_eq_true,List.all_eq_true]
     exact ⟨⟨decide_eq_true HLN.out,decide_eq_true hfew⟩,fun i hi=>HA.out i (by simpa using hi)⟩
  ·have qf:decide ((32:Int)<b.names.length)=true:=by simp;omega
   go_wp2_with fail
   go_ret
   refine ⟨ac ?_,aq rfl⟩
   unfold cr
   simp [hfew]
 ·have ql:((b.names.length:Int) !=b.terms.length)=true:=by simp;omega
  have HLN:=yW hlen
  clear hlen
  go_wp2_with fail
  go_ret
  refine ⟨ac ?_,aq rfl⟩
  unfold cr
  simp [HLN.out]
theorem ko {b:Bd} (h:cr b=true):BdOk b∧∀n∈b.names,dW n=true:=by
 unfold cr at h
 rw [Bool.and_eq_true,Bool.and_eq_true,List.all_eq_true] at h
 obtain ⟨⟨h1,h2⟩,h3⟩:=h
 have hlen:=of_decide_eq_true h1
 have hat:∀i (hi:i<b.names.length),dW b.names[i]=true∧af (b.terms[i]'(hlen▸hi))=true∧(i=0∨b.names[i-1]<b.names[i]):=by
  intro i hi
  have:=h3 i (by simpa using hi)
  unfold ii at this
  rw [List.getElem?_eq_getElem hi,List.getElem?_eq_getElem (hlen▸hi),List.getElem?_eq_getElem (show i-1<b.names.length by omega)] at this
  simpa [and_assoc] using this
 refine ⟨⟨hlen,of_decide_eq_true h2,?_,fun t ht=>?_⟩,fun n hn=>?_⟩
 ·rw [List.pairwise_iff_getElem]
  intro i j hi hj hij
  have:∀m,∀hm:i+m+1<b.names.length,b.names[i]<b.names[i+m+1]:=by
   intro m
   induction m with
   | zero=>
     intro hm
     rcases (hat (i+0+1) hm).2.2 with h | h
     ·omega
     ·exact h
   | succ m ih=>
     intro hm
     rcases (hat (i+(m+1)+1) hm).2.2 with h | h
     ·omega
     ·exact List.lt_trans (ih (by omega)) h
  have:=this (j-i-1) (by omega)
  have e:i+(j-i-1)+1=j:=by omega
  simpa only [e] using this
 ·obtain ⟨i,hi,rfl⟩:=List.getElem_of_mem ht
  exact (hat i (hlen▸hi)).2.1
 ·obtain ⟨i,hi,rfl⟩:=List.getElem_of_mem hn
  exact (hat i hi).1
end Go.Proofs.YtdphibjibnffeaaGreat
