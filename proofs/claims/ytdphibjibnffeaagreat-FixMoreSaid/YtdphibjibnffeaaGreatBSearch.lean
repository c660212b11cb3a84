/- XBS, behind op's first part. -/
import Derived.Test.YtdphibjibnffeaaGreatSort
import Derived.Test.YtdphibjibnffeaaGreatFc1
import Derived.Laws.Bits64b
set_option linter.unusedVariables false
set_option linter.unusedSimpArgs false
set_option maxRecDepth 100000
set_option maxHeartbeats 8000000
namespace Go.Proofs.YtdphibjibnffeaaGreat
abbrev aZ:=List UInt8
theorem vJ (x y:aZ):x≤y∨y≤x:=List.le_total x y
theorem vK {x y z:aZ} (h:x≤y) (k:y≤z):x≤z:=List.le_trans h k
theorem qU {x y:aZ} (h:x≤y) (k:x≠y):x<y:=by
 rcases List.le_iff_lt_or_eq.1 h with h | h
 ·exact h
 ·exact absurd h k
theorem qT {x y z:aZ} (h:x≤y) (k:y<z):x<z:=List.lt_of_le_of_lt h k
theorem jZ (L:List aZ):(kp L).Pairwise (·≤·):=by
 have:=List.pairwise_mergeSort (le:=fun x y:aZ=>decide (x≤y)) (fun a b c h k=>by simp at *;exact vK h k) (fun a b=>by simpa using vJ a b) L
 exact this.imp (by simp)
theorem vV (L:List aZ) (x:aZ):x∈kp L↔x∈L:=List.mem_mergeSort
theorem fu (zs:List aZ) (hs:zs.Pairwise (·≤·)):∀m,m≤zs.length→(∀x,x∈Lib.compactUpTo zs.toArray m↔x∈zs.take m)∧(Lib.compactUpTo zs.toArray m).Pairwise (· < ·):=by
 intro m
 induction m with
 | zero=>intro _;simp [Lib.compactUpTo]
 | succ m ih=>
   intro hm
   obtain ⟨h1,h2⟩:=ih (by omega)
   have hget:zs.toArray[m]! = zs[m]:=by simp [show m<zs.length by omega]
   rw [Lib.compactUpTo_succ]
   have htake:zs.take (m+1)=zs.take m++[zs[m]]:=by rw [List.take_succ_eq_append_getElem (by omega)]
   have hle:∀x,x∈zs.take m→x≤zs[m]:=by
    intro x hx
    obtain ⟨i,hi,rfl⟩:=List.getElem_of_mem hx
    simp only [List.length_take] at hi
    rw [List.getElem_take]
    exact List.pairwise_iff_getElem.1 hs i m _ _ (by omega)
   by_cases hk:Lib.keeps zs.toArray m=true
   ·rw [if_pos hk,hget]
    refine ⟨fun x=>by rw [htake,List.mem_append,List.mem_append,h1],?_⟩
    rw [List.pairwise_append]
    refine ⟨h2,by simp,fun a ha b hb=>?_⟩
    obtain rfl:b=zs[m]:=by simpa using hb
    have ha':=(h1 a).1 ha
    rcases Nat.eq_zero_or_pos m with h0 | h0
    ·subst h0;simp at ha'
    ·have hprev:zs.toArray[m-1]! = zs[m-1]'(by omega):=by simp [show m-1<zs.length by omega]
     have hne:zs[m]≠zs[m-1]'(by omega):=by
      intro e
      have:=Lib.keeps_neg (d:=zs.toArray) h0 (by rw [hget,hprev,e])
      rw [this] at hk;cases hk
     have hle2:a≤zs[m-1]'(by omega):=by
      obtain ⟨i,hi,rfl⟩:=List.getElem_of_mem ha'
      simp only [List.length_take] at hi
      rw [List.getElem_take]
      rcases Nat.lt_or_ge i (m-1) with h | h
      ·exact List.pairwise_iff_getElem.1 hs i (m-1) _ _ h
      ·obtain rfl:i=m-1:=by omega
       exact List.le_refl _
     exact qT hle2 (qU (hle _ (by rw [List.mem_take_iff_getElem];exact ⟨m-1,by omega,rfl⟩)) (Ne.symm hne))
   ·rw [if_neg hk,List.append_nil]
    refine ⟨fun x=>?_,h2⟩
    rw [htake,List.mem_append,h1]
    constructor
    ·exact .inl
    ·rintro (h | h)
     ·exact h
     ·obtain rfl:x=zs[m]:=by simpa using h
      rcases Nat.eq_zero_or_pos m with h0 | h0
      ·exact absurd (Lib.keeps_lt_one _ m (by omega)) hk
      ·have hprev:zs.toArray[m-1]! = zs[m-1]'(by omega):=by simp [show m-1<zs.length by omega]
       have he:zs[m]=zs[m-1]'(by omega):=by
        apply Classical.byContradiction
        intro hne
        exact hk (Lib.keeps_pos (by rw [hget,hprev];exact hne))
       rw [he,List.mem_take_iff_getElem]
       exact ⟨m-1,by omega,rfl⟩
def ep (L:List aZ):List aZ:=Lib.compact (kp L)
theorem lA (L:List aZ) (x:aZ):x∈ep L↔x∈L:=by
 have:=(fu (kp L) (jZ L) (kp L).length (zG _)).1 x
 rw [List.take_length,vV] at this
 exact this
theorem kc (L:List aZ):(ep L).Pairwise (· < ·):=(fu (kp L) (jZ L) (kp L).length (zG _)).2
theorem eC (L:List aZ):(ep L).length≤L.length:=by
 have:=Lib.compact_length_le (kp L)
 rwa [cH] at this
open Go.ChangeShapes Go.WideShapes Go.ChangeAt Go.RowKit
theorem rm {k:IntKind} {a b:Int} {x y:Bool} (h:a=b) (h':x=y):Ending.returned (.tuple #[.int k a,.bool x])=.returned (.tuple #[.int k b,.bool y]):=by rw [h,h']
theorem lv (x y:ByteArray) (w:World) :
 Calls Tryz.prog 223 #[.string x,.string y] w fun e w'=>e=.returned (.bool (decide (bs x<bs y)))∧w=w':=by
 go_enter Tryz.func223,Tryz.ntmps223
 go_wp2
 all_goals go_ret
 all_goals refine ⟨ae ?_,rfl⟩
 all_goals
  rw [dq,ByteArray.toList_eq,ByteArray.toList_eq]
theorem pi (x:ByteArray) (w:World):Calls Tryz.prog 224 #[.string x] w fun e w'=>e=.returned (.bool false)∧w=w':=by
 go_enter Tryz.func224,Tryz.ntmps224
 go_wp2
 all_goals go_ret
 all_goals exact ⟨ae (by simp),rfl⟩
def iv (L:List aZ) (t:aZ):Nat:=L.findIdx (fun x=>!decide (x<t))
theorem lT {L:List aZ} {A:Option Addr} {B:Nat} {w wr:World} (hl:RL cU w B (L.map mkS) A) (hbw:Below w.heap.size w wr) (hB:B≤w.heap.size) (h0:0<L.length) :
 ∃b off,A=some ⟨b,off,none⟩∧b<wr.heap.size∧∀m (hm:m<L.length),wr.cell? ⟨b,off+m,none⟩=some (.string (mkS L[m])):=by
 obtain ⟨b,off,rfl,hb⟩:=hl.base hbw hB (by simpa using h0)
 refine ⟨b,off,rfl,hb,fun m hm=>?_⟩
 obtain ⟨x,vs,hx,hlen,hcell,hr⟩:=hl.at_ hbw hB (k:=m) (by simpa using hm)
 obtain ⟨rfl,_⟩:=hr
 have:=hcell 0 _ rfl
 have e:x=mkS L[m]:=by simpa [hm,eq_comm] using hx
 rw [←e]
 simpa [cU] using this
theorem wm {L:List aZ} {t:aZ} {i:Nat} (h:i≤L.length) (h1:∀k (hk:k<L.length),k<i→L[k]<t) (h2:∀k (hk:k<L.length),i≤k→¬L[k]<t):iv L t=i:=by
 unfold iv
 rcases Nat.lt_or_ge i L.length with hlt | hge
 ·refine (List.findIdx_eq hlt).2 ⟨by simpa using h2 i hlt (zG _),fun j hj=>?_⟩
  simpa using h1 j (by omega) hj
 ·obtain rfl:i=L.length:=by omega
  refine List.findIdx_eq_length.2 fun x hx=>?_
  obtain ⟨k,hk,rfl⟩:=List.getElem_of_mem hx
  simpa using h1 k hk hk
theorem mem_at {L:List aZ} {t:aZ} {i:Nat} (hi:i<L.length) (h1:∀k (hk:k<L.length),k<i→L[k]<t) (hs:L.Pairwise (· < ·)) (h2:¬L[i]<t):t∈L↔L[i]=t:=by
 constructor
 ·intro h
  obtain ⟨k,hk,rfl⟩:=List.getElem_of_mem h
  rcases Nat.lt_trichotomy k i with h | h | h
  ·exact absurd (h1 k hk h) (List.lt_irrefl _)
  ·subst h;rfl
  ·exact absurd (List.pairwise_iff_getElem.1 hs i k hi hk h) h2
 ·intro h;rw [←h];exact List.getElem_mem hi
theorem ig (L:List aZ) (A:Option Addr) (c B:Nat) (t:ByteArray) (w:World) (hl:RL cU w B (L.map mkS) A) (hB:B≤w.heap.size) (hn:L.length≤1000000) (hs:L.Pairwise (· < ·)) :
 Calls Tryz.prog 167 #[.slice A L.length c,.string t] w fun e w'=>e=.returned (.tuple #[.int .i64 (iv L (bs t)),.bool (decide (bs t∈L))])∧w=w':=by
 go_enter Tryz.func167,Tryz.ntmps167
 go_wp2_with fail
 go_loop [7,8] (fun u v=>∃i j:Nat,i≤j∧j≤L.length∧u=.int .i64 i∧v=.int .i64 j∧(∀k (hk:k<L.length),k<i→L[k]<bs t)∧(∀k (hk:k<L.length),j≤k→¬L[k]<bs t)) (fun u v=>(intOf v).toNat-(intOf u).toNat)
 case atStart=>exact ⟨0,L.length,zH _,zG _,rfl,rfl,fun k hk h=>absurd h (by omega),fun k hk h=>absurd h (by omega)⟩
 case round=>
  obtain ⟨i,j,hij,hj,rfl,rfl,hlo,hhi⟩:=hrel
  have HLO:=zE hlo
  have HHI:=zE hhi
  have HL:=zE hl
  have HS:=zE hs
  clear hlo hhi hl hs
  by_cases hlt:i<j
  ·obtain ⟨b,off,rfl,hb,hc⟩:=lT HL.out (zI _ _) hB (by omega)
   have hcm:=hc ((i+j) / 2) (by omega)
   have hm1:((i:Int)+j) / 2<L.length:=by omega
   have hm0:0≤((i:Int)+j) / 2:=by omega
   clear hc
   by_cases hless:L[(i+j) / 2]'(by omega)<bs t
   ·have HLS:=zE hless
    have hless':decide (bs (mkS (L[(i+j) / 2]'(by omega)))<bs t)=true:=by rw [jM];simpa using hless
    clear hless
    go_wp2_with (go_at_call 223;refine (lv _ _ _).mono ?_;rintro e w' ⟨rfl,rfl⟩)
    go_round
    case rel=>exact ⟨(i+j) / 2+1,j,by omega,hj,by go_num,rfl,fun k hk h=>by
     rcases Nat.lt_or_ge k ((i+j) / 2) with h1 | h1
     ·exact List.lt_trans (List.pairwise_iff_getElem.1 HS.out k _ hk (by omega) h1) HLS.out
     ·obtain rfl:k=(i+j) / 2:=by omega
      exact HLS.out,HHI.out⟩
    case measure=>simp [intOf];omega
   ·have HLS:=zE hless
    have hless':decide (bs (mkS (L[(i+j) / 2]'(by omega)))<bs t)=false:=by rw [jM];simpa using hless
    clear hless
    go_wp2_with (go_at_call 223;refine (lv _ _ _).mono ?_;rintro e w' ⟨rfl,rfl⟩)
    go_round
    case rel=>exact ⟨i,(i+j) / 2,by omega,by omega,rfl,by go_num,HLO.out,fun k hk h h2=>by
     rcases Nat.lt_or_ge ((i+j) / 2) k with h1 | h1
     ·exact HLS.out (List.lt_trans (List.pairwise_iff_getElem.1 HS.out _ k (by omega) hk h1) h2)
     ·obtain rfl:k=(i+j) / 2:=by omega
      exact HLS.out h2⟩
    case measure=>simp [intOf];omega
  ·obtain rfl:i=j:=by omega
   have HP:=zE (wm hj HLO.out HHI.out)
   by_cases hin:i<L.length
   ·obtain ⟨b,off,rfl,hb,hc⟩:=lT HL.out (zI _ _) hB (by omega)
    have hcm:=hc i hin
    have HM:=zE (mem_at hin HLO.out HS.out (HHI.out i hin (zG _)))
    clear hc
    have hq:((mkS L[i]).toList==t.toList)=decide (L[i]=bs t):=by rw [jb,jM]
    by_cases he:L[i]=bs t
    ·have HE:=zE he
     have hq':((mkS L[i]).toList==t.toList)=true:=by rw [hq];simpa using he
     clear hq he
     go_wp2_with fail
     go_ret2
     exact ⟨rm (by rw [HP.out]) (by simpa using (HM.out.2 HE.out)),rfl⟩
    ·have HE:=zE he
     have hq':((mkS L[i]).toList==t.toList)=false:=by rw [hq];simpa using he
     clear hq he
     go_wp2_with (go_at_call 224;refine (pi _ _).mono ?_;rintro e w' ⟨rfl,rfl⟩)
     go_ret2
     exact ⟨rm (by rw [HP.out]) (by simpa using (fun h=>HE.out (HM.out.1 h))),rfl⟩
   ·have hi2:i=L.length:=by omega
    subst hi2
    go_wp2_with fail
    go_ret2
    exact ⟨rm (by rw [HP.out]) (by
     have:bs t∉L:=fun h=>by
      obtain ⟨k,hk,e⟩:=List.getElem_of_mem h
      exact absurd (HLO.out k hk hk) (by rw [e];exact List.lt_irrefl _)
     simpa using this),rfl⟩
theorem mY {fn:Func} {tmps:Array Value} {p:Tmp} {g:Nat} {w:World} {cs:Array Value} (h:fn.results=#[.cell p 79]) (hp:tmps.getD p undef=.pointer (some ⟨g,0,none⟩)) (hb:Blk w g cs) (hn:cs.size=4) :
 (results fn tmps).run Tryz.prog w=.ok (.agg cs) w:=by
 obtain ⟨T,hb⟩:=hb
 exact results_cell_row h tmps w g T cs (0,0) _ hp hb Tryz.underlying79 rfl (by rw [hn];kernel_rfl)
theorem aq {fn:Func} {tmps:Array Value} {p u:Tmp} {g:Nat} {w:World} {cs:Array Value} (h:fn.results=#[.cell p 79,.tmp u]) (hp:tmps.getD p undef=.pointer (some ⟨g,0,none⟩)) (hb:Blk w g cs) (hn:cs.size=4) :
 (results fn tmps).run Tryz.prog w=.ok (.tuple #[.agg cs,tmps.getD u undef]) w:=by
 obtain ⟨T,hb⟩:=hb
 rw [results_cell_tmp h]
 have e:tmps[p]?.getD undef=.pointer (some ⟨g,0,none⟩):=by simpa using hp
 have e1:((asAddr (tmps.getD p undef)).run Tryz.prog w)=.ok ⟨g,0,none⟩ w:=by simp [e,asAddr]
 rw [e1,Result.andThen_ok,run_loadVar_row w g T 79 cs (0,0) _ hb Tryz.underlying79 rfl (by rw [hn];kernel_rfl),Result.andThen_ok]
theorem bB (n:Int) (w:World) :
 Calls Tryz.prog 278 #[.int .i64 n] w fun e w'=>e=.returned (.agg #[.int .i64 2,.int .i64 n,.string ⟨#[]⟩,.slice none 0 0])∧Below w.heap.size w w':=by
 go_enter Tryz.func278,Tryz.ntmps278
 go_wp2_with fail
 refine bodyPost_ret (mY rfl rfl (n11 rfl) rfl) rfl ?_
 exact ⟨rfl,(zI _ _).alloc (zG _) _⟩
def bit (b:Bool):Int:=if b then 1 else 0
theorem eh (b:Bool) (w:World) :
 Calls Tryz.prog 276 #[.bool b] w fun e w'=>e=.returned (.agg #[.int .i64 6,.int .i64 (bit b),.string ⟨#[]⟩,.slice none 0 0])∧Below w.heap.size w w':=by
 cases b
 all_goals
  go_enter Tryz.func276,Tryz.ntmps276
  go_wp2_with fail
  refine bodyPost_ret (mY rfl rfl (n11 rfl) rfl) rfl ?_
  exact ⟨rfl,(zI _ _).alloc (zG _) _⟩
def dI (ks:List Int) (a b:Int):Bool:=ks.any fun k=>decide (a=k)&&decide (b=k)
theorem bk (ks:List Int) (a b:Int) (g c:Nat) (w:World) (hks:Blk w g (ks.map (Value.int .i64)).toArray) (hn:ks.length≤1000000) :
 Calls Tryz.prog 297 #[.agg #[.int .i64 a,.int .i64 b],.slice (some ⟨g,0,none⟩) ks.length c] w fun e w'=>e=.returned (.bool (dI ks a b))∧Below w.heap.size w w':=by
 have hc:∀i (h:i<ks.length),w.cell? ⟨g,i,none⟩=some (.int .i64 ks[i]):=fun i h=>by
  have:=hks.cell i
  rw [this]
  simp [h]
 have hg:=hks.lt
 clear hks
 go_enter Tryz.func297,Tryz.ntmps297
 go_wp2_with fail
 generalize hW:World.alloc _ _=w1
 obtain ⟨hb,hz⟩:=al1 hW
 have b_p:=n11 hW
 have HB:=zE hb
 have HC:=zE (fun i (h:i<ks.length)=>(hb.cell (p:=⟨g,i,none⟩) hg).trans (hc i h))
 have hg1:g<w1.heap.size:=by omega
 clear hW hb hc hg
 go_loop [9] (fun i=>∃k:Nat,k≤ks.length∧i=.int .i64 k∧∀i,i<k→∀h:i<ks.length,(decide (a=ks[i])&&decide (b=ks[i]))=false) (fun i=>ks.length-(intOf i).toNat)
 case atStart=>exact ⟨0,zH _,rfl,fun i h=>absurd h (by omega)⟩
 case round=>
  obtain ⟨k,hk,rfl,hall⟩:=hrel
  have HA:=zE hall
  clear hall
  by_cases hlt:k<ks.length
  ·have hck:=HC.out k hlt
   have k_p:=b_p.cell
   have l_p:=b_p.lt
   generalize hx:ks[k]=x at hck
   have HX:=zE hx
   clear hx
   have h3:(a==x)=false∨(a==x)=true∧(b==x)=false∨(a==x)=true∧(b==x)=true:=by cases (a==x)<;>cases (b==x)<;>simp
   rcases h3 with h1 | ⟨h1,h2⟩ | ⟨h1,h2⟩
   ·go_wp2_with fail
    go_round
    case rel=>exact ⟨k+1,by omega,by go_num,fun i hi h=>by
     rcases Nat.lt_or_ge i k with h4 | h4
     ·exact HA.out i h4 h
     ·obtain rfl:i=k:=by omega
      rw [HX.out];simp only [beq_eq_false_iff_ne] at h1;simp [h1]⟩
    case measure=>simp [intOf];omega
   ·go_wp2_with fail
    go_round
    case rel=>exact ⟨k+1,by omega,by go_num,fun i hi h=>by
     rcases Nat.lt_or_ge i k with h4 | h4
     ·exact HA.out i h4 h
     ·obtain rfl:i=k:=by omega
      rw [HX.out];simp only [beq_eq_false_iff_ne] at h2;simp [h2]⟩
    case measure=>simp [intOf];omega
   ·go_wp2_with fail
    go_ret
    refine ⟨ae ?_,HB.out⟩
    rw [eq_comm,dI,List.any_eq_true]
    exact ⟨x,by rw [←HX.out];exact List.getElem_mem _,by simp only [beq_iff_eq] at h1 h2;simp [h1,h2]⟩
  ·go_wp2_with fail
   go_ret
   refine ⟨ae ?_,HB.out⟩
   rw [eq_comm,dI,List.any_eq_false]
   intro x hx
   obtain ⟨i,hi,rfl⟩:=List.getElem_of_mem hx
   rw [HA.out i (by omega) hi]
   simp
def aJ (code a b:Int):Bool:=
 if code=1∨code=2∨code=3∨code=4 then dI [2,4] a b
 else if code=5∨code=6 then decide (a=b)&&decide (2≤a)&&decide (a≤7)
 else if code=7 then dI [2,3] a b
 else if code=8∨code=9∨code=10∨code=17∨code=18∨code=19 then dI [2] a b
 else if code=11 then (decide (a=7)&&decide (2≤b)&&decide (b≤7))||dI [3] a b
 else if code=12∨code=13 then dI [3,5] a b
 else if code=14 then dI [3] a b
 else if code=15∨code=16 then dI [7] a b
 else false
theorem c11 {a b:Int} (h:¬(a=7∧2≤b∧b≤7)):dI [3] a b=aJ 11 a b:=by
 show _=((decide (a=7)&&decide (2≤b)&&decide (b≤7))||dI [3] a b)
 have hf:(decide (a=7)&&decide (2≤b)&&decide (b≤7))=false:=by
  rw [Bool.eq_false_iff]
  simp only [ne_eq,Bool.and_eq_true,decide_eq_true_eq]
  omega
 rw [hf,Bool.false_or]
theorem aX (code a b:Int) (w:World) :
 Calls Tryz.prog 279 #[.int .i64 code,.int .i64 a,.int .i64 b] w fun e w'=>e=.returned (.bool (aJ code a b))∧Below w.heap.size w w':=by
 have hc:code<1∨code > 19∨code=1∨code=2∨code=3∨code=4∨code=5∨code=6∨code=7∨code=8∨code=9∨code=10∨code=11∨code=12∨code=13∨code=14∨code=15∨code=16∨code=17∨code=18∨code=19:=by omega
 rcases hc with h | h | rfl | rfl | rfl | rfl | rfl | rfl | rfl | rfl | rfl | rfl | rfl | rfl | rfl | rfl | rfl | rfl | rfl | rfl | rfl
 ·have e:aJ code a b=false:=by unfold aJ;(repeat rw [if_neg (by omega)])
  rw [e]
  go_enter Tryz.func279,Tryz.ntmps279
  go_wp2_with fail
  go_ret
  exact ⟨rfl,(zI _ _).alloc (zG _) _⟩
 ·have e:aJ code a b=false:=by unfold aJ;(repeat rw [if_neg (by omega)])
  rw [e]
  go_enter Tryz.func279,Tryz.ntmps279
  go_wp2_with fail
  go_ret
  exact ⟨rfl,(zI _ _).alloc (zG _) _⟩
 ·go_enter Tryz.func279,Tryz.ntmps279
  go_wp2_with fail
  generalize hW:World.alloc _ _=w1
  obtain ⟨hb,hz⟩:=al2 hW
  refine (bk [2,4] a b (w.heap.size+1) 2 w1 (n22 hW) (by simp)).mono ?_
  rintro e w2 ⟨rfl,hb2⟩
  have HB2:=zE (ab hb hb2)
  clear hW hb hb2
  go_wp2_with fail
  go_ret
  exact ⟨ae (rfl),HB2.out⟩
 ·go_enter Tryz.func279,Tryz.ntmps279
  go_wp2_with fail
  generalize hW:World.alloc _ _=w1
  obtain ⟨hb,hz⟩:=al2 hW
  refine (bk [2,4] a b (w.heap.size+1) 2 w1 (n22 hW) (by simp)).mono ?_
  rintro e w2 ⟨rfl,hb2⟩
  have HB2:=zE (ab hb hb2)
  clear hW hb hb2
  go_wp2_with fail
  go_ret
  exact ⟨ae (rfl),HB2.out⟩
 ·go_enter Tryz.func279,Tryz.ntmps279
  go_wp2_with fail
  generalize hW:World.alloc _ _=w1
  obtain ⟨hb,hz⟩:=al2 hW
  refine (bk [2,4] a b (w.heap.size+1) 2 w1 (n22 hW) (by simp)).mono ?_
  rintro e w2 ⟨rfl,hb2⟩
  have HB2:=zE (ab hb hb2)
  clear hW hb hb2
  go_wp2_with fail
  go_ret
  exact ⟨ae (rfl),HB2.out⟩
 ·go_enter Tryz.func279,Tryz.ntmps279
  go_wp2_with fail
  generalize hW:World.alloc _ _=w1
  obtain ⟨hb,hz⟩:=al2 hW
  refine (bk [2,4] a b (w.heap.size+1) 2 w1 (n22 hW) (by simp)).mono ?_
  rintro e w2 ⟨rfl,hb2⟩
  have HB2:=zE (ab hb hb2)
  clear hW hb hb2
  go_wp2_with fail
  go_ret
  exact ⟨ae (rfl),HB2.out⟩
 ·have h3:(a==b)=false∨(a==b)=true∧decide (a≥2)=false∨(a==b)=true∧decide (a≥2)=true∧decide (a≤7)=false∨(a==b)=true∧decide (a≥2)=true∧decide (a≤7)=true:=by cases (a==b)<;>cases decide (a≥2)<;>cases decide (a≤7)<;>simp
  rcases h3 with h1 | ⟨h1,h2⟩ | ⟨h1,h2,h3⟩ | ⟨h1,h2,h3⟩
  all_goals
   have H1:=zE h1
   go_enter Tryz.func279,Tryz.ntmps279
   go_wp2_with fail
   go_ret
   exact ⟨ae (by simp only [beq_iff_eq,beq_eq_false_iff_ne,decide_eq_true_eq,decide_eq_false_iff_not] at *;simp [aJ];try omega),(zI _ _).alloc (zG _) _⟩
 ·have h3:(a==b)=false∨(a==b)=true∧decide (a≥2)=false∨(a==b)=true∧decide (a≥2)=true∧decide (a≤7)=false∨(a==b)=true∧decide (a≥2)=true∧decide (a≤7)=true:=by cases (a==b)<;>cases decide (a≥2)<;>cases decide (a≤7)<;>simp
  rcases h3 with h1 | ⟨h1,h2⟩ | ⟨h1,h2,h3⟩ | ⟨h1,h2,h3⟩
  all_goals
   have H1:=zE h1
   go_enter Tryz.func279,Tryz.ntmps279
   go_wp2_with fail
   go_ret
   exact ⟨ae (by simp only [beq_iff_eq,beq_eq_false_iff_ne,decide_eq_true_eq,decide_eq_false_iff_not] at *;simp [aJ];try omega),(zI _ _).alloc (zG _) _⟩
 ·go_enter Tryz.func279,Tryz.ntmps279
  go_wp2_with fail
  generalize hW:World.alloc _ _=w1
  obtain ⟨hb,hz⟩:=al2 hW
  refine (bk [2,3] a b (w.heap.size+1) 2 w1 (n22 hW) (by simp)).mono ?_
  rintro e w2 ⟨rfl,hb2⟩
  have HB2:=zE (ab hb hb2)
  clear hW hb hb2
  go_wp2_with fail
  go_ret
  exact ⟨ae (rfl),HB2.out⟩
 ·go_enter Tryz.func279,Tryz.ntmps279
  go_wp2_with fail
  generalize hW:World.alloc _ _=w1
  obtain ⟨hb,hz⟩:=al2 hW
  refine (bk [2] a b (w.heap.size+1) 1 w1 (n22 hW) (by simp)).mono ?_
  rintro e w2 ⟨rfl,hb2⟩
  have HB2:=zE (ab hb hb2)
  clear hW hb hb2
  go_wp2_with fail
  go_ret
  exact ⟨ae (rfl),HB2.out⟩
 ·go_enter Tryz.func279,Tryz.ntmps279
  go_wp2_with fail
  generalize hW:World.alloc _ _=w1
  obtain ⟨hb,hz⟩:=al2 hW
  refine (bk [2] a b (w.heap.size+1) 1 w1 (n22 hW) (by simp)).mono ?_
  rintro e w2 ⟨rfl,hb2⟩
  have HB2:=zE (ab hb hb2)
  clear hW hb hb2
  go_wp2_with fail
  go_ret
  exact ⟨ae (rfl),HB2.out⟩
 ·go_enter Tryz.func279,Tryz.ntmps279
  go_wp2_with fail
  generalize hW:World.alloc _ _=w1
  obtain ⟨hb,hz⟩:=al2 hW
  refine (bk [2] a b (w.heap.size+1) 1 w1 (n22 hW) (by simp)).mono ?_
  rintro e w2 ⟨rfl,hb2⟩
  have HB2:=zE (ab hb hb2)
  clear hW hb hb2
  go_wp2_with fail
  go_ret
  exact ⟨ae (rfl),HB2.out⟩
 ·go_enter Tryz.func279,Tryz.ntmps279
  go_wp2_with fail
  all_goals first
   | (go_ret
      exact ⟨ae (by simp [aJ];try omega),(zI _ _).alloc (zG _) _⟩)
   | (generalize hW:World.alloc _ _=w1
      obtain ⟨hb,hz⟩:=al2 hW
      refine (bk [3] _ b (w.heap.size+1) 1 w1 (n22 hW) (by simp)).mono ?_
      rintro e w2 ⟨rfl,hb2⟩
      have HB2:=zE (ab hb hb2)
      clear hW hb hb2
      go_wp2_with fail
      go_ret
      refine ⟨ae ?_,HB2.out⟩
      have hc11:=c11 (a:=a) (b:=b) (by omega)
      first
       | exact hc11
       | (have ha:a=7:=by assumption
          exact (congrArg (fun x=>dI [3] x b) ha.symm).trans hc11)
       | (have ha:a=7:=by assumption
          have hb7:¬b≤7:=by omega
          rw [decide_eq_false hb7,Bool.false_or]
          exact (congrArg (fun x=>dI [3] x b) ha.symm).trans hc11))
 ·go_enter Tryz.func279,Tryz.ntmps279
  go_wp2_with fail
  generalize hW:World.alloc _ _=w1
  obtain ⟨hb,hz⟩:=al2 hW
  refine (bk [3,5] a b (w.heap.size+1) 2 w1 (n22 hW) (by simp)).mono ?_
  rintro e w2 ⟨rfl,hb2⟩
  have HB2:=zE (ab hb hb2)
  clear hW hb hb2
  go_wp2_with fail
  go_ret
  exact ⟨ae (rfl),HB2.out⟩
 ·go_enter Tryz.func279,Tryz.ntmps279
  go_wp2_with fail
  generalize hW:World.alloc _ _=w1
  obtain ⟨hb,hz⟩:=al2 hW
  refine (bk [3,5] a b (w.heap.size+1) 2 w1 (n22 hW) (by simp)).mono ?_
  rintro e w2 ⟨rfl,hb2⟩
  have HB2:=zE (ab hb hb2)
  clear hW hb hb2
  go_wp2_with fail
  go_ret
  exact ⟨ae (rfl),HB2.out⟩
 ·go_enter Tryz.func279,Tryz.ntmps279
  go_wp2_with fail
  generalize hW:World.alloc _ _=w1
  obtain ⟨hb,hz⟩:=al2 hW
  refine (bk [3] a b (w.heap.size+1) 1 w1 (n22 hW) (by simp)).mono ?_
  rintro e w2 ⟨rfl,hb2⟩
  have HB2:=zE (ab hb hb2)
  clear hW hb hb2
  go_wp2_with fail
  go_ret
  exact ⟨ae (rfl),HB2.out⟩
 ·go_enter Tryz.func279,Tryz.ntmps279
  go_wp2_with fail
  generalize hW:World.alloc _ _=w1
  obtain ⟨hb,hz⟩:=al2 hW
  refine (bk [7] a b (w.heap.size+1) 1 w1 (n22 hW) (by simp)).mono ?_
  rintro e w2 ⟨rfl,hb2⟩
  have HB2:=zE (ab hb hb2)
  clear hW hb hb2
  go_wp2_with fail
  go_ret
  exact ⟨ae (rfl),HB2.out⟩
 ·go_enter Tryz.func279,Tryz.ntmps279
  go_wp2_with fail
  generalize hW:World.alloc _ _=w1
  obtain ⟨hb,hz⟩:=al2 hW
  refine (bk [7] a b (w.heap.size+1) 1 w1 (n22 hW) (by simp)).mono ?_
  rintro e w2 ⟨rfl,hb2⟩
  have HB2:=zE (ab hb hb2)
  clear hW hb hb2
  go_wp2_with fail
  go_ret
  exact ⟨ae (rfl),HB2.out⟩
 ·go_enter Tryz.func279,Tryz.ntmps279
  go_wp2_with fail
  generalize hW:World.alloc _ _=w1
  obtain ⟨hb,hz⟩:=al2 hW
  refine (bk [2] a b (w.heap.size+1) 1 w1 (n22 hW) (by simp)).mono ?_
  rintro e w2 ⟨rfl,hb2⟩
  have HB2:=zE (ab hb hb2)
  clear hW hb hb2
  go_wp2_with fail
  go_ret
  exact ⟨ae (rfl),HB2.out⟩
 ·go_enter Tryz.func279,Tryz.ntmps279
  go_wp2_with fail
  generalize hW:World.alloc _ _=w1
  obtain ⟨hb,hz⟩:=al2 hW
  refine (bk [2] a b (w.heap.size+1) 1 w1 (n22 hW) (by simp)).mono ?_
  rintro e w2 ⟨rfl,hb2⟩
  have HB2:=zE (ab hb hb2)
  clear hW hb hb2
  go_wp2_with fail
  go_ret
  exact ⟨ae (rfl),HB2.out⟩
 ·go_enter Tryz.func279,Tryz.ntmps279
  go_wp2_with fail
  generalize hW:World.alloc _ _=w1
  obtain ⟨hb,hz⟩:=al2 hW
  refine (bk [2] a b (w.heap.size+1) 1 w1 (n22 hW) (by simp)).mono ?_
  rintro e w2 ⟨rfl,hb2⟩
  have HB2:=zE (ab hb hb2)
  clear hW hb hb2
  go_wp2_with fail
  go_ret
  exact ⟨ae (rfl),HB2.out⟩
theorem zz (n:Int):IntKind.u64.wrap n=n % 18446744073709551616:=IntKind.wrap_u64 n
theorem lZ (n:Int):wrap64 n=if n % 18446744073709551616<9223372036854775808 then n % 18446744073709551616 else n % 18446744073709551616-18446744073709551616:=by
 unfold wrap64;omega
theorem ret_u {k:IntKind} {a b:Int} (h:a=b):Ending.returned (.int k a)=.returned (.int k b):=by rw [h]
theorem jW {k:IntKind} {a b:Int} {x y:Bool} (h:a=b) (h':x=y):Ending.returned (.tuple #[.int k a,.bool x])=.returned (.tuple #[.int k b,.bool y]):=by rw [h,h']
theorem yc (n:Int) (hn:I64 n) (w:World) :
 Calls Tryz.prog 307 #[.int .i64 n] w fun e w'=>e=.returned (.int .u64 (n.natAbs:Int))∧w=w':=by
 obtain ⟨h0,h1⟩:=hn
 rcases Int.lt_or_le n 0 with hlt | hge
 ·go_enter Tryz.func307,Tryz.ntmps307
  go_wp2_with fail
  go_ret
  exact ⟨ret_u (by rw [zz,zz];omega),rfl⟩
 ·go_enter Tryz.func307,Tryz.ntmps307
  go_wp2_with fail
  go_ret
  exact ⟨ret_u (by omega),rfl⟩
def dB (n:Int):Bool:=decide (-9223372036854775808≤n)&&decide (n≤9223372036854775807)
theorem cj (n:Int):dB n=true↔I64 n:=by simp [dB,I64]
theorem li (n:Int):dB n=false↔¬I64 n:=by rw [←cj];simp
theorem mag_mul (a b:Int):0≤(a.natAbs:Int)*(b.natAbs:Int):=Int.mul_nonneg (by omega) (by omega)
theorem sr {a b:Int} (h:(!decide (a<0)==decide (b<0))=true):a*b=-((a.natAbs:Int)*(b.natAbs:Int)):=by
 have h:¬(a<0↔b<0):=by simpa using h
 by_cases h1:a<0
 ·have e1:(a.natAbs:Int)=-a:=by omega
  have e2:(b.natAbs:Int)=b:=by omega
  rw [e1,e2,Int.neg_mul,Int.neg_neg]
 ·have e1:(a.natAbs:Int)=a:=by omega
  have e2:(b.natAbs:Int)=-b:=by omega
  rw [e1,e2,Int.mul_neg,Int.neg_neg]
theorem su {a b:Int} (h:(!decide (a<0)==decide (b<0))=false):a*b=(a.natAbs:Int)*(b.natAbs:Int):=by
 have h:(a<0↔b<0):=by simpa using h
 by_cases h1:a<0
 ·have e1:(a.natAbs:Int)=-a:=by omega
  have e2:(b.natAbs:Int)=-b:=by omega
  rw [e1,e2,Int.neg_mul,Int.mul_neg,Int.neg_neg]
 ·have e1:(a.natAbs:Int)=a:=by omega
  have e2:(b.natAbs:Int)=b:=by omega
  rw [e1,e2]
theorem vg {a b P:Int} (h:a*b=-P) (hP:0≤P) (h0:P / 18446744073709551616=0):decide (P % 18446744073709551616≤9223372036854775808)=dB (a*b)∧(dB (a*b)=true→wrap64 (IntKind.u64.wrap (-(P % 18446744073709551616)))=a*b):=by
 rw [h]
 refine ⟨?_,fun hf=>?_⟩
 ·rw [Bool.eq_iff_iff,cj,decide_eq_true_eq];unfold I64;omega
 ·rw [cj] at hf;unfold I64 at hf;rw [zz,lZ];split<;>omega
theorem vh {a b P:Int} (h:a*b=P) (hP:0≤P) (h0:P / 18446744073709551616=0):decide (P % 18446744073709551616<9223372036854775808)=dB (a*b)∧(dB (a*b)=true→wrap64 (P % 18446744073709551616)=a*b):=by
 rw [h]
 refine ⟨?_,fun hf=>?_⟩
 ·rw [Bool.eq_iff_iff,cj,decide_eq_true_eq];unfold I64;omega
 ·rw [cj] at hf;unfold I64 at hf;rw [lZ];split<;>omega
theorem rP {a b P:Int} (h:a*b=-P∨a*b=P) (hP:0≤P) (h0:¬P / 18446744073709551616=0):false=dB (a*b):=by
 rw [eq_comm,li];unfold I64
 rcases h with h | h<;>rw [h]<;>omega
theorem zg {a:Int} (h:I64 a):a.natAbs<18446744073709551616:=by unfold I64 at h;omega
theorem lL (a b:Int) (ha:I64 a) (hb:I64 b) (w:World) :
 Calls Tryz.prog 296 #[.int .i64 a,.int .i64 b] w fun e w'=>(∃m:Int,e=.returned (.tuple #[.int .i64 m,.bool (dB (a*b))])∧(dB (a*b)=true→m=a*b))∧w=w':=by
 have HP:=zE (mag_mul a b)
 generalize hf:dB (a*b)=F
 have HF:=zE hf
 clear hf
 go_enter Tryz.func296,Tryz.ntmps296
 go_wp2_with (first
  | (go_at_call 307;refine (yc _ (by assumption) _).mono ?_;rintro e w' ⟨rfl,rfl⟩)
  | (go_at_call 308;refine (Tryz.bits_Mul64 a.natAbs b.natAbs (zg ha) (zg hb) _).mono ?_;rintro e w' ⟨rfl,rfl⟩))
 ·have h:=vg (sr ‹_›) HP.out ‹_›
  go_ret2
  rw [HF.out] at h
  exact ⟨⟨_,jW rfl h.1,h.2⟩,rfl⟩
 ·have h:=rP (.inl (sr ‹_›)) HP.out ‹_›
  go_ret2
  rw [HF.out] at h
  exact ⟨⟨_,jW rfl h,fun hh=>absurd (h.trans hh) (by simp)⟩,rfl⟩
 ·have h:=vh (su ‹_›) HP.out ‹_›
  go_ret2
  rw [HF.out] at h
  exact ⟨⟨_,jW rfl h.1,h.2⟩,rfl⟩
 ·have h:=rP (.inr (su ‹_›)) HP.out ‹_›
  go_ret2
  rw [HF.out] at h
  exact ⟨⟨_,jW rfl h,fun hh=>absurd (h.trans hh) (by simp)⟩,rfl⟩
def uj (code a b:Int):Int:=if code=7 then a+b else if code=8 then a-b else if code=9 then a*b else a.tdiv b
def om (code a b:Int):Int:=if code=10∧b=0 then 6 else if dB (uj code a b) then 0 else 5
def mW (code a b:Int):Int × Int × Int:=if om code a b=0 then (2,uj code a b,0) else (0,0,om code a b)
theorem lN {code a b k n e e':Int} (h:om code a b=e') (he:e'≠0) (hr:mW code a b=(k,n,e)) :
 Ending.returned (.tuple #[.agg #[.int .i64 0,.int .i64 0,.string ⟨#[]⟩,.slice none 0 0],.int .i64 e'])=.returned (.tuple #[.agg #[.int .i64 k,.int .i64 n,.string ⟨#[]⟩,.slice none 0 0],.int .i64 e]):=by
 subst h
 unfold mW at hr
 rw [if_neg he] at hr
 simp only [Prod.mk.injEq] at hr
 obtain ⟨rfl,rfl,rfl⟩:=hr
 rfl
theorem iY {code a b k n e v:Int} (h:om code a b=0) (hv:v=uj code a b) (hr:mW code a b=(k,n,e)) :
 Ending.returned (.tuple #[.agg #[.int .i64 2,.int .i64 v,.string ⟨#[]⟩,.slice none 0 0],.int .i64 0])=.returned (.tuple #[.agg #[.int .i64 k,.int .i64 n,.string ⟨#[]⟩,.slice none 0 0],.int .i64 e]):=by
 subst hv
 unfold mW at hr
 rw [if_pos h] at hr
 simp only [Prod.mk.injEq] at hr
 obtain ⟨rfl,rfl,rfl⟩:=hr
 rfl
theorem xq {a b:Int} (ha:I64 a) (hb:I64 b) (h:(!decide (a<wrap64 (a+b))==decide (0<b))=true):om 7 a b=5:=by
 have h:¬(a<wrap64 (a+b)↔0<b):=by simpa using h
 have hf:dB (a+b)=false:=by
  rw [li];unfold I64 at *;rw [lZ] at h;split at h<;>omega
 show (if (7:Int)=10∧b=0 then 6 else if dB (a+b)=true then 0 else 5)=(5:Int)
 rw [if_neg (by omega),hf];rfl
theorem xo {a b:Int} (ha:I64 a) (hb:I64 b) (h:(!decide (a<wrap64 (a+b))==decide (0<b))=false):om 7 a b=0∧wrap64 (a+b)=uj 7 a b:=by
 have h:(a<wrap64 (a+b)↔0<b):=by simpa using h
 have hf:I64 (a+b):=by
  unfold I64 at *;rw [lZ] at h;split at h<;>omega
 constructor
 ·show (if (7:Int)=10∧b=0 then 6 else if dB (a+b)=true then 0 else 5)=(0:Int)
  rw [if_neg (by omega),(cj _).2 hf];rfl
 ·show wrap64 (a+b)=a+b
  unfold I64 at hf;rw [lZ];split<;>omega
theorem yH {a b:Int} (ha:I64 a) (hb:I64 b) (h:(!decide (wrap64 (a-b)<a)==decide (0<b))=true):om 8 a b=5:=by
 have h:¬(wrap64 (a-b)<a↔0<b):=by simpa using h
 have hf:dB (a-b)=false:=by
  rw [li];unfold I64 at *;rw [lZ] at h;split at h<;>omega
 show (if (8:Int)=10∧b=0 then 6 else if dB (a-b)=true then 0 else 5)=(5:Int)
 rw [if_neg (by omega),hf];rfl
theorem yG {a b:Int} (ha:I64 a) (hb:I64 b) (h:(!decide (wrap64 (a-b)<a)==decide (0<b))=false):om 8 a b=0∧wrap64 (a-b)=uj 8 a b:=by
 have h:(wrap64 (a-b)<a↔0<b):=by simpa using h
 have hf:I64 (a-b):=by
  unfold I64 at *;rw [lZ] at h;split at h<;>omega
 constructor
 ·show (if (8:Int)=10∧b=0 then 6 else if dB (a-b)=true then 0 else 5)=(0:Int)
  rw [if_neg (by omega),(cj _).2 hf];rfl
 ·show wrap64 (a-b)=a-b
  unfold I64 at hf;rw [lZ];split<;>omega
theorem yk {a b:Int} (h:dB (a*b)=false):om 9 a b=5:=by
 show (if (9:Int)=10∧b=0 then 6 else if dB (a*b)=true then 0 else 5)=(5:Int)
 rw [if_neg (by omega),h];rfl
theorem yj {a b:Int} (h:dB (a*b)=true):om 9 a b=0:=by
 show (if (9:Int)=10∧b=0 then 6 else if dB (a*b)=true then 0 else 5)=(0:Int)
 rw [if_neg (by omega),h];rfl
theorem mu (w:World):Blk (w.alloc (.cells #[.int .i64 0,.int .i64 0,.string ⟨#[]⟩,.slice none 0 0] 79)) w.heap.size #[.int .i64 0,.int .i64 0,.string ⟨#[]⟩,.slice none 0 0]:=n11 rfl
theorem sR {a b:Int} (ha:I64 a) (h0:¬b=0) (h1:¬b=-1):I64 (a.tdiv b):=by
 by_cases hb:b=1
 ·subst hb;rw [Int.tdiv_one];exact ha
 ·have e:=Int.natAbs_tdiv a b
  have l:a.natAbs / b.natAbs≤a.natAbs / 2:=Nat.div_le_div_left (by omega) (by omega)
  unfold I64 at *
  have e2:(a.tdiv b).natAbs=a.natAbs / b.natAbs:=e
  omega
theorem qC {a b:Int} (h1:b=-1) (h:(!a !=-9223372036854775808)=true):om 10 a b=5:=by
 subst h1
 have h:a=-9223372036854775808:=by simpa using h
 subst h
 decide
theorem div_m1 {a b:Int} (ha:I64 a) (h1:b=-1) (h:(!a !=-9223372036854775808)=false):om 10 a b=0∧wrap64 (-a)=uj 10 a b:=by
 subst h1
 have h:¬a=-9223372036854775808:=by simpa using h
 have e:uj 10 a (-1)=-a:=by show a.tdiv (-1)=-a;rw [Int.tdiv_neg,Int.tdiv_one]
 unfold I64 at ha
 refine ⟨?_,?_⟩
 ·unfold om;rw [if_neg (by omega),e,(cj _).2 (by unfold I64;omega)];rfl
 ·rw [e,lZ];split<;>omega
theorem div_ok {a b:Int} (ha:I64 a) (h0:¬b=0) (h1:¬b=-1):om 10 a b=0∧wrap64 (a.tdiv b)=uj 10 a b:=by
 have h:=sR ha h0 h1
 refine ⟨?_,?_⟩
 ·unfold om;rw [if_neg (by omega)]
  show (if dB (a.tdiv b)=true then 0 else 5)=(0:Int)
  rw [(cj _).2 h];rfl
 ·show wrap64 (a.tdiv b)=a.tdiv b
  unfold I64 at h;rw [lZ];split<;>omega
theorem put4 {w w2:World} {g:Nat} {a0 a1 a2 a3 v0 v1 v2 v3:Value} (h:Blk w2 g #[a0,a1,a2,a3]) (hb:Below w.heap.size w w2) (hg:w.heap.size≤g) :
 Blk ((((w2.setCell ⟨g,0,none⟩ v0).setCell ⟨g,1,none⟩ v1).setCell ⟨g,2,none⟩ v2).setCell ⟨g,3,none⟩ v3) g #[v0,v1,v2,v3] ∧
 Below w.heap.size w ((((w2.setCell ⟨g,0,none⟩ v0).setCell ⟨g,1,none⟩ v1).setCell ⟨g,2,none⟩ v2).setCell ⟨g,3,none⟩ v3):=
 ⟨(((h.set_ 0 v0).set_ 1 v1).set_ 2 v2).set_ 3 v3,(((hb.setCell (p:=⟨g,0,none⟩) hg v0).setCell (p:=⟨g,1,none⟩) hg v1).setCell (p:=⟨g,2,none⟩) hg v2).setCell (p:=⟨g,3,none⟩) hg v3⟩
theorem mX (code a b k n e:Int) (hc:code=7∨code=8∨code=9∨code=10) (ha:I64 a) (hb:I64 b) (hr:mW code a b=(k,n,e)) (w:World) :
 Calls Tryz.prog 277 #[.int .i64 code,.int .i64 a,.int .i64 b] w fun x w'=>x=.returned (.tuple #[.agg #[.int .i64 k,.int .i64 n,.string ⟨#[]⟩,.slice none 0 0],.int .i64 e])∧Below w.heap.size w w':=by
 have HR:=zE hr
 clear hr
 rcases hc with rfl | rfl | rfl | rfl
 ·go_enter Tryz.func277,Tryz.ntmps277
  go_wp2_with fail
  ·have h:=xq ha hb ‹_›
   refine bodyPost_ret (aq rfl rfl (mu w) rfl) rfl ?_
   exact ⟨lN h (by omega) HR.out,(zI _ _).alloc (zG _) _⟩
  ·have h:=xo ha hb ‹_›
   have HH:=zE h.1
   have HB:=zE ((zI w.heap.size w).alloc (zG _) (.cells #[.int .i64 0,.int .i64 0,.string ⟨#[]⟩,.slice none 0 0] 79))
   have hz:=mu w
   rw [h.2]
   generalize hW:World.alloc _ _=w1 at *
   refine (bB _ _).mono ?_
   rintro x w2 ⟨rfl,hb2⟩
   have b_z:=hz.later hb2
   have HB2:=zE (ab HB.out hb2)
   have k_z:=b_z.cell
   have f_z:=b_z.free
   have l_z:=b_z.lt
   clear hz h hb2
   go_wp2_with fail
   refine bodyPost_ret (aq rfl rfl (put4 b_z HB2.out (zG _)).1 rfl) rfl ?_
   exact ⟨iY HH.out rfl HR.out,(put4 b_z HB2.out (zG _)).2⟩
 ·go_enter Tryz.func277,Tryz.ntmps277
  go_wp2_with fail
  ·have h:=yH ha hb ‹_›
   refine bodyPost_ret (aq rfl rfl (mu w) rfl) rfl ?_
   exact ⟨lN h (by omega) HR.out,(zI _ _).alloc (zG _) _⟩
  ·have h:=yG ha hb ‹_›
   have HH:=zE h.1
   have HB:=zE ((zI w.heap.size w).alloc (zG _) (.cells #[.int .i64 0,.int .i64 0,.string ⟨#[]⟩,.slice none 0 0] 79))
   have hz:=mu w
   rw [h.2]
   generalize hW:World.alloc _ _=w1 at *
   refine (bB _ _).mono ?_
   rintro x w2 ⟨rfl,hb2⟩
   have b_z:=hz.later hb2
   have HB2:=zE (ab HB.out hb2)
   have k_z:=b_z.cell
   have f_z:=b_z.free
   have l_z:=b_z.lt
   clear hz h hb2
   go_wp2_with fail
   refine bodyPost_ret (aq rfl rfl (put4 b_z HB2.out (zG _)).1 rfl) rfl ?_
   exact ⟨iY HH.out rfl HR.out,(put4 b_z HB2.out (zG _)).2⟩
 ·cases hf:dB (a*b)
  ·have HF:=zE hf
   go_enter Tryz.func277,Tryz.ntmps277
   go_wp2_with fail
   refine (lL a b ha hb _).mono ?_
   rintro x w1_ ⟨⟨m,rfl,hm⟩,rfl⟩
   rw [hf]
   clear hf hm
   go_wp2_with fail
   ·have h:=yk HF.out
    refine bodyPost_ret (aq rfl rfl (mu w) rfl) rfl ?_
    exact ⟨lN h (by omega) HR.out,(zI _ _).alloc (zG _) _⟩
  ·have HF:=zE hf
   go_enter Tryz.func277,Tryz.ntmps277
   go_wp2_with fail
   refine (lL a b ha hb _).mono ?_
   rintro x w1_ ⟨⟨m,rfl,hm⟩,rfl⟩
   rw [hf]
   rw [hf] at hm
   obtain rfl:=hm rfl
   clear hf
   go_wp2_with fail
   ·have h:=(show om 9 a b=0∧a*b=uj 9 a b from ⟨yj HF.out,rfl⟩)
    have HH:=zE h.1
    have HB:=zE ((zI w.heap.size w).alloc (zG _) (.cells #[.int .i64 0,.int .i64 0,.string ⟨#[]⟩,.slice none 0 0] 79))
    have hz:=mu w
    rw [h.2]
    generalize hW:World.alloc _ _=w1 at *
    refine (bB _ _).mono ?_
    rintro x w2 ⟨rfl,hb2⟩
    have b_z:=hz.later hb2
    have HB2:=zE (ab HB.out hb2)
    have k_z:=b_z.cell
    have f_z:=b_z.free
    have l_z:=b_z.lt
    clear hz h hb2
    go_wp2_with fail
    refine bodyPost_ret (aq rfl rfl (put4 b_z HB2.out (zG _)).1 rfl) rfl ?_
    exact ⟨iY HH.out rfl HR.out,(put4 b_z HB2.out (zG _)).2⟩
 ·rcases Decidable.em (b=0) with hb0 | hb0
  ·subst hb0
   go_enter Tryz.func277,Tryz.ntmps277
   go_wp2_with fail
   have h:om 10 a 0=6:=rfl
   refine bodyPost_ret (aq rfl rfl (mu w) rfl) rfl ?_
   exact ⟨lN h (by omega) HR.out,(zI _ _).alloc (zG _) _⟩
  ·go_enter Tryz.func277,Tryz.ntmps277
   go_wp2_with fail
   ·have h:=qC ‹_› ‹_›
    refine bodyPost_ret (aq rfl rfl (mu w) rfl) rfl ?_
    exact ⟨lN h (by omega) HR.out,(zI _ _).alloc (zG _) _⟩
   ·have hm1:b=-1:=‹_›
    subst hm1
    have h:=div_m1 ha rfl ‹_›
    have HH:=zE h.1
    have HB:=zE ((zI w.heap.size w).alloc (zG _) (.cells #[.int .i64 0,.int .i64 0,.string ⟨#[]⟩,.slice none 0 0] 79))
    have hz:=mu w
    rw [h.2]
    generalize hW:World.alloc _ _=w1 at *
    refine (bB _ _).mono ?_
    rintro x w2 ⟨rfl,hb2⟩
    have b_z:=hz.later hb2
    have HB2:=zE (ab HB.out hb2)
    have k_z:=b_z.cell
    have f_z:=b_z.free
    have l_z:=b_z.lt
    clear hz h hb2
    go_wp2_with fail
    refine bodyPost_ret (aq rfl rfl (put4 b_z HB2.out (zG _)).1 rfl) rfl ?_
    exact ⟨iY HH.out rfl HR.out,(put4 b_z HB2.out (zG _)).2⟩
   ·have h:=div_ok ha hb0 ‹_›
    have HH:=zE h.1
    have HB:=zE ((zI w.heap.size w).alloc (zG _) (.cells #[.int .i64 0,.int .i64 0,.string ⟨#[]⟩,.slice none 0 0] 79))
    have hz:=mu w
    rw [h.2]
    generalize hW:World.alloc _ _=w1 at *
    refine (bB _ _).mono ?_
    rintro x w2 ⟨rfl,hb2⟩
    have b_z:=hz.later hb2
    have HB2:=zE (ab HB.out hb2)
    have k_z:=b_z.cell
    have f_z:=b_z.free
    have l_z:=b_z.lt
    clear hz h hb2
    go_wp2_with fail
    refine bodyPost_ret (aq rfl rfl (put4 b_z HB2.out (zG _)).1 rfl) rfl ?_
    exact ⟨iY HH.out rfl HR.out,(put4 b_z HB2.out (zG _)).2⟩
end Go.Proofs.YtdphibjibnffeaaGreat
