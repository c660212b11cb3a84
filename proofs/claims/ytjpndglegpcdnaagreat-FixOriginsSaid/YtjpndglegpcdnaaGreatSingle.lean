/- The readers' cells are single ones; the numbers of their types. -/
import Derived.Test.YtjpndglegpcdnaaGreatUniq
import Derived.Test.YtjpndglegpcdnaaGreatFc1
import Derived.Laws.Bits64b
import Derived.Test.YtjpndglegpcdnaaGreatRead2
set_option linter.unusedVariables false
set_option linter.unusedSimpArgs false
set_option maxRecDepth 100000
set_option maxHeartbeats 8000000
namespace Go.Proofs.YtjpndglegpcdnaaGreat
open Go.ChangeShapes Go.WideShapes Go.ChangeAt Go.RowKit
theorem ra {k:IntKind} {a b:Int} {x y:Bool} (h:a=b) (h':x=y):Ending.returned (.tuple #[.int k a,.bool x])=.returned (.tuple #[.int k b,.bool y]):=by rw [h,h']
theorem lm (x y:ByteArray) (w:World) :
 Calls Tryz.prog 148 #[.string x,.string y] w fun e w'=>e=.returned (.bool (decide (bs x<bs y)))∧w=w':=by
 go_enter Tryz.func148,Tryz.ntmps148
 go_wp2
 all_goals go_ret
 all_goals refine ⟨ac ?_,rfl⟩
 all_goals
  rw [dw,ByteArray.toList_eq,ByteArray.toList_eq]
theorem oU (x:ByteArray) (w:World):Calls Tryz.prog 149 #[.string x] w fun e w'=>e=.returned (.bool false)∧w=w':=by
 go_enter Tryz.func149,Tryz.ntmps149
 go_wp2
 all_goals go_ret
 all_goals exact ⟨ac (by simp),rfl⟩
def io (L:List aY) (t:aY):Nat:=L.findIdx (fun x=>!decide (x<t))
theorem lS {L:List aY} {A:Option Addr} {B:Nat} {w wr:World} (hl:RL cV w B (L.map mkS) A) (hbw:Below w.heap.size w wr) (hB:B≤w.heap.size) (h0:0<L.length) :
 ∃b off,A=some ⟨b,off,none⟩∧b<wr.heap.size∧∀m (hm:m<L.length),wr.cell? ⟨b,off+m,none⟩=some (.string (mkS L[m])):=by
 obtain ⟨b,off,rfl,hb⟩:=hl.base hbw hB (by simpa using h0)
 refine ⟨b,off,rfl,hb,fun m hm=>?_⟩
 obtain ⟨x,vs,hx,hlen,hcell,hr⟩:=hl.at_ hbw hB (k:=m) (by simpa using hm)
 obtain ⟨rfl,_⟩:=hr
 have:=hcell 0 _ rfl
 have e:x=mkS L[m]:=by simpa [hm,eq_comm] using hx
 rw [←e]
 simpa [cV] using this
theorem vS {L:List aY} {t:aY} {i:Nat} (h:i≤L.length) (h1:∀k (hk:k<L.length),k<i→L[k]<t) (h2:∀k (hk:k<L.length),i≤k→¬L[k]<t):io L t=i:=by
 unfold io
 rcases Nat.lt_or_ge i L.length with hlt | hge
 ·refine (List.findIdx_eq hlt).2 ⟨by simpa using h2 i hlt (zw _),fun j hj=>?_⟩
  simpa using h1 j (by omega) hj
 ·obtain rfl:i=L.length:=by omega
  refine List.findIdx_eq_length.2 fun x hx=>?_
  obtain ⟨k,hk,rfl⟩:=List.getElem_of_mem hx
  simpa using h1 k hk hk
theorem mem_at {L:List aY} {t:aY} {i:Nat} (hi:i<L.length) (h1:∀k (hk:k<L.length),k<i→L[k]<t) (hs:L.Pairwise (· < ·)) (h2:¬L[i]<t):t∈L↔L[i]=t:=by
 constructor
 ·intro h
  obtain ⟨k,hk,rfl⟩:=List.getElem_of_mem h
  rcases Nat.lt_trichotomy k i with h | h | h
  ·exact absurd (h1 k hk h) (List.lt_irrefl _)
  ·subst h;rfl
  ·exact absurd (List.pairwise_iff_getElem.1 hs i k hi hk h) h2
 ·intro h;rw [←h];exact List.getElem_mem hi
theorem gZ (L:List aY) (A:Option Addr) (c B:Nat) (t:ByteArray) (w:World) (hl:RL cV w B (L.map mkS) A) (hB:B≤w.heap.size) (hn:L.length≤1000000) (hs:L.Pairwise (· < ·)) :
 Calls Tryz.prog 117 #[.slice A L.length c,.string t] w fun e w'=>e=.returned (.tuple #[.int .i64 (io L (bs t)),.bool (decide (bs t∈L))])∧w=w':=by
 go_enter Tryz.func117,Tryz.ntmps117
 go_wp2_with fail
 go_loop [7,8] (fun u v=>∃i j:Nat,i≤j∧j≤L.length∧u=.int .i64 i∧v=.int .i64 j∧(∀k (hk:k<L.length),k<i→L[k]<bs t)∧(∀k (hk:k<L.length),j≤k→¬L[k]<bs t)) (fun u v=>(intOf v).toNat-(intOf u).toNat)
 case atStart=>exact ⟨0,L.length,zx _,zw _,rfl,rfl,fun k hk h=>absurd h (by omega),fun k hk h=>absurd h (by omega)⟩
 case round=>
  obtain ⟨i,j,hij,hj,rfl,rfl,hlo,hhi⟩:=hrel
  have HLO:=zu hlo
  have HHI:=zu hhi
  have HL:=zu hl
  have HS:=zu hs
  clear hlo hhi hl hs
  by_cases hlt:i<j
  ·obtain ⟨b,off,rfl,hb,hc⟩:=lS HL.out (zy _ _) hB (by omega)
   have hcm:=hc ((i+j) / 2) (by omega)
   have hm1:((i:Int)+j) / 2<L.length:=by omega
   have hm0:0≤((i:Int)+j) / 2:=by omega
   clear hc
   by_cases hless:L[(i+j) / 2]'(by omega)<bs t
   ·have HLS:=zu hless
    have hless':decide (bs (mkS (L[(i+j) / 2]'(by omega)))<bs t)=true:=by rw [jE];simpa using hless
    clear hless
    go_wp2_with (go_at_call 148;refine (lm _ _ _).mono ?_;rintro e w' ⟨rfl,rfl⟩)
    go_round
    case rel=>exact ⟨(i+j) / 2+1,j,by omega,hj,by go_num,rfl,fun k hk h=>by
     rcases Nat.lt_or_ge k ((i+j) / 2) with h1 | h1
     ·exact List.lt_trans (List.pairwise_iff_getElem.1 HS.out k _ hk (by omega) h1) HLS.out
     ·obtain rfl:k=(i+j) / 2:=by omega
      exact HLS.out,HHI.out⟩
    case measure=>simp [intOf];omega
   ·have HLS:=zu hless
    have hless':decide (bs (mkS (L[(i+j) / 2]'(by omega)))<bs t)=false:=by rw [jE];simpa using hless
    clear hless
    go_wp2_with (go_at_call 148;refine (lm _ _ _).mono ?_;rintro e w' ⟨rfl,rfl⟩)
    go_round
    case rel=>exact ⟨i,(i+j) / 2,by omega,by omega,rfl,by go_num,HLO.out,fun k hk h h2=>by
     rcases Nat.lt_or_ge ((i+j) / 2) k with h1 | h1
     ·exact HLS.out (List.lt_trans (List.pairwise_iff_getElem.1 HS.out _ k (by omega) hk h1) h2)
     ·obtain rfl:k=(i+j) / 2:=by omega
      exact HLS.out h2⟩
    case measure=>simp [intOf];omega
  ·obtain rfl:i=j:=by omega
   have HP:=zu (vS hj HLO.out HHI.out)
   by_cases hin:i<L.length
   ·obtain ⟨b,off,rfl,hb,hc⟩:=lS HL.out (zy _ _) hB (by omega)
    have hcm:=hc i hin
    have HM:=zu (mem_at hin HLO.out HS.out (HHI.out i hin (zw _)))
    clear hc
    have hq:((mkS L[i]).toList==t.toList)=decide (L[i]=bs t):=by rw [dv,jE]
    by_cases he:L[i]=bs t
    ·have HE:=zu he
     have hq':((mkS L[i]).toList==t.toList)=true:=by rw [hq];simpa using he
     clear hq he
     go_wp2_with fail
     go_ret2
     exact ⟨ra (by rw [HP.out]) (by simpa using (HM.out.2 HE.out)),rfl⟩
    ·have HE:=zu he
     have hq':((mkS L[i]).toList==t.toList)=false:=by rw [hq];simpa using he
     clear hq he
     go_wp2_with (go_at_call 149;refine (oU _ _).mono ?_;rintro e w' ⟨rfl,rfl⟩)
     go_ret2
     exact ⟨ra (by rw [HP.out]) (by simpa using (fun h=>HE.out (HM.out.1 h))),rfl⟩
   ·have hi2:i=L.length:=by omega
    subst hi2
    go_wp2_with fail
    go_ret2
    exact ⟨ra (by rw [HP.out]) (by
     have:bs t∉L:=fun h=>by
      obtain ⟨k,hk,e⟩:=List.getElem_of_mem h
      exact absurd (HLO.out k hk hk) (by rw [e];exact List.lt_irrefl _)
     simpa using this),rfl⟩
theorem mU {fn:Func} {tmps:Array Value} {p:Tmp} {g:Nat} {w:World} {cs:Array Value} (h:fn.results=#[.cell p 29]) (hp:tmps.getD p undef=.pointer (some ⟨g,0,none⟩)) (hb:Blk w g cs) (hn:cs.size=4) :
 (results fn tmps).run Tryz.prog w=.ok (.agg cs) w:=by
 obtain ⟨T,hb⟩:=hb
 exact results_cell_row h tmps w g T cs (0,0) _ hp hb Tryz.underlying29 rfl (by rw [hn];kernel_rfl)
theorem al {fn:Func} {tmps:Array Value} {p u:Tmp} {g:Nat} {w:World} {cs:Array Value} (h:fn.results=#[.cell p 29,.tmp u]) (hp:tmps.getD p undef=.pointer (some ⟨g,0,none⟩)) (hb:Blk w g cs) (hn:cs.size=4) :
 (results fn tmps).run Tryz.prog w=.ok (.tuple #[.agg cs,tmps.getD u undef]) w:=by
 obtain ⟨T,hb⟩:=hb
 rw [results_cell_tmp h]
 have e:tmps[p]?.getD undef=.pointer (some ⟨g,0,none⟩):=by simpa using hp
 have e1:((asAddr (tmps.getD p undef)).run Tryz.prog w)=.ok ⟨g,0,none⟩ w:=by simp [e,asAddr]
 rw [e1,Result.andThen_ok,run_loadVar_row w g T 29 cs (0,0) _ hb Tryz.underlying29 rfl (by rw [hn];kernel_rfl),Result.andThen_ok]
theorem bC (n:Int) (w:World) :
 Calls Tryz.prog 195 #[.int .i64 n] w fun e w'=>e=.returned (.agg #[.int .i64 2,.int .i64 n,.string ⟨#[]⟩,.slice none 0 0])∧Below w.heap.size w w':=by
 go_enter Tryz.func195,Tryz.ntmps195
 go_wp2_with fail
 refine bodyPost_ret (mU rfl rfl (n11 rfl) rfl) rfl ?_
 exact ⟨rfl,(zy _ _).alloc (zw _) _⟩
def bit (b:Bool):Int:=if b then 1 else 0
theorem eo (b:Bool) (w:World) :
 Calls Tryz.prog 193 #[.bool b] w fun e w'=>e=.returned (.agg #[.int .i64 6,.int .i64 (bit b),.string ⟨#[]⟩,.slice none 0 0])∧Below w.heap.size w w':=by
 cases b
 all_goals
  go_enter Tryz.func193,Tryz.ntmps193
  go_wp2_with fail
  refine bodyPost_ret (mU rfl rfl (n11 rfl) rfl) rfl ?_
  exact ⟨rfl,(zy _ _).alloc (zw _) _⟩
def dN (ks:List Int) (a b:Int):Bool:=ks.any fun k=>decide (a=k)&&decide (b=k)
theorem bj (ks:List Int) (a b:Int) (g c:Nat) (w:World) (hks:Blk w g (ks.map (Value.int .i64)).toArray) (hn:ks.length≤1000000) :
 Calls Tryz.prog 205 #[.agg #[.int .i64 a,.int .i64 b],.slice (some ⟨g,0,none⟩) ks.length c] w fun e w'=>e=.returned (.bool (dN ks a b))∧Below w.heap.size w w':=by
 have hc:∀i (h:i<ks.length),w.cell? ⟨g,i,none⟩=some (.int .i64 ks[i]):=fun i h=>by
  have:=hks.cell i
  rw [this]
  simp [h]
 have hg:=hks.lt
 clear hks
 go_enter Tryz.func205,Tryz.ntmps205
 go_wp2_with fail
 generalize hW:World.alloc _ _=w1
 obtain ⟨hb,hz⟩:=al1 hW
 have b_p:=n11 hW
 have HB:=zu hb
 have HC:=zu (fun i (h:i<ks.length)=>(hb.cell (p:=⟨g,i,none⟩) hg).trans (hc i h))
 have hg1:g<w1.heap.size:=by omega
 clear hW hb hc hg
 go_loop [9] (fun i=>∃k:Nat,k≤ks.length∧i=.int .i64 k∧∀i,i<k→∀h:i<ks.length,(decide (a=ks[i])&&decide (b=ks[i]))=false) (fun i=>ks.length-(intOf i).toNat)
 case atStart=>exact ⟨0,zx _,rfl,fun i h=>absurd h (by omega)⟩
 case round=>
  obtain ⟨k,hk,rfl,hall⟩:=hrel
  have HA:=zu hall
  clear hall
  by_cases hlt:k<ks.length
  ·have hck:=HC.out k hlt
   have k_p:=b_p.cell
   have l_p:=b_p.lt
   generalize hx:ks[k]=x at hck
   have HX:=zu hx
   clear hx
   have h3:(a==x)=false∨(a==x)=true∧(b==x)=false∨(a==x)=true∧(b==x)=true:=by cases (a==x)<;>cases (b==x)<;>simp
   rcases h3 with h1 | ⟨h1,h2⟩ | ⟨h1,h2⟩
   ·go_wp2_with fail
    go_round
    case rel=>exact ⟨k+1,by omega,by go_num,fun i hi h=>by
     rcases Nat.lt_or_ge i k with h4 | h4
     ·exact HA.out i h4 h
     ·obtain rfl:i=k:=by omega
      rw [HX.out];simp only [beq_eq_false_iff_ne] at h1;simp [h1]⟩
    case measure=>simp [intOf];omega
   ·go_wp2_with fail
    go_round
    case rel=>exact ⟨k+1,by omega,by go_num,fun i hi h=>by
     rcases Nat.lt_or_ge i k with h4 | h4
     ·exact HA.out i h4 h
     ·obtain rfl:i=k:=by omega
      rw [HX.out];simp only [beq_eq_false_iff_ne] at h2;simp [h2]⟩
    case measure=>simp [intOf];omega
   ·go_wp2_with fail
    go_ret
    refine ⟨ac ?_,HB.out⟩
    rw [eq_comm,dN,List.any_eq_true]
    exact ⟨x,by rw [←HX.out];exact List.getElem_mem _,by simp only [beq_iff_eq] at h1 h2;simp [h1,h2]⟩
  ·go_wp2_with fail
   go_ret
   refine ⟨ac ?_,HB.out⟩
   rw [eq_comm,dN,List.any_eq_false]
   intro x hx
   obtain ⟨i,hi,rfl⟩:=List.getElem_of_mem hx
   rw [HA.out i (by omega) hi]
   simp
def aJ (code a b:Int):Bool:=
 if code=1∨code=2∨code=3∨code=4 then dN [2,4] a b
 else if code=5∨code=6 then decide (a=b)&&decide (2≤a)&&decide (a≤7)
 else if code=7 then dN [2,3] a b
 else if code=8∨code=9∨code=10∨code=17∨code=18∨code=19 then dN [2] a b
 else if code=11 then (decide (a=7)&&decide (2≤b)&&decide (b≤7))||dN [3] a b
 else if code=12∨code=13 then dN [3,5] a b
 else if code=14 then dN [3] a b
 else if code=15∨code=16 then dN [7] a b
 else false
theorem c11 {a b:Int} (h:¬(a=7∧2≤b∧b≤7)):dN [3] a b=aJ 11 a b:=by
 show _=((decide (a=7)&&decide (2≤b)&&decide (b≤7))||dN [3] a b)
 have hf:(decide (a=7)&&decide (2≤b)&&decide (b≤7))=false:=by
  rw [Bool.eq_false_iff]
  simp only [ne_eq,zC,zH]
  omega
 rw [hf,Bool.false_or]
theorem aW (code a b:Int) (w:World) :
 Calls Tryz.prog 196 #[.int .i64 code,.int .i64 a,.int .i64 b] w fun e w'=>e=.returned (.bool (aJ code a b))∧Below w.heap.size w w':=by
 have hc:code<1∨code > 19∨code=1∨code=2∨code=3∨code=4∨code=5∨code=6∨code=7∨code=8∨code=9∨code=10∨code=11∨code=12∨code=13∨code=14∨code=15∨code=16∨code=17∨code=18∨code=19:=by omega
 rcases hc with h | h | rfl | rfl | rfl | rfl | rfl | rfl | rfl | rfl | rfl | rfl | rfl | rfl | rfl | rfl | rfl | rfl | rfl | rfl | rfl
 ·have e:aJ code a b=false:=by unfold aJ;(repeat rw [if_neg (by omega)])
  rw [e]
  go_enter Tryz.func196,Tryz.ntmps196
  go_wp2_with fail
  go_ret
  exact ⟨rfl,(zy _ _).alloc (zw _) _⟩
 ·have e:aJ code a b=false:=by unfold aJ;(repeat rw [if_neg (by omega)])
  rw [e]
  go_enter Tryz.func196,Tryz.ntmps196
  go_wp2_with fail
  go_ret
  exact ⟨rfl,(zy _ _).alloc (zw _) _⟩
 ·go_enter Tryz.func196,Tryz.ntmps196
  go_wp2_with fail
  generalize hW:World.alloc _ _=w1
  obtain ⟨hb,hz⟩:=al2 hW
  refine (bj [2,4] a b (w.heap.size+1) 2 w1 (n22 hW) (by simp)).mono ?_
  rintro e w2 ⟨rfl,hb2⟩
  have HB2:=zu (aa hb hb2)
  clear hW hb hb2
  go_wp2_with fail
  go_ret
  exact ⟨ac (rfl),HB2.out⟩
 ·go_enter Tryz.func196,Tryz.ntmps196
  go_wp2_with fail
  generalize hW:World.alloc _ _=w1
  obtain ⟨hb,hz⟩:=al2 hW
  refine (bj [2,4] a b (w.heap.size+1) 2 w1 (n22 hW) (by simp)).mono ?_
  rintro e w2 ⟨rfl,hb2⟩
  have HB2:=zu (aa hb hb2)
  clear hW hb hb2
  go_wp2_with fail
  go_ret
  exact ⟨ac (rfl),HB2.out⟩
 ·go_enter Tryz.func196,Tryz.ntmps196
  go_wp2_with fail
  generalize hW:World.alloc _ _=w1
  obtain ⟨hb,hz⟩:=al2 hW
  refine (bj [2,4] a b (w.heap.size+1) 2 w1 (n22 hW) (by simp)).mono ?_
  rintro e w2 ⟨rfl,hb2⟩
  have HB2:=zu (aa hb hb2)
  clear hW hb hb2
  go_wp2_with fail
  go_ret
  exact ⟨ac (rfl),HB2.out⟩
 ·go_enter Tryz.func196,Tryz.ntmps196
  go_wp2_with fail
  generalize hW:World.alloc _ _=w1
  obtain ⟨hb,hz⟩:=al2 hW
  refine (bj [2,4] a b (w.heap.size+1) 2 w1 (n22 hW) (by simp)).mono ?_
  rintro e w2 ⟨rfl,hb2⟩
  have HB2:=zu (aa hb hb2)
  clear hW hb hb2
  go_wp2_with fail
  go_ret
  exact ⟨ac (rfl),HB2.out⟩
 ·have h3:(a==b)=false∨(a==b)=true∧decide (a≥2)=false∨(a==b)=true∧decide (a≥2)=true∧decide (a≤7)=false∨(a==b)=true∧decide (a≥2)=true∧decide (a≤7)=true:=by cases (a==b)<;>cases decide (a≥2)<;>cases decide (a≤7)<;>simp
  rcases h3 with h1 | ⟨h1,h2⟩ | ⟨h1,h2,h3⟩ | ⟨h1,h2,h3⟩
  all_goals
   have H1:=zu h1
   go_enter Tryz.func196,Tryz.ntmps196
   go_wp2_with fail
   go_ret
   exact ⟨ac (by simp only [beq_iff_eq,beq_eq_false_iff_ne,zH,decide_eq_false_iff_not] at *;simp [aJ];try omega),(zy _ _).alloc (zw _) _⟩
 ·have h3:(a==b)=false∨(a==b)=true∧decide (a≥2)=false∨(a==b)=true∧decide (a≥2)=true∧decide (a≤7)=false∨(a==b)=true∧decide (a≥2)=true∧decide (a≤7)=true:=by cases (a==b)<;>cases decide (a≥2)<;>cases decide (a≤7)<;>simp
  rcases h3 with h1 | ⟨h1,h2⟩ | ⟨h1,h2,h3⟩ | ⟨h1,h2,h3⟩
  all_goals
   have H1:=zu h1
   go_enter Tryz.func196,Tryz.ntmps196
   go_wp2_with fail
   go_ret
   exact ⟨ac (by simp only [beq_iff_eq,beq_eq_false_iff_ne,zH,decide_eq_false_iff_not] at *;simp [aJ];try omega),(zy _ _).alloc (zw _) _⟩
 ·go_enter Tryz.func196,Tryz.ntmps196
  go_wp2_with fail
  generalize hW:World.alloc _ _=w1
  obtain ⟨hb,hz⟩:=al2 hW
  refine (bj [2,3] a b (w.heap.size+1) 2 w1 (n22 hW) (by simp)).mono ?_
  rintro e w2 ⟨rfl,hb2⟩
  have HB2:=zu (aa hb hb2)
  clear hW hb hb2
  go_wp2_with fail
  go_ret
  exact ⟨ac (rfl),HB2.out⟩
 ·go_enter Tryz.func196,Tryz.ntmps196
  go_wp2_with fail
  generalize hW:World.alloc _ _=w1
  obtain ⟨hb,hz⟩:=al2 hW
  refine (bj [2] a b (w.heap.size+1) 1 w1 (n22 hW) (by simp)).mono ?_
  rintro e w2 ⟨rfl,hb2⟩
  have HB2:=zu (aa hb hb2)
  clear hW hb hb2
  go_wp2_with fail
  go_ret
  exact ⟨ac (rfl),HB2.out⟩
 ·go_enter Tryz.func196,Tryz.ntmps196
  go_wp2_with fail
  generalize hW:World.alloc _ _=w1
  obtain ⟨hb,hz⟩:=al2 hW
  refine (bj [2] a b (w.heap.size+1) 1 w1 (n22 hW) (by simp)).mono ?_
  rintro e w2 ⟨rfl,hb2⟩
  have HB2:=zu (aa hb hb2)
  clear hW hb hb2
  go_wp2_with fail
  go_ret
  exact ⟨ac (rfl),HB2.out⟩
 ·go_enter Tryz.func196,Tryz.ntmps196
  go_wp2_with fail
  generalize hW:World.alloc _ _=w1
  obtain ⟨hb,hz⟩:=al2 hW
  refine (bj [2] a b (w.heap.size+1) 1 w1 (n22 hW) (by simp)).mono ?_
  rintro e w2 ⟨rfl,hb2⟩
  have HB2:=zu (aa hb hb2)
  clear hW hb hb2
  go_wp2_with fail
  go_ret
  exact ⟨ac (rfl),HB2.out⟩
 ·go_enter Tryz.func196,Tryz.ntmps196
  go_wp2_with fail
  all_goals first
   | (go_ret
      exact ⟨ac (by simp [aJ];try omega),(zy _ _).alloc (zw _) _⟩)
   | (generalize hW:World.alloc _ _=w1
      obtain ⟨hb,hz⟩:=al2 hW
      refine (bj [3] _ b (w.heap.size+1) 1 w1 (n22 hW) (by simp)).mono ?_
      rintro e w2 ⟨rfl,hb2⟩
      have HB2:=zu (aa hb hb2)
      clear hW hb hb2
      go_wp2_with fail
      go_ret
      refine ⟨ac ?_,HB2.out⟩
      have hc11:=c11 (a:=a) (b:=b) (by omega)
      first
       | exact hc11
       | (have ha:a=7:=by assumption
          exact (congrArg (fun x=>dN [3] x b) ha.symm).trans hc11)
       | (have ha:a=7:=by assumption
          have hb7:¬b≤7:=by omega
          rw [decide_eq_false hb7,Bool.false_or]
          exact (congrArg (fun x=>dN [3] x b) ha.symm).trans hc11))
 ·go_enter Tryz.func196,Tryz.ntmps196
  go_wp2_with fail
  generalize hW:World.alloc _ _=w1
  obtain ⟨hb,hz⟩:=al2 hW
  refine (bj [3,5] a b (w.heap.size+1) 2 w1 (n22 hW) (by simp)).mono ?_
  rintro e w2 ⟨rfl,hb2⟩
  have HB2:=zu (aa hb hb2)
  clear hW hb hb2
  go_wp2_with fail
  go_ret
  exact ⟨ac (rfl),HB2.out⟩
 ·go_enter Tryz.func196,Tryz.ntmps196
  go_wp2_with fail
  generalize hW:World.alloc _ _=w1
  obtain ⟨hb,hz⟩:=al2 hW
  refine (bj [3,5] a b (w.heap.size+1) 2 w1 (n22 hW) (by simp)).mono ?_
  rintro e w2 ⟨rfl,hb2⟩
  have HB2:=zu (aa hb hb2)
  clear hW hb hb2
  go_wp2_with fail
  go_ret
  exact ⟨ac (rfl),HB2.out⟩
 ·go_enter Tryz.func196,Tryz.ntmps196
  go_wp2_with fail
  generalize hW:World.alloc _ _=w1
  obtain ⟨hb,hz⟩:=al2 hW
  refine (bj [3] a b (w.heap.size+1) 1 w1 (n22 hW) (by simp)).mono ?_
  rintro e w2 ⟨rfl,hb2⟩
  have HB2:=zu (aa hb hb2)
  clear hW hb hb2
  go_wp2_with fail
  go_ret
  exact ⟨ac (rfl),HB2.out⟩
 ·go_enter Tryz.func196,Tryz.ntmps196
  go_wp2_with fail
  generalize hW:World.alloc _ _=w1
  obtain ⟨hb,hz⟩:=al2 hW
  refine (bj [7] a b (w.heap.size+1) 1 w1 (n22 hW) (by simp)).mono ?_
  rintro e w2 ⟨rfl,hb2⟩
  have HB2:=zu (aa hb hb2)
  clear hW hb hb2
  go_wp2_with fail
  go_ret
  exact ⟨ac (rfl),HB2.out⟩
 ·go_enter Tryz.func196,Tryz.ntmps196
  go_wp2_with fail
  generalize hW:World.alloc _ _=w1
  obtain ⟨hb,hz⟩:=al2 hW
  refine (bj [7] a b (w.heap.size+1) 1 w1 (n22 hW) (by simp)).mono ?_
  rintro e w2 ⟨rfl,hb2⟩
  have HB2:=zu (aa hb hb2)
  clear hW hb hb2
  go_wp2_with fail
  go_ret
  exact ⟨ac (rfl),HB2.out⟩
 ·go_enter Tryz.func196,Tryz.ntmps196
  go_wp2_with fail
  generalize hW:World.alloc _ _=w1
  obtain ⟨hb,hz⟩:=al2 hW
  refine (bj [2] a b (w.heap.size+1) 1 w1 (n22 hW) (by simp)).mono ?_
  rintro e w2 ⟨rfl,hb2⟩
  have HB2:=zu (aa hb hb2)
  clear hW hb hb2
  go_wp2_with fail
  go_ret
  exact ⟨ac (rfl),HB2.out⟩
 ·go_enter Tryz.func196,Tryz.ntmps196
  go_wp2_with fail
  generalize hW:World.alloc _ _=w1
  obtain ⟨hb,hz⟩:=al2 hW
  refine (bj [2] a b (w.heap.size+1) 1 w1 (n22 hW) (by simp)).mono ?_
  rintro e w2 ⟨rfl,hb2⟩
  have HB2:=zu (aa hb hb2)
  clear hW hb hb2
  go_wp2_with fail
  go_ret
  exact ⟨ac (rfl),HB2.out⟩
 ·go_enter Tryz.func196,Tryz.ntmps196
  go_wp2_with fail
  generalize hW:World.alloc _ _=w1
  obtain ⟨hb,hz⟩:=al2 hW
  refine (bj [2] a b (w.heap.size+1) 1 w1 (n22 hW) (by simp)).mono ?_
  rintro e w2 ⟨rfl,hb2⟩
  have HB2:=zu (aa hb hb2)
  clear hW hb hb2
  go_wp2_with fail
  go_ret
  exact ⟨ac (rfl),HB2.out⟩
theorem zo (n:Int):IntKind.u64.wrap n=n % 18446744073709551616:=IntKind.wrap_u64 n
theorem lZ (n:Int):wrap64 n=if n % 18446744073709551616<9223372036854775808 then n % 18446744073709551616 else n % 18446744073709551616-18446744073709551616:=by
 unfold wrap64;omega
theorem ret_u {k:IntKind} {a b:Int} (h:a=b):Ending.returned (.int k a)=.returned (.int k b):=by rw [h]
theorem jN {k:IntKind} {a b:Int} {x y:Bool} (h:a=b) (h':x=y):Ending.returned (.tuple #[.int k a,.bool x])=.returned (.tuple #[.int k b,.bool y]):=by rw [h,h']
theorem xO (n:Int) (hn:I64 n) (w:World) :
 Calls Tryz.prog 211 #[.int .i64 n] w fun e w'=>e=.returned (.int .u64 (n.natAbs:Int))∧w=w':=by
 obtain ⟨h0,h1⟩:=hn
 rcases Int.lt_or_le n 0 with hlt | hge
 ·go_enter Tryz.func211,Tryz.ntmps211
  go_wp2_with fail
  go_ret
  exact ⟨ret_u (by rw [zo,zo];omega),rfl⟩
 ·go_enter Tryz.func211,Tryz.ntmps211
  go_wp2_with fail
  go_ret
  exact ⟨ret_u (by omega),rfl⟩
def dG (n:Int):Bool:=decide (-9223372036854775808≤n)&&decide (n≤9223372036854775807)
theorem cj (n:Int):dG n=true↔I64 n:=by simp [dG,I64]
theorem kW (n:Int):dG n=false↔¬I64 n:=by rw [←cj];simp
theorem mag_mul (a b:Int):0≤(a.natAbs:Int)*(b.natAbs:Int):=Int.mul_nonneg (by omega) (by omega)
theorem sg {a b:Int} (h:(!decide (a<0)==decide (b<0))=true):a*b=-((a.natAbs:Int)*(b.natAbs:Int)):=by
 have h:¬(a<0↔b<0):=by simpa using h
 by_cases h1:a<0
 ·have e1:(a.natAbs:Int)=-a:=by omega
  have e2:(b.natAbs:Int)=b:=by omega
  rw [e1,e2,Int.neg_mul,Int.neg_neg]
 ·have e1:(a.natAbs:Int)=a:=by omega
  have e2:(b.natAbs:Int)=-b:=by omega
  rw [e1,e2,Int.mul_neg,Int.neg_neg]
theorem si {a b:Int} (h:(!decide (a<0)==decide (b<0))=false):a*b=(a.natAbs:Int)*(b.natAbs:Int):=by
 have h:(a<0↔b<0):=by simpa using h
 by_cases h1:a<0
 ·have e1:(a.natAbs:Int)=-a:=by omega
  have e2:(b.natAbs:Int)=-b:=by omega
  rw [e1,e2,Int.neg_mul,Int.mul_neg,Int.neg_neg]
 ·have e1:(a.natAbs:Int)=a:=by omega
  have e2:(b.natAbs:Int)=b:=by omega
  rw [e1,e2]
theorem uQ {a b P:Int} (h:a*b=-P) (hP:0≤P) (h0:P / 18446744073709551616=0):decide (P % 18446744073709551616≤9223372036854775808)=dG (a*b)∧(dG (a*b)=true→wrap64 (IntKind.u64.wrap (-(P % 18446744073709551616)))=a*b):=by
 rw [h]
 refine ⟨?_,fun hf=>?_⟩
 ·rw [Bool.eq_iff_iff,cj,zH];unfold I64;omega
 ·rw [cj] at hf;unfold I64 at hf;rw [zo,lZ];split<;>omega
theorem uR {a b P:Int} (h:a*b=P) (hP:0≤P) (h0:P / 18446744073709551616=0):decide (P % 18446744073709551616<9223372036854775808)=dG (a*b)∧(dG (a*b)=true→wrap64 (P % 18446744073709551616)=a*b):=by
 rw [h]
 refine ⟨?_,fun hf=>?_⟩
 ·rw [Bool.eq_iff_iff,cj,zH];unfold I64;omega
 ·rw [cj] at hf;unfold I64 at hf;rw [lZ];split<;>omega
theorem rF {a b P:Int} (h:a*b=-P∨a*b=P) (hP:0≤P) (h0:¬P / 18446744073709551616=0):false=dG (a*b):=by
 rw [eq_comm,kW];unfold I64
 rcases h with h | h<;>rw [h]<;>omega
theorem yV {a:Int} (h:I64 a):a.natAbs<18446744073709551616:=by unfold I64 at h;omega
theorem lE (a b:Int) (ha:I64 a) (hb:I64 b) (w:World) :
 Calls Tryz.prog 204 #[.int .i64 a,.int .i64 b] w fun e w'=>(∃m:Int,e=.returned (.tuple #[.int .i64 m,.bool (dG (a*b))])∧(dG (a*b)=true→m=a*b))∧w=w':=by
 have HP:=zu (mag_mul a b)
 generalize hf:dG (a*b)=F
 have HF:=zu hf
 clear hf
 go_enter Tryz.func204,Tryz.ntmps204
 go_wp2_with (first
  | (go_at_call 211;refine (xO _ (by assumption) _).mono ?_;rintro e w' ⟨rfl,rfl⟩)
  | (go_at_call 212;refine (Tryz.bits_Mul64 a.natAbs b.natAbs (yV ha) (yV hb) _).mono ?_;rintro e w' ⟨rfl,rfl⟩))
 ·have h:=uQ (sg ‹_›) HP.out ‹_›
  go_ret2
  rw [HF.out] at h
  exact ⟨⟨_,jN rfl h.1,h.2⟩,rfl⟩
 ·have h:=rF (.inl (sg ‹_›)) HP.out ‹_›
  go_ret2
  rw [HF.out] at h
  exact ⟨⟨_,jN rfl h,fun hh=>absurd (h.trans hh) (by simp)⟩,rfl⟩
 ·have h:=uR (si ‹_›) HP.out ‹_›
  go_ret2
  rw [HF.out] at h
  exact ⟨⟨_,jN rfl h.1,h.2⟩,rfl⟩
 ·have h:=rF (.inr (si ‹_›)) HP.out ‹_›
  go_ret2
  rw [HF.out] at h
  exact ⟨⟨_,jN rfl h,fun hh=>absurd (h.trans hh) (by simp)⟩,rfl⟩
def tW (code a b:Int):Int:=if code=7 then a+b else if code=8 then a-b else if code=9 then a*b else a.tdiv b
def og (code a b:Int):Int:=if code=10∧b=0 then 6 else if dG (tW code a b) then 0 else 5
def mS (code a b:Int):Int × Int × Int:=if og code a b=0 then (2,tW code a b,0) else (0,0,og code a b)
theorem lH {code a b k n e e':Int} (h:og code a b=e') (he:e'≠0) (hr:mS code a b=(k,n,e)) :
 Ending.returned (.tuple #[.agg #[.int .i64 0,.int .i64 0,.string ⟨#[]⟩,.slice none 0 0],.int .i64 e'])=.returned (.tuple #[.agg #[.int .i64 k,.int .i64 n,.string ⟨#[]⟩,.slice none 0 0],.int .i64 e]):=by
 subst h
 unfold mS at hr
 rw [if_neg he] at hr
 simp only [Prod.mk.injEq] at hr
 obtain ⟨rfl,rfl,rfl⟩:=hr
 rfl
theorem iT {code a b k n e v:Int} (h:og code a b=0) (hv:v=tW code a b) (hr:mS code a b=(k,n,e)) :
 Ending.returned (.tuple #[.agg #[.int .i64 2,.int .i64 v,.string ⟨#[]⟩,.slice none 0 0],.int .i64 0])=.returned (.tuple #[.agg #[.int .i64 k,.int .i64 n,.string ⟨#[]⟩,.slice none 0 0],.int .i64 e]):=by
 subst hv
 unfold mS at hr
 rw [if_pos h] at hr
 simp only [Prod.mk.injEq] at hr
 obtain ⟨rfl,rfl,rfl⟩:=hr
 rfl
theorem xc {a b:Int} (ha:I64 a) (hb:I64 b) (h:(!decide (a<wrap64 (a+b))==decide (0<b))=true):og 7 a b=5:=by
 have h:¬(a<wrap64 (a+b)↔0<b):=by simpa using h
 have hf:dG (a+b)=false:=by
  rw [kW];unfold I64 at *;rw [lZ] at h;split at h<;>omega
 show (if (7:Int)=10∧b=0 then 6 else if dG (a+b)=true then 0 else 5)=(5:Int)
 rw [if_neg (by omega),hf];rfl
theorem wY {a b:Int} (ha:I64 a) (hb:I64 b) (h:(!decide (a<wrap64 (a+b))==decide (0<b))=false):og 7 a b=0∧wrap64 (a+b)=tW 7 a b:=by
 have h:(a<wrap64 (a+b)↔0<b):=by simpa using h
 have hf:I64 (a+b):=by
  unfold I64 at *;rw [lZ] at h;split at h<;>omega
 constructor
 ·show (if (7:Int)=10∧b=0 then 6 else if dG (a+b)=true then 0 else 5)=(0:Int)
  rw [if_neg (by omega),(cj _).2 hf];rfl
 ·show wrap64 (a+b)=a+b
  unfold I64 at hf;rw [lZ];split<;>omega
theorem yp {a b:Int} (ha:I64 a) (hb:I64 b) (h:(!decide (wrap64 (a-b)<a)==decide (0<b))=true):og 8 a b=5:=by
 have h:¬(wrap64 (a-b)<a↔0<b):=by simpa using h
 have hf:dG (a-b)=false:=by
  rw [kW];unfold I64 at *;rw [lZ] at h;split at h<;>omega
 show (if (8:Int)=10∧b=0 then 6 else if dG (a-b)=true then 0 else 5)=(5:Int)
 rw [if_neg (by omega),hf];rfl
theorem yo {a b:Int} (ha:I64 a) (hb:I64 b) (h:(!decide (wrap64 (a-b)<a)==decide (0<b))=false):og 8 a b=0∧wrap64 (a-b)=tW 8 a b:=by
 have h:(wrap64 (a-b)<a↔0<b):=by simpa using h
 have hf:I64 (a-b):=by
  unfold I64 at *;rw [lZ] at h;split at h<;>omega
 constructor
 ·show (if (8:Int)=10∧b=0 then 6 else if dG (a-b)=true then 0 else 5)=(0:Int)
  rw [if_neg (by omega),(cj _).2 hf];rfl
 ·show wrap64 (a-b)=a-b
  unfold I64 at hf;rw [lZ];split<;>omega
theorem xW {a b:Int} (h:dG (a*b)=false):og 9 a b=5:=by
 show (if (9:Int)=10∧b=0 then 6 else if dG (a*b)=true then 0 else 5)=(5:Int)
 rw [if_neg (by omega),h];rfl
theorem xV {a b:Int} (h:dG (a*b)=true):og 9 a b=0:=by
 show (if (9:Int)=10∧b=0 then 6 else if dG (a*b)=true then 0 else 5)=(0:Int)
 rw [if_neg (by omega),h];rfl
theorem mw (w:World):Blk (w.alloc (.cells #[.int .i64 0,.int .i64 0,.string ⟨#[]⟩,.slice none 0 0] 29)) w.heap.size #[.int .i64 0,.int .i64 0,.string ⟨#[]⟩,.slice none 0 0]:=n11 rfl
theorem sJ {a b:Int} (ha:I64 a) (h0:¬b=0) (h1:¬b=-1):I64 (a.tdiv b):=by
 by_cases hb:b=1
 ·subst hb;rw [Int.tdiv_one];exact ha
 ·have e:=Int.natAbs_tdiv a b
  have l:a.natAbs / b.natAbs≤a.natAbs / 2:=Nat.div_le_div_left (by omega) (by omega)
  unfold I64 at *
  have e2:(a.tdiv b).natAbs=a.natAbs / b.natAbs:=e
  omega
theorem qv {a b:Int} (h1:b=-1) (h:(!a !=-9223372036854775808)=true):og 10 a b=5:=by
 subst h1
 have h:a=-9223372036854775808:=by simpa using h
 subst h
 decide
theorem div_m1 {a b:Int} (ha:I64 a) (h1:b=-1) (h:(!a !=-9223372036854775808)=false):og 10 a b=0∧wrap64 (-a)=tW 10 a b:=by
 subst h1
 have h:¬a=-9223372036854775808:=by simpa using h
 have e:tW 10 a (-1)=-a:=by show a.tdiv (-1)=-a;rw [Int.tdiv_neg,Int.tdiv_one]
 unfold I64 at ha
 refine ⟨?_,?_⟩
 ·unfold og;rw [if_neg (by omega),e,(cj _).2 (by unfold I64;omega)];rfl
 ·rw [e,lZ];split<;>omega
theorem div_ok {a b:Int} (ha:I64 a) (h0:¬b=0) (h1:¬b=-1):og 10 a b=0∧wrap64 (a.tdiv b)=tW 10 a b:=by
 have h:=sJ ha h0 h1
 refine ⟨?_,?_⟩
 ·unfold og;rw [if_neg (by omega)]
  show (if dG (a.tdiv b)=true then 0 else 5)=(0:Int)
  rw [(cj _).2 h];rfl
 ·show wrap64 (a.tdiv b)=a.tdiv b
  unfold I64 at h;rw [lZ];split<;>omega
theorem put4 {w w2:World} {g:Nat} {a0 a1 a2 a3 v0 v1 v2 v3:Value} (h:Blk w2 g #[a0,a1,a2,a3]) (hb:Below w.heap.size w w2) (hg:w.heap.size≤g) :
 Blk ((((w2.setCell ⟨g,0,none⟩ v0).setCell ⟨g,1,none⟩ v1).setCell ⟨g,2,none⟩ v2).setCell ⟨g,3,none⟩ v3) g #[v0,v1,v2,v3] ∧
 Below w.heap.size w ((((w2.setCell ⟨g,0,none⟩ v0).setCell ⟨g,1,none⟩ v1).setCell ⟨g,2,none⟩ v2).setCell ⟨g,3,none⟩ v3):=
 ⟨(((h.set_ 0 v0).set_ 1 v1).set_ 2 v2).set_ 3 v3,(((hb.setCell (p:=⟨g,0,none⟩) hg v0).setCell (p:=⟨g,1,none⟩) hg v1).setCell (p:=⟨g,2,none⟩) hg v2).setCell (p:=⟨g,3,none⟩) hg v3⟩
theorem mT (code a b k n e:Int) (hc:code=7∨code=8∨code=9∨code=10) (ha:I64 a) (hb:I64 b) (hr:mS code a b=(k,n,e)) (w:World) :
 Calls Tryz.prog 194 #[.int .i64 code,.int .i64 a,.int .i64 b] w fun x w'=>x=.returned (.tuple #[.agg #[.int .i64 k,.int .i64 n,.string ⟨#[]⟩,.slice none 0 0],.int .i64 e])∧Below w.heap.size w w':=by
 have HR:=zu hr
 clear hr
 rcases hc with rfl | rfl | rfl | rfl
 ·go_enter Tryz.func194,Tryz.ntmps194
  go_wp2_with fail
  ·have h:=xc ha hb ‹_›
   refine bodyPost_ret (al rfl rfl (mw w) rfl) rfl ?_
   exact ⟨lH h (by omega) HR.out,(zy _ _).alloc (zw _) _⟩
  ·have h:=wY ha hb ‹_›
   have HH:=zu h.1
   have HB:=zu ((zy w.heap.size w).alloc (zw _) (.cells #[.int .i64 0,.int .i64 0,.string ⟨#[]⟩,.slice none 0 0] 29))
   have hz:=mw w
   rw [h.2]
   generalize hW:World.alloc _ _=w1 at *
   refine (bC _ _).mono ?_
   rintro x w2 ⟨rfl,hb2⟩
   have b_z:=hz.later hb2
   have HB2:=zu (aa HB.out hb2)
   have k_z:=b_z.cell
   have f_z:=b_z.free
   have l_z:=b_z.lt
   clear hz h hb2
   go_wp2_with fail
   refine bodyPost_ret (al rfl rfl (put4 b_z HB2.out (zw _)).1 rfl) rfl ?_
   exact ⟨iT HH.out rfl HR.out,(put4 b_z HB2.out (zw _)).2⟩
 ·go_enter Tryz.func194,Tryz.ntmps194
  go_wp2_with fail
  ·have h:=yp ha hb ‹_›
   refine bodyPost_ret (al rfl rfl (mw w) rfl) rfl ?_
   exact ⟨lH h (by omega) HR.out,(zy _ _).alloc (zw _) _⟩
  ·have h:=yo ha hb ‹_›
   have HH:=zu h.1
   have HB:=zu ((zy w.heap.size w).alloc (zw _) (.cells #[.int .i64 0,.int .i64 0,.string ⟨#[]⟩,.slice none 0 0] 29))
   have hz:=mw w
   rw [h.2]
   generalize hW:World.alloc _ _=w1 at *
   refine (bC _ _).mono ?_
   rintro x w2 ⟨rfl,hb2⟩
   have b_z:=hz.later hb2
   have HB2:=zu (aa HB.out hb2)
   have k_z:=b_z.cell
   have f_z:=b_z.free
   have l_z:=b_z.lt
   clear hz h hb2
   go_wp2_with fail
   refine bodyPost_ret (al rfl rfl (put4 b_z HB2.out (zw _)).1 rfl) rfl ?_
   exact ⟨iT HH.out rfl HR.out,(put4 b_z HB2.out (zw _)).2⟩
 ·cases hf:dG (a*b)
  ·have HF:=zu hf
   go_enter Tryz.func194,Tryz.ntmps194
   go_wp2_with fail
   refine (lE a b ha hb _).mono ?_
   rintro x w1_ ⟨⟨m,rfl,hm⟩,rfl⟩
   rw [hf]
   clear hf hm
   go_wp2_with fail
   ·have h:=xW HF.out
    refine bodyPost_ret (al rfl rfl (mw w) rfl) rfl ?_
    exact ⟨lH h (by omega) HR.out,(zy _ _).alloc (zw _) _⟩
  ·have HF:=zu hf
   go_enter Tryz.func194,Tryz.ntmps194
   go_wp2_with fail
   refine (lE a b ha hb _).mono ?_
   rintro x w1_ ⟨⟨m,rfl,hm⟩,rfl⟩
   rw [hf]
   rw [hf] at hm
   obtain rfl:=hm rfl
   clear hf
   go_wp2_with fail
   ·have h:=(show og 9 a b=0∧a*b=tW 9 a b from ⟨xV HF.out,rfl⟩)
    have HH:=zu h.1
    have HB:=zu ((zy w.heap.size w).alloc (zw _) (.cells #[.int .i64 0,.int .i64 0,.string ⟨#[]⟩,.slice none 0 0] 29))
    have hz:=mw w
    rw [h.2]
    generalize hW:World.alloc _ _=w1 at *
    refine (bC _ _).mono ?_
    rintro x w2 ⟨rfl,hb2⟩
    have b_z:=hz.later hb2
    have HB2:=zu (aa HB.out hb2)
    have k_z:=b_z.cell
    have f_z:=b_z.free
    have l_z:=b_z.lt
    clear hz h hb2
    go_wp2_with fail
    refine bodyPost_ret (al rfl rfl (put4 b_z HB2.out (zw _)).1 rfl) rfl ?_
    exact ⟨iT HH.out rfl HR.out,(put4 b_z HB2.out (zw _)).2⟩
 ·rcases Decidable.em (b=0) with hb0 | hb0
  ·subst hb0
   go_enter Tryz.func194,Tryz.ntmps194
   go_wp2_with fail
   have h:og 10 a 0=6:=rfl
   refine bodyPost_ret (al rfl rfl (mw w) rfl) rfl ?_
   exact ⟨lH h (by omega) HR.out,(zy _ _).alloc (zw _) _⟩
  ·go_enter Tryz.func194,Tryz.ntmps194
   go_wp2_with fail
   ·have h:=qv ‹_› ‹_›
    refine bodyPost_ret (al rfl rfl (mw w) rfl) rfl ?_
    exact ⟨lH h (by omega) HR.out,(zy _ _).alloc (zw _) _⟩
   ·have hm1:b=-1:=‹_›
    subst hm1
    have h:=div_m1 ha rfl ‹_›
    have HH:=zu h.1
    have HB:=zu ((zy w.heap.size w).alloc (zw _) (.cells #[.int .i64 0,.int .i64 0,.string ⟨#[]⟩,.slice none 0 0] 29))
    have hz:=mw w
    rw [h.2]
    generalize hW:World.alloc _ _=w1 at *
    refine (bC _ _).mono ?_
    rintro x w2 ⟨rfl,hb2⟩
    have b_z:=hz.later hb2
    have HB2:=zu (aa HB.out hb2)
    have k_z:=b_z.cell
    have f_z:=b_z.free
    have l_z:=b_z.lt
    clear hz h hb2
    go_wp2_with fail
    refine bodyPost_ret (al rfl rfl (put4 b_z HB2.out (zw _)).1 rfl) rfl ?_
    exact ⟨iT HH.out rfl HR.out,(put4 b_z HB2.out (zw _)).2⟩
   ·have h:=div_ok ha hb0 ‹_›
    have HH:=zu h.1
    have HB:=zu ((zy w.heap.size w).alloc (zw _) (.cells #[.int .i64 0,.int .i64 0,.string ⟨#[]⟩,.slice none 0 0] 29))
    have hz:=mw w
    rw [h.2]
    generalize hW:World.alloc _ _=w1 at *
    refine (bC _ _).mono ?_
    rintro x w2 ⟨rfl,hb2⟩
    have b_z:=hz.later hb2
    have HB2:=zu (aa HB.out hb2)
    have k_z:=b_z.cell
    have f_z:=b_z.free
    have l_z:=b_z.lt
    clear hz h hb2
    go_wp2_with fail
    refine bodyPost_ret (al rfl rfl (put4 b_z HB2.out (zw _)).1 rfl) rfl ?_
    exact ⟨iT HH.out rfl HR.out,(put4 b_z HB2.out (zw _)).2⟩
end Go.Proofs.YtjpndglegpcdnaaGreat
namespace Go.Proofs.YtjpndglegpcdnaaGreat
theorem uB (x y:Int):cU x y=-cU y x:=by unfold cU;split<;>split<;>omega
theorem dX {x y:Int}:cU x y=0↔x=y:=by unfold cU;split<;>(try split)<;>omega
theorem oD (x y:List UInt8):dg x y=-dg y x:=by
 unfold dg
 by_cases h1:x<y
 ·rw [if_pos h1,if_neg (List.lt_asymm h1),if_pos h1]
 ·by_cases h2:y<x
  ·rw [if_neg h1,if_pos h2,if_pos h2];rfl
  ·rw [if_neg h1,if_neg h2,if_neg h2,if_neg h1];rfl
theorem fK {x y:List UInt8}:dg x y=0↔x=y:=by
 constructor
 ·intro h
  unfold dg at h
  by_cases h1:x<y
  ·rw [if_pos h1] at h;omega
  ·by_cases h2:y<x
   ·rw [if_neg h1,if_pos h2] at h;omega
   ·exact List.le_antisymm (List.not_lt.1 h2) (List.not_lt.1 h1)
 ·rintro rfl
  unfold dg
  rw [if_neg (List.lt_irrefl _),if_neg (List.lt_irrefl _)]
theorem xq {x y:List UInt8}:dg x y<0↔x<y:=by
 unfold dg
 by_cases h1:x<y
 ·simp [h1]
 ·by_cases h2:y<x
  ·rw [if_neg h1,if_pos h2];simp [h1]
  ·rw [if_neg h1,if_neg h2];simp [h1]
structure Ord3 {α:Type} (c:α→α→Int):Prop where
 anti:∀x y,c x y=-c y x
 trans:∀x y z,c x y≤0→c y z≤0→c x z≤0
section
variable {α:Type} {c:α→α→Int}
theorem Ord3.self (h:Ord3 c) (x:α):c x x=0:=by have:=h.anti x x;omega
theorem Ord3.lt_le (h:Ord3 c) {x y z:α} (h1:c x y<0) (h2:c y z≤0):c x z<0:=by
 have t:=h.trans x y z (by omega) h2
 rcases Int.lt_or_eq_of_le t with t | t
 ·exact t
 ·have a:=h.anti x z
  have b:=h.trans y z x h2 (by omega)
  have d:=h.anti x y
  omega
theorem Ord3.le_lt (h:Ord3 c) {x y z:α} (h1:c x y≤0) (h2:c y z<0):c x z<0:=by
 have t:=h.trans x y z h1 (by omega)
 rcases Int.lt_or_eq_of_le t with t | t
 ·exact t
 ·have a:=h.anti x z
  have b:=h.trans z x y (by omega) h1
  have d:=h.anti y z
  omega
theorem Ord3.zero_l (h:Ord3 c) {x y z:α} (h1:c x y=0):c x z=c y z∨(c x z<0∧c y z<0)∨(0<c x z∧0<c y z):=by
 have h1':=h.anti x y
 rcases Int.lt_trichotomy (c y z) 0 with k | k | k
 ·exact .inr (.inl ⟨h.le_lt (by omega) k,k⟩)
 ·left
  have a:=h.trans x y z (by omega) (by omega)
  have b:=h.trans z y x (by have:=h.anti z y;omega) (by omega)
  have d:=h.anti x z
  omega
 ·right;right
  have a:=h.anti y z
  have b:=h.anti x z
  have d:=h.lt_le (x:=z) (y:=y) (z:=x) (by omega) (by omega)
  omega
end
theorem gB:Ord3 cU:=⟨uB,fun x y z h k=>by unfold cU at *;split at h<;>split at k<;>(try split at h)<;>(try split at k)<;>split<;>(try split)<;>omega⟩
theorem cmpS_le {x y:List UInt8}:dg x y≤0↔x≤y:=by
 have h:=oD x y
 have k:=@xq y x
 rw [show (dg x y≤0)↔¬(dg y x<0) by omega,k]
 exact List.not_lt
theorem kg:Ord3 dg:=⟨oD,fun x y z h k=>by rw [cmpS_le] at *;exact List.le_trans h k⟩
theorem xY {x y z:Int}:or3 x y z=0↔x=0∧y=0∧z=0:=by
 unfold or3;split<;>(try split)<;>omega
def jy {α:Type} (c d:α→α→Int) (x y:α):Int:=if c x y=0 then d x y else c x y
theorem Ord3.andThen {α:Type} {c d:α→α→Int} (hc:Ord3 c) (hd:Ord3 d):Ord3 (jy c d):=by
 refine ⟨fun x y=>?_,fun x y z h k=>?_⟩
 ·unfold jy
  have h1:=hc.anti x y
  have h2:=hd.anti x y
  split<;>split<;>omega
 ·unfold jy at *
  by_cases h1:c x y=0
  ·rw [if_pos h1] at h
   by_cases h2:c y z=0
   ·rw [if_pos h2] at k
    have e:c x z=0:=by rcases hc.zero_l (z:=z) h1 with e | e | e<;>omega
    rw [if_pos e]
    exact hd.trans x y z h k
   ·rw [if_neg h2] at k
    have e:c x z<0:=by rcases hc.zero_l (z:=z) h1 with e | e | e<;>omega
    rw [if_neg (by omega)];omega
  ·rw [if_neg h1] at h
   have h':c x y<0:=by omega
   by_cases h2:c y z=0
   ·have e:=hc.lt_le h' (by omega:c y z≤0)
    rw [if_neg (by omega)];omega
   ·rw [if_neg h2] at k
    have e:=hc.lt_le h' k
    rw [if_neg (by omega)];omega
theorem Ord3.by {α β:Type} {c:β→β→Int} (hc:Ord3 c) (f:α→β):Ord3 (fun x y=>c (f x) (f y)):=⟨fun _ _=>hc.anti _ _,fun _ _ _=>hc.trans _ _ _⟩
theorem rv:Ord3 im:=by
 have h:im=jy (fun a b=>cU a.kind b.kind) (jy (fun a b=>cU a.n b.n) (fun a b=>dg (bs a.s) (bs b.s))):=by
  funext a b;rfl
 rw [h]
 exact (gB.by Tm.kind).andThen ((gB.by Tm.n).andThen (kg.by fun t:Tm=>bs t.s))
theorem nr {f:Tm→Tm→Int} (hf:Ord3 f):Ord3 (bM f):=by
 refine ⟨?_,?_⟩
 ·intro x
  induction x with
  | nil=>intro y;cases y<;>simp [bM]
  | cons a x ih=>
    intro y
    cases y with
    | nil=>simp [bM]
    | cons b y=>
      have h:=hf.anti a b
      have:=ih y
      simp only [bM]
      split<;>split<;>omega
 ·intro x
  induction x with
  | nil=>intro y z _ _;cases z<;>simp [bM]
  | cons a x ih=>
    intro y z h k
    cases y with
    | nil=>simp [bM] at h
    | cons b y=>
      cases z with
      | nil=>simp [bM] at k
      | cons d z=>
        have key:=(hf.andThen (c:=f) (d:=fun _ _=>0) ⟨fun _ _=>rfl,fun _ _ _ _ _=>by simp⟩)
        simp only [bM] at *
        by_cases h1:f a b=0
        ·rw [if_pos h1] at h
         by_cases h2:f b d=0
         ·rw [if_pos h2] at k
          have e:f a d=0:=by rcases hf.zero_l (z:=d) h1 with e | e | e<;>omega
          rw [if_pos e]
          exact ih y z h k
         ·rw [if_neg h2] at k
          have e:f a d<0:=by rcases hf.zero_l (z:=d) h1 with e | e | e<;>omega
          rw [if_neg (by omega)];omega
        ·rw [if_neg h1] at h
         have e:f a d<0:=by
          by_cases h2:f b d=0
          ·exact hf.lt_le (y:=b) (by omega) (by omega)
          ·rw [if_neg h2] at k;exact hf.lt_le (y:=b) (by omega) k
         rw [if_neg (by omega)];omega
theorem eZ:∀d,Ord3 (aV d)
 | 0=>by
   have h:aV 0=im:=by funext a b;rfl
   rw [h];exact rv
 | d+1=>by
   have h:aV (d+1)=jy im (fun a b=>bM (aV d) a.l b.l):=by funext a b;rfl
   rw [h]
   exact rv.andThen ((nr (eZ d)).by Tm.l)
theorem oy {a b:ByteArray} (h:bs a=bs b):a=b:=by
 have:a.data.toList=b.data.toList:=h
 cases a;cases b
 simp only [ByteArray.mk.injEq]
 exact Array.toList_inj.1 this
theorem oC {a b:Tm}:im a b=0↔a.kind=b.kind∧a.n=b.n∧a.s=b.s:=by
 unfold im
 rw [xY,dX,dX,fK]
 exact ⟨fun ⟨h,k,l⟩=>⟨h,k,oy l⟩,fun ⟨h,k,l⟩=>⟨h,k,by rw [l]⟩⟩
def jc (t:Tm):Prop:=t.l=[]
def Two (t:Tm):Prop:=∀x∈t.l,jc x
theorem qI {d:Nat} {a b:Tm} (ha:jc a) (hb:jc b) (h:aV d a b=0):a=b:=by
 have h0:im a b=0:=by
  cases d with
  | zero=>exact h
  | succ d=>
    unfold aV at h
    by_cases k:im a b=0
    ·exact k
    ·rw [if_neg k] at h;exact absurd h k
 obtain ⟨h1,h2,h3⟩:=oC.1 h0
 clear h0 h
 cases a;cases b
 unfold jc at ha hb
 simp only at *
 subst h1 h2 h3 ha hb
 rfl
theorem rN {d:Nat}:∀{a b:List Tm},(∀x∈a,jc x)→(∀x∈b,jc x)→bM (aV d) a b=0→a=b
 | [],[],_,_,_=>rfl
 | [],_::_,_,_,h=>by simp [bM] at h
 | _::_,[],_,_,h=>by simp [bM] at h
 | x::a,y::b,ha,hb,h=>by
   simp only [bM] at h
   by_cases k:aV d x y=0
   ·rw [if_pos k] at h
    rw [qI (ha x (by simp)) (hb y (by simp)) k,rN (fun z hz=>ha z (by simp [hz])) (fun z hz=>hb z (by simp [hz])) h]
   ·rw [if_neg k] at h;exact absurd h k
theorem two_eq {d:Nat} {a b:Tm} (ha:Two a) (hb:Two b) (h:aV (d+1) a b=0):a=b:=by
 unfold aV at h
 by_cases k:im a b=0
 ·rw [if_pos k] at h
  obtain ⟨h1,h2,h3⟩:=oC.1 k
  have h4:=rN ha hb h
  clear h k ha hb
  cases a;cases b
  simp only at *
  subst h1 h2 h3 h4
  rfl
 ·rw [if_neg k] at h;exact absurd h k
theorem fS {t:Tm} (h:ec t=true):jc t:=by
 unfold ec at h
 rw [zC,zH] at h
 exact List.eq_nil_of_length_eq_zero h.1
open Go.ChangeShapes Go.WideShapes Go.ChangeAt Go.RowKit
theorem ar {w W:World} {o:Obj} (h:w.alloc o=W):Below w.heap.size w W:=(al1 h).1
theorem kY {t:Tm} (h:af t=true):if t.kind=7 then t.n=0∧t.s.size=0∧cP t.l=true else t.l=[]:=by
 unfold af fy at h
 rw [zC] at h
 by_cases h7:t.kind=7
 ·rw [if_pos h7] at h ⊢
  have h2:=h.2
  simp only [zC,zH] at h2
  exact ⟨h2.1.1,h2.1.2,h2.2⟩
 ·rw [if_neg h7] at h ⊢
  exact fS h.2
theorem dA {l:List Tm} (h:cP l=true):l.length≤16∧∀x∈l,jc x:=by
 unfold cP at h
 rw [zC,List.all_eq_true,zH] at h
 refine ⟨h.2,fun x hx=>?_⟩
 obtain ⟨i,hi,rfl⟩:=List.getElem_of_mem hx
 have:=h.1 i (List.mem_range.2 hi)
 unfold eS at this
 rw [zD hi,zD (show 0<l.length by omega),zD (show i-1<l.length by omega)] at this
 simp only [zC] at this
 exact fS this.1.1.1
theorem ek (d:Nat):dJ (TmR d):=fun h u hu=>by
 obtain ⟨_,_,rfl,_⟩:=RTm.cells h
 simp only [List.mem_cons,List.not_mem_nil,or_false] at hu
 rcases hu with rfl | rfl | rfl | rfl<;>rfl
theorem gS:(Tryz.prog.info? 29).map (fun i=>(i.zero,i.size,i.bytes))=some (some (.agg #[.int .i64 0,.int .i64 0,.string ⟨#[]⟩,.slice none 0 0]),4,56):=by kernel_rfl
end Go.Proofs.YtjpndglegpcdnaaGreat
