/- viaticumref6.Fixed. -/
import Derived.Test.YtdphibjibnffeaaGreatRs2
import Derived.Test.YtdphibjibnffeaaGreatRule1
set_option linter.unusedVariables false
set_option linter.unusedSimpArgs false
set_option maxRecDepth 100000
set_option maxHeartbeats 8000000
namespace Go.Proofs.YtdphibjibnffeaaGreat
open Go.ChangeShapes Go.WideShapes Go.ChangeAt Go.RowKit
def xc (t:Tm):Bool:=decide (t.n=0)&&decide (t.s.size=0)&&cH t.l
theorem rQ {l:List Tm} {k:Nat} (hlt:k<l.length) (hn:eF l k=false):cH l=false:=by
 rw [Bool.eq_false_iff,cH]
 intro h
 rw [Bool.and_eq_true,List.all_eq_true] at h
 have:=h.1 k (by simpa using hlt)
 rw [hn] at this
 cases this
theorem pH {l:List Tm} (h:16<l.length):cH l=false:=by
 rw [cH,decide_eq_false (by omega),Bool.and_false]
theorem tS (d:Nat) (hM:∀(t:Tm) (vs:List Value) (B:Nat) (w:World),RTm w B d t vs→B≤w.heap.size →
 Calls Tryz.prog 122 #[.agg vs.toArray] w fun e w'=>e=.returned (.bool (ff t))∧Below w.heap.size w w')
 (t:Tm) (vs:List Value) (B:Nat) (w:World) (ht:RTm w B (d+1) t vs) (hB:B≤w.heap.size) :
 Calls Tryz.prog 186 #[.agg vs.toArray] w fun e w'=>e=.returned (.bool (xc t))∧Below w.heap.size w w':=by
 have HM:=Lib.hid hM
 clear hM
 obtain ⟨A,c,rfl,hc1,hc2,hs,_,_,hl⟩:=ht.cells
 obtain ⟨kind,n,s,l⟩:=t
 dsimp only at hc1 hc2 hs hl
 have hbel:∀o:Obj,Below w.heap.size w (w.alloc o):=fun o=>(Below.refl _ _).alloc (Nat.le_refl _) _
 have HB:=Lib.hid hbel
 have HL:=Lib.hid hl
 clear hbel ht hl
 by_cases t1:n=0
 rotate_left
 ·have u1:(n !=0)=true:=by simpa using t1
  have T1:=Lib.hid t1
  clear t1
  go_enter Tryz.func186,Tryz.ntmps186
  go_wp2_with fail
  go_ret
  exact ⟨ae (by simp [xc,T1.out]),HB.out _⟩
 have u1:(n !=0)=false:=by simpa using t1
 have T1:=Lib.hid t1
 clear t1
 by_cases t2:s.size=0
 rotate_left
 ·have u2:s.toList.isEmpty=false:=by rw [aU];simpa using t2
  have T2:=Lib.hid t2
  clear t2
  go_enter Tryz.func186,Tryz.ntmps186
  go_wp2_with fail
  go_ret
  exact ⟨ae (by simp [xc,T2.out]),HB.out _⟩
 have u2:s.toList.isEmpty=true:=by rw [aU];simpa using t2
 have T2:=Lib.hid t2
 clear t2
 by_cases t3:16<l.length
 ·go_enter Tryz.func186,Tryz.ntmps186
  go_wp2_with fail
  go_ret
  exact ⟨ae (by simp [xc,pH t3]),HB.out _⟩
 go_enter Tryz.func186,Tryz.ntmps186
 go_wp2_with fail
 generalize hW:World.alloc _ _=W
 obtain ⟨hb,hz⟩:=al1 hW
 have bt:=n11 hW
 have HB1:=Lib.hid hb
 have hB1:B≤W.heap.size:=by omega
 clear hW hz hb HB
 go_loopw [22] (fun i wr=>∃k:Nat,k≤l.length∧i=.int .i64 k∧Below W.heap.size W wr∧∀i,i<k→eF l i=true) (fun i _=>l.length-(intOf i).toNat)
 case atStart=>exact ⟨0,Nat.zero_le _,rfl,Below.refl _ _,fun i h=>absurd h (by omega)⟩
 case round=>
  obtain ⟨k,hk,rfl,hbw,hall⟩:=hrel
  have HA:=Lib.hid hall
  clear hall
  have ct:=(bt.later hbw).cell
  have lt:=(bt.later hbw).lt
  by_cases hlt:k<l.length
  ·have hl:=HL.out.below HB1.out hB
   obtain ⟨b,off,rfl,hb⟩:=hl.base hbw hB1 (by omega)
   obtain ⟨x,Ax,cx,hx,c0,c1,c2,c3,hr⟩:=hl.at_ hbw hB1 hlt
   obtain ⟨y,Ay,cy,hy,f0,f1,f2,f3,hr0⟩:=hl.at_ (k:=0) hbw hB1 (by omega)
   obtain ⟨z,Az,cz,hz,g0,g1,g2,g3,hrz⟩:=hl.at_ (k:=k-1) hbw hB1 (by omega)
   have HR:=Lib.hid (lS hx hy hz)
   have HK0:=Lib.hid (show k=0→x=y from fun h=>by subst h;rw [hx] at hy;simpa using hy)
   have HBw:=Lib.hid hbw
   simp only [Nat.zero_mul,Nat.add_zero] at f0 f1 f2 f3
   clear hx hy hz f1 f2 f3 hl
   go_wp2_with fail
   generalize hW2:World.alloc _ _=W2
   obtain ⟨hb2,hz2⟩:=al1 hW2
   have q0:=(n11 hW2).regrown
   have q1:=((bt.later hbw).later hb2).regrown
   have q4:=cell_regrown ((hb2.cell (p:=⟨b,off,none⟩) hb).trans f0)
   have q5:=cell_regrown ((hb2.cell (p:=⟨b,off+(k-1)*4,none⟩) hb).trans g0)
   have q6:=cell_regrown ((hb2.cell (p:=⟨b,off+(k-1)*4+1,none⟩) hb).trans g1)
   have q7:=cell_regrown ((hb2.cell (p:=⟨b,off+(k-1)*4+2,none⟩) hb).trans g2)
   have q8:=cell_regrown ((hb2.cell (p:=⟨b,off+(k-1)*4+3,none⟩) hb).trans g3)
   have hBW:B≤W2.heap.size:=by have:=hbw.size;omega
   have hrx:=Lib.hid (hr.below hb2 (by have:=hbw.size;omega))
   have hrz':=Lib.hid (hrz.below hb2 (by have:=hbw.size;omega))
   have HB2:=Lib.hid hb2
   have hl0:0<l.length:=by omega
   clear hW2 hz2 hb2 ct lt c0 c1 c2 c3 f0 g0 g1 g2 g3 hr hrz hr0
   have hcases:(x.kind==1)=true∨((x.kind==1)=false∧(x.kind==7)=true)∨((x.kind==1)=false∧(x.kind==7)=false∧ff x=false) ∨
    ((x.kind==1)=false∧(x.kind==7)=false∧ff x=true∧decide (0<k)=false) ∨
    ((x.kind==1)=false∧(x.kind==7)=false∧ff x=true∧0<k∧(x.kind !=y.kind)=true) ∨
    ((x.kind==1)=false∧(x.kind==7)=false∧ff x=true∧0<k∧(x.kind !=y.kind)=false∧decide (0≤aW 3 z x)=true) ∨
    ((x.kind==1)=false∧(x.kind==7)=false∧ff x=true∧0<k∧(x.kind !=y.kind)=false∧decide (0≤aW 3 z x)=false):=by
    cases (x.kind==1)<;>cases (x.kind==7)<;>cases ff x<;>cases (x.kind !=y.kind)<;>cases decide (0≤aW 3 z x)<;>rcases Nat.eq_zero_or_pos k with h | h<;>simp [h]
   rcases hcases with h1 | ⟨h1,h7⟩ | ⟨h1,h7,hm⟩ | ⟨h1,h7,hm,hk0⟩ | ⟨h1,h7,hm,hk0,hy⟩ | ⟨h1,h7,hm,hk0,hy,hc⟩ | ⟨h1,h7,hm,hk0,hy,hc⟩
   all_goals
    refine wp_region_quiet_below (by kernel_rfl) (by kernel_rfl) ?_
    repeat (go_big_quiet_step ((first
     | (go_at_call 122;exact Calls.regrown_of (HM.out x [_,_,_,_] B _ (hrx.out.below (below_regrown _ _ _) hBW) (Nat.le_trans hBW (below_regrown _ _ _).size)))
     | (go_at_call 189;exact Calls.regrown_of (gu (d:=d) (B:=B) (a:=z) (b:=x) (va:=[_,_,_,_]) (vb:=[_,_,_,_]) (hrz'.out.below (below_regrown _ _ _) hBW) (hrx.out.below (below_regrown _ _ _) hBW) (Nat.le_trans hBW (below_regrown _ _ _).size))))))
    refine wpQuiet_nil ?_
    intro w3 hw3
    have hb3:Below W2.heap.size W2 w3:=by obtain ⟨p,rfl⟩:=hw3;exact below_regrown _ _ _
    clear hw3 q0 q1 q4 q5 q6 q7 q8
    have HB3:=Lib.hid (ac HBw.out (ac HB2.out hb3))
    have hfin:=Lib.hid (ac HB1.out HB3.out)
    clear hb3
    go_wp2_with fail
    try simp only [beq_iff_eq,bne_iff_ne,beq_eq_false_iff_ne,bne_eq_false_iff_eq,decide_eq_true_eq,decide_eq_false_iff_not] at h1
    try simp only [beq_iff_eq,bne_iff_ne,beq_eq_false_iff_ne,bne_eq_false_iff_eq,decide_eq_true_eq,decide_eq_false_iff_not] at h7
    try simp only [beq_iff_eq,bne_iff_ne,beq_eq_false_iff_ne,bne_eq_false_iff_eq,decide_eq_true_eq,decide_eq_false_iff_not] at hk0
    try simp only [beq_iff_eq,bne_iff_ne,beq_eq_false_iff_ne,bne_eq_false_iff_eq,decide_eq_true_eq,decide_eq_false_iff_not] at hy
    try simp only [beq_iff_eq,bne_iff_ne,beq_eq_false_iff_ne,bne_eq_false_iff_eq,decide_eq_true_eq,decide_eq_false_iff_not] at hc
    first
     | (have hn:eF l k=false:=by
         rw [Bool.eq_false_iff]
         intro h
         have h2:=HR.out.1 h
         rw [ah] at h2
         simp only [Bool.and_eq_true,decide_eq_true_eq] at h2
         first
          | exact h2.1.1.1.1 h1
          | exact h2.1.1.2 h7
          | (rw [hm] at h2;exact absurd h2.1.1.1.2 (by decide))
          | exact hy h2.1.2
          | (have:=h2.2 hk0;omega)
        go_ret
        exact ⟨ae (by simp [xc,rQ hlt hn]),hfin.out⟩)
     | (have hn:eF l k=true:=HR.out.2 (by
         rw [ah,hm]
         refine ⟨⟨⟨by simpa using h1,h7⟩,?_⟩,fun h=>?_⟩
         ·first
           | exact hy
           | rw [HK0.out (by omega)]
         ·omega)
        go_roundw
        case rel=>exact ⟨k+1,by omega,by go_num,HB3.out,fun i hi=>by
         rcases Nat.lt_or_ge i k with h1 | h1
         ·exact HA.out i h1
         ·obtain rfl:i=k:=by omega
          exact hn⟩
        case measure=>simp [intOf];omega)
  ·have hfin:=Lib.hid (ac HB1.out hbw)
   go_wp2_with fail
   go_ret
   refine ⟨ae ?_,hfin.out⟩
   obtain rfl:k=l.length:=by omega
   have:(List.range l.length).all (eF l)=true:=by simpa using HA.out
   rw [xc]
   simp only [T1.out,T2.out,decide_true,Bool.true_and]
   rw [cH,this,decide_eq_true (by omega)]
   rfl
theorem qt {α:Type} (l:List α):((l.length:Int)==0)=decide (l=[]):=by
 cases l with
 | nil=>simp
 | cons a l=>simp;omega
theorem ui (d:Nat) (hR:∀(t:Tm) (vs:List Value) (B:Nat) (w:World),RTm w B (d+1) t vs→B≤w.heap.size →
 Calls Tryz.prog 186 #[.agg vs.toArray] w fun e w'=>e=.returned (.bool (xc t))∧Below w.heap.size w w')
 (t:Tm) (vs:List Value) (B:Nat) (w:World) (ht:RTm w B (d+1) t vs) (hB:B≤w.heap.size) :
 Calls Tryz.prog 122 #[.agg vs.toArray] w fun e w'=>e=.returned (.bool (ff t))∧Below w.heap.size w w':=by
 have HR:=Lib.hid hR
 clear hR
 have HT:=Lib.hid ht
 obtain ⟨A,c,rfl,hc1,hc2,hs,_,_,hl⟩:=ht.cells
 obtain ⟨kind,n,s,l⟩:=t
 dsimp only at hc1 hc2 hs hl
 have hbel:∀o:Obj,Below w.heap.size w (w.alloc o):=fun o=>(Below.refl _ _).alloc (Nat.le_refl _) _
 have HB:=Lib.hid hbel
 clear hbel ht hl
 by_cases hk1:kind=1
 ·subst hk1
  by_cases hn:dN (bs s)=true
  all_goals
   try rw [Bool.not_eq_true] at hn
   go_enter Tryz.func122,Tryz.ntmps122
   go_wp2_with fail
   refine (dS s _ (by unfold maxLen;omega)).mono ?_
   rintro e w' ⟨rfl,rfl⟩
   have HN:=Lib.hid hn
   rw [hn]
   go_wp2_with fail
   all_goals
    go_ret
    refine ⟨ae ?_,HB.out _⟩
    clear HR HB HT
    simp [ff,dK,HN.out, *]
    try first
     | omega
     | exact qt _
 have hcases:kind=2∨kind=3∨kind=4∨kind=5∨kind=6∨kind=7∨((kind==1)=false∧(kind==2)=false∧(kind==3)=false∧(kind==4)=false∧(kind==5)=false∧(kind==6)=false∧(kind==7)=false∧(kind !=7)=true):=by
  simp only [beq_eq_false_iff_ne,bne_iff_ne];omega
 clear hk1
 rcases hcases with rfl | rfl | rfl | rfl | rfl | rfl | ⟨k1,k2,k3,k4,k5,k6,k7,k8⟩
 all_goals
  go_enter Tryz.func122,Tryz.ntmps122
  go_wp2_with (go_at_call 186;refine (HR.out ⟨_,_,_,_⟩ [_,_,_,_] B _ (HT.out.below (HB.out _) hB) (Nat.le_trans hB (HB.out _).size)).mono ?_;rintro e w1 ⟨rfl,hb1⟩)
  all_goals go_ret
  all_goals first
   | refine ⟨ae ?_,HB.out _⟩
   | refine ⟨ae ?_,(HB.out _).trans (hb1.mono (HB.out _).size)⟩
  all_goals
   clear HR HB HT
   try simp only [dq,aU,Nat.not_lt,Nat.le_zero_eq,List.length_pos_iff,ne_eq,Classical.not_not,beq_eq_false_iff_ne] at *
   simp [ff,xc,dK,lH, *]
   try first
    | omega
    | exact qt _
    | (rw [Bool.eq_iff_iff];simp;omega)
theorem rP (d:Nat):∀(t:Tm) (vs:List Value) (B:Nat) (w:World),RTm w B d t vs→B≤w.heap.size →
 Calls Tryz.prog 122 #[.agg vs.toArray] w fun e w'=>e=.returned (.bool (ff t))∧Below w.heap.size w w':=by
 induction d with
 | zero=>intro t vs B w h;exact h.elim
 | succ d ih=>exact ui d (tS d ih)
theorem iO {d:Nat} {t:Tm} {vs:List Value} {B:Nat} {w:World} (h:RTm w B d t vs) (hB:B≤w.heap.size) :
 Calls Tryz.prog 122 #[.agg vs.toArray] w fun e w'=>e=.returned (.bool (ff t))∧Below w.heap.size w w':=rP d t vs B w h hB
theorem nY {d:Nat} {t:Tm} {vs:List Value} {B:Nat} {w:World} (h:RTm w B d t vs) (hB:B≤w.heap.size) :
 Calls Tryz.prog 65 #[.agg vs.toArray] w fun e w'=>e=.returned (.bool (ah t))∧Below w.heap.size w w':=by
 obtain ⟨A,c,rfl,q1,q2,q3,q4,q5,_⟩:=h.cells
 have HA:=Lib.hid h
 clear h
 have hk:(t.kind !=1)=true∨(t.kind !=1)=false:=by cases (t.kind !=1)<;>simp
 have hm:ff t=true∨ff t=false:=by cases ff t<;>simp
 rcases hm with hm | hm
 ·have HM:=Lib.hid hm
  clear hm
  rcases hk with hk | hk
  ·have HK:=Lib.hid hk
   go_enter Tryz.func65,Tryz.ntmps65
   go_wp2_with fail
   generalize hW:World.alloc _ _=w1
   obtain ⟨hb,hz⟩:=al1 hW
   have b_a_1:=n11 hW
   have HB1:=Lib.hid hb
   clear hW hz hb
   refine (iO (t:=t) (vs:=[_,_,_,_]) (HA.out.below HB1.out hB) (Nat.le_trans hB HB1.out.size)).mono ?_
   rintro x w2 ⟨rfl,hb⟩
   have b_a_2:=b_a_1.later hb
   have HB2:=Lib.hid (ac HB1.out hb)
   clear b_a_1
   clear hb
   rw [HM.out]
   have k_a:=b_a_2.cell
   have l_a:=b_a_2.lt
   go_wp2_with fail
   clear k_a l_a
   go_ret
   exact ⟨ae (by have h:=HK.out;unfold ah;rw [HM.out,Bool.and_true];simp only [bne_iff_ne,bne_eq_false_iff_eq] at h;simp [h]),HB2.out⟩
  ·have HK:=Lib.hid hk
   go_enter Tryz.func65,Tryz.ntmps65
   go_wp2_with fail
   generalize hW:World.alloc _ _=w1
   obtain ⟨hb,hz⟩:=al1 hW
   have b_a_1:=n11 hW
   have HB1:=Lib.hid hb
   clear hW hz hb
   refine (iO (t:=t) (vs:=[_,_,_,_]) (HA.out.below HB1.out hB) (Nat.le_trans hB HB1.out.size)).mono ?_
   rintro x w2 ⟨rfl,hb⟩
   have b_a_2:=b_a_1.later hb
   have HB2:=Lib.hid (ac HB1.out hb)
   clear b_a_1
   clear hb
   rw [HM.out]
   have k_a:=b_a_2.cell
   have l_a:=b_a_2.lt
   go_wp2_with fail
   clear k_a l_a
   go_ret
   exact ⟨ae (by have h:=HK.out;unfold ah;rw [HM.out,Bool.and_true];simp only [bne_iff_ne,bne_eq_false_iff_eq] at h;simp [h]),HB2.out⟩
 ·have HM:=Lib.hid hm
  clear hm
  go_enter Tryz.func65,Tryz.ntmps65
  go_wp2_with fail
  generalize hW:World.alloc _ _=w1
  obtain ⟨hb,hz⟩:=al1 hW
  have b_a_1:=n11 hW
  have HB1:=Lib.hid hb
  clear hW hz hb
  refine (iO (t:=t) (vs:=[_,_,_,_]) (HA.out.below HB1.out hB) (Nat.le_trans hB HB1.out.size)).mono ?_
  rintro x w2 ⟨rfl,hb⟩
  have b_a_2:=b_a_1.later hb
  have HB2:=Lib.hid (ac HB1.out hb)
  clear b_a_1
  clear hb
  rw [HM.out]
  have k_a:=b_a_2.cell
  have l_a:=b_a_2.lt
  go_wp2_with fail
  clear k_a l_a
  go_ret
  exact ⟨ae (by unfold ah;rw [HM.out,Bool.and_false]),HB2.out⟩
end Go.Proofs.YtdphibjibnffeaaGreat
