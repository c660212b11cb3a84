/- The document's store: place, MayFact, Add. Printed by mk_rs3.py. -/
import Derived.Test.YtjpndglegpcdnaaGreatRs2
import Derived.Test.YtjpndglegpcdnaaGreatPush
import Derived.Test.YtjpndglegpcdnaaGreatJoLaw
import Derived.Test.YtjpndglegpcdnaaGreatFx3
set_option linter.unusedVariables false
set_option linter.unusedSimpArgs false
set_option maxRecDepth 100000
set_option maxHeartbeats 8000000
namespace Go.Proofs.YtjpndglegpcdnaaGreat
open Go.ChangeShapes Go.WideShapes Go.ChangeAt Go.RowKit
def zU (t:Tm):Bool:=decide (t.n=0)&&decide (t.s.size=0)&&cR t.l
theorem ug {l:List Tm} {k:Nat} (hlt:k<l.length) (hn:eV l k=false):cR l=false:=by
 rw [Bool.eq_false_iff,cR]
 intro h
 rw [AN,List.all_eq_true] at h
 have:=h.1 k (by simpa using hlt)
 rw [hn] at this
 cases this
theorem rI {l:List Tm} (h:16<l.length):cR l=false:=by
 rw [cR,decide_eq_false (by omega),Bool.and_false]
theorem wJ (d:Nat) (hM:∀(t:Tm) (vs:List Value) (B:Nat) (w:World),RTm w B d t vs→B≤w.heap.size →
 Calls Tryz.prog 103 #[.agg vs.toArray] w fun e w'=>e=.returned (.bool (fD t))∧Below w.heap.size w w')
 (t:Tm) (vs:List Value) (B:Nat) (w:World) (ht:RTm w B (d+1) t vs) (hB:B≤w.heap.size) :
 Calls Tryz.prog 138 #[.agg vs.toArray] w fun e w'=>e=.returned (.bool (zU t))∧Below w.heap.size w w':=by
 have HM:=AE hM
 clear hM
 obtain ⟨A,c,rfl,hc1,hc2,hs,_,_,hl⟩:=ht.cells
 obtain ⟨kind,n,s,l⟩:=t
 dsimp only at hc1 hc2 hs hl
 have hbel:∀o:Obj,Below w.heap.size w (w.alloc o):=fun o=>(AI _ _).alloc (AG _) _
 have HB:=AE hbel
 have HL:=AE hl
 clear hbel ht hl
 by_cases t1:n=0
 rotate_left
 ·have u1:(n !=0)=true:=by simpa using t1
  have T1:=AE t1
  clear t1
  go_enter Tryz.func138,Tryz.ntmps138
  go_wp2_with fail
  go_ret
  exact ⟨ac (by simp [zU,T1.out]),HB.out _⟩
 have u1:(n !=0)=false:=by simpa using t1
 have T1:=AE t1
 clear t1
 by_cases t2:s.size=0
 rotate_left
 ·have u2:s.toList.isEmpty=false:=by rw [bf];simpa using t2
  have T2:=AE t2
  clear t2
  go_enter Tryz.func138,Tryz.ntmps138
  go_wp2_with fail
  go_ret
  exact ⟨ac (by simp [zU,T2.out]),HB.out _⟩
 have u2:s.toList.isEmpty=true:=by rw [bf];simpa using t2
 have T2:=AE t2
 clear t2
 by_cases t3:16<l.length
 ·go_enter Tryz.func138,Tryz.ntmps138
  go_wp2_with fail
  go_ret
  exact ⟨ac (by simp [zU,rI t3]),HB.out _⟩
 go_enter Tryz.func138,Tryz.ntmps138
 go_wp2_with fail
 generalize hW:World.alloc _ _=W
 obtain ⟨hb,hz⟩:=al1 hW
 have bt:=n11 hW
 have HB1:=AE hb
 have hB1:B≤W.heap.size:=by omega
 clear hW hz hb HB
 go_loopw [22] (fun i wr=>∃k:Nat,k≤l.length∧i=.int .i64 k∧Below W.heap.size W wr∧∀i,i<k→eV l i=true) (fun i _=>l.length-(intOf i).toNat)
 case atStart=>exact ⟨0,AH _,rfl,AI _ _,fun i h=>absurd h (by omega)⟩
 case round=>
  obtain ⟨k,hk,rfl,hbw,hall⟩:=hrel
  have HA:=AE hall
  clear hall
  have ct:=(bt.later hbw).cell
  have lt:=(bt.later hbw).lt
  by_cases hlt:k<l.length
  ·have hl:=HL.out.below HB1.out hB
   obtain ⟨b,off,rfl,hb⟩:=hl.base hbw hB1 (by omega)
   obtain ⟨x,Ax,cx,hx,c0,c1,c2,c3,hr⟩:=hl.at_ hbw hB1 hlt
   obtain ⟨y,Ay,cy,hy,f0,f1,f2,f3,hr0⟩:=hl.at_ (k:=0) hbw hB1 (by omega)
   obtain ⟨z,Az,cz,hz,g0,g1,g2,g3,hrz⟩:=hl.at_ (k:=k-1) hbw hB1 (by omega)
   have HR:=AE (nw hx hy hz)
   have HK0:=AE (show k=0→x=y from fun h=>by subst h;rw [hx] at hy;simpa using hy)
   have HBw:=AE hbw
   simp only [Nat.zero_mul,Nat.add_zero] at f0 f1 f2 f3
   clear hx hy hz f1 f2 f3 hl
   go_wp2_with fail
   generalize hW2:World.alloc _ _=W2
   obtain ⟨hb2,hz2⟩:=al1 hW2
   have q0:=(n11 hW2).regrown
   have q1:=((bt.later hbw).later hb2).regrown
   have q4:=cell_regrown ((hb2.cell (p:=⟨b,off,none⟩) hb).trans f0)
   have q5:=cell_regrown ((hb2.cell (p:=⟨b,off+(k-1)*4,none⟩) hb).trans g0)
   have q6:=cell_regrown ((hb2.cell (p:=⟨b,off+(k-1)*4+1,none⟩) hb).trans g1)
   have q7:=cell_regrown ((hb2.cell (p:=⟨b,off+(k-1)*4+2,none⟩) hb).trans g2)
   have q8:=cell_regrown ((hb2.cell (p:=⟨b,off+(k-1)*4+3,none⟩) hb).trans g3)
   have hBW:B≤W2.heap.size:=by have:=hbw.size;omega
   have hrx:=AE (hr.below hb2 (by have:=hbw.size;omega))
   have hrz':=AE (hrz.below hb2 (by have:=hbw.size;omega))
   have HB2:=AE hb2
   have hl0:0<l.length:=by omega
   clear hW2 hz2 hb2 ct lt c0 c1 c2 c3 f0 g0 g1 g2 g3 hr hrz hr0
   have hcases:(x.kind==1)=true∨((x.kind==1)=false∧(x.kind==7)=true)∨((x.kind==1)=false∧(x.kind==7)=false∧fD x=false) ∨
    ((x.kind==1)=false∧(x.kind==7)=false∧fD x=true∧decide (0<k)=false) ∨
    ((x.kind==1)=false∧(x.kind==7)=false∧fD x=true∧0<k∧(x.kind !=y.kind)=true) ∨
    ((x.kind==1)=false∧(x.kind==7)=false∧fD x=true∧0<k∧(x.kind !=y.kind)=false∧decide (0≤aV 3 z x)=true) ∨
    ((x.kind==1)=false∧(x.kind==7)=false∧fD x=true∧0<k∧(x.kind !=y.kind)=false∧decide (0≤aV 3 z x)=false):=by
    cases (x.kind==1)<;>cases (x.kind==7)<;>cases fD x<;>cases (x.kind !=y.kind)<;>cases decide (0≤aV 3 z x)<;>rcases Nat.eq_zero_or_pos k with h | h<;>simp [h]
   rcases hcases with h1 | ⟨h1,h7⟩ | ⟨h1,h7,hm⟩ | ⟨h1,h7,hm,hk0⟩ | ⟨h1,h7,hm,hk0,hy⟩ | ⟨h1,h7,hm,hk0,hy,hc⟩ | ⟨h1,h7,hm,hk0,hy,hc⟩
   all_goals
    refine wp_region_quiet_below (by kernel_rfl) (by kernel_rfl) ?_
    repeat (go_big_quiet_step ((first
     | (go_at_call 103;exact Calls.regrown_of (HM.out x [_,_,_,_] B _ (hrx.out.below (below_regrown _ _ _) hBW) (AF hBW (below_regrown _ _ _).size)))
     | (go_at_call 87;exact Calls.regrown_of (ia (d:=d) (B:=B) (a:=z) (b:=x) (va:=[_,_,_,_]) (vb:=[_,_,_,_]) (hrz'.out.below (below_regrown _ _ _) hBW) (hrx.out.below (below_regrown _ _ _) hBW) (AF hBW (below_regrown _ _ _).size))))))
    refine wpQuiet_nil ?_
    intro w3 hw3
    have hb3:Below W2.heap.size W2 w3:=by obtain ⟨p,rfl⟩:=hw3;exact below_regrown _ _ _
    clear hw3 q0 q1 q4 q5 q6 q7 q8
    have HB3:=AE (aa HBw.out (aa HB2.out hb3))
    have hfin:=AE (aa HB1.out HB3.out)
    clear hb3
    go_wp2_with fail
    try simp only [beq_iff_eq,bne_iff_ne,beq_eq_false_iff_ne,bne_eq_false_iff_eq,AT,decide_eq_false_iff_not] at h1
    try simp only [beq_iff_eq,bne_iff_ne,beq_eq_false_iff_ne,bne_eq_false_iff_eq,AT,decide_eq_false_iff_not] at h7
    try simp only [beq_iff_eq,bne_iff_ne,beq_eq_false_iff_ne,bne_eq_false_iff_eq,AT,decide_eq_false_iff_not] at hk0
    try simp only [beq_iff_eq,bne_iff_ne,beq_eq_false_iff_ne,bne_eq_false_iff_eq,AT,decide_eq_false_iff_not] at hy
    try simp only [beq_iff_eq,bne_iff_ne,beq_eq_false_iff_ne,bne_eq_false_iff_eq,AT,decide_eq_false_iff_not] at hc
    first
     | (have hn:eV l k=false:=by
         rw [Bool.eq_false_iff]
         intro h
         have h2:=HR.out.1 h
         rw [af] at h2
         simp only [AN,AT] at h2
         first
          | exact h2.1.1.1.1 h1
          | exact h2.1.1.2 h7
          | (rw [hm] at h2;exact absurd h2.1.1.1.2 (by decide))
          | exact hy h2.1.2
          | (have:=h2.2 hk0;omega)
        go_ret
        exact ⟨ac (by simp [zU,ug hlt hn]),hfin.out⟩)
     | (have hn:eV l k=true:=HR.out.2 (by
         rw [af,hm]
         refine ⟨⟨⟨by simpa using h1,h7⟩,?_⟩,fun h=>?_⟩
         ·first
           | exact hy
           | rw [HK0.out (by omega)]
         ·omega)
        go_roundw
        case rel=>exact ⟨k+1,by omega,by go_num,HB3.out,fun i hi=>by
         rcases Nat.lt_or_ge i k with h1 | h1
         ·exact HA.out i h1
         ·obtain rfl:i=k:=by omega
          exact hn⟩
        case measure=>simp [intOf];omega)
  ·have hfin:=AE (aa HB1.out hbw)
   go_wp2_with fail
   go_ret
   refine ⟨ac ?_,hfin.out⟩
   obtain rfl:k=l.length:=by omega
   have:(List.range l.length).all (eV l)=true:=by simpa using HA.out
   rw [zU]
   simp only [T1.out,T2.out,decide_true,Bool.true_and]
   rw [cR,this,decide_eq_true (by omega)]
   rfl
theorem sy {α:Type} (l:List α):((l.length:Int)==0)=decide (l=[]):=by
 cases l with
 | nil=>simp
 | cons a l=>simp;omega
theorem xg (d:Nat) (hR:∀(t:Tm) (vs:List Value) (B:Nat) (w:World),RTm w B (d+1) t vs→B≤w.heap.size →
 Calls Tryz.prog 138 #[.agg vs.toArray] w fun e w'=>e=.returned (.bool (zU t))∧Below w.heap.size w w')
 (t:Tm) (vs:List Value) (B:Nat) (w:World) (ht:RTm w B (d+1) t vs) (hB:B≤w.heap.size) :
 Calls Tryz.prog 103 #[.agg vs.toArray] w fun e w'=>e=.returned (.bool (fD t))∧Below w.heap.size w w':=by
 have HR:=AE hR
 clear hR
 have HT:=AE ht
 obtain ⟨A,c,rfl,hc1,hc2,hs,_,_,hl⟩:=ht.cells
 obtain ⟨kind,n,s,l⟩:=t
 dsimp only at hc1 hc2 hs hl
 have hbel:∀o:Obj,Below w.heap.size w (w.alloc o):=fun o=>(AI _ _).alloc (AG _) _
 have HB:=AE hbel
 clear hbel ht hl
 by_cases hk1:kind=1
 ·subst hk1
  by_cases hn:dQ (bs s)=true
  all_goals
   try rw [Bool.not_eq_true] at hn
   go_enter Tryz.func103,Tryz.ntmps103
   go_wp2_with fail
   refine (eo s _ (by unfold maxLen;omega)).mono ?_
   rintro e w' ⟨rfl,rfl⟩
   have HN:=AE hn
   rw [hn]
   go_wp2_with fail
   all_goals
    go_ret
    refine ⟨ac ?_,HB.out _⟩
    clear HR HB HT
    simp [fD,ef,HN.out, *]
    try first
     | omega
     | exact sy _
 have hcases:kind=2∨kind=3∨kind=4∨kind=5∨kind=6∨kind=7∨((kind==1)=false∧(kind==2)=false∧(kind==3)=false∧(kind==4)=false∧(kind==5)=false∧(kind==6)=false∧(kind==7)=false∧(kind !=7)=true):=by
  simp only [beq_eq_false_iff_ne,bne_iff_ne];omega
 clear hk1
 rcases hcases with rfl | rfl | rfl | rfl | rfl | rfl | ⟨k1,k2,k3,k4,k5,k6,k7,k8⟩
 all_goals
  go_enter Tryz.func103,Tryz.ntmps103
  go_wp2_with (go_at_call 138;refine (HR.out ⟨_,_,_,_⟩ [_,_,_,_] B _ (HT.out.below (HB.out _) hB) (AF hB (HB.out _).size)).mono ?_;rintro e w1 ⟨rfl,hb1⟩)
  all_goals go_ret
  all_goals first
   | refine ⟨ac ?_,HB.out _⟩
   | refine ⟨ac ?_,(HB.out _).trans (hb1.mono (HB.out _).size)⟩
  all_goals
   clear HR HB HT
   try simp only [dE,bf,Nat.not_lt,Nat.le_zero_eq,List.length_pos_iff,ne_eq,Classical.not_not,beq_eq_false_iff_ne] at *
   simp [fD,zU,ef,mZ, *]
   try first
    | omega
    | exact sy _
    | (rw [Bool.eq_iff_iff];simp;omega)
theorem uf (d:Nat):∀(t:Tm) (vs:List Value) (B:Nat) (w:World),RTm w B d t vs→B≤w.heap.size →
 Calls Tryz.prog 103 #[.agg vs.toArray] w fun e w'=>e=.returned (.bool (fD t))∧Below w.heap.size w w':=by
 induction d with
 | zero=>intro t vs B w h;exact h.elim
 | succ d ih=>exact xg d (wJ d ih)
theorem jM {d:Nat} {t:Tm} {vs:List Value} {B:Nat} {w:World} (h:RTm w B d t vs) (hB:B≤w.heap.size) :
 Calls Tryz.prog 103 #[.agg vs.toArray] w fun e w'=>e=.returned (.bool (fD t))∧Below w.heap.size w w':=uf d t vs B w h hB
theorem pY {d:Nat} {t:Tm} {vs:List Value} {B:Nat} {w:World} (h:RTm w B d t vs) (hB:B≤w.heap.size) :
 Calls Tryz.prog 85 #[.agg vs.toArray] w fun e w'=>e=.returned (.bool (af t))∧Below w.heap.size w w':=by
 obtain ⟨A,c,rfl,q1,q2,q3,q4,q5,_⟩:=h.cells
 have HA:=AE h
 clear h
 have hk:(t.kind !=1)=true∨(t.kind !=1)=false:=by cases (t.kind !=1)<;>simp
 have hm:fD t=true∨fD t=false:=by cases fD t<;>simp
 rcases hm with hm | hm
 ·have HM:=AE hm
  clear hm
  rcases hk with hk | hk
  ·have HK:=AE hk
   go_enter Tryz.func85,Tryz.ntmps85
   go_wp2_with fail
   generalize hW:World.alloc _ _=w1
   obtain ⟨hb,hz⟩:=al1 hW
   have b_a_1:=n11 hW
   have HB1:=AE hb
   clear hW hz hb
   refine (jM (t:=t) (vs:=[_,_,_,_]) (HA.out.below HB1.out hB) (AF hB HB1.out.size)).mono ?_
   rintro x w2 ⟨rfl,hb⟩
   have b_a_2:=b_a_1.later hb
   have HB2:=AE (aa HB1.out hb)
   clear b_a_1
   clear hb
   rw [HM.out]
   have k_a:=b_a_2.cell
   have l_a:=b_a_2.lt
   go_wp2_with fail
   clear k_a l_a
   go_ret
   exact ⟨ac (by have h:=HK.out;unfold af;rw [HM.out,Bool.and_true];simp only [bne_iff_ne,bne_eq_false_iff_eq] at h;simp [h]),HB2.out⟩
  ·have HK:=AE hk
   go_enter Tryz.func85,Tryz.ntmps85
   go_wp2_with fail
   generalize hW:World.alloc _ _=w1
   obtain ⟨hb,hz⟩:=al1 hW
   have b_a_1:=n11 hW
   have HB1:=AE hb
   clear hW hz hb
   refine (jM (t:=t) (vs:=[_,_,_,_]) (HA.out.below HB1.out hB) (AF hB HB1.out.size)).mono ?_
   rintro x w2 ⟨rfl,hb⟩
   have b_a_2:=b_a_1.later hb
   have HB2:=AE (aa HB1.out hb)
   clear b_a_1
   clear hb
   rw [HM.out]
   have k_a:=b_a_2.cell
   have l_a:=b_a_2.lt
   go_wp2_with fail
   clear k_a l_a
   go_ret
   exact ⟨ac (by have h:=HK.out;unfold af;rw [HM.out,Bool.and_true];simp only [bne_iff_ne,bne_eq_false_iff_eq] at h;simp [h]),HB2.out⟩
 ·have HM:=AE hm
  clear hm
  go_enter Tryz.func85,Tryz.ntmps85
  go_wp2_with fail
  generalize hW:World.alloc _ _=w1
  obtain ⟨hb,hz⟩:=al1 hW
  have b_a_1:=n11 hW
  have HB1:=AE hb
  clear hW hz hb
  refine (jM (t:=t) (vs:=[_,_,_,_]) (HA.out.below HB1.out hB) (AF hB HB1.out.size)).mono ?_
  rintro x w2 ⟨rfl,hb⟩
  have b_a_2:=b_a_1.later hb
  have HB2:=AE (aa HB1.out hb)
  clear b_a_1
  clear hb
  rw [HM.out]
  have k_a:=b_a_2.cell
  have l_a:=b_a_2.lt
  go_wp2_with fail
  clear k_a l_a
  go_ret
  exact ⟨ac (by unfold af;rw [HM.out,Bool.and_false]),HB2.out⟩
theorem allF_ {α:Type} {l:List α} {p:α→Bool} {k:Nat} {x:α} (h:l[k]? = some x) (hp:p x=false):l.all p=false:=by
 rw [List.all_eq_false]
 exact ⟨x,List.mem_of_getElem? h,by rw [hp];simp⟩
theorem allT_ {α:Type} {l:List α} {p:α→Bool} {k:Nat} (hk:l.length≤k) (h:∀i (hi:i<k) (hi':i<l.length),p l[i]=true):l.all p=true:=by
 rw [List.all_eq_true]
 intro x hx
 obtain ⟨i,hi,rfl⟩:=List.getElem_of_mem hx
 exact h i (by omega) hi
structure DSt (base d B:Nat) (w:World) (M:Nat) (xs:List FV) (A:Option Addr) (c:Nat):Prop where
 hd:Blk w M #[.slice A xs.length c]
 lt:M<base
 bw:base≤w.heap.size
 row:aq FvR 33 w base 0 (.slice A xs.length c) xs
 ok:∀x∈xs,FcOk x.f
 deep:∀x∈xs,(ay (d+1)).rd w B x.f x.cs
 sort:bH (xs.map FV.f)
 hB:B≤M
section
variable {base d B M c:Nat} {w w':World} {xs:List FV} {A:Option Addr} {K:Nat→Prop}
theorem DSt.agree (h:DSt base d B w M xs A c) (ha:al K w w') (hK:∀k,K k→k<w.heap.size→B≤k∧¬StM M (.slice A xs.length c) k):DSt base d B w' M xs A c:=by
 have hs:=h.hd.lt
 have hBw:B≤w.heap.size:=by have:=h.hB;omega
 have hb:Below B w w':=ha.below (fun k hk hm=>by have:=h.hB;have:=(hK k hm (by omega)).1;omega) hBw
 exact ⟨ha.blk h.hd (fun hm=>(hK M hm hs).2 (.inl rfl)),h.lt,AF h.bw ha.size,h.row.agree ha (fun k hk hm=>(hK k hm (h.row.lt k hk).2).2 (.inr hk)),h.ok,fun x hx=>(ay (d+1)).keep hb (AG _) (h.deep x hx),h.sort,h.hB⟩
theorem DSt.later (h:DSt base d B w M xs A c) (hb:Below w.heap.size w w'):DSt base d B w' M xs A c:=h.agree (K:=fun _=>False) (al.of_below hb) (fun _ h=>h.elim)
theorem DSt.rl (h:DSt base d B w M xs A c) (hn:xs.length≤1000000):RL (ay (d+1)) w w.heap.size (xs.map FV.f) A:=by
 obtain ⟨A3,c3,e3,h1,h2,r3⟩:=h.row.reads (AH _) (by show xs.length*(8*3)≤_;omega)
 simp only [AR] at e3
 obtain ⟨rfl,_,rfl⟩:=e3
 have hBw:B≤w.heap.size:=by have:=h.hB;have:=h.hd.lt;omega
 intro h0
 rw [AM] at h0
 obtain ⟨b,off,e,hb,hc⟩:=r3 h0
 refine ⟨b,off,e,hb,fun i hi=>?_⟩
 rw [AM] at hi
 obtain ⟨vs,hl,⟨x,hx,hr⟩,hv⟩:=hc i hi
 obtain rfl:vs=x.cs:=hr
 exact ⟨x.cs,hl,⟨x.f,by rw [List.getElem?_map,hx];rfl,(ay (d+1)).wide hBw (h.deep x (List.mem_of_getElem? hx))⟩,hv⟩
end
theorem wV {base d B B2 M c:Nat} {xs:List FV} {A:Option Addr} {f:Fc} {vf:List Value} {w:World} (hs:DSt base d B w M xs A c) (hf:(ay (d+1)).rd w B2 f vf) (hB:B2≤w.heap.size) (hn:xs.length≤100000) :
 Calls Tryz.prog 60 #[.pointer (some ⟨M,0,none⟩),.agg vf.toArray] w fun z w'=>z=.returned (.tuple #[.int .i64 (jg (xs.map FV.f) f),.bool (fe (xs.map FV.f) f)])∧Below w.heap.size w w':=by
 have HS:=AE hs
 have HF:=AE hf
 obtain ⟨Af,cf,rfl,_⟩:=aG hf
 clear hs hf
 have HLM:Hid ((xs.map FV.f).length=xs.length):=AE (AM _)
 go_enter Tryz.func60,Tryz.ntmps60
 go_upto_region 2 with fail
 generalize hW:World.alloc _ _=w1
 obtain ⟨hb1,hz⟩:=al1 hW
 have HG1:=AE (n11 hW)
 have HB1:=AE hb1
 have hsz1:=hb1.size
 clear hW hb1
 go_loopw [6] (fun i wr=>∃k:Nat,k≤xs.length∧i=.int .i64 k∧Hid (∀i,i<k→csF (xs.map FV.f) f i<0)∧Hid (Below w1.heap.size w1 wr)) (fun i _=>xs.length-(intOf i).toNat)
 case atStart=>exact ⟨0,AH _,rfl,AE (fun i h=>absurd h (by omega)),AE (AI _ _)⟩
 case round=>
  obtain ⟨k,hk,rfl,HZ,HWR⟩:=hrel
  have HBr:=AE (aa HB1.out HWR.out)
  have HSr:=AE (HS.out.later HBr.out)
  have HGr:=AE (HG1.out.later HWR.out)
  have hszr:=HWR.out.size
  have hI0:(0:Int)≤(k:Int):=Int.natCast_nonneg _
  have hnn:(xs.length:Int)≤100000:=by omega
  by_cases hlt:k<xs.length
  ·obtain ⟨g,c9,e9,h1,h2,h3,h4,h5,h6,_⟩:=HSr.out.row.sh aU (by omega)
   simp only [AR,true_and] at e9
   obtain ⟨rfl,rfl⟩:=e9
   obtain ⟨x,hx⟩:∃x,x=xs[k]:=⟨_,rfl⟩
   have c0:wr.cell? ⟨g,k*3,none⟩=some (.string x.f.pr.name):=by rw [hx];exact h5 k hlt 0 _ rfl
   have c1:wr.cell? ⟨g,k*3+1,none⟩=some (.slice x.a x.f.pr.terms.length x.c):=by rw [hx];exact h5 k hlt 1 _ rfl
   have c2:wr.cell? ⟨g,k*3+2,none⟩=some (.int .u32 x.f.o):=by rw [hx];exact h5 k hlt 2 _ rfl
   have HXR:Hid ((ay (d+1)).rd wr B x.f x.cs):=AE (by rw [hx];exact HSr.out.deep _ (List.getElem_mem hlt))
   have HXO:Hid (FcOk x.f):=AE (by rw [hx];exact HSr.out.ok _ (List.getElem_mem hlt))
   have HXA:Hid (csF (xs.map FV.f) f k=aF x.f f):=AE (by rw [iN (by rw [HLM.out];exact hlt),List.getElem_map,hx])
   have HBB:Hid (B≤wr.heap.size):=AE (by have:=HSr.out.hB;have:=HSr.out.hd.lt;omega)
   have hI1:(k:Int)<(xs.length:Int):=by omega
   clear h5 h6 hx
   have HC:=AE (And.intro c0 (And.intro c1 c2))
   have HGL:=AE h1
   clear c0 c1 c2
   have HCL:Hid (∀W:World,Below wr.heap.size wr W→Calls Tryz.prog 42 #[.agg #[.string x.f.pr.name,.slice x.a x.f.pr.terms.length x.c,.int .u32 x.f.o],.agg #[.string f.pr.name,.slice Af f.pr.terms.length cf,.int .u32 f.o]] W fun z w'=>z=.returned (.int .i64 (aF x.f f))∧Below W.heap.size W w'):=AE fun W hw=>
    rF (d:=d) (B:=W.heap.size) (va:=[_,_,_]) (vb:=[_,_,_]) (by have:=HXO.out.few;omega) ((ay (d+1)).wide hw.size ((ay (d+1)).keep hw (AG _) ((ay (d+1)).wide HBB.out HXR.out))) ((ay (d+1)).wide (AF (AF hB HBr.out.size) hw.size) ((ay (d+1)).keep (aa HBr.out hw) hB HF.out)) (AG _)
   obtain ⟨n,hn_⟩:∃n,n=aF x.f f:=⟨_,rfl⟩
   have HNN:=AE hn_
   rw [←hn_] at HXA HCL
   clear hn_
   by_cases hneg:n<0
   ·go_upto_region 2 with fail
    have HWW:Hid (Below wr.heap.size wr wr):=AE (AI _ _)
    have q0:=cell_regrown ((HWW.out.cell (p:=⟨g,k*3,none⟩) HGL.out).trans HC.out.1)
    have q1:=cell_regrown ((HWW.out.cell (p:=⟨g,k*3+1,none⟩) HGL.out).trans HC.out.2.1)
    have q2:=cell_regrown ((HWW.out.cell (p:=⟨g,k*3+2,none⟩) HGL.out).trans HC.out.2.2)
    have q_m:=(HSr.out.later HWW.out).hd.regrown
    have q_f:=(HGr.out.later HWW.out).regrown
    refine wp_region_quiet_below (by kernel_rfl) (by kernel_rfl) ?_
    repeat (go_big_quiet_step ((go_at_call 42;exact Calls.regrown_of (HCL.out _ (Below.trans HWW.out (Below.mono (below_regrown _ _ _) HWW.out.size))))))
    refine wpQuiet_nil ?_
    intro w3 hw_
    have hb:Below wr.heap.size wr w3:=by obtain ⟨p_,rfl⟩:=hw_;exact below_regrown _ _ _
    clear hw_
    clear q0 q1 q2 q_m q_f HWW
    have HB3:=AE (aa HWR.out hb)
    clear hb
    go_wp2_with fail
    go_roundw
    case rel=>exact ⟨k+1,by omega,by go_num,AE (fun i hi=>by
     rcases Nat.lt_or_ge i k with h | h
     ·exact HZ.out i h
     ·obtain rfl:i=k:=by omega
      rw [HXA.out];exact hneg),HB3⟩
    case measure=>simp [intOf];omega
   ·have HPK:Hid (jg (xs.map FV.f) f=k):=AE (og (by rw [HLM.out];exact hk) HZ.out (fun _=>by rw [HXA.out];exact hneg))
    have HHS:Hid (fe (xs.map FV.f) f=(n==0)):=AE (by
     unfold fe
     rw [HPK.out,HXA.out]
     have:decide (k<(xs.map FV.f).length)=true:=decide_eq_true (by rw [HLM.out];exact hlt)
     rw [this,Bool.true_and,Bool.beq_eq_decide_eq])
    go_upto_region 2 with fail
    have HWW:Hid (Below wr.heap.size wr wr):=AE (AI _ _)
    have q0:=cell_regrown ((HWW.out.cell (p:=⟨g,k*3,none⟩) HGL.out).trans HC.out.1)
    have q1:=cell_regrown ((HWW.out.cell (p:=⟨g,k*3+1,none⟩) HGL.out).trans HC.out.2.1)
    have q2:=cell_regrown ((HWW.out.cell (p:=⟨g,k*3+2,none⟩) HGL.out).trans HC.out.2.2)
    have q_m:=(HSr.out.later HWW.out).hd.regrown
    have q_f:=(HGr.out.later HWW.out).regrown
    refine wp_region_quiet_below (by kernel_rfl) (by kernel_rfl) ?_
    repeat (go_big_quiet_step ((go_at_call 42;exact Calls.regrown_of (HCL.out _ (Below.trans HWW.out (Below.mono (below_regrown _ _ _) HWW.out.size))))))
    refine wpQuiet_nil ?_
    intro w3 hw_
    have hb:Below wr.heap.size wr w3:=by obtain ⟨p_,rfl⟩:=hw_;exact below_regrown _ _ _
    clear hw_
    clear q0 q1 q2 q_m q_f HWW
    have HB3:=AE hb
    clear hb
    go_upto_region 4 with fail
    have HWW:Hid (Below wr.heap.size wr w3):=AE (HB3.out)
    have q0:=cell_regrown ((HWW.out.cell (p:=⟨g,k*3,none⟩) HGL.out).trans HC.out.1)
    have q1:=cell_regrown ((HWW.out.cell (p:=⟨g,k*3+1,none⟩) HGL.out).trans HC.out.2.1)
    have q2:=cell_regrown ((HWW.out.cell (p:=⟨g,k*3+2,none⟩) HGL.out).trans HC.out.2.2)
    have q_m:=(HSr.out.later HWW.out).hd.regrown
    have q_f:=(HGr.out.later HWW.out).regrown
    refine wp_region_quiet_below (by kernel_rfl) (by kernel_rfl) ?_
    repeat (go_big_quiet_step ((go_at_call 42;exact Calls.regrown_of (HCL.out _ (Below.trans HWW.out (Below.mono (below_regrown _ _ _) HWW.out.size))))))
    refine wpQuiet_nil ?_
    intro w4 hw_
    have hb:Below w3.heap.size w3 w4:=by obtain ⟨p_,rfl⟩:=hw_;exact below_regrown _ _ _
    clear hw_
    clear q0 q1 q2 q_m q_f
    go_wp2_with fail
    go_ret2
    exact ⟨by rw [HPK.out,HHS.out];rfl,aa HBr.out (aa HB3.out hb)⟩
  ·have hkk:k=xs.length:=by omega
   have HPK:Hid (jg (xs.map FV.f) f=k):=AE (og (by rw [HLM.out];exact hk) HZ.out (fun h=>by rw [HLM.out] at h;omega))
   have HHS:Hid (fe (xs.map FV.f) f=false):=AE (by
    unfold fe
    rw [HPK.out]
    have:decide (k<(xs.map FV.f).length)=false:=decide_eq_false (by rw [HLM.out];exact hlt)
    rw [this,Bool.false_and])
   have hgd:¬((k:Int)<(xs.length:Int)):=by omega
   clear hkk
   have q_m:=HSr.out.hd.regrown
   have q_f:=HGr.out.regrown
   go_upto_region 2 with fail
   refine wp_region_quiet_below (by kernel_rfl) (by kernel_rfl) ?_
   repeat (go_big_quiet_step (fail))
   refine wpQuiet_nil ?_
   intro w3 hw_
   have hb:Below wr.heap.size wr w3:=by obtain ⟨p_,rfl⟩:=hw_;exact below_regrown _ _ _
   clear hw_
   clear q_m q_f
   have HB3:=AE hb
   clear hb
   have q_m:=(HSr.out.later HB3.out).hd.regrown
   have q_f:=(HGr.out.later HB3.out).regrown
   go_upto_region 4 with fail
   refine wp_region_quiet_below (by kernel_rfl) (by kernel_rfl) ?_
   repeat (go_big_quiet_step (fail))
   refine wpQuiet_nil ?_
   intro w4 hw_
   have hb:Below w3.heap.size w3 w4:=by obtain ⟨p_,rfl⟩:=hw_;exact below_regrown _ _ _
   clear hw_
   clear q_m q_f
   go_wp2_with fail
   go_ret2
   exact ⟨by rw [HPK.out,HHS.out];rfl,aa HBr.out (aa HB3.out hb)⟩
theorem rG {d B:Nat} {f:Fc} {vf:List Value} {w:World} (hf:(ay d).rd w B f vf) (hB:B≤w.heap.size) :
 Calls Tryz.prog 61 #[.agg vf.toArray] w fun z w'=>z=.returned (.bool (aD f))∧Below w.heap.size w w':=by
 have HF:=AE hf
 obtain ⟨A,c,rfl,hs,h1,h2,_,hl,ho⟩:=aG hf
 have HL:=AE hl
 have HO:=AE ho
 clear hl hf ho
 go_enter Tryz.func61,Tryz.ntmps61
 go_wp2_with fail
 generalize hW:World.alloc _ _=W
 obtain ⟨hb,hz⟩:=al1 hW
 have ba:=n11 hW
 have HB1:=AE hb
 have hB1:B≤W.heap.size:=by omega
 clear hW hz hb
 go_loopw [9] (fun i wr=>∃k:Nat,k≤f.pr.terms.length∧i=.int .i64 k∧Below W.heap.size W wr∧∀i (hi:i<k) (hi':i<f.pr.terms.length),af f.pr.terms[i]=true) (fun i _=>f.pr.terms.length-(intOf i).toNat)
 case atStart=>exact ⟨0,AH _,rfl,AI _ _,fun i h=>absurd h (by omega)⟩
 case round=>
  obtain ⟨k,hk,rfl,hbw,hall⟩:=hrel
  have HA:=AE hall
  clear hall
  by_cases hlt:k<f.pr.terms.length
  ·have hl:=HL.out.keep HB1.out hB
   obtain ⟨b,off,rfl,hob⟩:=hl.base hbw hB1 (by omega)
   obtain ⟨x,vs,hx,hlen,hcell,hr⟩:=hl.at_ hbw hB1 hlt
   obtain ⟨Ax,cx,rfl,_⟩:=RTm.cells hr
   have hr:RTm wr wr.heap.size d x [.int .i64 x.kind,.int .i64 x.n,.string x.s,.slice Ax x.l.length cx]:=RTm.more (AF hB1 hbw.size) hr
   have p0:wr.cell? ⟨b,off+k*4,none⟩=some (.int .i64 x.kind):=hcell 0 _ rfl
   have p1:wr.cell? ⟨b,off+k*4+1,none⟩=some (.int .i64 x.n):=hcell 1 _ rfl
   have p2:wr.cell? ⟨b,off+k*4+2,none⟩=some (.string x.s):=hcell 2 _ rfl
   have p3:wr.cell? ⟨b,off+k*4+3,none⟩=some (.slice Ax x.l.length cx):=hcell 3 _ rfl
   have HR:=AE hr
   have HX:=AE hx
   have HW:=AE hbw
   have hszr:=hbw.size
   clear hl hcell hlen hr hx hbw
   go_wp2_with fail
   generalize hW2:World.alloc _ _=w2
   obtain ⟨hb2,hz2⟩:=al1 hW2
   clear hW2 p0 p1 p2 p3
   refine (pY (d:=d) (B:=wr.heap.size) (vs:=[_,_,_,_]) (RTm.below hb2 (AG _) HR.out) (by omega)).mono ?_
   rintro e w3 ⟨rfl,hb3⟩
   have HB3:=AE (aa HW.out (aa hb2 hb3))
   clear hb2 hb3 hz2
   by_cases hm:af x=true
   ·have HM:=AE hm
    rw [hm]
    clear hm
    go_wp2_with fail
    go_roundw
    case rel=>exact ⟨k+1,by omega,by go_num,HB3.out,fun i hi hi'=>by
     rcases Nat.lt_or_ge i k with h1 | h1
     ·exact HA.out i h1 hi'
     ·obtain rfl:i=k:=by omega
      rw [(List.getElem?_eq_some_iff.1 HX.out).2];exact HM.out⟩
    case measure=>simp [intOf];omega
   ·simp only [Bool.not_eq_true] at hm
    have HALL:=AE (allF_ HX.out hm)
    rw [hm]
    clear hm
    go_wp2_with fail
    go_ret
    exact ⟨ac (by unfold aD;rw [HALL.out];simp),aa HB1.out HB3.out⟩
  ·have HALL:=AE (allT_ (show f.pr.terms.length≤k by omega) HA.out)
   have HB2:=AE (aa HB1.out hbw)
   have ca:=(ba.later hbw).cell
   have la:=(ba.later hbw).lt
   clear hbw HA
   by_cases hnm:dQ (bs f.pr.name)=true
   ·by_cases hle:f.pr.terms.length≤8
    ·have hle':(f.pr.terms.length:Int)≤8:=by omega
     have HNM:=AE hnm
     have HLE:=AE hle
     clear hle
     by_cases ho0:f.o=0
     ·have hoo:(f.o !=0)=false:=by rw [ho0];rfl
      have HST:Hid (aD f=false):=AE (by unfold aD;simp [ho0])
      clear ho0
      go_wp2_with fail
      refine (eo f.pr.name _ (by unfold maxLen;omega)).mono ?_
      rintro e w3 ⟨rfl,rfl⟩
      rw [HNM.out]
      go_wp2_with fail
      go_ret
      exact ⟨ac HST.out.symm,HB2.out⟩
     ·have hoo:(f.o !=0)=true:=by simpa using ho0
      have HST:Hid (aD f=true):=AE (by unfold aD;simp [ho0,HNM.out,HLE.out,HALL.out])
      clear ho0
      go_wp2_with fail
      refine (eo f.pr.name _ (by unfold maxLen;omega)).mono ?_
      rintro e w3 ⟨rfl,rfl⟩
      rw [HNM.out]
      go_wp2_with fail
      go_ret
      exact ⟨ac HST.out.symm,HB2.out⟩
    ·have hle':¬(f.pr.terms.length:Int)≤8:=by omega
     have HNM:=AE hnm
     have HST:Hid (aD f=false):=AE (by unfold aD;simp [hle])
     clear hle
     go_wp2_with fail
     refine (eo f.pr.name _ (by unfold maxLen;omega)).mono ?_
     rintro e w3 ⟨rfl,rfl⟩
     rw [HNM.out]
     go_wp2_with fail
     go_ret
     exact ⟨ac HST.out.symm,HB2.out⟩
   ·have hnm':dQ (bs f.pr.name)=false:=by simpa using hnm
    have HNM:=AE hnm'
    have HST:Hid (aD f=false):=AE (by unfold aD;simp [hnm'])
    clear hnm hnm'
    go_wp2_with fail
    refine (eo f.pr.name _ (by unfold maxLen;omega)).mono ?_
    rintro e w3 ⟨rfl,rfl⟩
    rw [HNM.out]
    go_wp2_with fail
    go_ret
    exact ⟨ac HST.out.symm,HB2.out⟩
def sU (base d B M:Nat) (w w':World) (xs:List FV) (A:Option Addr) (c:Nat) (f:Fc) (z:Ending):Prop:=
 ∃xs' A' c',z=.returned (.bool (mv (xs.map FV.f) f))∧xs'.map FV.f=fd (xs.map FV.f) f∧DSt base d B w' M xs' A' c'∧al (fun k=>k=M) w w'∧bk w (.slice A xs.length c) (.slice A' xs'.length c')
theorem sU.no {base d B M c:Nat} {w w':World} {xs:List FV} {A:Option Addr} {f:Fc} (h:DSt base d B w M xs A c) (hb:Below w.heap.size w w') (hn:mv (xs.map FV.f) f=false):sU base d B M w w' xs A c f (.returned (.bool false)):=
 ⟨xs,A,c,by rw [hn],by unfold fd;rw [hn];rfl,h.later hb,(al.of_below (M:=fun _=>False) hb).mono (fun _ _ h=>h.elim),.inl rfl⟩
theorem zZ (x:FV):x.cs.length=3:=rfl
theorem lC:∀{ys:List FV} {j:Nat} {u:Value},(ys.flatMap FV.cs)[j]? = some u→∃i b,∃hi:i<ys.length,b<3∧j=i*3+b∧(ys[i].cs)[b]? = some u
 | [],j,u,h=>by simp at h
 | y::ys,j,u,h=>by
   rw [List.flatMap_cons] at h
   by_cases hj:j<3
   ·rw [List.getElem?_append_left (by rw [zZ];exact hj)] at h
    exact ⟨0,j,by simp,hj,by omega,h⟩
   ·rw [List.getElem?_append_right (by rw [zZ];omega),zZ] at h
    obtain ⟨i,b,hi,hb,e,hu⟩:=lC h
    exact ⟨i+1,b,by simpa using hi,hb,by omega,hu⟩
theorem vS:∀(ys:List FV) {w:World} {B:Nat},bu FvR w B ys (ys.flatMap FV.cs)
 | [],w,B=>bu.nil
 | y::ys,w,B=>by
   have h:bu FvR w B ([y]++ys) (y.cs++ys.flatMap FV.cs):=(bu.one (R:=FvR) (x:=y) (vs:=y.cs) rfl).append (vS ys)
   exact h
theorem xq {w:World} {base n c p m:Nat} {xs:List FV} {g:Nat} (h:aq FvR 33 w base 0 (.slice (some ⟨g,0,none⟩) n c) xs) (hp:p+m≤xs.length):fy FvR w 0 (some ⟨g,p*3,none⟩) ((xs.drop p).take m):=by
 rcases Nat.eq_zero_or_pos xs.length with h0 | h0
 ·have:(xs.drop p).take m=[]:=by rw [List.length_eq_zero_iff.1 h0];simp
  rw [this]
  exact ⟨[],bu.nil,fun h=>(by cases h),fun a _ j u h=>by simp at h⟩
 obtain ⟨g',c',e,_,_,_,_,hc,_⟩:=h.sh aU h0
 simp only [AR,AP,Addr.mk.injEq,true_and,and_true] at e
 obtain ⟨rfl,_⟩:=e
 have hl:(((xs.drop p).take m)).length=m:=by rw [AW,List.length_drop];omega
 refine ⟨((xs.drop p).take m).flatMap FV.cs,?_,fun h=>(by cases h),?_⟩
 ·exact vS _
 ·intro a ha j u hj
  simp only [AP] at ha
  subst ha
  obtain ⟨i,b,hi,hb,rfl,hu⟩:=lC hj
  have hi0:=hi
  rw [hl] at hi
  have hx:((xs.drop p).take m)[i]'hi0=xs[p+i]'(by omega):=by rw [List.getElem_take,List.getElem_drop]
  rw [hx] at hu
  have:=hc (p+i) (by omega) b u hu
  have e0:(⟨g,p*3,none⟩:Addr).add (i*3+b)=⟨g,p*3+(i*3+b),none⟩:=by unfold Addr.add;split<;>simp_all
  rw [e0]
  rw [←this]
  congr 2
  show _=(p+i)*3+b
  omega
theorem at_app {w w':World} {v v':Value} {k:Nat} {cs:Array Value} {T:TypeId} (h:w.heap[k]? = some (.cells cs T (0,0))) (hn:v.ownBlock≠some k) (hg:w.grownBy w' v.ownBlock) (hf:bk w v v'):w'.heap[k]? = some (.cells cs T (0,0)):=(fF.app (fF.mk' h hn) hg hf).1
theorem xr {α:Type} {R:Reader α} {w:World} {a:Addr} {ys:List α} (h:ys=[]):fy R w 0 (some a) ys:=by
 subst h
 exact ⟨[],bu.nil,fun h=>(by cases h),fun a _ j u h=>by simp at h⟩
def CutF (xs:List FV) (p:Nat) (A:Option Addr) (v:Value):Prop:=∃A2 c2,v=.slice A2 (xs.drop p).length c2∧(xs.drop p=[]∨∃g,A=some ⟨g,0,none⟩∧A2=some ⟨g,p*3,none⟩)
theorem yp {w:World} {base c p:Nat} {xs:List FV} {A:Option Addr} (h:aq FvR 33 w base 0 (.slice A xs.length c) xs) (hp:p≤xs.length):fy FvR w 0 A (xs.take p):=by
 rcases A with _ | a
 ·obtain ⟨rfl,_⟩:=aq.none_nil h
  exact fy.none (by simp)
 ·obtain ⟨g,rfl,_⟩:=aq.some_row h
  have h:=xq (p:=0) (m:=p) h (by omega)
  rwa [Nat.zero_mul,List.drop_zero] at h
theorem yq {w:World} {base c p:Nat} {xs:List FV} {A A2:Option Addr} (h:aq FvR 33 w base 0 (.slice A xs.length c) xs) (hp:p≤xs.length) (hc:xs.drop p=[]∨∃g,A=some ⟨g,0,none⟩∧A2=some ⟨g,p*3,none⟩):fy FvR w 0 A2 (xs.drop p):=by
 rcases hc with hc | ⟨g,rfl,rfl⟩
 ·rcases A2 with _ | a
  ·exact fy.none hc
  ·exact xr hc
 ·have h:=xq (p:=p) (m:=xs.length-p) h (by omega)
  rwa [List.take_of_length_le (by rw [List.length_drop];omega)] at h
theorem ze {base d B M c:Nat} {xs:List FV} {A A2:Option Addr} {c2 p n2:Nat} {y:FV} {w w3 w4:World} (hs:DSt base d B w M xs A c) (hf:(ay (d+1)).rd w B y.f y.cs) (hok:FcOk y.f) (had:mv (xs.map FV.f) y.f=true) (hp:p=jg (xs.map FV.f) y.f) (hb3:Below w.heap.size w w3) (hb4:Below w3.heap.size w3 w4)
 (ho:aq FvR 33 w4 w3.heap.size 0 (.slice A2 n2 c2) (cM xs p y)):sU base d B M w (w4.setCell ⟨M,0,none⟩ (.slice A2 n2 c2)) xs A c y.f (.returned (.bool true)):=by
 have hml:=hs.hd.lt
 have hl:n2=(cM xs p y).length:=by obtain ⟨A',c',e⟩:=ho.form;cases e;rfl
 subst hl
 have hB:=hs.hB
 have hs3:=hb3.size
 have hb:Below w.heap.size w w4:=aa hb3 hb4
 have hag:al (fun k=>k=M) w (w4.setCell ⟨M,0,none⟩ (.slice A2 (cM xs p y).length c2)):=al.set_ (M:=fun k=>k=M) ((al.of_below (M:=fun _=>False) hb).mono (fun _ _ h=>h.elim)) (fun _=>rfl) 0 _
 have hBel:Below B w (w4.setCell ⟨M,0,none⟩ (.slice A2 (cM xs p y).length c2)):=hag.below (fun k hk hm=>by omega) (by omega)
 refine ⟨cM xs p y,A2,c2,by rw [had],?_,⟨(hs.hd.later hb).set_ 0 _,hs.lt,?_,(ho.far (by omega) (AH _) _).lower (AF hs.bw hs3),fun x hx=>?_,fun x hx=>?_,?_,hs.hB⟩,hag,?_⟩
 ·unfold fd
  rw [if_pos had,kN FV.f,hp]
 ·have:=hs.bw;have:=hag.size;omega
 ·rcases dv.1 hx with rfl | hx
  ·exact hok
  ·exact hs.ok x hx
 ·rcases dv.1 hx with rfl | hx
  ·exact (ay (d+1)).keep hBel (AG _) hf
  ·exact (ay (d+1)).keep hBel (AG _) (hs.deep x hx)
 ·rw [kN FV.f,hp]
  exact jQ hs.sort (by unfold mv at had;rw [AN,Bool.not_eq_true'] at had;exact had.2)
 ·rcases hv:(Value.slice A2 (cM xs p y).length c2).ownBlock with _ | k
  ·exact absurd hv (fun e=>by
    have hne:(cM xs p y).length≠0:=by simp [cM]
    obtain ⟨g,c',e',_⟩:=ho.sh aU (by omega)
    cases e'
    simp [Value.ownBlock] at e)
  ·exact .inr ⟨k,hv,AF hs3 (ho.lt k hv).1⟩
theorem ue {base d B M c:Nat} {xs:List FV} {A:Option Addr} {y:FV} {w:World} (hs:DSt base d B w M xs A c) (hf:(ay (d+1)).rd w B y.f y.cs) (hn:xs.length≤100000) :
 Calls Tryz.prog 41 #[.pointer (some ⟨M,0,none⟩),.agg y.cs.toArray] w fun z w'=>sU base d B M w w' xs A c y.f z:=by
 have HS:=AE hs
 have HF:=AE hf
 have hml:=hs.hd.lt
 have hBM:=hs.hB
 have HFI:Hid (y.f.pr.name.size≤140737488351232∧U32 y.f.o):=AE (by obtain ⟨_,_,_,h1,_,_,_,_,h2⟩:=aG hf;exact ⟨h1,h2⟩)
 clear hs hf
 obtain ⟨i0,hi0,hz0,hz1,hz2⟩:=info_parts fh
 show Calls Tryz.prog 41 #[_,.agg #[.string y.f.pr.name,.slice y.a y.f.pr.terms.length y.c,.int .u32 y.f.o]] w _
 go_enter Tryz.func41,Tryz.ntmps41
 go_wp2_with fail
 generalize hW:World.alloc _ _=w1
 obtain ⟨hb1,hz⟩:=al1 hW
 have HF1:=AE (n11 hW)
 have HB1:=AE hb1
 have HS1:=AE (HS.out.later hb1)
 clear hW hb1
 refine (wV (f:=y.f) (vf:=y.cs) (B2:=B) HS1.out ((ay (d+1)).keep HB1.out (by omega) HF.out) (by have:=HB1.out.size;omega) hn).mono ?_
 rintro z w2 ⟨rfl,hb⟩
 have HF2:=AE (HF1.out.later hb)
 have HB2:=AE (aa HB1.out hb)
 clear hb
 obtain ⟨p,hp⟩:∃p,p=jg (xs.map FV.f) y.f:=⟨_,rfl⟩
 obtain ⟨q,hq⟩:∃q,q=fe (xs.map FV.f) y.f:=⟨_,rfl⟩
 have hpn:p≤xs.length:=by rw [hp];have:=lX (fs:=xs.map FV.f) (f:=y.f);rwa [AM] at this
 have HP:=AE hp
 have HQ:=AE hq
 rw [←hp,←hq]
 clear hp hq
 have k_f:=HF2.out.cell
 have l_f:=HF2.out.lt
 cases q
 rotate_left
 ·go_wp2_with fail
  go_ret
  exact sU.no HS.out HB2.out (by unfold mv;rw [←HQ.out];simp)
 go_wp2_with fail
 refine (rG (d:=d+1) (B:=B) (f:=y.f) (vf:=[_,_,_]) ((ay (d+1)).keep HB2.out (by omega) HF.out) (by have:=HB2.out.size;omega)).mono ?_
 rintro z w3 ⟨rfl,hb⟩
 have HF3:=AE (HF2.out.later hb)
 have HB3:=AE (aa HB2.out hb)
 have HS3:=AE (HS.out.later HB3.out)
 have hsz3:=HB3.out.size
 clear hb k_f l_f
 obtain ⟨sb,hsb⟩:∃sb,sb=aD y.f:=⟨_,rfl⟩
 have HSB:=AE hsb
 rw [←hsb]
 clear hsb
 cases sb
 ·go_wp2_with fail
  go_ret
  exact sU.no HS.out HB3.out (gq HSB.out.symm)
 have HAD:Hid (mv (xs.map FV.f) y.f=true):=AE (by unfold mv;rw [←HSB.out,←HQ.out];rfl)
 have HFO:=AE (jp HSB.out.symm HFI.out.1 HFI.out.2)
 go_upto_region 4 with fail
 have HCS:Hid ((A=none∧xs=[]∧c=0∧p=0)∨∃g,A=some ⟨g,0,none⟩∧xs.length≤c∧c≤9223372036854775807):=AE (by
  rcases A with _ | a
  ·obtain ⟨h1,h2⟩:=aq.none_nil HS.out.row
   subst h1
   exact .inl ⟨rfl,rfl,h2,by simpa using hpn⟩
  ·obtain ⟨g,rfl,h3,h4⟩:=aq.some_row HS.out.row
   exact .inr ⟨g,rfl,h3,h4⟩)
 have HST:Hid (zF [fun v _=>v=.pointer (some ⟨M,0,none⟩),fun v _=>v=.pointer (some ⟨M,0,none⟩),fun v _=>v=.pointer (some ⟨M,0,none⟩),fun v _=>v=.pointer (some ⟨M,0,none⟩),fun v _=>v=.slice A xs.length c,fun v _=>v=.int .i64 (p:Int),fun v _=>v=.slice A p c,qy FvR 33 w3.heap.size 0 ([]++xs.take p),fun v _=>v=.agg #[.string y.f.pr.name,.slice y.a y.f.pr.terms.length y.c,.int .u32 y.f.o],qz w3.heap.size 1 #[.string y.f.pr.name,.slice y.a y.f.pr.terms.length y.c,.int .u32 y.f.o] 33,qy FvR 33 w3.heap.size 0 ([]++xs.take p++[y]),fun v _=>v=.pointer (some ⟨M,0,none⟩),fun v _=>v=.pointer (some ⟨M,0,none⟩),fun v _=>v=.pointer (some ⟨M,0,none⟩),fun v _=>v=.slice A xs.length c,fun v _=>v=.int .i64 (p:Int),fun v _=>CutF xs p A v,qy FvR 33 w3.heap.size 0 (([]++xs.take p)++[y]++xs.drop p),fun v _=>v=.pointer (some ⟨M,0,none⟩),fun v _=>v=.pointer (some ⟨M,0,none⟩)]):=AE ⟨Stb.val _,⟨Stb.val _,⟨Stb.val _,⟨Stb.val _,⟨Stb.val _,⟨Stb.val _,⟨Stb.val _,⟨Stb.own _ _ _ _ _,⟨Stb.val _,⟨Stb.row _ _ _ _,⟨Stb.own _ _ _ _ _,⟨Stb.val _,⟨Stb.val _,⟨Stb.val _,⟨Stb.val _,⟨Stb.val _,⟨Stb.val _,⟨Stb.own _ _ _ _ _,⟨Stb.val _,⟨Stb.val _,trivial⟩⟩⟩⟩⟩⟩⟩⟩⟩⟩⟩⟩⟩⟩⟩⟩⟩⟩⟩⟩
 have HH0:Hid (w3.heap.size≤w3.drew.heap.size):=AE (AG _)
 have HDR:Hid (Below w3.heap.size w3 w3.drew):=AE (AI _ _).drew
 refine cV 20 (ol [fun v _=>v=.pointer (some ⟨M,0,none⟩),fun v _=>v=.pointer (some ⟨M,0,none⟩),fun v _=>v=.pointer (some ⟨M,0,none⟩),fun v _=>v=.pointer (some ⟨M,0,none⟩),fun v _=>v=.slice A xs.length c,fun v _=>v=.int .i64 (p:Int),fun v _=>v=.slice A p c,qy FvR 33 w3.heap.size 0 ([]++xs.take p),fun v _=>v=.agg #[.string y.f.pr.name,.slice y.a y.f.pr.terms.length y.c,.int .u32 y.f.o],qz w3.heap.size 1 #[.string y.f.pr.name,.slice y.a y.f.pr.terms.length y.c,.int .u32 y.f.o] 33,qy FvR 33 w3.heap.size 0 ([]++xs.take p++[y]),fun v _=>v=.pointer (some ⟨M,0,none⟩),fun v _=>v=.pointer (some ⟨M,0,none⟩),fun v _=>v=.pointer (some ⟨M,0,none⟩),fun v _=>v=.slice A xs.length c,fun v _=>v=.int .i64 (p:Int),fun v _=>CutF xs p A v,qy FvR 33 w3.heap.size 0 (([]++xs.take p)++[y]++xs.drop p),fun v _=>v=.pointer (some ⟨M,0,none⟩),fun v _=>v=.pointer (some ⟨M,0,none⟩)]) [7,10,17] (w3.heap.size) HH0.out (by kernel_rfl) (by kernel_rfl) (by kernel_rfl) (by kernel_rfl) (by kernel_rfl) rfl (ae (ae (ae (ae (ae (ae (ae (ae (ae (ae (ae (ae (ae (ae (ae (ae (ae (ae (ae (ae jh ?op0_) ?op1_) ?op2_) ?op3_) ?op4_) ?op5_) ?op6_) ?op7_) ?op8_) ?op9_) ?op10_) ?op11_) ?op12_) ?op13_) ?op14_) ?op15_) ?op16_) ?op17_) ?op18_) ?op19_) ?last_
 case op0_=>
  refine mvA fun T w' hk hb hgr hd K hK=>?_
  have h_:T[0]?.getD undef=.pointer (some ⟨M,0,none⟩):=gqd (mvK hk 0)
  clear hk hd
  go_simp
  exact hK.out _ _ (mvM HST HH0 hb) rfl
 case op1_=>
  refine mvA fun T w' hk hb hgr hd K hK=>?_
  have h_:T[0]?.getD undef=.pointer (some ⟨M,0,none⟩):=gqd (mvK hk 0)
  clear hk hd
  go_simp
  exact hK.out _ _ (mvM HST HH0 hb) rfl
 case op2_=>
  refine mvA fun T w' hk hb hgr hd K hK=>?_
  have d1:T[20]?.getD undef=.pointer (some ⟨M,0,none⟩):=gqd (mvD hd 1)
  clear hk hd
  go_simp
  exact hK.out _ _ (mvM HST HH0 hb) rfl
 case op3_=>
  refine mvA fun T w' hk hb hgr hd K hK=>?_
  have d2:T[21]?.getD undef=.pointer (some ⟨M,0,none⟩):=gqd (mvD hd 2)
  clear hk hd
  go_simp
  exact hK.out _ _ (mvM HST HH0 hb) rfl
 case op4_=>
  refine mvA fun T w' hk hb hgr hd K hK=>?_
  have d3:T[22]?.getD undef=.pointer (some ⟨M,0,none⟩):=gqd (mvD hd 3)
  have k_:=(HS3.out.later (HDR.out.trans hb)).hd.cell
  have l_:=(HS3.out.later (HDR.out.trans hb)).hd.lt
  clear hk hd
  go_simp
  exact hK.out _ _ (mvM HST HH0 hb) rfl
 case op5_=>
  refine mvA fun T w' hk hb hgr hd K hK=>?_
  have h_:T[5]?.getD undef=.int .i64 (p:Int):=gqd (mvK hk 5)
  clear hk hd
  go_simp
  exact hK.out _ _ (mvM HST HH0 hb) rfl
 case op6_=>
  refine mvA fun T w' hk hb hgr hd K hK=>?_
  have d4:T[23]?.getD undef=.slice A xs.length c:=gqd (mvD hd 4)
  have d5:T[24]?.getD undef=.int .i64 (p:Int):=gqd (mvD hd 5)
  clear hk hd
  rcases HCS.out with ⟨rfl,rfl,rfl,rfl⟩ | ⟨g,rfl,hg3,hg4⟩
  ·simp only [List.length_nil] at *
   go_simp
   exact hK.out _ _ (mvM HST HH0 hb) rfl
  ·have hP0:(0:Int)≤(p:Int):=Int.natCast_nonneg _
   have hP1:(p:Int)≤(xs.length:Int):=by omega
   have hP2:(p:Int)≤(c:Int):=by omega
   go_simp
   exact hK.out _ _ (mvM HST HH0 hb) rfl
 case op7_=>
  refine mvA fun T w' hk hb hgr hd K hK=>?_
  have d6:=mvD hd 6
  replace d6:T.getD 25 undef=_:=d6
  refine dF (R:=FvR) (e:=33) (.const (.slice none 0 0)) (.tmp 25) 23 rfl (bytes:=48) Tryz.underlying23 hi0 hz0 hz1 hz2 rfl (show 0<3 by omega) bC (xs:=[]) (base:=w3.heap.size) (B:=0) (v:=.slice none 0 0) (by rfl) (aq.nil _ _ _ _ _) (by exact d6) (ys:=xs.take p) (yp (HS3.out.later (HDR.out.trans hb)).row hpn) (by rw [AW];omega) (AH _) (by simp<;>omega) (by omega) hb.size ?_
  intro v_1 w4 hown hb4 hg hf
  refine hK.out _ _ (Moved.keep (hb.trans hb4) rfl [0,8,9,11,12,13,14,15,16,18,19] (by kernel_rfl) ?_) ⟨AH _,hown⟩
  intro j hj
  simp only [List.mem_cons,List.not_mem_nil,or_false] at hj
  rcases hj with rfl | rfl | rfl | rfl | rfl | rfl | rfl | rfl | rfl | rfl | rfl
  rotate_left 2
  ·exact fun ⟨b,e,h2,h3⟩=>⟨b,e,h2,at_app h3 (fun h=>by cases h) hg hf⟩
  all_goals exact fun h=>h
 case op8_=>
  refine mvA fun T w' hk hb hgr hd K hK=>?_
  have h_:T[3]?.getD undef=.pointer (some ⟨w.heap.size,0,none⟩):=gqd (mvK hk 3)
  have k_:=(HF3.out.later (HDR.out.trans hb)).cell
  have l_:=(HF3.out.later (HDR.out.trans hb)).lt
  clear hk hd
  go_simp
  exact hK.out _ _ (mvM HST HH0 hb) rfl
 case op9_=>
  refine mvA fun T w' hk hb hgr hd K hK=>?_
  have d8:T[27]?.getD undef=.agg #[.string y.f.pr.name,.slice y.a y.f.pr.terms.length y.c,.int .u32 y.f.o]:=gqd (mvD hd 8)
  clear hk hd
  go_simp
  generalize hW:World.alloc _ _=w4
  obtain ⟨hb4,hz4⟩:=al1 hW
  have hN4:=hW▸heap_alloc_new w' _
  clear hW
  exact hK.out _ _ (mvN HST HH0 hb hb4) ⟨_,rfl,AF HH0.out hb.size,hN4⟩
 case op10_=>
  refine mvA fun T w' hk hb hgr hd K hK=>?_
  have d7:=mvD hd 7
  have d9:=mvD hd 9
  obtain ⟨b9,e9,hb9,hc9⟩:=d9
  refine dF (R:=FvR) (e:=33) (.tmp 26) (.tmp 28) 23 rfl (bytes:=48) Tryz.underlying23 hi0 hz0 hz1 hz2 rfl (show 0<3 by omega) bC (xs:=[]++xs.take p) (base:=w3.heap.size) (B:=0) (v:=T.getD 26 undef) (by rfl) d7.2 (by exact e9) (ys:=[y]) (zm hc9 (bu.one (R:=FvR) rfl)) rfl (AH _) (by simp<;>omega) (by omega) hb.size ?_
  intro v_1 w4 hown hb4 hg hf
  refine hK.out _ _ (Moved.keep (hb.trans hb4) rfl [0,11,12,13,14,15,16,18,19] (by kernel_rfl) ?_) ⟨AH _,hown⟩
  intro j hj
  simp only [List.mem_cons,List.not_mem_nil,or_false] at hj
  rcases hj with rfl | rfl | rfl | rfl | rfl | rfl | rfl | rfl | rfl
  all_goals exact fun h=>h
 case op11_=>
  refine mvA fun T w' hk hb hgr hd K hK=>?_
  have h_:T[0]?.getD undef=.pointer (some ⟨M,0,none⟩):=gqd (mvK hk 0)
  clear hk hd
  go_simp
  exact hK.out _ _ (mvM HST HH0 hb) rfl
 case op12_=>
  refine mvA fun T w' hk hb hgr hd K hK=>?_
  have d11:T[30]?.getD undef=.pointer (some ⟨M,0,none⟩):=gqd (mvD hd 11)
  clear hk hd
  go_simp
  exact hK.out _ _ (mvM HST HH0 hb) rfl
 case op13_=>
  refine mvA fun T w' hk hb hgr hd K hK=>?_
  have d12:T[31]?.getD undef=.pointer (some ⟨M,0,none⟩):=gqd (mvD hd 12)
  clear hk hd
  go_simp
  exact hK.out _ _ (mvM HST HH0 hb) rfl
 case op14_=>
  refine mvA fun T w' hk hb hgr hd K hK=>?_
  have d13:T[32]?.getD undef=.pointer (some ⟨M,0,none⟩):=gqd (mvD hd 13)
  have k_:=(HS3.out.later (HDR.out.trans hb)).hd.cell
  have l_:=(HS3.out.later (HDR.out.trans hb)).hd.lt
  clear hk hd
  go_simp
  exact hK.out _ _ (mvM HST HH0 hb) rfl
 case op15_=>
  refine mvA fun T w' hk hb hgr hd K hK=>?_
  have h_:T[5]?.getD undef=.int .i64 (p:Int):=gqd (mvK hk 5)
  clear hk hd
  go_simp
  exact hK.out _ _ (mvM HST HH0 hb) rfl
 case op16_=>
  refine mvA fun T w' hk hb hgr hd K hK=>?_
  have d14:T[33]?.getD undef=.slice A xs.length c:=gqd (mvD hd 14)
  have d15:T[34]?.getD undef=.int .i64 (p:Int):=gqd (mvD hd 15)
  clear hk hd
  rcases HCS.out with ⟨rfl,rfl,rfl,rfl⟩ | ⟨g,rfl,hg3,hg4⟩
  ·simp only [List.length_nil] at *
   go_simp
   exact hK.out _ _ (mvM HST HH0 hb) ⟨none,0,rfl,.inl rfl⟩
  ·have hP0:(0:Int)≤(p:Int):=Int.natCast_nonneg _
   have hP1:(p:Int)≤(xs.length:Int):=by omega
   have hP2:(p:Int)≤(c:Int):=by omega
   by_cases hpc:p=c
   ·obtain rfl:p=xs.length:=by omega
    subst hpc
    go_simp
    exact hK.out _ _ (mvM HST HH0 hb) ⟨some ⟨g,0,none⟩,0,by simp,.inl (by simp)⟩
   ·have hcp:¬c=p:=fun e=>hpc e.symm
    go_simp
    exact hK.out _ _ (mvM HST HH0 hb) ⟨_,_,by rw [List.length_drop],.inr ⟨g,rfl,rfl⟩⟩
 case op17_=>
  refine mvA fun T w' hk hb hgr hd K hK=>?_
  have d10:=mvD hd 10
  have d16:=mvD hd 16
  obtain ⟨A16,c16,e16,h16⟩:=d16
  refine dF (R:=FvR) (e:=33) (.tmp 29) (.tmp 35) 23 rfl (bytes:=48) Tryz.underlying23 hi0 hz0 hz1 hz2 rfl (show 0<3 by omega) bC (xs:=([]++xs.take p)++[y]) (base:=w3.heap.size) (B:=0) (v:=T.getD 29 undef) (by rfl) d10.2 (by exact e16) (ys:=xs.drop p) (yq (HS3.out.later (HDR.out.trans hb)).row hpn h16) rfl (AH _) (by simp<;>omega) (by omega) hb.size ?_
  intro v_1 w4 hown hb4 hg hf
  refine hK.out _ _ (Moved.keep (hb.trans hb4) rfl [0,18,19] (by kernel_rfl) ?_) ⟨AH _,hown⟩
  intro j hj
  simp only [List.mem_cons,List.not_mem_nil,or_false] at hj
  rcases hj with rfl | rfl | rfl
  all_goals exact fun h=>h
 case op18_=>
  refine mvA fun T w' hk hb hgr hd K hK=>?_
  have d0:T[19]?.getD undef=.pointer (some ⟨M,0,none⟩):=gqd (mvD hd 0)
  clear hk hd
  go_simp
  exact hK.out _ _ (mvM HST HH0 hb) rfl
 case op19_=>
  refine mvA fun T w' hk hb hgr hd K hK=>?_
  have d18:T[37]?.getD undef=.pointer (some ⟨M,0,none⟩):=gqd (mvD hd 18)
  clear hk hd
  go_simp
  exact hK.out _ _ (mvM HST HH0 hb) rfl
 case last_=>
  refine mvL fun T w' hk hb hgr hd K hK=>?_
  have d17:=mvD hd 17
  have d19:=mvD hd 19
  replace d19:T.getD 38 undef=.pointer (some ⟨M,0,none⟩):=d19
  replace d17:=d17.2
  obtain ⟨A2,c2,e17⟩:=d17.form
  rw [show T.getD 36 undef=_ from e17] at d17
  replace e17:T.getD 36 undef=_:=e17
  have hb3:=HDR.out.trans hb
  have k_m:=(HS3.out.later hb3).hd.cell
  have f_m:=(HS3.out.later hb3).hd.free
  have l_m:=(HS3.out.later hb3).hd.lt
  have HO:=AE d17
  have HU:=AE hb3
  have hT:=kU hk.1
  obtain ⟨f_,hf_⟩:∃f_:Nat→Value,(fun t=>T.getD t undef)=f_:=⟨_,rfl⟩
  rw [hf_] at hT
  replace e17:f_ 36=_:=(congrFun hf_ 36).symm.trans e17
  replace d19:f_ 38=_:=(congrFun hf_ 38).symm.trans d19
  replace hT:T=#[f_ 0,f_ 1,f_ 2,f_ 3,f_ 4,f_ 5,f_ 6,f_ 7,f_ 8,f_ 9,f_ 10,f_ 11,f_ 12,f_ 13,f_ 14,f_ 15,f_ 16,f_ 17,f_ 18,f_ 19,f_ 20,f_ 21,f_ 22,f_ 23,f_ 24,f_ 25,f_ 26,f_ 27,f_ 28,f_ 29,f_ 30,f_ 31,f_ 32,f_ 33,f_ 34,f_ 35,f_ 36,f_ 37,f_ 38]:=hT
  clear hf_
  subst hT
  rw [e17,d19]
  clear hk hd d17 hb3
  go_simp
  refine hK.out _ _ ?_
  clear hK
  go_wp2_with fail
  go_ret
  exact ze HS.out HF.out HFO.out HAD.out HP.out HB3.out HU.out (by simpa [cM,Nat.min_eq_left hpn] using HO.out)
end Go.Proofs.YtjpndglegpcdnaaGreat
