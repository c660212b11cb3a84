/- expr.stack's value. -/
import Derived.Test.YtdphibjibnffeaaGreatBin
import Derived.Test.YtdphibjibnffeaaGreatPush
import Derived.Deep.RegionWith
import Derived.Deep.Cut
import Derived.Test.YtdphibjibnffeaaGreatBind
import Derived.Test.YtdphibjibnffeaaGreatMat2
set_option linter.unusedVariables false
set_option linter.unusedSimpArgs false
set_option maxRecDepth 100000
set_option maxHeartbeats 8000000
namespace Go.Proofs.YtdphibjibnffeaaGreat
open Go.ChangeShapes Go.WideShapes Go.ChangeAt Go.RowKit
theorem tQ (b:BitVec 64):I64 b.toInt:=by
 have h1:=BitVec.toInt_lt (x:=b)
 have h2:=BitVec.le_toInt (x:=b)
 unfold I64
 omega
theorem wi (v:BitVec 64):IntKind.i64.wrap (v.toNat:Int)=v.toInt:=by
 rw [IntKind.wrap_i64,BitVec.toInt_eq_toNat_cond]
 have:=v.isLt
 split<;>omega
theorem i64_and (a b:Int):I64 (bits .and .i64 a b):=by
 have h:bits .and .i64 a b=(BitVec.ofInt 64 a &&& BitVec.ofInt 64 b).toInt:=wi _
 rw [h];exact tQ _
theorem i64_or (a b:Int):I64 (bits .or .i64 a b):=by
 have h:bits .or .i64 a b=(BitVec.ofInt 64 a ||| BitVec.ofInt 64 b).toInt:=wi _
 rw [h];exact tQ _
theorem i64_xor (a b:Int):I64 (bits .xor .i64 a b):=by
 have h:bits .xor .i64 a b=(BitVec.ofInt 64 a ^^^ BitVec.ofInt 64 b).toInt:=wi _
 rw [h];exact tQ _
theorem i64_bit (b:Bool):I64 (bit b):=by unfold bit I64;split<;>omega
theorem kN {n:Int} (h:-1000000000000000≤n) (h':n≤1000000000000000):I64 n:=by unfold I64;omega
theorem eP {d:Nat} {w w':World} {k n e:Int} {s:ByteArray} {z:Ending} (h:z=bK k n s e∧Below w.heap.size w w') (hk:I64 k) (hn:I64 n) (hs:s.size≤140737488351232):iX d w w' (⟨k,n,s,[]⟩,e) z:=⟨⟨none,0,h.1,TmOwn.flat hk hn hs⟩,h.2⟩
theorem bT {d:Nat} {w w':World} {e:Int} {z:Ending} (h:z=bK 0 0 emp e∧Below w.heap.size w w'):iX d w w' (noT,e) z:=eP h (by simp [I64]) (by simp [I64]) (by decide)
theorem dj {d:Nat} {w w':World} {b:Bool} {z:Ending} (h:z=bK 6 (bit b) emp 0∧Below w.heap.size w w'):iX d w w' (pD b,0) z:=eP h (by simp [I64]) (i64_bit b) (by decide)
theorem eQ {d:Nat} {w w':World} {n:Int} {z:Ending} (h:z=bK 2 n emp 0∧Below w.heap.size w w') (hn:I64 n):iX d w w' (yT n,0) z:=eP h (by simp [I64]) hn (by decide)
theorem yz (code a b:Int):(mu code a b=(2,tp code a b,0)∧I64 (tp code a b))∨∃e,mu code a b=(0,0,e)∧(e=5∨e=6):=by
 unfold mu nr
 by_cases h:code=10∧b=0
 ·exact .inr ⟨6,by rw [if_pos h];simp,.inr rfl⟩
 ·rw [if_neg h]
  rcases Bool.eq_false_or_eq_true (dz (tp code a b)) with hf | hf
  ·exact .inl ⟨by rw [hf];simp,(bZ _).1 hf⟩
  ·exact .inr ⟨5,by rw [hf];simp,.inl rfl⟩
theorem pa {d:Nat} {w w':World} {code a b k n e:Int} {z:Ending} (hr:mu code a b=(k,n,e)) (h:z=bK k n emp e∧Below w.heap.size w w'):iX d w w' (recT (mu code a b)) z:=by
 rw [hr]
 refine eP h ?_ ?_ (by decide)
 ·rcases yz code a b with ⟨h1,_⟩ | ⟨e2,h1,_⟩<;>(rw [hr] at h1;simp only [Prod.mk.injEq] at h1;rw [h1.1];simp [I64])
 ·rcases yz code a b with ⟨h1,h2⟩ | ⟨e2,h1,_⟩<;>(rw [hr] at h1;simp only [Prod.mk.injEq] at h1;rw [h1.2.1])
  ·exact h2
  ·simp [I64]
theorem iB {code ka kb:Int} (h:aE code ka kb=true) (hc:code=8∨code=9∨code=10∨code=17∨code=18∨code=19):ka=2∧kb=2:=by
 have h2:aE code ka kb=dH [2] ka kb:=by rcases hc with rfl | rfl | rfl | rfl | rfl | rfl<;>simp [aE]
 rw [h2] at h
 simpa [dH] using h
theorem ol {ka kb:Int} (h:aE 7 ka kb=true):ka=2∧kb=2∨ka=3∧kb=3:=by
 have h2:aE 7 ka kb=dH [2,3] ka kb:=by simp [aE]
 rw [h2] at h
 simpa [dH] using h
theorem uQ {ka kb:Int} (h:aE 11 ka kb=true):ka=7∨ka=3∧kb=3:=by
 have h2:aE 11 ka kb=((decide (ka=7)&&decide (2≤kb)&&decide (kb≤7))||dH [3] ka kb):=by simp [aE]
 rw [h2] at h
 simp [dH] at h
 omega
theorem uR {ka kb:Int} (h:aE 14 ka kb=true):ka=3∧kb=3:=by
 have h2:aE 14 ka kb=dH [3] ka kb:=by simp [aE]
 rw [h2] at h
 simpa [dH] using h
theorem om {code ka kb:Int} (h:aE code ka kb=true) (hc:code=15∨code=16):ka=7∧kb=7:=by
 have h2:aE code ka kb=dH [7] ka kb:=by rcases hc with rfl | rfl<;>simp [aE]
 rw [h2] at h
 simpa [dH] using h
theorem gA {x:Int} {s:ByteArray} {l:List Tm} (h:af ⟨3,x,s,l⟩=true):s.size≤256:=by
 unfold af fx dS at h
 simp at h
 omega
theorem rK {code:Int} {a b:Tm} {d B:Nat} {vs ws:List Value} {w:World} {m:Int} (ha:RTm w B (d+1) a vs) (hb:RTm w B (d+1) b ws) (hB:B≤w.heap.size) (hm:w.cell? ⟨0,0,none⟩=some (.int .i64 m)) (h0:0<w.heap.size) :
 Calls Tryz.prog 247 #[.int .i64 code,.agg vs.toArray,.agg ws.toArray] w fun z w'=>iX d w w' (ym code a b) z:=by
 obtain ⟨ka,x,s,l⟩:=a
 obtain ⟨kb,y,s',l'⟩:=b
 have hsz':s'.size≤140737488351232:=by obtain ⟨_,_,_,_,_,h,_⟩:=hb.cells;exact h
 unfold ym
 rcases Bool.eq_false_or_eq_true (af ⟨ka,x,s,l⟩) with fa | fa
 ·rcases Bool.eq_false_or_eq_true (af ⟨kb,y,s',l'⟩) with fb | fb
  ·by_cases hlo:code<1
   ·rw [if_pos (.inr (.inr (.inl hlo)))]
    exact (bin_lo ha hb hB fa fb hlo).mono fun _ _ h=>bT h
   ·by_cases hhi:19<code
    ·rw [if_pos (.inr (.inr (.inr hhi)))]
     exact (bin_hi ha hb hB fa fb hhi).mono fun _ _ h=>bT h
    ·rw [if_neg (by rw [fa,fb];simp;omega)]
     rcases Bool.eq_false_or_eq_true (aE code ka kb) with hk | hk
     ·rw [if_neg (by show ¬aE code ka kb=false;rw [hk];simp)]
      by_cases h7:code=7∧ka=3
      ·rw [if_pos h7]
       obtain ⟨rfl,rfl⟩:=h7
       obtain ⟨_,rfl⟩:(3:Int)=3∧kb=3:=by rcases ol hk with h | h<;>omega
       have:=gA fa
       have:=gA fb
       by_cases hl:s.size+s'.size≤256
       ·rw [if_pos hl]
        exact (bin_add ha hb hB fa fb hl).mono fun _ _ h=>eP h (by simp [I64]) (by simp [I64]) (by show (s++s').size≤_;rw [ByteArray.size_append];omega)
       ·rw [if_neg hl]
        exact (wK ha hb hB fa fb hl).mono fun _ _ h=>bT h
      ·rw [if_neg h7]
       by_cases hr:code=7∨code=8∨code=9∨code=10
       ·rw [if_pos hr]
        obtain ⟨rfl,rfl⟩:ka=2∧kb=2:=by
         rcases hr with rfl | hr
         ·rcases ol hk with h | h
          ·exact h
          ·exact absurd ⟨rfl,h.1⟩ h7
         ·exact iB hk (by omega)
        exact (rI (k:=(mu code x y).1) (n:=(mu code x y).2.1) (e:=(mu code x y).2.2) ha hb hB fa fb hr rfl).mono fun _ _ h=>pa rfl h
       ·rw [if_neg hr]
        by_cases h11:code=11
        ·rw [if_pos h11]
         subst h11
         rcases uQ hk with rfl | ⟨rfl,rfl⟩
         ·exact (pw ha hb hB fa fb hk).mono fun _ _ h=>dj h
         ·exact (nB ha hb hB fa fb hm h0 (gA fa)).mono fun _ _ h=>dj h
        ·rw [if_neg h11]
         by_cases h12:code=12
         ·rw [if_pos h12]
          subst h12
          exact (rJ ha hb hB fa fb hk).mono fun _ _ h=>dj h
         ·rw [if_neg h12]
          by_cases h13:code=13
          ·rw [if_pos h13]
           subst h13
           exact (wI ha hb hB fa fb hk).mono fun _ _ h=>dj h
          ·rw [if_neg h13]
           by_cases h14:code=14
           ·rw [if_pos h14]
            subst h14
            obtain ⟨rfl,rfl⟩:=uR hk
            show Calls _ _ _ _ fun z w'=>iX d w w' (ve s' s) z
            unfold ve
            by_cases hz:(fK s' s false).2=0
            ·rw [if_neg (by simp [hz])]
             exact (tM ha hb hB fa fb hz).mono fun _ _ h=>dj h
            ·rw [if_pos hz]
             exact (px ha hb hB fa fb hz).mono fun _ _ h=>bT h
           ·rw [if_neg h14]
            by_cases h15:code=15
            ·rw [if_pos h15]
             subst h15
             obtain ⟨rfl,rfl⟩:=om hk (.inl rfl)
             exact wL ha hb hB fa fb
            ·rw [if_neg h15]
             by_cases h16:code=16
             ·rw [if_pos h16]
              subst h16
              obtain ⟨rfl,rfl⟩:=om hk (.inr rfl)
              exact wJ ha hb hB fa fb
             ·rw [if_neg h16]
              by_cases h17:code=17
              ·rw [if_pos h17]
               subst h17
               obtain ⟨rfl,rfl⟩:=iB hk (by omega)
               exact (bin_and ha hb hB fa fb).mono fun _ _ h=>eQ h (i64_and _ _)
              ·rw [if_neg h17]
               by_cases h18:code=18
               ·rw [if_pos h18]
                subst h18
                obtain ⟨rfl,rfl⟩:=iB hk (by omega)
                exact (bin_or ha hb hB fa fb).mono fun _ _ h=>eQ h (i64_or _ _)
               ·rw [if_neg h18]
                by_cases h19:code=19
                ·rw [if_pos h19]
                 subst h19
                 obtain ⟨rfl,rfl⟩:=iB hk (by omega)
                 exact (bin_xor ha hb hB fa fb).mono fun _ _ h=>eQ h (i64_xor _ _)
                ·rw [if_neg h19]
                 exact (pv ha hb hB fa fb (by omega) hk).mono fun _ _ h=>dj h
     ·rw [if_pos hk]
      exact (wM ha hb hB fa fb (by omega) (by omega) hk).mono fun _ _ h=>bT h
  ·rw [if_pos (.inr (.inl fb))]
   exact (wH ha hb hB fa fb).mono fun _ _ h=>bT h
 ·rw [if_pos (.inl fa)]
  exact (wG ha hb hB fa).mono fun _ _ h=>bT h
theorem vX {code:Int} {a:Tm} {d B:Nat} {vs:List Value} {w:World} (ha:RTm w B (d+1) a vs) (hB:B≤w.heap.size) :
 Calls Tryz.prog 246 #[.int .i64 code,.agg vs.toArray] w fun z w'=>iX d w w' (unR code a) z:=by
 obtain ⟨ka,x,s,l⟩:=a
 have hsz:s.size≤140737488351232:=by obtain ⟨_,_,_,_,_,h,_⟩:=ha.cells;exact h
 unfold unR
 rcases Bool.eq_false_or_eq_true (af ⟨ka,x,s,l⟩) with fa | fa
 ·by_cases hlo:code<1
  ·rw [if_pos (.inr (.inl hlo))]
   exact (un_lo ha hB fa hlo).mono fun _ _ h=>bT h
  ·by_cases hhi:3<code
   ·rw [if_pos (.inr (.inr hhi))]
    exact (un_hi ha hB fa hhi).mono fun _ _ h=>bT h
   ·rw [if_neg (by rw [fa];simp;omega)]
    have hc:code=1∨code=2∨code=3:=by omega
    simp only
    rcases hc with rfl | rfl | rfl
    ·by_cases h6:ka=6
     ·subst h6
      rw [if_pos ⟨rfl,rfl⟩]
      exact (un_not ha hB fa).mono fun _ _ h=>dj h
     ·rw [if_neg (fun h=>h6 h.2),if_neg (by omega),if_neg (by omega),if_neg (by omega)]
      exact (xZ ha hB fa h6).mono fun _ _ h=>bT h
    ·rw [if_neg (by omega)]
     by_cases h2:ka=2
     ·subst h2
      rw [if_pos ⟨rfl,rfl⟩]
      exact (un_neg (k:=(mu 8 0 x).1) (n:=(mu 8 0 x).2.1) (e:=(mu 8 0 x).2.2) ha hB fa rfl).mono fun _ _ h=>pa rfl h
     ·rw [if_neg (fun h=>h2 h.2),if_neg (by omega),if_neg (by omega)]
      exact (ya ha hB fa h2).mono fun _ _ h=>bT h
    ·rw [if_neg (by omega),if_neg (by omega)]
     by_cases h3:ka=3
     ·subst h3
      rw [if_pos ⟨rfl,.inl rfl⟩]
      exact (vW ha hB fa).mono fun _ _ h=>eQ h (kN (by omega) (by have:=gA fa;omega))
     ·by_cases h5:ka=5
      ·subst h5
       rw [if_pos ⟨rfl,.inr rfl⟩]
       exact (un_len5 ha hB fa).mono fun _ _ h=>eQ h (kN (by omega) (by omega))
      ·rw [if_neg (by omega)]
       by_cases h7:ka=7
       ·subst h7
        rw [if_pos ⟨rfl,rfl⟩]
        exact (un_len7 ha hB fa).mono fun _ _ h=>eQ h (kN (by omega) (by have:=(fL fa).1;omega))
       ·rw [if_neg (by omega)]
        exact (yb ha hB fa h3 h5 h7).mono fun _ _ h=>bT h
 ·rw [if_pos (.inl fa)]
  exact (un_bad ha hB fa).mono fun _ _ h=>bT h
def EvS (S base D:Nat) (bn bt:Value) (w:World) (ts:List Tm) (next:Int):Prop:=∃xs A c,xs.map SV.t=ts∧StkE S base D bn bt w xs next A c
def EvE (S base D:Nat) (bn bt:Value) (w w':World) (e:Int) (ts:List Tm) (next:Int) (z:Ending):Prop:=
 z=.returned (.int .i64 e)∧BelX base S w w'∧(e=0→EvS S base D bn bt w' ts next)
theorem EvS.later {S base D:Nat} {bn bt:Value} {w w':World} {ts:List Tm} {next:Int} (h:EvS S base D bn bt w ts next) (hb:Below w.heap.size w w'):EvS S base D bn bt w' ts next:=by
 obtain ⟨xs,A,c,h1,h2⟩:=h
 exact ⟨xs,A,c,h1,h2.later hb⟩
theorem yF.ev {S base D:Nat} {bn bt:Value} {w:World} {xs:List SV} {x:SV} {next e:Int} {ts:List Tm} (h:yF S base D bn bt w xs x next e) (ht:xs.map SV.t=ts) (he:e=0):EvS S base D bn bt w (ts++[x.t]) next:=by
 rcases h with ⟨_,A,c,h⟩ | ⟨h,_⟩
 ·exact ⟨xs++[x],A,c,by rw [List.map_append,ht];rfl,h⟩
 ·exact absurd he h
theorem jR {S base D c:Nat} {bn bt:Value} {w:World} {xs:List SV} {next:Int} {A:Option Addr} (h:StkE S base D bn bt w xs next A c) {x:SV} {n:Nat} (hx:∀a,x.a=some a→n≤a.block) (hn:w.heap.size≤n):mD S A x:=by
 intro a ha
 have h1:=hx a ha
 have h2:=h.hd.blk.lt
 refine ⟨by omega,fun b hb=>?_⟩
 subst hb
 obtain ⟨cells,how,_⟩:=h.own
 have:=(how.lt b.block rfl).2
 omega
theorem rW {S base D B d c:Nat} {bn bt:Value} {w:World} {xs:List SV} {x:SV} {next:Int} {A:Option Addr} {o:OpD} {ovs:List Value} (h:StkE S base D bn bt w (xs++[x]) next A c) (ho:(OpR d).rd w B o ovs) (hb:base≤w.heap.size) (hn:xs.length≤100000) :
 Calls Tryz.prog 200 #[.pointer (some ⟨S,0,none⟩),.agg ovs.toArray] w fun e w'=>EvE S base D bn bt w w' (unR o.code x.t).2 (xs.map SV.t++[(unR o.code x.t).1]) next e:=by
 obtain ⟨ts,rfl,_,_,_,ht⟩:=ho
 obtain ⟨At,ct,rfl,_⟩:=RTm.cells ht
 have hSlt:=h.hd.blk.lt
 have HS:=yW h
 clear h ht
 go_enter Tryz.func200,Tryz.ntmps200
 go_wp2_with fail
 generalize hW:World.alloc _ _=w1
 obtain ⟨hb1,hz⟩:=al1 hW
 have b_o:=n11 hW
 have HS1:=yW (HS.out.later (hb1.drew))
 have HB1:=yW hb1
 have BO:=yW b_o
 have k_o:=b_o.cell
 clear hW hb1 b_o
 go_region_with (first
  | (go_at_call 203
     refine (lh HS1.out hn).mono ?_
     rintro e w2 ⟨rfl,he,hs,htm,hap,hlt⟩
     have k_o2:=(he.blk (by omega) BO.out.drew).cell
     have HS2:=yW (And.intro hs (And.intro htm he))
     clear he hs htm hap hlt)
  | (go_at_call 246
     refine (vX (code:=o.code) (a:=x.t) (d:=D) (vs:=[_,_,_,_]) HS2.out.2.1.1 (yY _)).mono ?_
     rintro e w3 ⟨⟨A3,c3,rfl,hown⟩,hb3⟩
     have HS3:=yW (And.intro (HS2.out.1.later hb3) (And.intro hown hb3))
     clear hown hb3)
  | (go_at_call 245
     have hsz1:=HS2.out.2.2.1.size
     have hsz2:=HS3.out.2.2.size
     have hszd:w1.drew.heap.size=w1.heap.size:=rfl
     refine (gc (x:=⟨(unR o.code x.t).1,A3,c3⟩) HS3.out.1 HS3.out.2.1.at_ (jR HS2.out.1 (fun a ha=>(HS3.out.2.1.blk a ha).1) (yY _)) (fun a ha=>⟨by have:=(HS3.out.2.1.blk a ha).1;omega,(HS3.out.2.1.blk a ha).2⟩) (by omega) hn).mono ?_
     rintro e w4 ⟨rfl,hb4,hps⟩
     have HS4:=yW (And.intro hb4 hps)
     clear hb4 hps))
 all_goals
  go_wp2_with fail
  go_ret
  refine ⟨rfl,?_,fun he=>HS4.out.2.ev rfl he⟩
  exact (((BelX.of (HB1.out.mono hb).drew).trans (.exc HS2.out.2.2 (yX hb HB1.out.size))).trans (.of (HS3.out.2.2.mono (by omega)))).trans HS4.out.1
theorem dl.exc {D S:Nat} {w w':World} {x:SV} {A:Option Addr} (h:dl D w x) (he:Exc S w w') (ha:mD S A x) (hlt:∀a,x.a=some a→a.block<w.heap.size):dl D w' x:=
 h.keep (he.1.mono (yZ _)) fun a e=>he.2 a.block (hlt a e) (ha a e).1
theorem pP {S base D B d c:Nat} {bn bt:Value} {w:World} {xs:List SV} {xa xb:SV} {next:Int} {A:Option Addr} {o:OpD} {ovs:List Value} {m:Int} (h:StkE S base D bn bt w (xs++[xa]++[xb]) next A c) (ho:(OpR d).rd w B o ovs) (hb:base≤w.heap.size) (hS0:0<S) (hn:xs.length≤90000) (hm:w.cell? ⟨0,0,none⟩=some (.int .i64 m)) (h0:0<base) :
 Calls Tryz.prog 201 #[.pointer (some ⟨S,0,none⟩),.agg ovs.toArray] w fun e w'=>EvE S base D bn bt w w' (ym o.code xa.t xb.t).2 (xs.map SV.t++[(ym o.code xa.t xb.t).1]) next e:=by
 obtain ⟨ts,rfl,_,_,_,ht⟩:=ho
 obtain ⟨At,ct,rfl,_⟩:=RTm.cells ht
 have hSlt:=h.hd.blk.lt
 have HS:=yW h
 have HM:=yW hm
 clear h ht hm
 go_enter Tryz.func201,Tryz.ntmps201
 go_wp2_with fail
 generalize hW:World.alloc _ _=w1
 obtain ⟨hb1,hz⟩:=al1 hW
 have BO:=yW (n11 hW)
 have HS1:=yW (HS.out.later hb1)
 have HB1:=yW hb1
 clear hW hb1
 refine (lh HS1.out (by simp;omega)).mono ?_
 rintro e w2 ⟨rfl,he,hs,htm,hap,hlt⟩
 have BO2:=yW (he.blk (by omega) BO.out)
 have HS2:=yW hs
 have HX2:=yW (And.intro htm (And.intro hap (And.intro hlt he)))
 have hsz2:=he.1.size
 clear he hs htm hap hlt
 unfold SV.cs
 go_wp2_with fail
 generalize hW:World.alloc _ _=w3
 obtain ⟨hb3,hz3⟩:=al1 hW
 have BB:=yW (n11 hW)
 have BO3:=yW (BO2.out.later hb3)
 have HS3:=yW (HS2.out.later hb3.drew)
 have HB3:=yW hb3
 have HX3:=yW (HX2.out.1.later hb3.drew)
 have k_o:=BO3.out.cell
 have k_b:=BB.out.cell
 clear hW hb3
 go_region_with (first
  | (go_at_call 203
     refine (lh HS3.out (by omega)).mono ?_
     rintro e w4 ⟨rfl,he,hs,htm,hap,hlt⟩
     have k_o2:=(he.blk (by omega) BO3.out.drew).cell
     have k_b2:=(he.blk (by omega) BB.out.drew).cell
     have hxb:=HX3.out.exc he HX2.out.2.1 (fun a ha=>zb (HX2.out.2.2.1 a ha).2 (by show w1.heap.size≤w3.heap.size;omega))
     have HS4:=yW (And.intro hs (And.intro htm (And.intro hxb he)))
     clear he hs htm hap hlt hxb)
  | (go_at_call 247
     have hb4:BelX base S w w4:=((((BelX.of (HB1.out.mono hb)).trans (.exc HX2.out.2.2.2 (by omega))).trans (.of (HB3.out.mono (by omega)))).drew).trans (.exc HS4.out.2.2.2 (show base≤w3.heap.size by omega))
     have hsz4:=hb4.size
     refine (rK (code:=o.code) (a:=xa.t) (b:=xb.t) (d:=D) (vs:=[_,_,_,_]) (ws:=[_,_,_,_]) HS4.out.2.1.1 HS4.out.2.2.1.1 (yY _) ((((hb4.mono (show 1≤base from h0)).low hS0).cell (p:=⟨0,0,none⟩) (Nat.lt_succ_self 0)).trans HM.out) (by omega)).mono ?_
     rintro e w5 ⟨⟨A3,c3,rfl,hown⟩,hb5⟩
     have HS5:=yW (And.intro (HS4.out.1.later hb5) (And.intro hown (And.intro hb5 hb4)))
     clear hown hb5 hb4)
  | (go_at_call 245
     have hsz5:=HS5.out.2.2.1.size
     have hsz4b:=HS5.out.2.2.2.size
     refine (gc (x:=⟨(ym o.code xa.t xb.t).1,A3,c3⟩) HS5.out.1 HS5.out.2.1.at_ (jR HS4.out.1 (fun a ha=>(HS5.out.2.1.blk a ha).1) (yY _)) (fun a ha=>⟨by have:=(HS5.out.2.1.blk a ha).1;omega,(HS5.out.2.1.blk a ha).2⟩) (by omega) (by omega)).mono ?_
     rintro e w6 ⟨rfl,hb6,hps⟩
     have HS6:=yW (And.intro hb6 hps)
     clear hb6 hps))
 all_goals
  go_wp2_with fail
  go_ret
  refine ⟨rfl,?_,fun he=>HS6.out.2.ev rfl he⟩
  exact (HS5.out.2.2.2.trans (.of (HS5.out.2.2.1.mono (yX hb HS5.out.2.2.2.size)))).trans HS6.out.1
def wk (o:OpD) (t:Tm) (ts:List Tm) (next:Int):Int × List Tm × Int:=
 if t.kind≠6 then (7,ts,next)
 else if (decide (t.n=1)==decide (o.kind=5))=true then (0,ts++[t],wrap64 (next+o.skip))
 else (0,ts,next)
theorem nP {S base D B d c:Nat} {bn bt:Value} {w:World} {xs:List SV} {x:SV} {next:Int} {A:Option Addr} {o:OpD} {ovs:List Value} (h:StkE S base D bn bt w (xs++[x]) next A c) (ho:(OpR d).rd w B o ovs) (hb:base≤w.heap.size) (hn:xs.length≤90000) :
 Calls Tryz.prog 202 #[.pointer (some ⟨S,0,none⟩),.agg ovs.toArray] w fun e w'=>EvE S base D bn bt w w' (wk o x.t (xs.map SV.t) next).1 (wk o x.t (xs.map SV.t) next).2.1 (wk o x.t (xs.map SV.t) next).2.2 e:=by
 obtain ⟨ts,rfl,_,_,_,ht⟩:=ho
 obtain ⟨At,ct,rfl,_⟩:=RTm.cells ht
 have hSlt:=h.hd.blk.lt
 have HS:=yW h
 clear h ht
 go_enter Tryz.func202,Tryz.ntmps202
 go_wp2_with fail
 generalize hW:World.alloc _ _=w1
 obtain ⟨hb1,hz⟩:=al1 hW
 have BO:=yW (n11 hW)
 have HS1:=yW (HS.out.later hb1)
 have HB1:=yW hb1
 clear hW hb1
 refine (lh HS1.out (by omega)).mono ?_
 rintro e w2 ⟨rfl,he,hs,htm,hap,hlt⟩
 have BO2:=yW (he.blk (by omega) BO.out)
 have HS2:=yW hs
 have HX2:=yW (And.intro htm (And.intro hap (And.intro hlt he)))
 have hsz2:=he.1.size
 clear he hs htm hap hlt
 unfold SV.cs
 go_upto_region 2 with fail
 generalize hW:World.alloc _ _=w3
 obtain ⟨hb3,hz3⟩:=al1 hW
 have BB:=yW (n11 hW)
 have BO3:=yW (BO2.out.later hb3)
 have HS3:=yW (HS2.out.later hb3)
 have HX3:=yW (HX2.out.1.later hb3)
 have HBw:Hid (BelX base S w w3):=yW (((BelX.of (HB1.out.mono hb)).trans (.exc HX2.out.2.2.2 (by omega))).trans (.of (hb3.mono (by omega))))
 have HLT:Hid (∀a,x.a=some a→base≤a.block∧a.block<w3.heap.size):=yW fun a ha=>by have:=HX2.out.2.2.1 a ha;omega
 have k_b:=BB.out.cell
 have k_o:=BO3.out.cell
 clear hW hb3
 by_cases h6:x.t.kind=6
 ·have q6:(x.t.kind !=6)=false:=by rw [h6];rfl
  by_cases hq:(decide (x.t.n=1)==decide (o.kind=5))=true
  ·have HR:Hid (wk o x.t (xs.map SV.t) next=(0,xs.map SV.t++[x.t],wrap64 (next+o.skip))):=yW (by unfold wk;rw [if_neg (by simp [h6]),if_pos hq])
   have hq2:((x.t.n==1)==(o.kind==5))=true:=hq
   clear hq h6
   have k_s:=HS3.out.hd.blk.cell
   have f_s:=HS3.out.hd.blk.free
   have hS3:S<w3.heap.size:=by omega
   go_wp2_with fail
   go_region
   have HB4:Hid (BelX base S w (w3.setCell ⟨S,3,none⟩ (.int .i64 (wrap64 (next+o.skip)))).drew):=yW (HBw.out.setS 3 _).drew
   have HS4:Hid (StkE S base D bn bt (w3.setCell ⟨S,3,none⟩ (.int .i64 (wrap64 (next+o.skip)))).drew xs (wrap64 (next+o.skip)) A c):=yW ((HS3.out.head _).later (za _ _).drew)
   have HE4:Hid (Exc S w3 (w3.setCell ⟨S,3,none⟩ (.int .i64 (wrap64 (next+o.skip)))).drew):=yW ((Exc.refl S w3).set 3 _).drew
   have BB4:=yW (HE4.out.blk (by omega) BB.out)
   generalize (w3.setCell ⟨S,3,none⟩ (.int .i64 (wrap64 (next+o.skip)))).drew=w4 at *
   clear k_b k_o k_s f_s
   have k_b:=BB4.out.cell
   have hsz4:=HE4.out.1.size
   go_wp2_with fail
   refine (gc (x:=x) HS4.out (HX3.out.exc HE4.out HX2.out.2.1 fun a ha=>(HLT.out a ha).2) HX2.out.2.1 (fun a ha=>⟨(HLT.out a ha).1,zb (HLT.out a ha).2 hsz4⟩) (by omega) (by omega)).mono ?_
   rintro e w5 ⟨rfl,hb5,hps⟩
   have HS5:=yW (And.intro hb5 hps)
   clear hb5 hps
   go_wp2_with fail
   go_ret
   rw [HR.out]
   exact ⟨rfl,HB4.out.trans HS5.out.1,fun he=>HS5.out.2.ev rfl rfl⟩
  ·have HR:Hid (wk o x.t (xs.map SV.t) next=(0,xs.map SV.t,next)):=yW (by unfold wk;rw [if_neg (by simp [h6]),if_neg hq])
   have hq2:((x.t.n==1)==(o.kind==5))=false:=by rw [Bool.eq_false_iff];exact hq
   clear hq h6
   go_wp2_with fail
   go_ret
   rw [HR.out]
   exact ⟨rfl,HBw.out,fun _=>⟨xs,A,c,rfl,HS3.out⟩⟩
 ·have q6:(x.t.kind !=6)=true:=by simpa using h6
  have HR:Hid (wk o x.t (xs.map SV.t) next=(7,xs.map SV.t,next)):=yW (by unfold wk;rw [if_pos h6])
  clear h6
  go_wp2_with fail
  go_ret
  rw [HR.out]
  exact ⟨rfl,HBw.out,fun h=>absurd (show (7:Int)=0 from h) (by decide)⟩
def tg (b:Bd) (t:Tm) (ts:List Tm):Int × List Tm:=
 if t.kind=1 then
  match ek b (bs t.s) with
  | none=>(8,ts)
  | some u=>(0,ts++[u])
 else (0,ts++[t])
theorem uZ {b:Bd} {n:aS} {u:Tm} (h:ek b n=some u):u∈b.terms:=by
 unfold ek at h
 split at h
 ·exact List.mem_of_getElem? h
 ·cases h
theorem nv.no {d:Nat} {w w':World} {z:Ending} (h:nv d w w' none z):(∃A c,z=.returned (.tuple #[.agg #[.int .i64 0,.int .i64 0,.string ⟨#[]⟩,.slice A 0 c],.bool false]))∧Below w.heap.size w w':=by
 obtain ⟨⟨A,c,e,_⟩,hb⟩:=h
 exact ⟨⟨A,c,e⟩,hb⟩
theorem nv.yes {d:Nat} {w w':World} {u:Tm} {z:Ending} (h:nv d w w' (some u) z):(∃A c,z=.returned (.tuple #[.agg #[.int .i64 u.kind,.int .i64 u.n,.string u.s,.slice A u.l.length c],.bool true])∧TmOwn d w.heap.size w' u A c)∧Below w.heap.size w w':=h
theorem rZ {S base D B c cn ct:Nat} {b:Bd} {An At:Option Addr} {w:World} {xs:List SV} {next:Int} {A:Option Addr} {o:OpD} {ovs:List Value} (hok:BdOk b) (hbn:RL cX w B (b.names.map mkS) An) (hbt:RL (TmR (D+1)) w B b.terms At)
 (h:StkE S base D (.slice An b.names.length cn) (.slice At b.terms.length ct) w xs next A c) (ho:(OpR (D+1)).rd w B o ovs) (hol:∀u∈o.term.l,lU u) (ho16:o.term.l.length≤16) (hB:B≤w.heap.size) (hb:base≤w.heap.size) (hn:xs.length≤90000) :
 Calls Tryz.prog 199 #[.pointer (some ⟨S,0,none⟩),.agg ovs.toArray] w fun e w'=>EvE S base D (.slice An b.names.length cn) (.slice At b.terms.length ct) w w' (tg b o.term (xs.map SV.t)).1 (tg b o.term (xs.map SV.t)).2 next e:=by
 obtain ⟨ts,rfl,_,_,_,ht⟩:=ho
 obtain ⟨Ao,co,rfl,_,_,hs,hk,hi,hr⟩:=RTm.cells ht
 have hSlt:=h.hd.blk.lt
 have HS:=yW h
 have HOK:=yW hok
 have HN:=yW hbn
 have HT:=yW hbt
 have HR:=yW (And.intro (iU.rl hr) (And.intro hol (And.intro hk (And.intro hi hs))))
 clear h ht hr hol hok hbn hbt
 go_enter Tryz.func199,Tryz.ntmps199
 by_cases h1:o.term.kind=1
 ·have q1:(o.term.kind==1)=true:=by rw [h1];rfl
  go_upto_region 4 with fail
  generalize hW:World.alloc _ _=w1
  obtain ⟨hb1,hz⟩:=al2 hW
  have b_t:=n22 hW
  have BT:=yW b_t
  have HB1:=yW hb1
  have HS1:=yW (HS.out.later hb1)
  have HN1:=yW (HN.out.keep hb1.drew hB)
  have HT1:=yW (HT.out.keep hb1.drew hB)
  have hB1:B≤w1.drew.heap.size:=yX hB hb1.size
  have k_t:=b_t.cell
  have l_t:=b_t.lt
  have f_t:=b_t.free
  have k_s:=HS1.out.hd.blk.cell
  have l_s:=HS1.out.hd.blk.lt
  clear hW hb1 b_t
  rcases hL:ek b (bs o.term.s) with _ | u
  ·have HV:Hid (tg b o.term (xs.map SV.t)=(8,xs.map SV.t)):=yW (by unfold tg;rw [if_pos h1,hL])
   have HL:=yW hL
   clear h1 hL
   go_region_with (first
    | (go_at_call 125
       refine (nX (cn:=cn) (ct:=ct) (name:=o.term.s) HOK.out HN1.out HT1.out hB1).mono ?_
       rintro e w2 hE
       rw [HL.out] at hE
       obtain ⟨⟨A2,c2,rfl⟩,hb2⟩:=hE.no
       have b_t2:=BT.out.drew.later hb2
       have k_t2:=b_t2.cell
       have l_t2:=b_t2.lt
       have f_t2:=b_t2.free
       have HF:=yW (Below.trans HB1.out.drew (hb2.mono (show w.heap.size≤w1.drew.heap.size from HB1.out.size)))
       clear hE hb2 b_t2))
   all_goals
    go_wp2_with fail
    go_ret
    rw [HV.out]
    exact ⟨rfl,.of ((dC HF.out (Nat.le_succ _) _ _ _ _).mono hb),fun h=>absurd (show (8:Int)=0 from h) (by decide)⟩
  ·have HV:Hid (tg b o.term (xs.map SV.t)=(0,xs.map SV.t++[u])):=yW (by unfold tg;rw [if_pos h1,hL])
   have HL:=yW hL
   clear h1 hL
   go_region_with (first
    | (go_at_call 125
       refine (nX (cn:=cn) (ct:=ct) (name:=o.term.s) HOK.out HN1.out HT1.out hB1).mono ?_
       rintro e w2 hE
       rw [HL.out] at hE
       obtain ⟨⟨A2,c2,rfl,hown⟩,hb2⟩:=hE.yes
       have b_t2:=BT.out.drew.later hb2
       have k_t2:=b_t2.cell
       have l_t2:=b_t2.lt
       have f_t2:=b_t2.free
       have HF:=yW (And.intro (Below.trans HB1.out.drew (hb2.mono (show w.heap.size≤w1.drew.heap.size from HB1.out.size))) (And.intro hown b_t2))
       clear hE hb2 b_t2 hown))
   all_goals
    have HB3:=yW (dC HF.out.1 (Nat.le_succ _) (.int .i64 u.kind) (.int .i64 u.n) (.string u.s) (.slice A2 u.l.length c2))
    have HO3:=yW (HF.out.2.1.put4 (g:=w.heap.size+1) (show w.heap.size+1<w1.heap.size by omega) (.int .i64 u.kind) (.int .i64 u.n) (.string u.s) (.slice A2 u.l.length c2))
    have BT3:=yW (dZ HF.out.2.2 (.int .i64 u.kind) (.int .i64 u.n) (.string u.s) (.slice A2 u.l.length c2))
    generalize ((((w2.setCell ⟨w.heap.size+1,0,none⟩ (.int .i64 u.kind)).setCell ⟨w.heap.size+1,1,none⟩ (.int .i64 u.n)).setCell ⟨w.heap.size+1,2,none⟩ (.string u.s)).setCell ⟨w.heap.size+1,3,none⟩ (.slice A2 u.l.length c2))=w3 at *
    clear k_t2 l_t2 f_t2 k_t l_t f_t
    have k_t:=BT3.out.cell
    have l_t:=BT3.out.lt
    have f_t:=BT3.out.free
    go_wp2_with fail
    obtain ⟨hle,hl16⟩:=cB (HOK.out.fixed u (uZ HL.out))
    obtain ⟨Az,cz,hez,_,_,_,_,_,hrz⟩:=RTm.cells HO3.out.rtm
    simp only [List.cons.injEq,Value.slice.injEq,and_true,true_and] at hez
    obtain ⟨rfl,rfl⟩:=hez
    refine (bM (iU.rl hrz) (yY _) (by omega)).mono ?_
    rintro e w4 ⟨⟨v,rfl,hv⟩,hb4⟩
    obtain ⟨A4,c4,rfl⟩:=hv.form
    have HO4:Hid (TmOwn D w3.heap.size w4 u A4 c4):=yW ⟨hv.leaves hle,HO3.out.k,HO3.out.n,HO3.out.s,by omega⟩
    have b_t4:=BT3.out.later hb4
    have HB4:=yW (ab HB3.out hb4)
    clear k_t l_t f_t hv hb4 hrz
    have k_t:=b_t4.cell
    have l_t:=b_t4.lt
    have f_t:=b_t4.free
    go_wp2_with fail
    have hlt3:=BT3.out.lt
    have HB5:Hid (Below w.heap.size w (w4.setCell ⟨w.heap.size+1,3,none⟩ (.slice A4 u.l.length c4))):=yW (HB4.out.setCell (p:=⟨w.heap.size+1,3,none⟩) (by show w.heap.size≤w.heap.size+1;omega) _)
    have HO5:=yW (HO4.out.far (g:=w.heap.size+1) (i:=3) (by omega) (.slice A4 u.l.length c4))
    have HS5:=yW (HS.out.later HB5.out)
    generalize (w4.setCell ⟨w.heap.size+1,3,none⟩ (.slice A4 u.l.length c4))=w5 at *
    have hsz5:=HB5.out.size
    refine (gc (x:=⟨u,A4,c4⟩) HS5.out HO5.out.at_ (jR HS.out (fun a ha=>(HO5.out.blk a ha).1) (by omega)) (fun a ha=>⟨by have:=(HO5.out.blk a ha).1;omega,(HO5.out.blk a ha).2⟩) (by omega) (by omega)).mono ?_
    rintro e w6 ⟨rfl,hb6,hps⟩
    have HS6:=yW (And.intro hb6 hps)
    clear hb6 hps k_t l_t f_t b_t4
    go_wp2_with fail
    go_ret
    rw [HV.out]
    exact ⟨rfl,(BelX.of (HB5.out.mono hb)).trans HS6.out.1,fun he=>HS6.out.2.ev rfl rfl⟩
 ·have q1:(o.term.kind==1)=false:=by simpa using h1
  have HV:Hid (tg b o.term (xs.map SV.t)=(0,xs.map SV.t++[o.term])):=yW (by unfold tg;rw [if_neg h1])
  clear h1
  go_wp2_with fail
  generalize hW:World.alloc _ _=w1
  obtain ⟨hb1,hz⟩:=al2 hW
  have b_t:=n22 hW
  have HR1:=yW (HR.out.1.keep hb1 hB)
  have HB1:=yW hb1
  clear hW
  refine (bM HR1.out (yX hB hb1.size) (by omega)).mono ?_
  rintro e w2 ⟨⟨v,rfl,hv⟩,hb2⟩
  obtain ⟨A2,c2,rfl⟩:=hv.form
  have HO:Hid (TmOwn D w1.heap.size w2 o.term A2 c2):=yW ⟨hv.leaves HR.out.2.1,HR.out.2.2.1,HR.out.2.2.2.1,HR.out.2.2.2.2,by omega⟩
  have b_t2:=b_t.later hb2
  have HB2:=yW (ab HB1.out hb2)
  have k_t:=b_t2.cell
  have l_t:=b_t2.lt
  have f_t:=b_t2.free
  clear hv hb2 b_t
  go_wp2_with fail
  have HB3:Hid (Below w.heap.size w (w2.setCell ⟨w.heap.size+1,3,none⟩ (.slice A2 o.term.l.length c2))):=yW (HB2.out.setCell (p:=⟨w.heap.size+1,3,none⟩) (by show w.heap.size≤w.heap.size+1;omega) _)
  have HO3:=yW (HO.out.far (g:=w.heap.size+1) (i:=3) (by omega) (.slice A2 o.term.l.length c2))
  have HS3:=yW (HS.out.later HB3.out)
  generalize (w2.setCell ⟨w.heap.size+1,3,none⟩ (.slice A2 o.term.l.length c2))=w3 at *
  have hsz3:=HB3.out.size
  refine (gc (x:=⟨o.term,A2,c2⟩) HS3.out HO3.out.at_ (jR HS.out (fun a ha=>(HO3.out.blk a ha).1) (by omega)) (fun a ha=>⟨by have:=(HO3.out.blk a ha).1;omega,(HO3.out.blk a ha).2⟩) (by omega) (by omega)).mono ?_
  rintro e w4 ⟨rfl,hb4,hps⟩
  have HS4:=yW (And.intro hb4 hps)
  clear hb4 hps k_t l_t f_t b_t2
  go_wp2_with fail
  go_ret
  rw [HV.out]
  exact ⟨rfl,(BelX.of (HB3.out.mono hb)).trans HS4.out.1,fun he=>HS4.out.2.ev rfl rfl⟩
end Go.Proofs.YtdphibjibnffeaaGreat
