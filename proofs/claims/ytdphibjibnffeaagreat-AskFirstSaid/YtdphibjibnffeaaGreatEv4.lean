/- expr.stack's value. -/
import Derived.Test.YtdphibjibnffeaaGreatBin
import Derived.Test.YtdphibjibnffeaaGreatOp3
import Derived.Deep.RegionWith
import Derived.Deep.Cut
import Derived.Test.YtdphibjibnffeaaGreatFound
import Derived.Test.YtdphibjibnffeaaGreatOp5
set_option linter.unusedVariables false
set_option linter.unusedSimpArgs false
set_option maxRecDepth 100000
set_option maxHeartbeats 8000000
namespace Go.Proofs.YtdphibjibnffeaaGreat
open Go.ChangeShapes Go.WideShapes Go.ChangeAt Go.RowKit
theorem tY (b:BitVec 64):I64 b.toInt:=by
 have h1:=BitVec.toInt_lt (x:=b)
 have h2:=BitVec.le_toInt (x:=b)
 unfold I64
 omega
theorem wE (v:BitVec 64):IntKind.i64.wrap (v.toNat:Int)=v.toInt:=by
 rw [IntKind.wrap_i64,BitVec.toInt_eq_toNat_cond]
 have:=v.isLt
 split<;>omega
theorem i64_and (a b:Int):I64 (bits .and .i64 a b):=by
 have h:bits .and .i64 a b=(BitVec.ofInt 64 a &&& BitVec.ofInt 64 b).toInt:=wE _
 rw [h];exact tY _
theorem i64_or (a b:Int):I64 (bits .or .i64 a b):=by
 have h:bits .or .i64 a b=(BitVec.ofInt 64 a ||| BitVec.ofInt 64 b).toInt:=wE _
 rw [h];exact tY _
theorem i64_xor (a b:Int):I64 (bits .xor .i64 a b):=by
 have h:bits .xor .i64 a b=(BitVec.ofInt 64 a ^^^ BitVec.ofInt 64 b).toInt:=wE _
 rw [h];exact tY _
theorem i64_bit (b:Bool):I64 (bit b):=by unfold bit I64;split<;>omega
theorem kT {n:Int} (h:-1000000000000000≤n) (h':n≤1000000000000000):I64 n:=by unfold I64;omega
theorem eS {d:Nat} {w w':World} {k n e:Int} {s:ByteArray} {z:Ending} (h:z=bJ k n s e∧Below w.heap.size w w') (hk:I64 k) (hn:I64 n) (hs:s.size≤140737488351232):iZ d w w' (⟨k,n,s,[]⟩,e) z:=⟨⟨none,0,h.1,TmOwn.flat hk hn hs⟩,h.2⟩
theorem bS {d:Nat} {w w':World} {e:Int} {z:Ending} (h:z=bJ 0 0 emp e∧Below w.heap.size w w'):iZ d w w' (noT,e) z:=eS h (by simp [I64]) (by simp [I64]) (by decide)
theorem dg {d:Nat} {w w':World} {b:Bool} {z:Ending} (h:z=bJ 6 (bit b) emp 0∧Below w.heap.size w w'):iZ d w w' (pJ b,0) z:=eS h (by simp [I64]) (i64_bit b) (by decide)
theorem eT {d:Nat} {w w':World} {n:Int} {z:Ending} (h:z=bJ 2 n emp 0∧Below w.heap.size w w') (hn:I64 n):iZ d w w' (zf n,0) z:=eS h (by simp [I64]) hn (by decide)
theorem yO (code a b:Int):(my code a b=(2,tA code a b,0)∧I64 (tA code a b))∨∃e,my code a b=(0,0,e)∧(e=5∨e=6):=by
 unfold my nz
 by_cases h:code=10∧b=0
 ·exact .inr ⟨6,by rw [if_pos h];simp,.inr rfl⟩
 ·rw [if_neg h]
  rcases Bool.eq_false_or_eq_true (dw (tA code a b)) with hf | hf
  ·exact .inl ⟨by rw [hf];simp,(cd _).1 hf⟩
  ·exact .inr ⟨5,by rw [hf];simp,.inl rfl⟩
theorem pi {d:Nat} {w w':World} {code a b k n e:Int} {z:Ending} (hr:my code a b=(k,n,e)) (h:z=bJ k n emp e∧Below w.heap.size w w'):iZ d w w' (recT (my code a b)) z:=by
 rw [hr]
 refine eS h ?_ ?_ (by decide)
 ·rcases yO code a b with ⟨h1,_⟩ | ⟨e2,h1,_⟩<;>(rw [hr] at h1;simp only [Prod.mk.injEq] at h1;rw [h1.1];simp [I64])
 ·rcases yO code a b with ⟨h1,h2⟩ | ⟨e2,h1,_⟩<;>(rw [hr] at h1;simp only [Prod.mk.injEq] at h1;rw [h1.2.1])
  ·exact h2
  ·simp [I64]
theorem iG {code ka kb:Int} (h:aD code ka kb=true) (hc:code=8∨code=9∨code=10∨code=17∨code=18∨code=19):ka=2∧kb=2:=by
 have h2:aD code ka kb=dG [2] ka kb:=by rcases hc with rfl | rfl | rfl | rfl | rfl | rfl<;>simp [aD]
 rw [h2] at h
 simpa [dG] using h
theorem ou {ka kb:Int} (h:aD 7 ka kb=true):ka=2∧kb=2∨ka=3∧kb=3:=by
 have h2:aD 7 ka kb=dG [2,3] ka kb:=by simp [aD]
 rw [h2] at h
 simpa [dG] using h
theorem ve {ka kb:Int} (h:aD 11 ka kb=true):ka=7∨ka=3∧kb=3:=by
 have h2:aD 11 ka kb=((decide (ka=7)&&decide (2≤kb)&&decide (kb≤7))||dG [3] ka kb):=by simp [aD]
 rw [h2] at h
 simp [dG] at h
 omega
theorem vg {ka kb:Int} (h:aD 14 ka kb=true):ka=3∧kb=3:=by
 have h2:aD 14 ka kb=dG [3] ka kb:=by simp [aD]
 rw [h2] at h
 simpa [dG] using h
theorem ov {code ka kb:Int} (h:aD code ka kb=true) (hc:code=15∨code=16):ka=7∧kb=7:=by
 have h2:aD code ka kb=dG [7] ka kb:=by rcases hc with rfl | rfl<;>simp [aD]
 rw [h2] at h
 simpa [dG] using h
theorem gB {x:Int} {s:ByteArray} {l:List Tm} (h:ae ⟨3,x,s,l⟩=true):s.size≤256:=by
 unfold ae fz dP at h
 simp at h
 omega
theorem rP {code:Int} {a b:Tm} {d B:Nat} {vs ws:List Value} {w:World} {m:Int} (ha:RTm w B (d+1) a vs) (hb:RTm w B (d+1) b ws) (hB:B≤w.heap.size) (hm:w.cell? ⟨0,0,none⟩=some (.int .i64 m)) (h0:0<w.heap.size) :
 Calls Tryz.prog 247 #[.int .i64 code,.agg vs.toArray,.agg ws.toArray] w fun z w'=>iZ d w w' (yB code a b) z:=by
 obtain ⟨ka,x,s,l⟩:=a
 obtain ⟨kb,y,s',l'⟩:=b
 have hsz':s'.size≤140737488351232:=by obtain ⟨_,_,_,_,_,h,_⟩:=hb.cells;exact h
 unfold yB
 rcases Bool.eq_false_or_eq_true (ae ⟨ka,x,s,l⟩) with fa | fa
 ·rcases Bool.eq_false_or_eq_true (ae ⟨kb,y,s',l'⟩) with fb | fb
  ·by_cases hlo:code<1
   ·rw [if_pos (.inr (.inr (.inl hlo)))]
    exact (bin_lo ha hb hB fa fb hlo).mono fun _ _ h=>bS h
   ·by_cases hhi:19<code
    ·rw [if_pos (.inr (.inr (.inr hhi)))]
     exact (bin_hi ha hb hB fa fb hhi).mono fun _ _ h=>bS h
    ·rw [if_neg (by rw [fa,fb];simp;omega)]
     rcases Bool.eq_false_or_eq_true (aD code ka kb) with hk | hk
     ·rw [if_neg (by show ¬aD code ka kb=false;rw [hk];simp)]
      by_cases h7:code=7∧ka=3
      ·rw [if_pos h7]
       obtain ⟨rfl,rfl⟩:=h7
       obtain ⟨_,rfl⟩:(3:Int)=3∧kb=3:=by rcases ou hk with h | h<;>omega
       have:=gB fa
       have:=gB fb
       by_cases hl:s.size+s'.size≤256
       ·rw [if_pos hl]
        exact (bin_add ha hb hB fa fb hl).mono fun _ _ h=>eS h (by simp [I64]) (by simp [I64]) (by show (s++s').size≤_;rw [ByteArray.size_append];omega)
       ·rw [if_neg hl]
        exact (wW ha hb hB fa fb hl).mono fun _ _ h=>bS h
      ·rw [if_neg h7]
       by_cases hr:code=7∨code=8∨code=9∨code=10
       ·rw [if_pos hr]
        obtain ⟨rfl,rfl⟩:ka=2∧kb=2:=by
         rcases hr with rfl | hr
         ·rcases ou hk with h | h
          ·exact h
          ·exact absurd ⟨rfl,h.1⟩ h7
         ·exact iG hk (by omega)
        exact (rN (k:=(my code x y).1) (n:=(my code x y).2.1) (e:=(my code x y).2.2) ha hb hB fa fb hr rfl).mono fun _ _ h=>pi rfl h
       ·rw [if_neg hr]
        by_cases h11:code=11
        ·rw [if_pos h11]
         subst h11
         rcases ve hk with rfl | ⟨rfl,rfl⟩
         ·exact (pF ha hb hB fa fb hk).mono fun _ _ h=>dg h
         ·exact (nG ha hb hB fa fb hm h0 (gB fa)).mono fun _ _ h=>dg h
        ·rw [if_neg h11]
         by_cases h12:code=12
         ·rw [if_pos h12]
          subst h12
          exact (rO ha hb hB fa fb hk).mono fun _ _ h=>dg h
         ·rw [if_neg h12]
          by_cases h13:code=13
          ·rw [if_pos h13]
           subst h13
           exact (wU ha hb hB fa fb hk).mono fun _ _ h=>dg h
          ·rw [if_neg h13]
           by_cases h14:code=14
           ·rw [if_pos h14]
            subst h14
            obtain ⟨rfl,rfl⟩:=vg hk
            show Calls _ _ _ _ fun z w'=>iZ d w w' (vv s' s) z
            unfold vv
            by_cases hz:(fM s' s false).2=0
            ·rw [if_neg (by simp [hz])]
             exact (tU ha hb hB fa fb hz).mono fun _ _ h=>dg h
            ·rw [if_pos hz]
             exact (pG ha hb hB fa fb hz).mono fun _ _ h=>bS h
           ·rw [if_neg h14]
            by_cases h15:code=15
            ·rw [if_pos h15]
             subst h15
             obtain ⟨rfl,rfl⟩:=ov hk (.inl rfl)
             exact wX ha hb hB fa fb
            ·rw [if_neg h15]
             by_cases h16:code=16
             ·rw [if_pos h16]
              subst h16
              obtain ⟨rfl,rfl⟩:=ov hk (.inr rfl)
              exact wV ha hb hB fa fb
             ·rw [if_neg h16]
              by_cases h17:code=17
              ·rw [if_pos h17]
               subst h17
               obtain ⟨rfl,rfl⟩:=iG hk (by omega)
               exact (bin_and ha hb hB fa fb).mono fun _ _ h=>eT h (i64_and _ _)
              ·rw [if_neg h17]
               by_cases h18:code=18
               ·rw [if_pos h18]
                subst h18
                obtain ⟨rfl,rfl⟩:=iG hk (by omega)
                exact (bin_or ha hb hB fa fb).mono fun _ _ h=>eT h (i64_or _ _)
               ·rw [if_neg h18]
                by_cases h19:code=19
                ·rw [if_pos h19]
                 subst h19
                 obtain ⟨rfl,rfl⟩:=iG hk (by omega)
                 exact (bin_xor ha hb hB fa fb).mono fun _ _ h=>eT h (i64_xor _ _)
                ·rw [if_neg h19]
                 exact (pE ha hb hB fa fb (by omega) hk).mono fun _ _ h=>dg h
     ·rw [if_pos hk]
      exact (wY ha hb hB fa fb (by omega) (by omega) hk).mono fun _ _ h=>bS h
  ·rw [if_pos (.inr (.inl fb))]
   exact (wT ha hb hB fa fb).mono fun _ _ h=>bS h
 ·rw [if_pos (.inl fa)]
  exact (wS ha hb hB fa).mono fun _ _ h=>bS h
theorem ww {code:Int} {a:Tm} {d B:Nat} {vs:List Value} {w:World} (ha:RTm w B (d+1) a vs) (hB:B≤w.heap.size) :
 Calls Tryz.prog 246 #[.int .i64 code,.agg vs.toArray] w fun z w'=>iZ d w w' (unR code a) z:=by
 obtain ⟨ka,x,s,l⟩:=a
 have hsz:s.size≤140737488351232:=by obtain ⟨_,_,_,_,_,h,_⟩:=ha.cells;exact h
 unfold unR
 rcases Bool.eq_false_or_eq_true (ae ⟨ka,x,s,l⟩) with fa | fa
 ·by_cases hlo:code<1
  ·rw [if_pos (.inr (.inl hlo))]
   exact (un_lo ha hB fa hlo).mono fun _ _ h=>bS h
  ·by_cases hhi:3<code
   ·rw [if_pos (.inr (.inr hhi))]
    exact (un_hi ha hB fa hhi).mono fun _ _ h=>bS h
   ·rw [if_neg (by rw [fa];simp;omega)]
    have hc:code=1∨code=2∨code=3:=by omega
    simp only
    rcases hc with rfl | rfl | rfl
    ·by_cases h6:ka=6
     ·subst h6
      rw [if_pos ⟨rfl,rfl⟩]
      exact (un_not ha hB fa).mono fun _ _ h=>dg h
     ·rw [if_neg (fun h=>h6 h.2),if_neg (by omega),if_neg (by omega),if_neg (by omega)]
      exact (yn ha hB fa h6).mono fun _ _ h=>bS h
    ·rw [if_neg (by omega)]
     by_cases h2:ka=2
     ·subst h2
      rw [if_pos ⟨rfl,rfl⟩]
      exact (un_neg (k:=(my 8 0 x).1) (n:=(my 8 0 x).2.1) (e:=(my 8 0 x).2.2) ha hB fa rfl).mono fun _ _ h=>pi rfl h
     ·rw [if_neg (fun h=>h2 h.2),if_neg (by omega),if_neg (by omega)]
      exact (yo ha hB fa h2).mono fun _ _ h=>bS h
    ·rw [if_neg (by omega),if_neg (by omega)]
     by_cases h3:ka=3
     ·subst h3
      rw [if_pos ⟨rfl,.inl rfl⟩]
      exact (wv ha hB fa).mono fun _ _ h=>eT h (kT (by omega) (by have:=gB fa;omega))
     ·by_cases h5:ka=5
      ·subst h5
       rw [if_pos ⟨rfl,.inr rfl⟩]
       exact (un_len5 ha hB fa).mono fun _ _ h=>eT h (kT (by omega) (by omega))
      ·rw [if_neg (by omega)]
       by_cases h7:ka=7
       ·subst h7
        rw [if_pos ⟨rfl,rfl⟩]
        exact (un_len7 ha hB fa).mono fun _ _ h=>eT h (kT (by omega) (by have:=(fN fa).1;omega))
       ·rw [if_neg (by omega)]
        exact (yp ha hB fa h3 h5 h7).mono fun _ _ h=>bS h
 ·rw [if_pos (.inl fa)]
  exact (un_bad ha hB fa).mono fun _ _ h=>bS h
def EvS (S base D:Nat) (bn bt:Value) (w:World) (ts:List Tm) (next:Int):Prop:=∃xs A c,xs.map SV.t=ts∧StkE S base D bn bt w xs next A c
def EvE (S base D:Nat) (bn bt:Value) (w w':World) (e:Int) (ts:List Tm) (next:Int) (z:Ending):Prop:=
 z=.returned (.int .i64 e)∧BelX base S w w'∧(e=0→EvS S base D bn bt w' ts next)
theorem EvS.later {S base D:Nat} {bn bt:Value} {w w':World} {ts:List Tm} {next:Int} (h:EvS S base D bn bt w ts next) (hb:Below w.heap.size w w'):EvS S base D bn bt w' ts next:=by
 obtain ⟨xs,A,c,h1,h2⟩:=h
 exact ⟨xs,A,c,h1,h2.later hb⟩
theorem yU.ev {S base D:Nat} {bn bt:Value} {w:World} {xs:List SV} {x:SV} {next e:Int} {ts:List Tm} (h:yU S base D bn bt w xs x next e) (ht:xs.map SV.t=ts) (he:e=0):EvS S base D bn bt w (ts++[x.t]) next:=by
 rcases h with ⟨_,A,c,h⟩ | ⟨h,_⟩
 ·exact ⟨xs++[x],A,c,by rw [List.map_append,ht];rfl,h⟩
 ·exact absurd he h
theorem jT {S base D c:Nat} {bn bt:Value} {w:World} {xs:List SV} {next:Int} {A:Option Addr} (h:StkE S base D bn bt w xs next A c) {x:SV} {n:Nat} (hx:∀a,x.a=some a→n≤a.block) (hn:w.heap.size≤n):mG S A x:=by
 intro a ha
 have h1:=hx a ha
 have h2:=h.hd.blk.lt
 refine ⟨by omega,fun b hb=>?_⟩
 subst hb
 obtain ⟨cells,how,_⟩:=h.own
 have:=(how.lt b.block rfl).2
 omega
theorem sa {S base D B d c:Nat} {bn bt:Value} {w:World} {xs:List SV} {x:SV} {next:Int} {A:Option Addr} {o:OpD} {ovs:List Value} (h:StkE S base D bn bt w (xs++[x]) next A c) (ho:(OpR d).rd w B o ovs) (hb:base≤w.heap.size) (hn:xs.length≤100000) :
 Calls Tryz.prog 200 #[.pointer (some ⟨S,0,none⟩),.agg ovs.toArray] w fun e w'=>EvE S base D bn bt w w' (unR o.code x.t).2 (xs.map SV.t++[(unR o.code x.t).1]) next e:=by
 obtain ⟨ts,rfl,_,_,_,ht⟩:=ho
 obtain ⟨At,ct,rfl,_⟩:=RTm.cells ht
 have hSlt:=h.hd.blk.lt
 have HS:=zl h
 clear h ht
 go_enter Tryz.func200,Tryz.ntmps200
 go_wp2_with fail
 generalize hW:World.alloc _ _=w1
 obtain ⟨hb1,hz⟩:=al1 hW
 have b_o:=n11 hW
 have HS1:=zl (HS.out.later (hb1.drew))
 have HB1:=zl hb1
 have BO:=zl b_o
 have k_o:=b_o.cell
 clear hW hb1 b_o
 go_region_with (first
  | (go_at_call 203
     refine (li HS1.out hn).mono ?_
     rintro e w2 ⟨rfl,he,hs,htm,hap,hlt⟩
     have k_o2:=(he.blk (by omega) BO.out.drew).cell
     have HS2:=zl (And.intro hs (And.intro htm he))
     clear he hs htm hap hlt)
  | (go_at_call 246
     refine (ww (code:=o.code) (a:=x.t) (d:=D) (vs:=[_,_,_,_]) HS2.out.2.1.1 (zn _)).mono ?_
     rintro e w3 ⟨⟨A3,c3,rfl,hown⟩,hb3⟩
     have HS3:=zl (And.intro (HS2.out.1.later hb3) (And.intro hown hb3))
     clear hown hb3)
  | (go_at_call 245
     have hsz1:=HS2.out.2.2.1.size
     have hsz2:=HS3.out.2.2.size
     have hszd:w1.drew.heap.size=w1.heap.size:=rfl
     refine (gc (x:=⟨(unR o.code x.t).1,A3,c3⟩) HS3.out.1 HS3.out.2.1.at_ (jT HS2.out.1 (fun a ha=>(HS3.out.2.1.blk a ha).1) (zn _)) (fun a ha=>⟨by have:=(HS3.out.2.1.blk a ha).1;omega,(HS3.out.2.1.blk a ha).2⟩) (by omega) hn).mono ?_
     rintro e w4 ⟨rfl,hb4,hps⟩
     have HS4:=zl (And.intro hb4 hps)
     clear hb4 hps))
 all_goals
  go_wp2_with fail
  go_ret
  refine ⟨rfl,?_,fun he=>HS4.out.2.ev rfl he⟩
  exact (((BelX.of (HB1.out.mono hb).drew).trans (.exc HS2.out.2.2 (zm hb HB1.out.size))).trans (.of (HS3.out.2.2.mono (by omega)))).trans HS4.out.1
theorem dh.exc {D S:Nat} {w w':World} {x:SV} {A:Option Addr} (h:dh D w x) (he:Exc S w w') (ha:mG S A x) (hlt:∀a,x.a=some a→a.block<w.heap.size):dh D w' x:=
 h.keep (he.1.mono (zo _)) fun a e=>he.2 a.block (hlt a e) (ha a e).1
theorem pV {S base D B d c:Nat} {bn bt:Value} {w:World} {xs:List SV} {xa xb:SV} {next:Int} {A:Option Addr} {o:OpD} {ovs:List Value} {m:Int} (h:StkE S base D bn bt w (xs++[xa]++[xb]) next A c) (ho:(OpR d).rd w B o ovs) (hb:base≤w.heap.size) (hS0:0<S) (hn:xs.length≤90000) (hm:w.cell? ⟨0,0,none⟩=some (.int .i64 m)) (h0:0<base) :
 Calls Tryz.prog 201 #[.pointer (some ⟨S,0,none⟩),.agg ovs.toArray] w fun e w'=>EvE S base D bn bt w w' (yB o.code xa.t xb.t).2 (xs.map SV.t++[(yB o.code xa.t xb.t).1]) next e:=by
 obtain ⟨ts,rfl,_,_,_,ht⟩:=ho
 obtain ⟨At,ct,rfl,_⟩:=RTm.cells ht
 have hSlt:=h.hd.blk.lt
 have HS:=zl h
 have HM:=zl hm
 clear h ht hm
 go_enter Tryz.func201,Tryz.ntmps201
 go_wp2_with fail
 generalize hW:World.alloc _ _=w1
 obtain ⟨hb1,hz⟩:=al1 hW
 have BO:=zl (n11 hW)
 have HS1:=zl (HS.out.later hb1)
 have HB1:=zl hb1
 clear hW hb1
 refine (li HS1.out (by simp;omega)).mono ?_
 rintro e w2 ⟨rfl,he,hs,htm,hap,hlt⟩
 have BO2:=zl (he.blk (by omega) BO.out)
 have HS2:=zl hs
 have HX2:=zl (And.intro htm (And.intro hap (And.intro hlt he)))
 have hsz2:=he.1.size
 clear he hs htm hap hlt
 unfold SV.cs
 go_wp2_with fail
 generalize hW:World.alloc _ _=w3
 obtain ⟨hb3,hz3⟩:=al1 hW
 have BB:=zl (n11 hW)
 have BO3:=zl (BO2.out.later hb3)
 have HS3:=zl (HS2.out.later hb3.drew)
 have HB3:=zl hb3
 have HX3:=zl (HX2.out.1.later hb3.drew)
 have k_o:=BO3.out.cell
 have k_b:=BB.out.cell
 clear hW hb3
 go_region_with (first
  | (go_at_call 203
     refine (li HS3.out (by omega)).mono ?_
     rintro e w4 ⟨rfl,he,hs,htm,hap,hlt⟩
     have k_o2:=(he.blk (by omega) BO3.out.drew).cell
     have k_b2:=(he.blk (by omega) BB.out.drew).cell
     have hxb:=HX3.out.exc he HX2.out.2.1 (fun a ha=>zq (HX2.out.2.2.1 a ha).2 (by show w1.heap.size≤w3.heap.size;omega))
     have HS4:=zl (And.intro hs (And.intro htm (And.intro hxb he)))
     clear he hs htm hap hlt hxb)
  | (go_at_call 247
     have hb4:BelX base S w w4:=((((BelX.of (HB1.out.mono hb)).trans (.exc HX2.out.2.2.2 (by omega))).trans (.of (HB3.out.mono (by omega)))).drew).trans (.exc HS4.out.2.2.2 (show base≤w3.heap.size by omega))
     have hsz4:=hb4.size
     refine (rP (code:=o.code) (a:=xa.t) (b:=xb.t) (d:=D) (vs:=[_,_,_,_]) (ws:=[_,_,_,_]) HS4.out.2.1.1 HS4.out.2.2.1.1 (zn _) ((((hb4.mono (show 1≤base from h0)).low hS0).cell (p:=⟨0,0,none⟩) (Nat.lt_succ_self 0)).trans HM.out) (by omega)).mono ?_
     rintro e w5 ⟨⟨A3,c3,rfl,hown⟩,hb5⟩
     have HS5:=zl (And.intro (HS4.out.1.later hb5) (And.intro hown (And.intro hb5 hb4)))
     clear hown hb5 hb4)
  | (go_at_call 245
     have hsz5:=HS5.out.2.2.1.size
     have hsz4b:=HS5.out.2.2.2.size
     refine (gc (x:=⟨(yB o.code xa.t xb.t).1,A3,c3⟩) HS5.out.1 HS5.out.2.1.at_ (jT HS4.out.1 (fun a ha=>(HS5.out.2.1.blk a ha).1) (zn _)) (fun a ha=>⟨by have:=(HS5.out.2.1.blk a ha).1;omega,(HS5.out.2.1.blk a ha).2⟩) (by omega) (by omega)).mono ?_
     rintro e w6 ⟨rfl,hb6,hps⟩
     have HS6:=zl (And.intro hb6 hps)
     clear hb6 hps))
 all_goals
  go_wp2_with fail
  go_ret
  refine ⟨rfl,?_,fun he=>HS6.out.2.ev rfl he⟩
  exact (HS5.out.2.2.2.trans (.of (HS5.out.2.2.1.mono (zm hb HS5.out.2.2.2.size)))).trans HS6.out.1
def wH (o:OpD) (t:Tm) (ts:List Tm) (next:Int):Int × List Tm × Int:=
 if t.kind≠6 then (7,ts,next)
 else if (decide (t.n=1)==decide (o.kind=5))=true then (0,ts++[t],wrap64 (next+o.skip))
 else (0,ts,next)
theorem nV {S base D B d c:Nat} {bn bt:Value} {w:World} {xs:List SV} {x:SV} {next:Int} {A:Option Addr} {o:OpD} {ovs:List Value} (h:StkE S base D bn bt w (xs++[x]) next A c) (ho:(OpR d).rd w B o ovs) (hb:base≤w.heap.size) (hn:xs.length≤90000) :
 Calls Tryz.prog 202 #[.pointer (some ⟨S,0,none⟩),.agg ovs.toArray] w fun e w'=>EvE S base D bn bt w w' (wH o x.t (xs.map SV.t) next).1 (wH o x.t (xs.map SV.t) next).2.1 (wH o x.t (xs.map SV.t) next).2.2 e:=by
 obtain ⟨ts,rfl,_,_,_,ht⟩:=ho
 obtain ⟨At,ct,rfl,_⟩:=RTm.cells ht
 have hSlt:=h.hd.blk.lt
 have HS:=zl h
 clear h ht
 go_enter Tryz.func202,Tryz.ntmps202
 go_wp2_with fail
 generalize hW:World.alloc _ _=w1
 obtain ⟨hb1,hz⟩:=al1 hW
 have BO:=zl (n11 hW)
 have HS1:=zl (HS.out.later hb1)
 have HB1:=zl hb1
 clear hW hb1
 refine (li HS1.out (by omega)).mono ?_
 rintro e w2 ⟨rfl,he,hs,htm,hap,hlt⟩
 have BO2:=zl (he.blk (by omega) BO.out)
 have HS2:=zl hs
 have HX2:=zl (And.intro htm (And.intro hap (And.intro hlt he)))
 have hsz2:=he.1.size
 clear he hs htm hap hlt
 unfold SV.cs
 go_upto_region 2 with fail
 generalize hW:World.alloc _ _=w3
 obtain ⟨hb3,hz3⟩:=al1 hW
 have BB:=zl (n11 hW)
 have BO3:=zl (BO2.out.later hb3)
 have HS3:=zl (HS2.out.later hb3)
 have HX3:=zl (HX2.out.1.later hb3)
 have HBw:Hid (BelX base S w w3):=zl (((BelX.of (HB1.out.mono hb)).trans (.exc HX2.out.2.2.2 (by omega))).trans (.of (hb3.mono (by omega))))
 have HLT:Hid (∀a,x.a=some a→base≤a.block∧a.block<w3.heap.size):=zl fun a ha=>by have:=HX2.out.2.2.1 a ha;omega
 have k_b:=BB.out.cell
 have k_o:=BO3.out.cell
 clear hW hb3
 by_cases h6:x.t.kind=6
 ·have q6:(x.t.kind !=6)=false:=by rw [h6];rfl
  by_cases hq:(decide (x.t.n=1)==decide (o.kind=5))=true
  ·have HR:Hid (wH o x.t (xs.map SV.t) next=(0,xs.map SV.t++[x.t],wrap64 (next+o.skip))):=zl (by unfold wH;rw [if_neg (by simp [h6]),if_pos hq])
   have hq2:((x.t.n==1)==(o.kind==5))=true:=hq
   clear hq h6
   have k_s:=HS3.out.hd.blk.cell
   have f_s:=HS3.out.hd.blk.free
   have hS3:S<w3.heap.size:=by omega
   go_wp2_with fail
   go_region
   have HB4:Hid (BelX base S w (w3.setCell ⟨S,3,none⟩ (.int .i64 (wrap64 (next+o.skip)))).drew):=zl (HBw.out.setS 3 _).drew
   have HS4:Hid (StkE S base D bn bt (w3.setCell ⟨S,3,none⟩ (.int .i64 (wrap64 (next+o.skip)))).drew xs (wrap64 (next+o.skip)) A c):=zl ((HS3.out.head _).later (zp _ _).drew)
   have HE4:Hid (Exc S w3 (w3.setCell ⟨S,3,none⟩ (.int .i64 (wrap64 (next+o.skip)))).drew):=zl ((Exc.refl S w3).set 3 _).drew
   have BB4:=zl (HE4.out.blk (by omega) BB.out)
   generalize (w3.setCell ⟨S,3,none⟩ (.int .i64 (wrap64 (next+o.skip)))).drew=w4 at *
   clear k_b k_o k_s f_s
   have k_b:=BB4.out.cell
   have hsz4:=HE4.out.1.size
   go_wp2_with fail
   refine (gc (x:=x) HS4.out (HX3.out.exc HE4.out HX2.out.2.1 fun a ha=>(HLT.out a ha).2) HX2.out.2.1 (fun a ha=>⟨(HLT.out a ha).1,zq (HLT.out a ha).2 hsz4⟩) (by omega) (by omega)).mono ?_
   rintro e w5 ⟨rfl,hb5,hps⟩
   have HS5:=zl (And.intro hb5 hps)
   clear hb5 hps
   go_wp2_with fail
   go_ret
   rw [HR.out]
   exact ⟨rfl,HB4.out.trans HS5.out.1,fun he=>HS5.out.2.ev rfl rfl⟩
  ·have HR:Hid (wH o x.t (xs.map SV.t) next=(0,xs.map SV.t,next)):=zl (by unfold wH;rw [if_neg (by simp [h6]),if_neg hq])
   have hq2:((x.t.n==1)==(o.kind==5))=false:=by rw [Bool.eq_false_iff];exact hq
   clear hq h6
   go_wp2_with fail
   go_ret
   rw [HR.out]
   exact ⟨rfl,HBw.out,fun _=>⟨xs,A,c,rfl,HS3.out⟩⟩
 ·have q6:(x.t.kind !=6)=true:=by simpa using h6
  have HR:Hid (wH o x.t (xs.map SV.t) next=(7,xs.map SV.t,next)):=zl (by unfold wH;rw [if_pos h6])
  clear h6
  go_wp2_with fail
  go_ret
  rw [HR.out]
  exact ⟨rfl,HBw.out,fun h=>absurd (show (7:Int)=0 from h) (by decide)⟩
def tn (b:Bd) (t:Tm) (ts:List Tm):Int × List Tm:=
 if t.kind=1 then
  match eh b (bs t.s) with
  | none=>(8,ts)
  | some u=>(0,ts++[u])
 else (0,ts++[t])
theorem vo {b:Bd} {n:aT} {u:Tm} (h:eh b n=some u):u∈b.terms:=by
 unfold eh at h
 split at h
 ·exact List.mem_of_getElem? h
 ·cases h
theorem nC.no {d:Nat} {w w':World} {z:Ending} (h:nC d w w' none z):(∃A c,z=.returned (.tuple #[.agg #[.int .i64 0,.int .i64 0,.string ⟨#[]⟩,.slice A 0 c],.bool false]))∧Below w.heap.size w w':=by
 obtain ⟨⟨A,c,e,_⟩,hb⟩:=h
 exact ⟨⟨A,c,e⟩,hb⟩
theorem nC.yes {d:Nat} {w w':World} {u:Tm} {z:Ending} (h:nC d w w' (some u) z):(∃A c,z=.returned (.tuple #[.agg #[.int .i64 u.kind,.int .i64 u.n,.string u.s,.slice A u.l.length c],.bool true])∧TmOwn d w.heap.size w' u A c)∧Below w.heap.size w w':=h
theorem sg {S base D B c cn ct:Nat} {b:Bd} {An At:Option Addr} {w:World} {xs:List SV} {next:Int} {A:Option Addr} {o:OpD} {ovs:List Value} (hok:BdOk b) (hbn:RL cr w B (b.names.map mkS) An) (hbt:RL (TmR (D+1)) w B b.terms At)
 (h:StkE S base D (.slice An b.names.length cn) (.slice At b.terms.length ct) w xs next A c) (ho:(OpR (D+1)).rd w B o ovs) (hol:∀u∈o.term.l,lY u) (ho16:o.term.l.length≤16) (hB:B≤w.heap.size) (hb:base≤w.heap.size) (hn:xs.length≤90000) :
 Calls Tryz.prog 199 #[.pointer (some ⟨S,0,none⟩),.agg ovs.toArray] w fun e w'=>EvE S base D (.slice An b.names.length cn) (.slice At b.terms.length ct) w w' (tn b o.term (xs.map SV.t)).1 (tn b o.term (xs.map SV.t)).2 next e:=by
 obtain ⟨ts,rfl,_,_,_,ht⟩:=ho
 obtain ⟨Ao,co,rfl,_,_,hs,hk,hi,hr⟩:=RTm.cells ht
 have hSlt:=h.hd.blk.lt
 have HS:=zl h
 have HOK:=zl hok
 have HN:=zl hbn
 have HT:=zl hbt
 have HR:=zl (And.intro (iW.rl hr) (And.intro hol (And.intro hk (And.intro hi hs))))
 clear h ht hr hol hok hbn hbt
 go_enter Tryz.func199,Tryz.ntmps199
 by_cases h1:o.term.kind=1
 ·have q1:(o.term.kind==1)=true:=by rw [h1];rfl
  go_upto_region 4 with fail
  generalize hW:World.alloc _ _=w1
  obtain ⟨hb1,hz⟩:=al2 hW
  have b_t:=n22 hW
  have BT:=zl b_t
  have HB1:=zl hb1
  have HS1:=zl (HS.out.later hb1)
  have HN1:=zl (HN.out.keep hb1.drew hB)
  have HT1:=zl (HT.out.keep hb1.drew hB)
  have hB1:B≤w1.drew.heap.size:=zm hB hb1.size
  have k_t:=b_t.cell
  have l_t:=b_t.lt
  have f_t:=b_t.free
  have k_s:=HS1.out.hd.blk.cell
  have l_s:=HS1.out.hd.blk.lt
  clear hW hb1 b_t
  rcases hL:eh b (bs o.term.s) with _ | u
  ·have HV:Hid (tn b o.term (xs.map SV.t)=(8,xs.map SV.t)):=zl (by unfold tn;rw [if_pos h1,hL])
   have HL:=zl hL
   clear h1 hL
   go_region_with (first
    | (go_at_call 125
       refine (og (cn:=cn) (ct:=ct) (name:=o.term.s) HOK.out HN1.out HT1.out hB1).mono ?_
       rintro e w2 hE
       rw [HL.out] at hE
       obtain ⟨⟨A2,c2,rfl⟩,hb2⟩:=hE.no
       have b_t2:=BT.out.drew.later hb2
       have k_t2:=b_t2.cell
       have l_t2:=b_t2.lt
       have f_t2:=b_t2.free
       have HF:=zl (Below.trans HB1.out.drew (hb2.mono (show w.heap.size≤w1.drew.heap.size from HB1.out.size)))
       clear hE hb2 b_t2))
   all_goals
    go_wp2_with fail
    go_ret
    rw [HV.out]
    exact ⟨rfl,.of ((dA HF.out (Nat.le_succ _) _ _ _ _).mono hb),fun h=>absurd (show (8:Int)=0 from h) (by decide)⟩
  ·have HV:Hid (tn b o.term (xs.map SV.t)=(0,xs.map SV.t++[u])):=zl (by unfold tn;rw [if_pos h1,hL])
   have HL:=zl hL
   clear h1 hL
   go_region_with (first
    | (go_at_call 125
       refine (og (cn:=cn) (ct:=ct) (name:=o.term.s) HOK.out HN1.out HT1.out hB1).mono ?_
       rintro e w2 hE
       rw [HL.out] at hE
       obtain ⟨⟨A2,c2,rfl,hown⟩,hb2⟩:=hE.yes
       have b_t2:=BT.out.drew.later hb2
       have k_t2:=b_t2.cell
       have l_t2:=b_t2.lt
       have f_t2:=b_t2.free
       have HF:=zl (And.intro (Below.trans HB1.out.drew (hb2.mono (show w.heap.size≤w1.drew.heap.size from HB1.out.size))) (And.intro hown b_t2))
       clear hE hb2 b_t2 hown))
   all_goals
    have HB3:=zl (dA HF.out.1 (Nat.le_succ _) (.int .i64 u.kind) (.int .i64 u.n) (.string u.s) (.slice A2 u.l.length c2))
    have HO3:=zl (HF.out.2.1.put4 (g:=w.heap.size+1) (show w.heap.size+1<w1.heap.size by omega) (.int .i64 u.kind) (.int .i64 u.n) (.string u.s) (.slice A2 u.l.length c2))
    have BT3:=zl (dY HF.out.2.2 (.int .i64 u.kind) (.int .i64 u.n) (.string u.s) (.slice A2 u.l.length c2))
    generalize ((((w2.setCell ⟨w.heap.size+1,0,none⟩ (.int .i64 u.kind)).setCell ⟨w.heap.size+1,1,none⟩ (.int .i64 u.n)).setCell ⟨w.heap.size+1,2,none⟩ (.string u.s)).setCell ⟨w.heap.size+1,3,none⟩ (.slice A2 u.l.length c2))=w3 at *
    clear k_t2 l_t2 f_t2 k_t l_t f_t
    have k_t:=BT3.out.cell
    have l_t:=BT3.out.lt
    have f_t:=BT3.out.free
    go_wp2_with fail
    obtain ⟨hle,hl16⟩:=cC (HOK.out.fixed u (vo HL.out))
    obtain ⟨Az,cz,hez,_,_,_,_,_,hrz⟩:=RTm.cells HO3.out.rtm
    simp only [List.cons.injEq,Value.slice.injEq,and_true,true_and] at hez
    obtain ⟨rfl,rfl⟩:=hez
    refine (bL (iW.rl hrz) (zn _) (by omega)).mono ?_
    rintro e w4 ⟨⟨v,rfl,hv⟩,hb4⟩
    obtain ⟨A4,c4,rfl⟩:=hv.form
    have HO4:Hid (TmOwn D w3.heap.size w4 u A4 c4):=zl ⟨hv.leaves hle,HO3.out.k,HO3.out.n,HO3.out.s,by omega⟩
    have b_t4:=BT3.out.later hb4
    have HB4:=zl (ab HB3.out hb4)
    clear k_t l_t f_t hv hb4 hrz
    have k_t:=b_t4.cell
    have l_t:=b_t4.lt
    have f_t:=b_t4.free
    go_wp2_with fail
    have hlt3:=BT3.out.lt
    have HB5:Hid (Below w.heap.size w (w4.setCell ⟨w.heap.size+1,3,none⟩ (.slice A4 u.l.length c4))):=zl (HB4.out.setCell (p:=⟨w.heap.size+1,3,none⟩) (by show w.heap.size≤w.heap.size+1;omega) _)
    have HO5:=zl (HO4.out.far (g:=w.heap.size+1) (i:=3) (by omega) (.slice A4 u.l.length c4))
    have HS5:=zl (HS.out.later HB5.out)
    generalize (w4.setCell ⟨w.heap.size+1,3,none⟩ (.slice A4 u.l.length c4))=w5 at *
    have hsz5:=HB5.out.size
    refine (gc (x:=⟨u,A4,c4⟩) HS5.out HO5.out.at_ (jT HS.out (fun a ha=>(HO5.out.blk a ha).1) (by omega)) (fun a ha=>⟨by have:=(HO5.out.blk a ha).1;omega,(HO5.out.blk a ha).2⟩) (by omega) (by omega)).mono ?_
    rintro e w6 ⟨rfl,hb6,hps⟩
    have HS6:=zl (And.intro hb6 hps)
    clear hb6 hps k_t l_t f_t b_t4
    go_wp2_with fail
    go_ret
    rw [HV.out]
    exact ⟨rfl,(BelX.of (HB5.out.mono hb)).trans HS6.out.1,fun he=>HS6.out.2.ev rfl rfl⟩
 ·have q1:(o.term.kind==1)=false:=by simpa using h1
  have HV:Hid (tn b o.term (xs.map SV.t)=(0,xs.map SV.t++[o.term])):=zl (by unfold tn;rw [if_neg h1])
  clear h1
  go_wp2_with fail
  generalize hW:World.alloc _ _=w1
  obtain ⟨hb1,hz⟩:=al2 hW
  have b_t:=n22 hW
  have HR1:=zl (HR.out.1.keep hb1 hB)
  have HB1:=zl hb1
  clear hW
  refine (bL HR1.out (zm hB hb1.size) (by omega)).mono ?_
  rintro e w2 ⟨⟨v,rfl,hv⟩,hb2⟩
  obtain ⟨A2,c2,rfl⟩:=hv.form
  have HO:Hid (TmOwn D w1.heap.size w2 o.term A2 c2):=zl ⟨hv.leaves HR.out.2.1,HR.out.2.2.1,HR.out.2.2.2.1,HR.out.2.2.2.2,by omega⟩
  have b_t2:=b_t.later hb2
  have HB2:=zl (ab HB1.out hb2)
  have k_t:=b_t2.cell
  have l_t:=b_t2.lt
  have f_t:=b_t2.free
  clear hv hb2 b_t
  go_wp2_with fail
  have HB3:Hid (Below w.heap.size w (w2.setCell ⟨w.heap.size+1,3,none⟩ (.slice A2 o.term.l.length c2))):=zl (HB2.out.setCell (p:=⟨w.heap.size+1,3,none⟩) (by show w.heap.size≤w.heap.size+1;omega) _)
  have HO3:=zl (HO.out.far (g:=w.heap.size+1) (i:=3) (by omega) (.slice A2 o.term.l.length c2))
  have HS3:=zl (HS.out.later HB3.out)
  generalize (w2.setCell ⟨w.heap.size+1,3,none⟩ (.slice A2 o.term.l.length c2))=w3 at *
  have hsz3:=HB3.out.size
  refine (gc (x:=⟨o.term,A2,c2⟩) HS3.out HO3.out.at_ (jT HS.out (fun a ha=>(HO3.out.blk a ha).1) (by omega)) (fun a ha=>⟨by have:=(HO3.out.blk a ha).1;omega,(HO3.out.blk a ha).2⟩) (by omega) (by omega)).mono ?_
  rintro e w4 ⟨rfl,hb4,hps⟩
  have HS4:=zl (And.intro hb4 hps)
  clear hb4 hps k_t l_t f_t b_t2
  go_wp2_with fail
  go_ret
  rw [HV.out]
  exact ⟨rfl,(BelX.of (HB3.out.mono hb)).trans HS4.out.1,fun he=>HS4.out.2.ev rfl rfl⟩
end Go.Proofs.YtdphibjibnffeaaGreat
