/- expr: May, Names. -/
import Derived.Test.YtdphibjibnffeaaGreatBin
import Derived.Test.YtdphibjibnffeaaGreatOp3
import Derived.Deep.RegionWith
import Derived.Deep.Cut
import Derived.Test.YtdphibjibnffeaaGreatFound
import Derived.Test.YtdphibjibnffeaaGreatOp5
import Derived.Test.YtdphibjibnffeaaGreatExpr2
set_option linter.unusedVariables false
set_option linter.unusedSimpArgs false
set_option maxRecDepth 100000
set_option maxHeartbeats 8000000
namespace Go.Proofs.YtdphibjibnffeaaGreat
open Go.ChangeShapes Go.WideShapes Go.ChangeAt Go.RowKit
theorem uJ (b:BitVec 64):I64 b.toInt:=by
 have h1:=BitVec.toInt_lt (x:=b)
 have h2:=BitVec.le_toInt (x:=b)
 unfold I64
 omega
theorem xg (v:BitVec 64):IntKind.i64.wrap (v.toNat:Int)=v.toInt:=by
 rw [IntKind.wrap_i64,BitVec.toInt_eq_toNat_cond]
 have:=v.isLt
 split<;>omega
theorem i64_and (a b:Int):I64 (bits .and .i64 a b):=by
 have h:bits .and .i64 a b=(BitVec.ofInt 64 a &&& BitVec.ofInt 64 b).toInt:=xg _
 rw [h];exact uJ _
theorem i64_or (a b:Int):I64 (bits .or .i64 a b):=by
 have h:bits .or .i64 a b=(BitVec.ofInt 64 a ||| BitVec.ofInt 64 b).toInt:=xg _
 rw [h];exact uJ _
theorem i64_xor (a b:Int):I64 (bits .xor .i64 a b):=by
 have h:bits .xor .i64 a b=(BitVec.ofInt 64 a ^^^ BitVec.ofInt 64 b).toInt:=xg _
 rw [h];exact uJ _
theorem i64_bit (b:Bool):I64 (bit b):=by unfold bit I64;split<;>omega
theorem lq {n:Int} (h:-1000000000000000≤n) (h':n≤1000000000000000):I64 n:=by unfold I64;omega
theorem eV {d:Nat} {w w':World} {k n e:Int} {s:ByteArray} {z:Ending} (h:z=bO k n s e∧Below w.heap.size w w') (hk:I64 k) (hn:I64 n) (hs:s.size≤140737488351232):jk d w w' (⟨k,n,s,[]⟩,e) z:=⟨⟨none,0,h.1,TmOwn.flat hk hn hs⟩,h.2⟩
theorem bY {d:Nat} {w w':World} {e:Int} {z:Ending} (h:z=bO 0 0 emp e∧Below w.heap.size w w'):jk d w w' (noT,e) z:=eV h (by simp [I64]) (by simp [I64]) (by decide)
theorem dj {d:Nat} {w w':World} {b:Bool} {z:Ending} (h:z=bO 6 (bit b) emp 0∧Below w.heap.size w w'):jk d w w' (qu b,0) z:=eV h (by simp [I64]) (i64_bit b) (by decide)
theorem eW {d:Nat} {w w':World} {n:Int} {z:Ending} (h:z=bO 2 n emp 0∧Below w.heap.size w w') (hn:I64 n):jk d w w' (zA n,0) z:=eV h (by simp [I64]) hn (by decide)
theorem zi (code a b:Int):(mW code a b=(2,uj code a b,0)∧I64 (uj code a b))∨∃e,mW code a b=(0,0,e)∧(e=5∨e=6):=by
 unfold mW om
 by_cases h:code=10∧b=0
 ·exact .inr ⟨6,by rw [if_pos h];simp,.inr rfl⟩
 ·rw [if_neg h]
  rcases Bool.eq_false_or_eq_true (dB (uj code a b)) with hf | hf
  ·exact .inl ⟨by rw [hf];simp,(cj _).1 hf⟩
  ·exact .inr ⟨5,by rw [hf];simp,.inl rfl⟩
theorem pW {d:Nat} {w w':World} {code a b k n e:Int} {z:Ending} (hr:mW code a b=(k,n,e)) (h:z=bO k n emp e∧Below w.heap.size w w'):jk d w w' (recT (mW code a b)) z:=by
 rw [hr]
 refine eV h ?_ ?_ (by decide)
 ·rcases zi code a b with ⟨h1,_⟩ | ⟨e2,h1,_⟩<;>(rw [hr] at h1;simp only [Prod.mk.injEq] at h1;rw [h1.1];simp [I64])
 ·rcases zi code a b with ⟨h1,h2⟩ | ⟨e2,h1,_⟩<;>(rw [hr] at h1;simp only [Prod.mk.injEq] at h1;rw [h1.2.1])
  ·exact h2
  ·simp [I64]
theorem iL {code ka kb:Int} (h:aJ code ka kb=true) (hc:code=8∨code=9∨code=10∨code=17∨code=18∨code=19):ka=2∧kb=2:=by
 have h2:aJ code ka kb=dI [2] ka kb:=by rcases hc with rfl | rfl | rfl | rfl | rfl | rfl<;>simp [aJ]
 rw [h2] at h
 simpa [dI] using h
theorem pk {ka kb:Int} (h:aJ 7 ka kb=true):ka=2∧kb=2∨ka=3∧kb=3:=by
 have h2:aJ 7 ka kb=dI [2,3] ka kb:=by simp [aJ]
 rw [h2] at h
 simpa [dI] using h
theorem vG {ka kb:Int} (h:aJ 11 ka kb=true):ka=7∨ka=3∧kb=3:=by
 have h2:aJ 11 ka kb=((decide (ka=7)&&decide (2≤kb)&&decide (kb≤7))||dI [3] ka kb):=by simp [aJ]
 rw [h2] at h
 simp [dI] at h
 omega
theorem vH {ka kb:Int} (h:aJ 14 ka kb=true):ka=3∧kb=3:=by
 have h2:aJ 14 ka kb=dI [3] ka kb:=by simp [aJ]
 rw [h2] at h
 simpa [dI] using h
theorem pl {code ka kb:Int} (h:aJ code ka kb=true) (hc:code=15∨code=16):ka=7∧kb=7:=by
 have h2:aJ code ka kb=dI [7] ka kb:=by rcases hc with rfl | rfl<;>simp [aJ]
 rw [h2] at h
 simpa [dI] using h
theorem gM {x:Int} {s:ByteArray} {l:List Tm} (h:af ⟨3,x,s,l⟩=true):s.size≤256:=by
 unfold af lx fc at h
 simp at h
 omega
theorem sJ {code:Int} {a b:Tm} {d B:Nat} {vs ws:List Value} {w:World} {m:Int} (ha:RTm w B (d+1) a vs) (hb:RTm w B (d+1) b ws) (hB:B≤w.heap.size) (hm:w.cell? ⟨0,0,none⟩=some (.int .i64 m)) (h0:0<w.heap.size) :
 Calls Tryz.prog 247 #[.int .i64 code,.agg vs.toArray,.agg ws.toArray] w fun z w'=>jk d w w' (za code a b) z:=by
 obtain ⟨ka,x,s,l⟩:=a
 obtain ⟨kb,y,s',l'⟩:=b
 have hsz':s'.size≤140737488351232:=by obtain ⟨_,_,_,_,_,h,_⟩:=hb.cells;exact h
 unfold za
 rcases Bool.eq_false_or_eq_true (af ⟨ka,x,s,l⟩) with fa | fa
 ·rcases Bool.eq_false_or_eq_true (af ⟨kb,y,s',l'⟩) with fb | fb
  ·by_cases hlo:code<1
   ·rw [if_pos (.inr (.inr (.inl hlo)))]
    exact (bin_lo ha hb hB fa fb hlo).mono fun _ _ h=>bY h
   ·by_cases hhi:19<code
    ·rw [if_pos (.inr (.inr (.inr hhi)))]
     exact (bin_hi ha hb hB fa fb hhi).mono fun _ _ h=>bY h
    ·rw [if_neg (by rw [fa,fb];simp;omega)]
     rcases Bool.eq_false_or_eq_true (aJ code ka kb) with hk | hk
     ·rw [if_neg (by show ¬aJ code ka kb=false;rw [hk];simp)]
      by_cases h7:code=7∧ka=3
      ·rw [if_pos h7]
       obtain ⟨rfl,rfl⟩:=h7
       obtain ⟨_,rfl⟩:(3:Int)=3∧kb=3:=by rcases pk hk with h | h<;>omega
       have:=gM fa
       have:=gM fb
       by_cases hl:s.size+s'.size≤256
       ·rw [if_pos hl]
        exact (bin_add ha hb hB fa fb hl).mono fun _ _ h=>eV h (by simp [I64]) (by simp [I64]) (by show (s++s').size≤_;rw [ByteArray.size_append];omega)
       ·rw [if_neg hl]
        exact (xA ha hb hB fa fb hl).mono fun _ _ h=>bY h
      ·rw [if_neg h7]
       by_cases hr:code=7∨code=8∨code=9∨code=10
       ·rw [if_pos hr]
        obtain ⟨rfl,rfl⟩:ka=2∧kb=2:=by
         rcases hr with rfl | hr
         ·rcases pk hk with h | h
          ·exact h
          ·exact absurd ⟨rfl,h.1⟩ h7
         ·exact iL hk (by omega)
        exact (sH (k:=(mW code x y).1) (n:=(mW code x y).2.1) (e:=(mW code x y).2.2) ha hb hB fa fb hr rfl).mono fun _ _ h=>pW rfl h
       ·rw [if_neg hr]
        by_cases h11:code=11
        ·rw [if_pos h11]
         subst h11
         rcases vG hk with rfl | ⟨rfl,rfl⟩
         ·exact (qp ha hb hB fa fb hk).mono fun _ _ h=>dj h
         ·exact (oz ha hb hB fa fb hm h0 (gM fa)).mono fun _ _ h=>dj h
        ·rw [if_neg h11]
         by_cases h12:code=12
         ·rw [if_pos h12]
          subst h12
          exact (sI ha hb hB fa fb hk).mono fun _ _ h=>dj h
         ·rw [if_neg h12]
          by_cases h13:code=13
          ·rw [if_pos h13]
           subst h13
           exact (xy ha hb hB fa fb hk).mono fun _ _ h=>dj h
          ·rw [if_neg h13]
           by_cases h14:code=14
           ·rw [if_pos h14]
            subst h14
            obtain ⟨rfl,rfl⟩:=vH hk
            show Calls _ _ _ _ fun z w'=>jk d w w' (vS s' s) z
            unfold vS
            by_cases hz:(fS s' s false).2=0
            ·rw [if_neg (by simp [hz])]
             exact (uH ha hb hB fa fb hz).mono fun _ _ h=>dj h
            ·rw [if_pos hz]
             exact (qq ha hb hB fa fb hz).mono fun _ _ h=>bY h
           ·rw [if_neg h14]
            by_cases h15:code=15
            ·rw [if_pos h15]
             subst h15
             obtain ⟨rfl,rfl⟩:=pl hk (.inl rfl)
             exact xB ha hb hB fa fb
            ·rw [if_neg h15]
             by_cases h16:code=16
             ·rw [if_pos h16]
              subst h16
              obtain ⟨rfl,rfl⟩:=pl hk (.inr rfl)
              exact xz ha hb hB fa fb
             ·rw [if_neg h16]
              by_cases h17:code=17
              ·rw [if_pos h17]
               subst h17
               obtain ⟨rfl,rfl⟩:=iL hk (by omega)
               exact (bin_and ha hb hB fa fb).mono fun _ _ h=>eW h (i64_and _ _)
              ·rw [if_neg h17]
               by_cases h18:code=18
               ·rw [if_pos h18]
                subst h18
                obtain ⟨rfl,rfl⟩:=iL hk (by omega)
                exact (bin_or ha hb hB fa fb).mono fun _ _ h=>eW h (i64_or _ _)
               ·rw [if_neg h18]
                by_cases h19:code=19
                ·rw [if_pos h19]
                 subst h19
                 obtain ⟨rfl,rfl⟩:=iL hk (by omega)
                 exact (bin_xor ha hb hB fa fb).mono fun _ _ h=>eW h (i64_xor _ _)
                ·rw [if_neg h19]
                 exact (qn ha hb hB fa fb (by omega) hk).mono fun _ _ h=>dj h
     ·rw [if_pos hk]
      exact (xC ha hb hB fa fb (by omega) (by omega) hk).mono fun _ _ h=>bY h
  ·rw [if_pos (.inr (.inl fb))]
   exact (xx ha hb hB fa fb).mono fun _ _ h=>bY h
 ·rw [if_pos (.inl fa)]
  exact (xw ha hb hB fa).mono fun _ _ h=>bY h
theorem wV {code:Int} {a:Tm} {d B:Nat} {vs:List Value} {w:World} (ha:RTm w B (d+1) a vs) (hB:B≤w.heap.size) :
 Calls Tryz.prog 246 #[.int .i64 code,.agg vs.toArray] w fun z w'=>jk d w w' (unR code a) z:=by
 obtain ⟨ka,x,s,l⟩:=a
 have hsz:s.size≤140737488351232:=by obtain ⟨_,_,_,_,_,h,_⟩:=ha.cells;exact h
 unfold unR
 rcases Bool.eq_false_or_eq_true (af ⟨ka,x,s,l⟩) with fa | fa
 ·by_cases hlo:code<1
  ·rw [if_pos (.inr (.inl hlo))]
   exact (un_lo ha hB fa hlo).mono fun _ _ h=>bY h
  ·by_cases hhi:3<code
   ·rw [if_pos (.inr (.inr hhi))]
    exact (un_hi ha hB fa hhi).mono fun _ _ h=>bY h
   ·rw [if_neg (by rw [fa];simp;omega)]
    have hc:code=1∨code=2∨code=3:=by omega
    simp only
    rcases hc with rfl | rfl | rfl
    ·by_cases h6:ka=6
     ·subst h6
      rw [if_pos ⟨rfl,rfl⟩]
      exact (un_not ha hB fa).mono fun _ _ h=>dj h
     ·rw [if_neg (fun h=>h6 h.2),if_neg (by omega),if_neg (by omega),if_neg (by omega)]
      exact (yQ ha hB fa h6).mono fun _ _ h=>bY h
    ·rw [if_neg (by omega)]
     by_cases h2:ka=2
     ·subst h2
      rw [if_pos ⟨rfl,rfl⟩]
      exact (un_neg (k:=(mW 8 0 x).1) (n:=(mW 8 0 x).2.1) (e:=(mW 8 0 x).2.2) ha hB fa rfl).mono fun _ _ h=>pW rfl h
     ·rw [if_neg (fun h=>h2 h.2),if_neg (by omega),if_neg (by omega)]
      exact (yR ha hB fa h2).mono fun _ _ h=>bY h
    ·rw [if_neg (by omega),if_neg (by omega)]
     by_cases h3:ka=3
     ·subst h3
      rw [if_pos ⟨rfl,.inl rfl⟩]
      exact (wU ha hB fa).mono fun _ _ h=>eW h (lq (by omega) (by have:=gM fa;omega))
     ·by_cases h5:ka=5
      ·subst h5
       rw [if_pos ⟨rfl,.inr rfl⟩]
       exact (un_len5 ha hB fa).mono fun _ _ h=>eW h (lq (by omega) (by omega))
      ·rw [if_neg (by omega)]
       by_cases h7:ka=7
       ·subst h7
        rw [if_pos ⟨rfl,rfl⟩]
        exact (un_len7 ha hB fa).mono fun _ _ h=>eW h (lq (by omega) (by have:=(fT fa).1;omega))
       ·rw [if_neg (by omega)]
        exact (yS ha hB fa h3 h5 h7).mono fun _ _ h=>bY h
 ·rw [if_pos (.inl fa)]
  exact (un_bad ha hB fa).mono fun _ _ h=>bY h
def EvS (S base D:Nat) (bn bt:Value) (w:World) (ts:List Tm) (next:Int):Prop:=∃xs A c,xs.map SV.t=ts∧StkE S base D bn bt w xs next A c
def EvE (S base D:Nat) (bn bt:Value) (w w':World) (e:Int) (ts:List Tm) (next:Int) (z:Ending):Prop:=
 z=.returned (.int .i64 e)∧BelX base S w w'∧(e=0→EvS S base D bn bt w' ts next)
theorem EvS.later {S base D:Nat} {bn bt:Value} {w w':World} {ts:List Tm} {next:Int} (h:EvS S base D bn bt w ts next) (hb:Below w.heap.size w w'):EvS S base D bn bt w' ts next:=by
 obtain ⟨xs,A,c,h1,h2⟩:=h
 exact ⟨xs,A,c,h1,h2.later hb⟩
theorem zp.ev {S base D:Nat} {bn bt:Value} {w:World} {xs:List SV} {x:SV} {next e:Int} {ts:List Tm} (h:zp S base D bn bt w xs x next e) (ht:xs.map SV.t=ts) (he:e=0):EvS S base D bn bt w (ts++[x.t]) next:=by
 rcases h with ⟨_,A,c,h⟩ | ⟨h,_⟩
 ·exact ⟨xs++[x],A,c,by rw [List.map_append,ht];rfl,h⟩
 ·exact absurd he h
theorem kq {S base D c:Nat} {bn bt:Value} {w:World} {xs:List SV} {next:Int} {A:Option Addr} (h:StkE S base D bn bt w xs next A c) {x:SV} {n:Nat} (hx:∀a,x.a=some a→n≤a.block) (hn:w.heap.size≤n):nh S A x:=by
 intro a ha
 have h1:=hx a ha
 have h2:=h.hd.blk.lt
 refine ⟨by omega,fun b hb=>?_⟩
 subst hb
 obtain ⟨cells,how,_⟩:=h.own
 have:=(how.lt b.block rfl).2
 omega
theorem sV {S base D B d c:Nat} {bn bt:Value} {w:World} {xs:List SV} {x:SV} {next:Int} {A:Option Addr} {o:OpD} {ovs:List Value} (h:StkE S base D bn bt w (xs++[x]) next A c) (ho:(OpR d).rd w B o ovs) (hb:base≤w.heap.size) (hn:xs.length≤100000) :
 Calls Tryz.prog 200 #[.pointer (some ⟨S,0,none⟩),.agg ovs.toArray] w fun e w'=>EvE S base D bn bt w w' (unR o.code x.t).2 (xs.map SV.t++[(unR o.code x.t).1]) next e:=by
 obtain ⟨ts,rfl,_,_,_,ht⟩:=ho
 obtain ⟨At,ct,rfl,_⟩:=RTm.cells ht
 have hSlt:=h.hd.blk.lt
 have HS:=zE h
 clear h ht
 go_enter Tryz.func200,Tryz.ntmps200
 go_wp2_with fail
 generalize hW:World.alloc _ _=w1
 obtain ⟨hb1,hz⟩:=al1 hW
 have b_o:=n11 hW
 have HS1:=zE (HS.out.later (hb1.drew))
 have HB1:=zE hb1
 have BO:=zE b_o
 have k_o:=b_o.cell
 clear hW hb1 b_o
 go_region_with (first
  | (go_at_call 203
     refine (lH HS1.out hn).mono ?_
     rintro e w2 ⟨rfl,he,hs,htm,hap,hlt⟩
     have k_o2:=(he.blk (by omega) BO.out.drew).cell
     have HS2:=zE (And.intro hs (And.intro htm he))
     clear he hs htm hap hlt)
  | (go_at_call 246
     refine (wV (code:=o.code) (a:=x.t) (d:=D) (vs:=[_,_,_,_]) HS2.out.2.1.1 (zG _)).mono ?_
     rintro e w3 ⟨⟨A3,c3,rfl,hown⟩,hb3⟩
     have HS3:=zE (And.intro (HS2.out.1.later hb3) (And.intro hown hb3))
     clear hown hb3)
  | (go_at_call 245
     have hsz1:=HS2.out.2.2.1.size
     have hsz2:=HS3.out.2.2.size
     have hszd:w1.drew.heap.size=w1.heap.size:=rfl
     refine (gr (x:=⟨(unR o.code x.t).1,A3,c3⟩) HS3.out.1 HS3.out.2.1.at_ (kq HS2.out.1 (fun a ha=>(HS3.out.2.1.blk a ha).1) (zG _)) (fun a ha=>⟨by have:=(HS3.out.2.1.blk a ha).1;omega,(HS3.out.2.1.blk a ha).2⟩) (by omega) hn).mono ?_
     rintro e w4 ⟨rfl,hb4,hps⟩
     have HS4:=zE (And.intro hb4 hps)
     clear hb4 hps))
 all_goals
  go_wp2_with fail
  go_ret
  refine ⟨rfl,?_,fun he=>HS4.out.2.ev rfl he⟩
  exact (((BelX.of (HB1.out.mono hb).drew).trans (.exc HS2.out.2.2 (zF hb HB1.out.size))).trans (.of (HS3.out.2.2.mono (by omega)))).trans HS4.out.1
theorem dl.exc {D S:Nat} {w w':World} {x:SV} {A:Option Addr} (h:dl D w x) (he:Exc S w w') (ha:nh S A x) (hlt:∀a,x.a=some a→a.block<w.heap.size):dl D w' x:=
 h.keep (he.1.mono (zH _)) fun a e=>he.2 a.block (hlt a e) (ha a e).1
theorem qE {S base D B d c:Nat} {bn bt:Value} {w:World} {xs:List SV} {xa xb:SV} {next:Int} {A:Option Addr} {o:OpD} {ovs:List Value} {m:Int} (h:StkE S base D bn bt w (xs++[xa]++[xb]) next A c) (ho:(OpR d).rd w B o ovs) (hb:base≤w.heap.size) (hS0:0<S) (hn:xs.length≤90000) (hm:w.cell? ⟨0,0,none⟩=some (.int .i64 m)) (h0:0<base) :
 Calls Tryz.prog 201 #[.pointer (some ⟨S,0,none⟩),.agg ovs.toArray] w fun e w'=>EvE S base D bn bt w w' (za o.code xa.t xb.t).2 (xs.map SV.t++[(za o.code xa.t xb.t).1]) next e:=by
 obtain ⟨ts,rfl,_,_,_,ht⟩:=ho
 obtain ⟨At,ct,rfl,_⟩:=RTm.cells ht
 have hSlt:=h.hd.blk.lt
 have HS:=zE h
 have HM:=zE hm
 clear h ht hm
 go_enter Tryz.func201,Tryz.ntmps201
 go_wp2_with fail
 generalize hW:World.alloc _ _=w1
 obtain ⟨hb1,hz⟩:=al1 hW
 have BO:=zE (n11 hW)
 have HS1:=zE (HS.out.later hb1)
 have HB1:=zE hb1
 clear hW hb1
 refine (lH HS1.out (by simp;omega)).mono ?_
 rintro e w2 ⟨rfl,he,hs,htm,hap,hlt⟩
 have BO2:=zE (he.blk (by omega) BO.out)
 have HS2:=zE hs
 have HX2:=zE (And.intro htm (And.intro hap (And.intro hlt he)))
 have hsz2:=he.1.size
 clear he hs htm hap hlt
 unfold SV.cs
 go_wp2_with fail
 generalize hW:World.alloc _ _=w3
 obtain ⟨hb3,hz3⟩:=al1 hW
 have BB:=zE (n11 hW)
 have BO3:=zE (BO2.out.later hb3)
 have HS3:=zE (HS2.out.later hb3.drew)
 have HB3:=zE hb3
 have HX3:=zE (HX2.out.1.later hb3.drew)
 have k_o:=BO3.out.cell
 have k_b:=BB.out.cell
 clear hW hb3
 go_region_with (first
  | (go_at_call 203
     refine (lH HS3.out (by omega)).mono ?_
     rintro e w4 ⟨rfl,he,hs,htm,hap,hlt⟩
     have k_o2:=(he.blk (by omega) BO3.out.drew).cell
     have k_b2:=(he.blk (by omega) BB.out.drew).cell
     have hxb:=HX3.out.exc he HX2.out.2.1 (fun a ha=>zJ (HX2.out.2.2.1 a ha).2 (by show w1.heap.size≤w3.heap.size;omega))
     have HS4:=zE (And.intro hs (And.intro htm (And.intro hxb he)))
     clear he hs htm hap hlt hxb)
  | (go_at_call 247
     have hb4:BelX base S w w4:=((((BelX.of (HB1.out.mono hb)).trans (.exc HX2.out.2.2.2 (by omega))).trans (.of (HB3.out.mono (by omega)))).drew).trans (.exc HS4.out.2.2.2 (show base≤w3.heap.size by omega))
     have hsz4:=hb4.size
     refine (sJ (code:=o.code) (a:=xa.t) (b:=xb.t) (d:=D) (vs:=[_,_,_,_]) (ws:=[_,_,_,_]) HS4.out.2.1.1 HS4.out.2.2.1.1 (zG _) ((((hb4.mono (show 1≤base from h0)).low hS0).cell (p:=⟨0,0,none⟩) (Nat.lt_succ_self 0)).trans HM.out) (by omega)).mono ?_
     rintro e w5 ⟨⟨A3,c3,rfl,hown⟩,hb5⟩
     have HS5:=zE (And.intro (HS4.out.1.later hb5) (And.intro hown (And.intro hb5 hb4)))
     clear hown hb5 hb4)
  | (go_at_call 245
     have hsz5:=HS5.out.2.2.1.size
     have hsz4b:=HS5.out.2.2.2.size
     refine (gr (x:=⟨(za o.code xa.t xb.t).1,A3,c3⟩) HS5.out.1 HS5.out.2.1.at_ (kq HS4.out.1 (fun a ha=>(HS5.out.2.1.blk a ha).1) (zG _)) (fun a ha=>⟨by have:=(HS5.out.2.1.blk a ha).1;omega,(HS5.out.2.1.blk a ha).2⟩) (by omega) (by omega)).mono ?_
     rintro e w6 ⟨rfl,hb6,hps⟩
     have HS6:=zE (And.intro hb6 hps)
     clear hb6 hps))
 all_goals
  go_wp2_with fail
  go_ret
  refine ⟨rfl,?_,fun he=>HS6.out.2.ev rfl he⟩
  exact (HS5.out.2.2.2.trans (.of (HS5.out.2.2.1.mono (zF hb HS5.out.2.2.2.size)))).trans HS6.out.1
def xi (o:OpD) (t:Tm) (ts:List Tm) (next:Int):Int × List Tm × Int:=
 if t.kind≠6 then (7,ts,next)
 else if (decide (t.n=1)==decide (o.kind=5))=true then (0,ts++[t],wrap64 (next+o.skip))
 else (0,ts,next)
theorem oQ {S base D B d c:Nat} {bn bt:Value} {w:World} {xs:List SV} {x:SV} {next:Int} {A:Option Addr} {o:OpD} {ovs:List Value} (h:StkE S base D bn bt w (xs++[x]) next A c) (ho:(OpR d).rd w B o ovs) (hb:base≤w.heap.size) (hn:xs.length≤90000) :
 Calls Tryz.prog 202 #[.pointer (some ⟨S,0,none⟩),.agg ovs.toArray] w fun e w'=>EvE S base D bn bt w w' (xi o x.t (xs.map SV.t) next).1 (xi o x.t (xs.map SV.t) next).2.1 (xi o x.t (xs.map SV.t) next).2.2 e:=by
 obtain ⟨ts,rfl,_,_,_,ht⟩:=ho
 obtain ⟨At,ct,rfl,_⟩:=RTm.cells ht
 have hSlt:=h.hd.blk.lt
 have HS:=zE h
 clear h ht
 go_enter Tryz.func202,Tryz.ntmps202
 go_wp2_with fail
 generalize hW:World.alloc _ _=w1
 obtain ⟨hb1,hz⟩:=al1 hW
 have BO:=zE (n11 hW)
 have HS1:=zE (HS.out.later hb1)
 have HB1:=zE hb1
 clear hW hb1
 refine (lH HS1.out (by omega)).mono ?_
 rintro e w2 ⟨rfl,he,hs,htm,hap,hlt⟩
 have BO2:=zE (he.blk (by omega) BO.out)
 have HS2:=zE hs
 have HX2:=zE (And.intro htm (And.intro hap (And.intro hlt he)))
 have hsz2:=he.1.size
 clear he hs htm hap hlt
 unfold SV.cs
 go_upto_region 2 with fail
 generalize hW:World.alloc _ _=w3
 obtain ⟨hb3,hz3⟩:=al1 hW
 have BB:=zE (n11 hW)
 have BO3:=zE (BO2.out.later hb3)
 have HS3:=zE (HS2.out.later hb3)
 have HX3:=zE (HX2.out.1.later hb3)
 have HBw:Hid (BelX base S w w3):=zE (((BelX.of (HB1.out.mono hb)).trans (.exc HX2.out.2.2.2 (by omega))).trans (.of (hb3.mono (by omega))))
 have HLT:Hid (∀a,x.a=some a→base≤a.block∧a.block<w3.heap.size):=zE fun a ha=>by have:=HX2.out.2.2.1 a ha;omega
 have k_b:=BB.out.cell
 have k_o:=BO3.out.cell
 clear hW hb3
 by_cases h6:x.t.kind=6
 ·have q6:(x.t.kind !=6)=false:=by rw [h6];rfl
  by_cases hq:(decide (x.t.n=1)==decide (o.kind=5))=true
  ·have HR:Hid (xi o x.t (xs.map SV.t) next=(0,xs.map SV.t++[x.t],wrap64 (next+o.skip))):=zE (by unfold xi;rw [if_neg (by simp [h6]),if_pos hq])
   have hq2:((x.t.n==1)==(o.kind==5))=true:=hq
   clear hq h6
   have k_s:=HS3.out.hd.blk.cell
   have f_s:=HS3.out.hd.blk.free
   have hS3:S<w3.heap.size:=by omega
   go_wp2_with fail
   go_region
   have HB4:Hid (BelX base S w (w3.setCell ⟨S,3,none⟩ (.int .i64 (wrap64 (next+o.skip)))).drew):=zE (HBw.out.setS 3 _).drew
   have HS4:Hid (StkE S base D bn bt (w3.setCell ⟨S,3,none⟩ (.int .i64 (wrap64 (next+o.skip)))).drew xs (wrap64 (next+o.skip)) A c):=zE ((HS3.out.head _).later (zI _ _).drew)
   have HE4:Hid (Exc S w3 (w3.setCell ⟨S,3,none⟩ (.int .i64 (wrap64 (next+o.skip)))).drew):=zE ((Exc.refl S w3).set 3 _).drew
   have BB4:=zE (HE4.out.blk (by omega) BB.out)
   generalize (w3.setCell ⟨S,3,none⟩ (.int .i64 (wrap64 (next+o.skip)))).drew=w4 at *
   clear k_b k_o k_s f_s
   have k_b:=BB4.out.cell
   have hsz4:=HE4.out.1.size
   go_wp2_with fail
   refine (gr (x:=x) HS4.out (HX3.out.exc HE4.out HX2.out.2.1 fun a ha=>(HLT.out a ha).2) HX2.out.2.1 (fun a ha=>⟨(HLT.out a ha).1,zJ (HLT.out a ha).2 hsz4⟩) (by omega) (by omega)).mono ?_
   rintro e w5 ⟨rfl,hb5,hps⟩
   have HS5:=zE (And.intro hb5 hps)
   clear hb5 hps
   go_wp2_with fail
   go_ret
   rw [HR.out]
   exact ⟨rfl,HB4.out.trans HS5.out.1,fun he=>HS5.out.2.ev rfl rfl⟩
  ·have HR:Hid (xi o x.t (xs.map SV.t) next=(0,xs.map SV.t,next)):=zE (by unfold xi;rw [if_neg (by simp [h6]),if_neg hq])
   have hq2:((x.t.n==1)==(o.kind==5))=false:=by rw [Bool.eq_false_iff];exact hq
   clear hq h6
   go_wp2_with fail
   go_ret
   rw [HR.out]
   exact ⟨rfl,HBw.out,fun _=>⟨xs,A,c,rfl,HS3.out⟩⟩
 ·have q6:(x.t.kind !=6)=true:=by simpa using h6
  have HR:Hid (xi o x.t (xs.map SV.t) next=(7,xs.map SV.t,next)):=zE (by unfold xi;rw [if_pos h6])
  clear h6
  go_wp2_with fail
  go_ret
  rw [HR.out]
  exact ⟨rfl,HBw.out,fun h=>absurd (show (7:Int)=0 from h) (by decide)⟩
def ud (b:Bd) (t:Tm) (ts:List Tm):Int × List Tm:=
 if t.kind=1 then
  match cW b (bs t.s) with
  | none=>(8,ts)
  | some u=>(0,ts++[u])
 else (0,ts++[t])
theorem vP {b:Bd} {n:aZ} {u:Tm} (h:cW b n=some u):u∈b.terms:=by
 unfold cW at h
 split at h
 ·exact List.mem_of_getElem? h
 ·cases h
theorem mv.no {d:Nat} {w w':World} {z:Ending} (h:mv d w w' none z):(∃A c,z=.returned (.tuple #[.agg #[.int .i64 0,.int .i64 0,.string ⟨#[]⟩,.slice A 0 c],.bool false]))∧Below w.heap.size w w':=by
 obtain ⟨⟨A,c,e,_⟩,hb⟩:=h
 exact ⟨⟨A,c,e⟩,hb⟩
theorem mv.yes {d:Nat} {w w':World} {u:Tm} {z:Ending} (h:mv d w w' (some u) z):(∃A c,z=.returned (.tuple #[.agg #[.int .i64 u.kind,.int .i64 u.n,.string u.s,.slice A u.l.length c],.bool true])∧TmOwn d w.heap.size w' u A c)∧Below w.heap.size w w':=h
theorem sW {S base D B c cn ct:Nat} {b:Bd} {An At:Option Addr} {w:World} {xs:List SV} {next:Int} {A:Option Addr} {o:OpD} {ovs:List Value} (hok:BdOk b) (hbn:RL cU w B (b.names.map mkS) An) (hbt:RL (TmR (D+1)) w B b.terms At)
 (h:StkE S base D (.slice An b.names.length cn) (.slice At b.terms.length ct) w xs next A c) (ho:(OpR (D+1)).rd w B o ovs) (hol:∀u∈o.term.l,ji u) (ho16:o.term.l.length≤16) (hB:B≤w.heap.size) (hb:base≤w.heap.size) (hn:xs.length≤90000) :
 Calls Tryz.prog 199 #[.pointer (some ⟨S,0,none⟩),.agg ovs.toArray] w fun e w'=>EvE S base D (.slice An b.names.length cn) (.slice At b.terms.length ct) w w' (ud b o.term (xs.map SV.t)).1 (ud b o.term (xs.map SV.t)).2 next e:=by
 obtain ⟨ts,rfl,_,_,_,ht⟩:=ho
 obtain ⟨Ao,co,rfl,_,_,hs,hk,hi,hr⟩:=RTm.cells ht
 have hSlt:=h.hd.blk.lt
 have HS:=zE h
 have HOK:=zE hok
 have HN:=zE hbn
 have HT:=zE hbt
 have HR:=zE (And.intro (jL.rl hr) (And.intro hol (And.intro hk (And.intro hi hs))))
 clear h ht hr hol hok hbn hbt
 go_enter Tryz.func199,Tryz.ntmps199
 by_cases h1:o.term.kind=1
 ·have q1:(o.term.kind==1)=true:=by rw [h1];rfl
  go_upto_region 4 with fail
  generalize hW:World.alloc _ _=w1
  obtain ⟨hb1,hz⟩:=al2 hW
  have b_t:=n22 hW
  have BT:=zE b_t
  have HB1:=zE hb1
  have HS1:=zE (HS.out.later hb1)
  have HN1:=zE (HN.out.keep hb1.drew hB)
  have HT1:=zE (HT.out.keep hb1.drew hB)
  have hB1:B≤w1.drew.heap.size:=zF hB hb1.size
  have k_t:=b_t.cell
  have l_t:=b_t.lt
  have f_t:=b_t.free
  have k_s:=HS1.out.hd.blk.cell
  have l_s:=HS1.out.hd.blk.lt
  clear hW hb1 b_t
  rcases hL:cW b (bs o.term.s) with _ | u
  ·have HV:Hid (ud b o.term (xs.map SV.t)=(8,xs.map SV.t)):=zE (by unfold ud;rw [if_pos h1,hL])
   have HL:=zE hL
   clear h1 hL
   go_region_with (first
    | (go_at_call 125
       refine (lm (cn:=cn) (ct:=ct) (name:=o.term.s) HOK.out HN1.out HT1.out hB1).mono ?_
       rintro e w2 hE
       rw [HL.out] at hE
       obtain ⟨⟨A2,c2,rfl⟩,hb2⟩:=hE.no
       have b_t2:=BT.out.drew.later hb2
       have k_t2:=b_t2.cell
       have l_t2:=b_t2.lt
       have f_t2:=b_t2.free
       have HF:=zE (Below.trans HB1.out.drew (hb2.mono (show w.heap.size≤w1.drew.heap.size from HB1.out.size)))
       clear hE hb2 b_t2))
   all_goals
    go_wp2_with fail
    go_ret
    rw [HV.out]
    exact ⟨rfl,.of ((cC HF.out (Nat.le_succ _) _ _ _ _).mono hb),fun h=>absurd (show (8:Int)=0 from h) (by decide)⟩
  ·have HV:Hid (ud b o.term (xs.map SV.t)=(0,xs.map SV.t++[u])):=zE (by unfold ud;rw [if_pos h1,hL])
   have HL:=zE hL
   clear h1 hL
   go_region_with (first
    | (go_at_call 125
       refine (lm (cn:=cn) (ct:=ct) (name:=o.term.s) HOK.out HN1.out HT1.out hB1).mono ?_
       rintro e w2 hE
       rw [HL.out] at hE
       obtain ⟨⟨A2,c2,rfl,hown⟩,hb2⟩:=hE.yes
       have b_t2:=BT.out.drew.later hb2
       have k_t2:=b_t2.cell
       have l_t2:=b_t2.lt
       have f_t2:=b_t2.free
       have HF:=zE (And.intro (Below.trans HB1.out.drew (hb2.mono (show w.heap.size≤w1.drew.heap.size from HB1.out.size))) (And.intro hown b_t2))
       clear hE hb2 b_t2 hown))
   all_goals
    have HB3:=zE (cC HF.out.1 (Nat.le_succ _) (.int .i64 u.kind) (.int .i64 u.n) (.string u.s) (.slice A2 u.l.length c2))
    have HO3:=zE (HF.out.2.1.put4 (g:=w.heap.size+1) (show w.heap.size+1<w1.heap.size by omega) (.int .i64 u.kind) (.int .i64 u.n) (.string u.s) (.slice A2 u.l.length c2))
    have BT3:=zE (dv HF.out.2.2 (.int .i64 u.kind) (.int .i64 u.n) (.string u.s) (.slice A2 u.l.length c2))
    generalize ((((w2.setCell ⟨w.heap.size+1,0,none⟩ (.int .i64 u.kind)).setCell ⟨w.heap.size+1,1,none⟩ (.int .i64 u.n)).setCell ⟨w.heap.size+1,2,none⟩ (.string u.s)).setCell ⟨w.heap.size+1,3,none⟩ (.slice A2 u.l.length c2))=w3 at *
    clear k_t2 l_t2 f_t2 k_t l_t f_t
    have k_t:=BT3.out.cell
    have l_t:=BT3.out.lt
    have f_t:=BT3.out.free
    go_wp2_with fail
    obtain ⟨hle,hl16⟩:=aM (HOK.out.fixed u (vP HL.out))
    obtain ⟨Az,cz,hez,_,_,_,_,_,hrz⟩:=RTm.cells HO3.out.rtm
    simp only [List.cons.injEq,Value.slice.injEq,and_true,true_and] at hez
    obtain ⟨rfl,rfl⟩:=hez
    refine (bR (jL.rl hrz) (zG _) (by omega)).mono ?_
    rintro e w4 ⟨⟨v,rfl,hv⟩,hb4⟩
    obtain ⟨A4,c4,rfl⟩:=hv.form
    have HO4:Hid (TmOwn D w3.heap.size w4 u A4 c4):=zE ⟨hv.leaves hle,HO3.out.k,HO3.out.n,HO3.out.s,by omega⟩
    have b_t4:=BT3.out.later hb4
    have HB4:=zE (ab HB3.out hb4)
    clear k_t l_t f_t hv hb4 hrz
    have k_t:=b_t4.cell
    have l_t:=b_t4.lt
    have f_t:=b_t4.free
    go_wp2_with fail
    have hlt3:=BT3.out.lt
    have HB5:Hid (Below w.heap.size w (w4.setCell ⟨w.heap.size+1,3,none⟩ (.slice A4 u.l.length c4))):=zE (HB4.out.setCell (p:=⟨w.heap.size+1,3,none⟩) (by show w.heap.size≤w.heap.size+1;omega) _)
    have HO5:=zE (HO4.out.far (g:=w.heap.size+1) (i:=3) (by omega) (.slice A4 u.l.length c4))
    have HS5:=zE (HS.out.later HB5.out)
    generalize (w4.setCell ⟨w.heap.size+1,3,none⟩ (.slice A4 u.l.length c4))=w5 at *
    have hsz5:=HB5.out.size
    refine (gr (x:=⟨u,A4,c4⟩) HS5.out HO5.out.at_ (kq HS.out (fun a ha=>(HO5.out.blk a ha).1) (by omega)) (fun a ha=>⟨by have:=(HO5.out.blk a ha).1;omega,(HO5.out.blk a ha).2⟩) (by omega) (by omega)).mono ?_
    rintro e w6 ⟨rfl,hb6,hps⟩
    have HS6:=zE (And.intro hb6 hps)
    clear hb6 hps k_t l_t f_t b_t4
    go_wp2_with fail
    go_ret
    rw [HV.out]
    exact ⟨rfl,(BelX.of (HB5.out.mono hb)).trans HS6.out.1,fun he=>HS6.out.2.ev rfl rfl⟩
 ·have q1:(o.term.kind==1)=false:=by simpa using h1
  have HV:Hid (ud b o.term (xs.map SV.t)=(0,xs.map SV.t++[o.term])):=zE (by unfold ud;rw [if_neg h1])
  clear h1
  go_wp2_with fail
  generalize hW:World.alloc _ _=w1
  obtain ⟨hb1,hz⟩:=al2 hW
  have b_t:=n22 hW
  have HR1:=zE (HR.out.1.keep hb1 hB)
  have HB1:=zE hb1
  clear hW
  refine (bR HR1.out (zF hB hb1.size) (by omega)).mono ?_
  rintro e w2 ⟨⟨v,rfl,hv⟩,hb2⟩
  obtain ⟨A2,c2,rfl⟩:=hv.form
  have HO:Hid (TmOwn D w1.heap.size w2 o.term A2 c2):=zE ⟨hv.leaves HR.out.2.1,HR.out.2.2.1,HR.out.2.2.2.1,HR.out.2.2.2.2,by omega⟩
  have b_t2:=b_t.later hb2
  have HB2:=zE (ab HB1.out hb2)
  have k_t:=b_t2.cell
  have l_t:=b_t2.lt
  have f_t:=b_t2.free
  clear hv hb2 b_t
  go_wp2_with fail
  have HB3:Hid (Below w.heap.size w (w2.setCell ⟨w.heap.size+1,3,none⟩ (.slice A2 o.term.l.length c2))):=zE (HB2.out.setCell (p:=⟨w.heap.size+1,3,none⟩) (by show w.heap.size≤w.heap.size+1;omega) _)
  have HO3:=zE (HO.out.far (g:=w.heap.size+1) (i:=3) (by omega) (.slice A2 o.term.l.length c2))
  have HS3:=zE (HS.out.later HB3.out)
  generalize (w2.setCell ⟨w.heap.size+1,3,none⟩ (.slice A2 o.term.l.length c2))=w3 at *
  have hsz3:=HB3.out.size
  refine (gr (x:=⟨o.term,A2,c2⟩) HS3.out HO3.out.at_ (kq HS.out (fun a ha=>(HO3.out.blk a ha).1) (by omega)) (fun a ha=>⟨by have:=(HO3.out.blk a ha).1;omega,(HO3.out.blk a ha).2⟩) (by omega) (by omega)).mono ?_
  rintro e w4 ⟨rfl,hb4,hps⟩
  have HS4:=zE (And.intro hb4 hps)
  clear hb4 hps k_t l_t f_t b_t2
  go_wp2_with fail
  go_ret
  rw [HV.out]
  exact ⟨rfl,(BelX.of (HB3.out.mono hb)).trans HS4.out.1,fun he=>HS4.out.2.ev rfl rfl⟩
def aN (e:List OpD):Bool:=decide (e.length≤32)&&bu 0 e
theorem df {d B:Nat} {e:List OpD} {vs:List Value} {w:World} (he:(ExR d).rd w B e vs) (hB:B≤w.heap.size) :
 Calls Tryz.prog 159 #[.agg vs.toArray] w fun x w'=>x=.returned (.bool (aN e))∧Below w.heap.size w w':=by
 obtain ⟨_,rfl,A,c,rfl,hc1,hc2,hl⟩:=he
 have HB:=zE (fun o:Obj=>(zI w.heap.size w).alloc (zG _) o)
 have HL:=zE hl
 simp only [OpR] at hc2
 clear hl
 by_cases hn:(e.length:Int)≤32
 ·go_enter Tryz.func159,Tryz.ntmps159
  go_wp2_with fail
  refine (xc d e.length e A c B _ (zG _) (HL.out.keep (HB.out _) hB) (zF hB (HB.out _).size) hc1 (by omega)).mono ?_
  rintro x w1 ⟨rfl,hb1⟩
  have hfin:=zE ((HB.out _).trans (hb1.mono (HB.out _).size))
  clear hb1
  go_wp2_with fail
  go_ret
  exact ⟨ae (by rw [aN,show decide (e.length≤32)=true by simp;omega];simp),hfin.out⟩
 ·have hn':decide ((e.length:Int)≤32)=false:=by simpa using hn
  go_enter Tryz.func159,Tryz.ntmps159
  go_wp2_with fail
  go_ret
  exact ⟨ae (by rw [aN,show decide (e.length≤32)=false by simp;omega];simp),HB.out _⟩
def mp (o:OpD):Bool:=decide (o.kind=1)&&decide (o.term.kind=1)
def bU (e:List OpD):List aZ:=(e.filter mp).map (fun o=>bs o.term.s)
def fy (e:List OpD):List aZ:=if aN e then ep (bU e) else []
theorem nD {e:List OpD} {k:Nat} {o:OpD} (h:e[k]? = some o):bU (e.take (k+1))=bU (e.take k)++(if mp o then [bs o.term.s] else []):=by
 obtain ⟨h1,h2⟩:=List.getElem?_eq_some_iff.1 h
 rw [List.take_succ_eq_append_getElem h1,h2]
 by_cases hk:mp o=true
 ·simp [bU,hk]
 ·simp [bU,(by simpa using hk:mp o=false)]
theorem io (e:List OpD):(bU e).length≤e.length:=by
 unfold bU;rw [List.length_map];exact List.length_filter_le _ _
theorem nC {d B:Nat} {e:List OpD} {vs:List Value} {w:World} (he:(ExR d).rd w B e vs) (hB:B≤w.heap.size) :
 Calls Tryz.prog 164 #[.agg vs.toArray] w fun x w'=>∃v,x=.returned v∧jK w' w.heap.size v (fy e)∧Below w.heap.size w w':=by
 obtain ⟨i0,hi,hz0,hz1,hz2⟩:=info_parts vw
 have he0:=he
 obtain ⟨_,rfl,A,c,rfl,hc1,hc2,hl⟩:=he
 have HB:=zE (fun o:Obj=>(zI w.heap.size w).alloc (zG _) o)
 have HL:=zE hl
 have HE:=zE he0
 simp only [OpR] at hc2
 clear hl he0
 by_cases hm:aN e=true
 ·have hlen:e.length≤32:=by unfold aN at hm;simp at hm;exact hm.1
  go_enter Tryz.func164,Tryz.ntmps164
  go_wp2_with fail
  refine (df (d:=d) (B:=B) (e:=e) (vs:=[_]) ((ExR d).keep (HB.out _) hB HE.out) (zF hB (HB.out _).size)).mono ?_
  rintro x w1 ⟨rfl,hb1⟩
  have hq:w1.cell? ⟨w.heap.size,0,none⟩=some (.slice A e.length c):=(hb1.cell (p:=⟨w.heap.size,0,none⟩) (by simp)).trans (by go_simp)
  have HB1:=zE ((HB.out _).trans (hb1.mono (HB.out _).size))
  clear hb1
  go_wp2_with fail
  go_loopw [3,12] (fun v i wr=>∃k:Nat,k≤e.length∧i=.int .i64 k∧jK wr w.heap.size v (bU (e.take k))∧Below w.heap.size w wr) (fun _ i _=>e.length-(intOf i).toNat)
  case atStart=>exact ⟨0,zH _,rfl,World.ownsRow_nil _ _ _ _,HB1.out⟩
  case round=>
   obtain ⟨k,hk,rfl,hown,hbw⟩:=hrel
   by_cases hlt:k<e.length
   ·obtain ⟨b,off,rfl,hb⟩:=HL.out.base hbw hB (by omega)
    obtain ⟨o,vs,hx,hlen',hcell,hr⟩:=HL.out.at_ hbw hB hlt
    obtain ⟨Ao,co,rfl,_⟩:=OpR.cells hr
    have c0:wr.cell? ⟨b,off+k*7,none⟩=some (.int .i64 o.kind):=hcell 0 _ rfl
    have c1:wr.cell? ⟨b,off+k*7+1,none⟩=some (.int .i64 o.term.kind):=hcell 1 _ rfl
    have c2:wr.cell? ⟨b,off+k*7+2,none⟩=some (.int .i64 o.term.n):=hcell 2 _ rfl
    have c3:wr.cell? ⟨b,off+k*7+3,none⟩=some (.string o.term.s):=hcell 3 _ rfl
    have c4:wr.cell? ⟨b,off+k*7+4,none⟩=some (.slice Ao o.term.l.length co):=hcell 4 _ rfl
    have c5:wr.cell? ⟨b,off+k*7+5,none⟩=some (.int .i64 o.code):=hcell 5 _ rfl
    have c6:wr.cell? ⟨b,off+k*7+6,none⟩=some (.int .i64 o.skip):=hcell 6 _ rfl
    have HX:=zE (nD hx)
    have HT:Hid ((bU (e.take k)).length≤32):=zF (io _) (by rw [List.length_take];omega)
    have HO:=zE hown
    have HG:=zE (fun g (hg:u3.ownBlock=some g)=>((HO.out.lt g hg).1:w.heap.size≤g))
    have hszr:=hbw.size
    clear hcell hlen' hx hr hown
    have hcases:((o.kind==1)=true∧(o.term.kind==1)=true)∨((o.kind==1)=true∧(o.term.kind==1)=false)∨(o.kind==1)=false:=by
     cases (o.kind==1)<;>cases (o.term.kind==1)<;>simp
    rcases hcases with ⟨h1,h2⟩ | ⟨h1,h2⟩ | h1
    ·have HK:Hid (mp o=true):=by
      show mp o=true
      simp only [beq_iff_eq] at h1 h2
      simp [mp,h1,h2]
     go_wp2_with (at_builtin;refine wpList_append_own _ rfl (.tmp 25) (.tmp 29) 44 rfl w.heap.size 9 i0 (.string ⟨#[]⟩) 1 16 Tryz.underlying44 hi hz0 hz1 hz2 rfl (by decide) _ _ _ rfl (World.ownsRow.alloc (World.ownsRow.alloc HO.out _) _) ⟨wr.heap.size+1,0,none⟩ 1 1 [.string o.term.s] rfl rfl ?c1 ?c2 ?c3 ?c4 ?c5 ?_)
     case c1=>
      intro i u hi
      match i,hi with
      | 0,hi=>
        simp only [List.getElem?_cons_zero,Option.some.injEq] at hi
        subst hi
        simp [Addr.add]
     case c2=>intro u hu;simp at hu;subst hu;rfl
     case c3=>have:=HT.out;unfold maxLen;omega
     case c4=>have:=HT.out;omega
     case c5=>simp;omega
     intro v' w' hown' hgrow _
     have hnew:jK w' w.heap.size v' (bU (e.take (k+1))):=by
      rw [HX.out,if_pos HK.out]
      unfold jK
      simpa [oR] using hown'
     have hbelow:Below w.heap.size w w':=by
      refine Below.grown (w:=(wr.alloc _).alloc _) ((hbw.alloc hszr _).alloc (by simp;omega) _) hgrow (by simp;omega) ?_
      intro g hg
      exact HG.out g hg
     clear hown' hgrow
     go_wp2
     go_roundw
     case rel=>exact ⟨k+1,by omega,by go_num,hnew,hbelow⟩
     case measure=>simp [intOf];omega
    all_goals
     have HK:Hid (mp o=false):=by
      show mp o=false
      simp only [beq_iff_eq,beq_eq_false_iff_ne] at *
      simp [mp, *]
     have HN:=zE (fun ob:Obj=>(World.ownsRow.alloc HO.out ob:jK (wr.alloc ob) w.heap.size u3 (bU (e.take k))))
     have HBel:=zE (fun o:Obj=>hbw.alloc hszr o)
     go_wp2_with fail
     go_roundw
     case rel=>exact ⟨k+1,by omega,by go_num,by rw [HX.out,if_neg (by rw [HK.out];simp),List.append_nil];exact HN.out _,HBel.out _⟩
     case measure=>simp [intOf];omega
   ·have hown':jK wr w.heap.size u3 (bU e):=by rwa [List.take_of_length_le (by omega)] at hown
    have HO:=zE hown'
    have hle:=io e
    clear hown hown'
    go_wp2_with fail
    refine (pR _ w.heap.size _ _ HO.out hbw.size (by omega)).mono ?_
    rintro x w1 ⟨rfl,hs1,hb1⟩
    have HS:=zE hs1
    have HB1:=zE (hbw.trans hb1)
    clear hs1 hb1
    go_wp2_with fail
    refine (jO _ w.heap.size _ _ HS.out (by rw [cH];omega)).mono ?_
    rintro x w2 ⟨v',rfl,hs2,hb2⟩
    have HS2:=zE hs2
    have HB2:=zE (HB1.out.trans hb2)
    clear hs2 hb2
    go_wp2_with fail
    go_ret
    exact ⟨_,rfl,by rw [fy,if_pos hm];exact HS2.out,HB2.out⟩
 ·have hm':aN e=false:=by simpa using hm
  go_enter Tryz.func164,Tryz.ntmps164
  go_wp2_with fail
  refine (df (d:=d) (B:=B) (e:=e) (vs:=[_]) ((ExR d).keep (HB.out _) hB HE.out) (zF hB (HB.out _).size)).mono ?_
  rintro x w1 ⟨rfl,hb1⟩
  have HB1:=zE ((HB.out _).trans (hb1.mono (HB.out _).size))
  clear hb1
  go_wp2_with fail
  go_ret
  exact ⟨_,rfl,by rw [fy,if_neg hm];exact World.ownsRow_nil _ _ _ _,HB1.out⟩
end Go.Proofs.YtdphibjibnffeaaGreat
