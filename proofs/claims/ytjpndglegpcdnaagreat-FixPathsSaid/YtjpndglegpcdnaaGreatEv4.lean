/- expr.stack's value. -/
import Derived.Test.YtjpndglegpcdnaaGreatBin
import Derived.Test.YtjpndglegpcdnaaGreatOp3
import Derived.Deep.RegionWith
import Derived.Deep.Cut
import Derived.Test.YtjpndglegpcdnaaGreatAn1
import Derived.Test.YtjpndglegpcdnaaGreatOp5
set_option linter.unusedVariables false
set_option linter.unusedSimpArgs false
set_option maxRecDepth 100000
set_option maxHeartbeats 8000000
namespace Go.Proofs.YtjpndglegpcdnaaGreat
open Go.ChangeShapes Go.WideShapes Go.ChangeAt Go.RowKit
theorem tw (b:BitVec 64):I64 b.toInt:=by
 have h1:=BitVec.toInt_lt (x:=b)
 have h2:=BitVec.le_toInt (x:=b)
 unfold I64
 omega
theorem vB (v:BitVec 64):IntKind.i64.wrap (v.toNat:Int)=v.toInt:=by
 rw [IntKind.wrap_i64,BitVec.toInt_eq_toNat_cond]
 have:=v.isLt
 split<;>omega
theorem i64_and (a b:Int):I64 (bits .and .i64 a b):=by
 have h:bits .and .i64 a b=(BitVec.ofInt 64 a &&& BitVec.ofInt 64 b).toInt:=vB _
 rw [h];exact tw _
theorem i64_or (a b:Int):I64 (bits .or .i64 a b):=by
 have h:bits .or .i64 a b=(BitVec.ofInt 64 a ||| BitVec.ofInt 64 b).toInt:=vB _
 rw [h];exact tw _
theorem i64_xor (a b:Int):I64 (bits .xor .i64 a b):=by
 have h:bits .xor .i64 a b=(BitVec.ofInt 64 a ^^^ BitVec.ofInt 64 b).toInt:=vB _
 rw [h];exact tw _
theorem i64_bit (b:Bool):I64 (bit b):=by unfold bit I64;split<;>omega
theorem kU {n:Int} (h:-1000000000000000≤n) (h':n≤1000000000000000):I64 n:=by unfold I64;omega
theorem eK {d:Nat} {w w':World} {k n e:Int} {s:ByteArray} {z:Ending} (h:z=bM k n s e∧Below w.heap.size w w') (hk:I64 k) (hn:I64 n) (hs:s.size≤140737488351232):iR d w w' (⟨k,n,s,[]⟩,e) z:=⟨⟨none,0,h.1,TmOwn.flat hk hn hs⟩,h.2⟩
theorem bX {d:Nat} {w w':World} {e:Int} {z:Ending} (h:z=bM 0 0 emp e∧Below w.heap.size w w'):iR d w w' (noT,e) z:=eK h (by simp [I64]) (by simp [I64]) (by decide)
theorem dg {d:Nat} {w w':World} {b:Bool} {z:Ending} (h:z=bM 6 (bit b) emp 0∧Below w.heap.size w w'):iR d w w' (pH b,0) z:=eK h (by simp [I64]) (i64_bit b) (by decide)
theorem eL {d:Nat} {w w':World} {n:Int} {z:Ending} (h:z=bM 2 n emp 0∧Below w.heap.size w w') (hn:I64 n):iR d w w' (yh n,0) z:=eK h (by simp [I64]) hn (by decide)
theorem xQ (code a b:Int):(mD code a b=(2,sY code a b,0)∧I64 (sY code a b))∨∃e,mD code a b=(0,0,e)∧(e=5∨e=6):=by
 unfold mD nG
 by_cases h:code=10∧b=0
 ·exact .inr ⟨6,by rw [if_pos h];simp,.inr rfl⟩
 ·rw [if_neg h]
  rcases Bool.eq_false_or_eq_true (dw (sY code a b)) with hf | hf
  ·exact .inl ⟨by rw [hf];simp,(ci _).1 hf⟩
  ·exact .inr ⟨5,by rw [hf];simp,.inl rfl⟩
theorem pg {d:Nat} {w w':World} {code a b k n e:Int} {z:Ending} (hr:mD code a b=(k,n,e)) (h:z=bM k n emp e∧Below w.heap.size w w'):iR d w w' (recT (mD code a b)) z:=by
 rw [hr]
 refine eK h ?_ ?_ (by decide)
 ·rcases xQ code a b with ⟨h1,_⟩ | ⟨e2,h1,_⟩<;>(rw [hr] at h1;simp only [Prod.mk.injEq] at h1;rw [h1.1];simp [I64])
 ·rcases xQ code a b with ⟨h1,h2⟩ | ⟨e2,h1,_⟩<;>(rw [hr] at h1;simp only [Prod.mk.injEq] at h1;rw [h1.2.1])
  ·exact h2
  ·simp [I64]
theorem iw {code ka kb:Int} (h:aG code ka kb=true) (hc:code=8∨code=9∨code=10∨code=17∨code=18∨code=19):ka=2∧kb=2:=by
 have h2:aG code ka kb=dD [2] ka kb:=by rcases hc with rfl | rfl | rfl | rfl | rfl | rfl<;>simp [aG]
 rw [h2] at h
 simpa [dD] using h
theorem oz {ka kb:Int} (h:aG 7 ka kb=true):ka=2∧kb=2∨ka=3∧kb=3:=by
 have h2:aG 7 ka kb=dD [2,3] ka kb:=by simp [aG]
 rw [h2] at h
 simpa [dD] using h
theorem ui {ka kb:Int} (h:aG 11 ka kb=true):ka=7∨ka=3∧kb=3:=by
 have h2:aG 11 ka kb=((decide (ka=7)&&decide (2≤kb)&&decide (kb≤7))||dD [3] ka kb):=by simp [aG]
 rw [h2] at h
 simp [dD] at h
 omega
theorem uj {ka kb:Int} (h:aG 14 ka kb=true):ka=3∧kb=3:=by
 have h2:aG 14 ka kb=dD [3] ka kb:=by simp [aG]
 rw [h2] at h
 simpa [dD] using h
theorem oA {code ka kb:Int} (h:aG code ka kb=true) (hc:code=15∨code=16):ka=7∧kb=7:=by
 have h2:aG code ka kb=dD [7] ka kb:=by rcases hc with rfl | rfl<;>simp [aG]
 rw [h2] at h
 simpa [dD] using h
theorem gp {x:Int} {s:ByteArray} {l:List Tm} (h:af ⟨3,x,s,l⟩=true):s.size≤256:=by
 unfold af kc ew at h
 simp at h
 omega
theorem rG {code:Int} {a b:Tm} {d B:Nat} {vs ws:List Value} {w:World} {m:Int} (ha:RTm w B (d+1) a vs) (hb:RTm w B (d+1) b ws) (hB:B≤w.heap.size) (hm:w.cell? ⟨0,0,none⟩=some (.int .i64 m)) (h0:0<w.heap.size) :
 Calls Tryz.prog 189 #[.int .i64 code,.agg vs.toArray,.agg ws.toArray] w fun z w'=>iR d w w' (xJ code a b) z:=by
 obtain ⟨ka,x,s,l⟩:=a
 obtain ⟨kb,y,s',l'⟩:=b
 have hsz':s'.size≤140737488351232:=by obtain ⟨_,_,_,_,_,h,_⟩:=hb.cells;exact h
 unfold xJ
 rcases Bool.eq_false_or_eq_true (af ⟨ka,x,s,l⟩) with fa | fa
 ·rcases Bool.eq_false_or_eq_true (af ⟨kb,y,s',l'⟩) with fb | fb
  ·by_cases hlo:code<1
   ·rw [if_pos (.inr (.inr (.inl hlo)))]
    exact (bin_lo ha hb hB fa fb hlo).mono fun _ _ h=>bX h
   ·by_cases hhi:19<code
    ·rw [if_pos (.inr (.inr (.inr hhi)))]
     exact (bin_hi ha hb hB fa fb hhi).mono fun _ _ h=>bX h
    ·rw [if_neg (by rw [fa,fb];simp;omega)]
     rcases Bool.eq_false_or_eq_true (aG code ka kb) with hk | hk
     ·rw [if_neg (by show ¬aG code ka kb=false;rw [hk];simp)]
      by_cases h7:code=7∧ka=3
      ·rw [if_pos h7]
       obtain ⟨rfl,rfl⟩:=h7
       obtain ⟨_,rfl⟩:(3:Int)=3∧kb=3:=by rcases oz hk with h | h<;>omega
       have:=gp fa
       have:=gp fb
       by_cases hl:s.size+s'.size≤256
       ·rw [if_pos hl]
        exact (bin_add ha hb hB fa fb hl).mono fun _ _ h=>eK h (by simp [I64]) (by simp [I64]) (by show (s++s').size≤_;rw [ByteArray.size_append];omega)
       ·rw [if_neg hl]
        exact (vU ha hb hB fa fb hl).mono fun _ _ h=>bX h
      ·rw [if_neg h7]
       by_cases hr:code=7∨code=8∨code=9∨code=10
       ·rw [if_pos hr]
        obtain ⟨rfl,rfl⟩:ka=2∧kb=2:=by
         rcases hr with rfl | hr
         ·rcases oz hk with h | h
          ·exact h
          ·exact absurd ⟨rfl,h.1⟩ h7
         ·exact iw hk (by omega)
        exact (rE (k:=(mD code x y).1) (n:=(mD code x y).2.1) (e:=(mD code x y).2.2) ha hb hB fa fb hr rfl).mono fun _ _ h=>pg rfl h
       ·rw [if_neg hr]
        by_cases h11:code=11
        ·rw [if_pos h11]
         subst h11
         rcases ui hk with rfl | ⟨rfl,rfl⟩
         ·exact (pD ha hb hB fa fb hk).mono fun _ _ h=>dg h
         ·exact (nQ ha hb hB fa fb hm h0 (gp fa)).mono fun _ _ h=>dg h
        ·rw [if_neg h11]
         by_cases h12:code=12
         ·rw [if_pos h12]
          subst h12
          exact (rF ha hb hB fa fb hk).mono fun _ _ h=>dg h
         ·rw [if_neg h12]
          by_cases h13:code=13
          ·rw [if_pos h13]
           subst h13
           exact (vS ha hb hB fa fb hk).mono fun _ _ h=>dg h
          ·rw [if_neg h13]
           by_cases h14:code=14
           ·rw [if_pos h14]
            subst h14
            obtain ⟨rfl,rfl⟩:=uj hk
            show Calls _ _ _ _ fun z w'=>iR d w w' (uu s' s) z
            unfold uu
            by_cases hz:(fz s' s false).2=0
            ·rw [if_neg (by simp [hz])]
             exact (tu ha hb hB fa fb hz).mono fun _ _ h=>dg h
            ·rw [if_pos hz]
             exact (pE ha hb hB fa fb hz).mono fun _ _ h=>bX h
           ·rw [if_neg h14]
            by_cases h15:code=15
            ·rw [if_pos h15]
             subst h15
             obtain ⟨rfl,rfl⟩:=oA hk (.inl rfl)
             exact vV ha hb hB fa fb
            ·rw [if_neg h15]
             by_cases h16:code=16
             ·rw [if_pos h16]
              subst h16
              obtain ⟨rfl,rfl⟩:=oA hk (.inr rfl)
              exact vT ha hb hB fa fb
             ·rw [if_neg h16]
              by_cases h17:code=17
              ·rw [if_pos h17]
               subst h17
               obtain ⟨rfl,rfl⟩:=iw hk (by omega)
               exact (bin_and ha hb hB fa fb).mono fun _ _ h=>eL h (i64_and _ _)
              ·rw [if_neg h17]
               by_cases h18:code=18
               ·rw [if_pos h18]
                subst h18
                obtain ⟨rfl,rfl⟩:=iw hk (by omega)
                exact (bin_or ha hb hB fa fb).mono fun _ _ h=>eL h (i64_or _ _)
               ·rw [if_neg h18]
                by_cases h19:code=19
                ·rw [if_pos h19]
                 subst h19
                 obtain ⟨rfl,rfl⟩:=iw hk (by omega)
                 exact (bin_xor ha hb hB fa fb).mono fun _ _ h=>eL h (i64_xor _ _)
                ·rw [if_neg h19]
                 exact (pB ha hb hB fa fb (by omega) hk).mono fun _ _ h=>dg h
     ·rw [if_pos hk]
      exact (vW ha hb hB fa fb (by omega) (by omega) hk).mono fun _ _ h=>bX h
  ·rw [if_pos (.inr (.inl fb))]
   exact (vR ha hb hB fa fb).mono fun _ _ h=>bX h
 ·rw [if_pos (.inl fa)]
  exact (vQ ha hb hB fa).mono fun _ _ h=>bX h
theorem vn {code:Int} {a:Tm} {d B:Nat} {vs:List Value} {w:World} (ha:RTm w B (d+1) a vs) (hB:B≤w.heap.size) :
 Calls Tryz.prog 188 #[.int .i64 code,.agg vs.toArray] w fun z w'=>iR d w w' (unR code a) z:=by
 obtain ⟨ka,x,s,l⟩:=a
 have hsz:s.size≤140737488351232:=by obtain ⟨_,_,_,_,_,h,_⟩:=ha.cells;exact h
 unfold unR
 rcases Bool.eq_false_or_eq_true (af ⟨ka,x,s,l⟩) with fa | fa
 ·by_cases hlo:code<1
  ·rw [if_pos (.inr (.inl hlo))]
   exact (un_lo ha hB fa hlo).mono fun _ _ h=>bX h
  ·by_cases hhi:3<code
   ·rw [if_pos (.inr (.inr hhi))]
    exact (un_hi ha hB fa hhi).mono fun _ _ h=>bX h
   ·rw [if_neg (by rw [fa];simp;omega)]
    have hc:code=1∨code=2∨code=3:=by omega
    simp only
    rcases hc with rfl | rfl | rfl
    ·by_cases h6:ka=6
     ·subst h6
      rw [if_pos ⟨rfl,rfl⟩]
      exact (un_not ha hB fa).mono fun _ _ h=>dg h
     ·rw [if_neg (fun h=>h6 h.2),if_neg (by omega),if_neg (by omega),if_neg (by omega)]
      exact (xA ha hB fa h6).mono fun _ _ h=>bX h
    ·rw [if_neg (by omega)]
     by_cases h2:ka=2
     ·subst h2
      rw [if_pos ⟨rfl,rfl⟩]
      exact (un_neg (k:=(mD 8 0 x).1) (n:=(mD 8 0 x).2.1) (e:=(mD 8 0 x).2.2) ha hB fa rfl).mono fun _ _ h=>pg rfl h
     ·rw [if_neg (fun h=>h2 h.2),if_neg (by omega),if_neg (by omega)]
      exact (xB ha hB fa h2).mono fun _ _ h=>bX h
    ·rw [if_neg (by omega),if_neg (by omega)]
     by_cases h3:ka=3
     ·subst h3
      rw [if_pos ⟨rfl,.inl rfl⟩]
      exact (vm ha hB fa).mono fun _ _ h=>eL h (kU (by omega) (by have:=gp fa;omega))
     ·by_cases h5:ka=5
      ·subst h5
       rw [if_pos ⟨rfl,.inr rfl⟩]
       exact (un_len5 ha hB fa).mono fun _ _ h=>eL h (kU (by omega) (by omega))
      ·rw [if_neg (by omega)]
       by_cases h7:ka=7
       ·subst h7
        rw [if_pos ⟨rfl,rfl⟩]
        exact (un_len7 ha hB fa).mono fun _ _ h=>eL h (kU (by omega) (by have:=(fA fa).1;omega))
       ·rw [if_neg (by omega)]
        exact (xC ha hB fa h3 h5 h7).mono fun _ _ h=>bX h
 ·rw [if_pos (.inl fa)]
  exact (un_bad ha hB fa).mono fun _ _ h=>bX h
def EvS (S base D:Nat) (bn bt:Value) (w:World) (ts:List Tm) (next:Int):Prop:=∃xs A c,xs.map SV.t=ts∧StkE S base D bn bt w xs next A c
def EvE (S base D:Nat) (bn bt:Value) (w w':World) (e:Int) (ts:List Tm) (next:Int) (z:Ending):Prop:=
 z=.returned (.int .i64 e)∧BelX base S w w'∧(e=0→EvS S base D bn bt w' ts next)
theorem EvS.later {S base D:Nat} {bn bt:Value} {w w':World} {ts:List Tm} {next:Int} (h:EvS S base D bn bt w ts next) (hb:Below w.heap.size w w'):EvS S base D bn bt w' ts next:=by
 obtain ⟨xs,A,c,h1,h2⟩:=h
 exact ⟨xs,A,c,h1,h2.later hb⟩
theorem xX.ev {S base D:Nat} {bn bt:Value} {w:World} {xs:List SV} {x:SV} {next e:Int} {ts:List Tm} (h:xX S base D bn bt w xs x next e) (ht:xs.map SV.t=ts) (he:e=0):EvS S base D bn bt w (ts++[x.t]) next:=by
 rcases h with ⟨_,A,c,h⟩ | ⟨h,_⟩
 ·exact ⟨xs++[x],A,c,by rw [List.map_append,ht];rfl,h⟩
 ·exact absurd he h
theorem jS {S base D c:Nat} {bn bt:Value} {w:World} {xs:List SV} {next:Int} {A:Option Addr} (h:StkE S base D bn bt w xs next A c) {x:SV} {n:Nat} (hx:∀a,x.a=some a→n≤a.block) (hn:w.heap.size≤n):mK S A x:=by
 intro a ha
 have h1:=hx a ha
 have h2:=h.hd.blk.lt
 refine ⟨by omega,fun b hb=>?_⟩
 subst hb
 obtain ⟨cells,how,_⟩:=h.own
 have:=(how.lt b.block rfl).2
 omega
theorem rR {S base D B d c:Nat} {bn bt:Value} {w:World} {xs:List SV} {x:SV} {next:Int} {A:Option Addr} {o:OpD} {ovs:List Value} (h:StkE S base D bn bt w (xs++[x]) next A c) (ho:(OpR d).rd w B o ovs) (hb:base≤w.heap.size) (hn:xs.length≤100000) :
 Calls Tryz.prog 176 #[.pointer (some ⟨S,0,none⟩),.agg ovs.toArray] w fun e w'=>EvE S base D bn bt w w' (unR o.code x.t).2 (xs.map SV.t++[(unR o.code x.t).1]) next e:=by
 obtain ⟨ts,rfl,_,_,_,ht⟩:=ho
 obtain ⟨At,ct,rfl,_⟩:=RTm.cells ht
 have hSlt:=h.hd.blk.lt
 have HS:=ym h
 clear h ht
 go_enter Tryz.func176,Tryz.ntmps176
 go_wp2_with fail
 generalize hW:World.alloc _ _=w1
 obtain ⟨hb1,hz⟩:=al1 hW
 have b_o:=n11 hW
 have HS1:=ym (HS.out.later (hb1.drew))
 have HB1:=ym hb1
 have BO:=ym b_o
 have k_o:=b_o.cell
 clear hW hb1 b_o
 go_region_with (first
  | (go_at_call 179
     refine (ll HS1.out hn).mono ?_
     rintro e w2 ⟨rfl,he,hs,htm,hap,hlt⟩
     have k_o2:=(he.blk (by omega) BO.out.drew).cell
     have HS2:=ym (And.intro hs (And.intro htm he))
     clear he hs htm hap hlt)
  | (go_at_call 188
     refine (vn (code:=o.code) (a:=x.t) (d:=D) (vs:=[_,_,_,_]) HS2.out.2.1.1 (yo _)).mono ?_
     rintro e w3 ⟨⟨A3,c3,rfl,hown⟩,hb3⟩
     have HS3:=ym (And.intro (HS2.out.1.later hb3) (And.intro hown hb3))
     clear hown hb3)
  | (go_at_call 187
     have hsz1:=HS2.out.2.2.1.size
     have hsz2:=HS3.out.2.2.size
     have hszd:w1.drew.heap.size=w1.heap.size:=rfl
     refine (fU (x:=⟨(unR o.code x.t).1,A3,c3⟩) HS3.out.1 HS3.out.2.1.at_ (jS HS2.out.1 (fun a ha=>(HS3.out.2.1.blk a ha).1) (yo _)) (fun a ha=>⟨by have:=(HS3.out.2.1.blk a ha).1;omega,(HS3.out.2.1.blk a ha).2⟩) (by omega) hn).mono ?_
     rintro e w4 ⟨rfl,hb4,hps⟩
     have HS4:=ym (And.intro hb4 hps)
     clear hb4 hps))
 all_goals
  go_wp2_with fail
  go_ret
  refine ⟨rfl,?_,fun he=>HS4.out.2.ev rfl he⟩
  exact (((BelX.of (HB1.out.mono hb).drew).trans (.exc HS2.out.2.2 (yn hb HB1.out.size))).trans (.of (HS3.out.2.2.mono (by omega)))).trans HS4.out.1
theorem dh.exc {D S:Nat} {w w':World} {x:SV} {A:Option Addr} (h:dh D w x) (he:Exc S w w') (ha:mK S A x) (hlt:∀a,x.a=some a→a.block<w.heap.size):dh D w' x:=
 h.keep (he.1.mono (yp _)) fun a e=>he.2 a.block (hlt a e) (ha a e).1
theorem pN {S base D B d c:Nat} {bn bt:Value} {w:World} {xs:List SV} {xa xb:SV} {next:Int} {A:Option Addr} {o:OpD} {ovs:List Value} {m:Int} (h:StkE S base D bn bt w (xs++[xa]++[xb]) next A c) (ho:(OpR d).rd w B o ovs) (hb:base≤w.heap.size) (hS0:0<S) (hn:xs.length≤90000) (hm:w.cell? ⟨0,0,none⟩=some (.int .i64 m)) (h0:0<base) :
 Calls Tryz.prog 177 #[.pointer (some ⟨S,0,none⟩),.agg ovs.toArray] w fun e w'=>EvE S base D bn bt w w' (xJ o.code xa.t xb.t).2 (xs.map SV.t++[(xJ o.code xa.t xb.t).1]) next e:=by
 obtain ⟨ts,rfl,_,_,_,ht⟩:=ho
 obtain ⟨At,ct,rfl,_⟩:=RTm.cells ht
 have hSlt:=h.hd.blk.lt
 have HS:=ym h
 have HM:=ym hm
 clear h ht hm
 go_enter Tryz.func177,Tryz.ntmps177
 go_wp2_with fail
 generalize hW:World.alloc _ _=w1
 obtain ⟨hb1,hz⟩:=al1 hW
 have BO:=ym (n11 hW)
 have HS1:=ym (HS.out.later hb1)
 have HB1:=ym hb1
 clear hW hb1
 refine (ll HS1.out (by simp;omega)).mono ?_
 rintro e w2 ⟨rfl,he,hs,htm,hap,hlt⟩
 have BO2:=ym (he.blk (by omega) BO.out)
 have HS2:=ym hs
 have HX2:=ym (And.intro htm (And.intro hap (And.intro hlt he)))
 have hsz2:=he.1.size
 clear he hs htm hap hlt
 unfold SV.cs
 go_wp2_with fail
 generalize hW:World.alloc _ _=w3
 obtain ⟨hb3,hz3⟩:=al1 hW
 have BB:=ym (n11 hW)
 have BO3:=ym (BO2.out.later hb3)
 have HS3:=ym (HS2.out.later hb3.drew)
 have HB3:=ym hb3
 have HX3:=ym (HX2.out.1.later hb3.drew)
 have k_o:=BO3.out.cell
 have k_b:=BB.out.cell
 clear hW hb3
 go_region_with (first
  | (go_at_call 179
     refine (ll HS3.out (by omega)).mono ?_
     rintro e w4 ⟨rfl,he,hs,htm,hap,hlt⟩
     have k_o2:=(he.blk (by omega) BO3.out.drew).cell
     have k_b2:=(he.blk (by omega) BB.out.drew).cell
     have hxb:=HX3.out.exc he HX2.out.2.1 (fun a ha=>yr (HX2.out.2.2.1 a ha).2 (by show w1.heap.size≤w3.heap.size;omega))
     have HS4:=ym (And.intro hs (And.intro htm (And.intro hxb he)))
     clear he hs htm hap hlt hxb)
  | (go_at_call 189
     have hb4:BelX base S w w4:=((((BelX.of (HB1.out.mono hb)).trans (.exc HX2.out.2.2.2 (by omega))).trans (.of (HB3.out.mono (by omega)))).drew).trans (.exc HS4.out.2.2.2 (show base≤w3.heap.size by omega))
     have hsz4:=hb4.size
     refine (rG (code:=o.code) (a:=xa.t) (b:=xb.t) (d:=D) (vs:=[_,_,_,_]) (ws:=[_,_,_,_]) HS4.out.2.1.1 HS4.out.2.2.1.1 (yo _) ((((hb4.mono (show 1≤base from h0)).low hS0).cell (p:=⟨0,0,none⟩) (Nat.lt_succ_self 0)).trans HM.out) (by omega)).mono ?_
     rintro e w5 ⟨⟨A3,c3,rfl,hown⟩,hb5⟩
     have HS5:=ym (And.intro (HS4.out.1.later hb5) (And.intro hown (And.intro hb5 hb4)))
     clear hown hb5 hb4)
  | (go_at_call 187
     have hsz5:=HS5.out.2.2.1.size
     have hsz4b:=HS5.out.2.2.2.size
     refine (fU (x:=⟨(xJ o.code xa.t xb.t).1,A3,c3⟩) HS5.out.1 HS5.out.2.1.at_ (jS HS4.out.1 (fun a ha=>(HS5.out.2.1.blk a ha).1) (yo _)) (fun a ha=>⟨by have:=(HS5.out.2.1.blk a ha).1;omega,(HS5.out.2.1.blk a ha).2⟩) (by omega) (by omega)).mono ?_
     rintro e w6 ⟨rfl,hb6,hps⟩
     have HS6:=ym (And.intro hb6 hps)
     clear hb6 hps))
 all_goals
  go_wp2_with fail
  go_ret
  refine ⟨rfl,?_,fun he=>HS6.out.2.ev rfl he⟩
  exact (HS5.out.2.2.2.trans (.of (HS5.out.2.2.1.mono (yn hb HS5.out.2.2.2.size)))).trans HS6.out.1
def vE (o:OpD) (t:Tm) (ts:List Tm) (next:Int):Int × List Tm × Int:=
 if t.kind≠6 then (7,ts,next)
 else if (decide (t.n=1)==decide (o.kind=5))=true then (0,ts++[t],wrap64 (next+o.skip))
 else (0,ts,next)
theorem og {S base D B d c:Nat} {bn bt:Value} {w:World} {xs:List SV} {x:SV} {next:Int} {A:Option Addr} {o:OpD} {ovs:List Value} (h:StkE S base D bn bt w (xs++[x]) next A c) (ho:(OpR d).rd w B o ovs) (hb:base≤w.heap.size) (hn:xs.length≤90000) :
 Calls Tryz.prog 178 #[.pointer (some ⟨S,0,none⟩),.agg ovs.toArray] w fun e w'=>EvE S base D bn bt w w' (vE o x.t (xs.map SV.t) next).1 (vE o x.t (xs.map SV.t) next).2.1 (vE o x.t (xs.map SV.t) next).2.2 e:=by
 obtain ⟨ts,rfl,_,_,_,ht⟩:=ho
 obtain ⟨At,ct,rfl,_⟩:=RTm.cells ht
 have hSlt:=h.hd.blk.lt
 have HS:=ym h
 clear h ht
 go_enter Tryz.func178,Tryz.ntmps178
 go_wp2_with fail
 generalize hW:World.alloc _ _=w1
 obtain ⟨hb1,hz⟩:=al1 hW
 have BO:=ym (n11 hW)
 have HS1:=ym (HS.out.later hb1)
 have HB1:=ym hb1
 clear hW hb1
 refine (ll HS1.out (by omega)).mono ?_
 rintro e w2 ⟨rfl,he,hs,htm,hap,hlt⟩
 have BO2:=ym (he.blk (by omega) BO.out)
 have HS2:=ym hs
 have HX2:=ym (And.intro htm (And.intro hap (And.intro hlt he)))
 have hsz2:=he.1.size
 clear he hs htm hap hlt
 unfold SV.cs
 go_upto_region 2 with fail
 generalize hW:World.alloc _ _=w3
 obtain ⟨hb3,hz3⟩:=al1 hW
 have BB:=ym (n11 hW)
 have BO3:=ym (BO2.out.later hb3)
 have HS3:=ym (HS2.out.later hb3)
 have HX3:=ym (HX2.out.1.later hb3)
 have HBw:Hid (BelX base S w w3):=ym (((BelX.of (HB1.out.mono hb)).trans (.exc HX2.out.2.2.2 (by omega))).trans (.of (hb3.mono (by omega))))
 have HLT:Hid (∀a,x.a=some a→base≤a.block∧a.block<w3.heap.size):=ym fun a ha=>by have:=HX2.out.2.2.1 a ha;omega
 have k_b:=BB.out.cell
 have k_o:=BO3.out.cell
 clear hW hb3
 by_cases h6:x.t.kind=6
 ·have q6:(x.t.kind !=6)=false:=by rw [h6];rfl
  by_cases hq:(decide (x.t.n=1)==decide (o.kind=5))=true
  ·have HR:Hid (vE o x.t (xs.map SV.t) next=(0,xs.map SV.t++[x.t],wrap64 (next+o.skip))):=ym (by unfold vE;rw [if_neg (by simp [h6]),if_pos hq])
   have hq2:((x.t.n==1)==(o.kind==5))=true:=hq
   clear hq h6
   have k_s:=HS3.out.hd.blk.cell
   have f_s:=HS3.out.hd.blk.free
   have hS3:S<w3.heap.size:=by omega
   go_wp2_with fail
   go_region
   have HB4:Hid (BelX base S w (w3.setCell ⟨S,3,none⟩ (.int .i64 (wrap64 (next+o.skip)))).drew):=ym (HBw.out.setS 3 _).drew
   have HS4:Hid (StkE S base D bn bt (w3.setCell ⟨S,3,none⟩ (.int .i64 (wrap64 (next+o.skip)))).drew xs (wrap64 (next+o.skip)) A c):=ym ((HS3.out.head _).later (yq _ _).drew)
   have HE4:Hid (Exc S w3 (w3.setCell ⟨S,3,none⟩ (.int .i64 (wrap64 (next+o.skip)))).drew):=ym ((Exc.refl S w3).set 3 _).drew
   have BB4:=ym (HE4.out.blk (by omega) BB.out)
   generalize (w3.setCell ⟨S,3,none⟩ (.int .i64 (wrap64 (next+o.skip)))).drew=w4 at *
   clear k_b k_o k_s f_s
   have k_b:=BB4.out.cell
   have hsz4:=HE4.out.1.size
   go_wp2_with fail
   refine (fU (x:=x) HS4.out (HX3.out.exc HE4.out HX2.out.2.1 fun a ha=>(HLT.out a ha).2) HX2.out.2.1 (fun a ha=>⟨(HLT.out a ha).1,yr (HLT.out a ha).2 hsz4⟩) (by omega) (by omega)).mono ?_
   rintro e w5 ⟨rfl,hb5,hps⟩
   have HS5:=ym (And.intro hb5 hps)
   clear hb5 hps
   go_wp2_with fail
   go_ret
   rw [HR.out]
   exact ⟨rfl,HB4.out.trans HS5.out.1,fun he=>HS5.out.2.ev rfl rfl⟩
  ·have HR:Hid (vE o x.t (xs.map SV.t) next=(0,xs.map SV.t,next)):=ym (by unfold vE;rw [if_neg (by simp [h6]),if_neg hq])
   have hq2:((x.t.n==1)==(o.kind==5))=false:=by rw [Bool.eq_false_iff];exact hq
   clear hq h6
   go_wp2_with fail
   go_ret
   rw [HR.out]
   exact ⟨rfl,HBw.out,fun _=>⟨xs,A,c,rfl,HS3.out⟩⟩
 ·have q6:(x.t.kind !=6)=true:=by simpa using h6
  have HR:Hid (vE o x.t (xs.map SV.t) next=(7,xs.map SV.t,next)):=ym (by unfold vE;rw [if_pos h6])
  clear h6
  go_wp2_with fail
  go_ret
  rw [HR.out]
  exact ⟨rfl,HBw.out,fun h=>absurd (show (7:Int)=0 from h) (by decide)⟩
def sR (b:Bd) (t:Tm) (ts:List Tm):Int × List Tm:=
 if t.kind=1 then
  match cT b (bs t.s) with
  | none=>(8,ts)
  | some u=>(0,ts++[u])
 else (0,ts++[t])
theorem ur {b:Bd} {n:aW} {u:Tm} (h:cT b n=some u):u∈b.terms:=by
 unfold cT at h
 split at h
 ·exact List.mem_of_getElem? h
 ·cases h
theorem lZ.no {d:Nat} {w w':World} {z:Ending} (h:lZ d w w' none z):(∃A c,z=.returned (.tuple #[.agg #[.int .i64 0,.int .i64 0,.string ⟨#[]⟩,.slice A 0 c],.bool false]))∧Below w.heap.size w w':=by
 obtain ⟨⟨A,c,e,_⟩,hb⟩:=h
 exact ⟨⟨A,c,e⟩,hb⟩
theorem lZ.yes {d:Nat} {w w':World} {u:Tm} {z:Ending} (h:lZ d w w' (some u) z):(∃A c,z=.returned (.tuple #[.agg #[.int .i64 u.kind,.int .i64 u.n,.string u.s,.slice A u.l.length c],.bool true])∧TmOwn d w.heap.size w' u A c)∧Below w.heap.size w w':=h
theorem rS {S base D B c cn ct:Nat} {b:Bd} {An At:Option Addr} {w:World} {xs:List SV} {next:Int} {A:Option Addr} {o:OpD} {ovs:List Value} (hok:BdOk b) (hbn:RL cR w B (b.names.map mkS) An) (hbt:RL (TmR (D+1)) w B b.terms At)
 (h:StkE S base D (.slice An b.names.length cn) (.slice At b.terms.length ct) w xs next A c) (ho:(OpR (D+1)).rd w B o ovs) (hol:∀u∈o.term.l,iP u) (ho16:o.term.l.length≤16) (hB:B≤w.heap.size) (hb:base≤w.heap.size) (hn:xs.length≤90000) :
 Calls Tryz.prog 175 #[.pointer (some ⟨S,0,none⟩),.agg ovs.toArray] w fun e w'=>EvE S base D (.slice An b.names.length cn) (.slice At b.terms.length ct) w w' (sR b o.term (xs.map SV.t)).1 (sR b o.term (xs.map SV.t)).2 next e:=by
 obtain ⟨ts,rfl,_,_,_,ht⟩:=ho
 obtain ⟨Ao,co,rfl,_,_,hs,hk,hi,hr⟩:=RTm.cells ht
 have hSlt:=h.hd.blk.lt
 have HS:=ym h
 have HOK:=ym hok
 have HN:=ym hbn
 have HT:=ym hbt
 have HR:=ym (And.intro (jJ.rl hr) (And.intro hol (And.intro hk (And.intro hi hs))))
 clear h ht hr hol hok hbn hbt
 go_enter Tryz.func175,Tryz.ntmps175
 by_cases h1:o.term.kind=1
 ·have q1:(o.term.kind==1)=true:=by rw [h1];rfl
  go_upto_region 4 with fail
  generalize hW:World.alloc _ _=w1
  obtain ⟨hb1,hz⟩:=al2 hW
  have b_t:=n22 hW
  have BT:=ym b_t
  have HB1:=ym hb1
  have HS1:=ym (HS.out.later hb1)
  have HN1:=ym (HN.out.keep hb1.drew hB)
  have HT1:=ym (HT.out.keep hb1.drew hB)
  have hB1:B≤w1.drew.heap.size:=yn hB hb1.size
  have k_t:=b_t.cell
  have l_t:=b_t.lt
  have f_t:=b_t.free
  have k_s:=HS1.out.hd.blk.cell
  have l_s:=HS1.out.hd.blk.lt
  clear hW hb1 b_t
  rcases hL:cT b (bs o.term.s) with _ | u
  ·have HV:Hid (sR b o.term (xs.map SV.t)=(8,xs.map SV.t)):=ym (by unfold sR;rw [if_pos h1,hL])
   have HL:=ym hL
   clear h1 hL
   go_region_with (first
    | (go_at_call 102
       refine (kN (cn:=cn) (ct:=ct) (name:=o.term.s) HOK.out HN1.out HT1.out hB1).mono ?_
       rintro e w2 hE
       rw [HL.out] at hE
       obtain ⟨⟨A2,c2,rfl⟩,hb2⟩:=hE.no
       have b_t2:=BT.out.drew.later hb2
       have k_t2:=b_t2.cell
       have l_t2:=b_t2.lt
       have f_t2:=b_t2.free
       have HF:=ym (Below.trans HB1.out.drew (hb2.mono (show w.heap.size≤w1.drew.heap.size from HB1.out.size)))
       clear hE hb2 b_t2))
   all_goals
    go_wp2_with fail
    go_ret
    rw [HV.out]
    exact ⟨rfl,.of ((cB HF.out (Nat.le_succ _) _ _ _ _).mono hb),fun h=>absurd (show (8:Int)=0 from h) (by decide)⟩
  ·have HV:Hid (sR b o.term (xs.map SV.t)=(0,xs.map SV.t++[u])):=ym (by unfold sR;rw [if_pos h1,hL])
   have HL:=ym hL
   clear h1 hL
   go_region_with (first
    | (go_at_call 102
       refine (kN (cn:=cn) (ct:=ct) (name:=o.term.s) HOK.out HN1.out HT1.out hB1).mono ?_
       rintro e w2 hE
       rw [HL.out] at hE
       obtain ⟨⟨A2,c2,rfl,hown⟩,hb2⟩:=hE.yes
       have b_t2:=BT.out.drew.later hb2
       have k_t2:=b_t2.cell
       have l_t2:=b_t2.lt
       have f_t2:=b_t2.free
       have HF:=ym (And.intro (Below.trans HB1.out.drew (hb2.mono (show w.heap.size≤w1.drew.heap.size from HB1.out.size))) (And.intro hown b_t2))
       clear hE hb2 b_t2 hown))
   all_goals
    have HB3:=ym (cB HF.out.1 (Nat.le_succ _) (.int .i64 u.kind) (.int .i64 u.n) (.string u.s) (.slice A2 u.l.length c2))
    have HO3:=ym (HF.out.2.1.put4 (g:=w.heap.size+1) (show w.heap.size+1<w1.heap.size by omega) (.int .i64 u.kind) (.int .i64 u.n) (.string u.s) (.slice A2 u.l.length c2))
    have BT3:=ym (dq HF.out.2.2 (.int .i64 u.kind) (.int .i64 u.n) (.string u.s) (.slice A2 u.l.length c2))
    generalize ((((w2.setCell ⟨w.heap.size+1,0,none⟩ (.int .i64 u.kind)).setCell ⟨w.heap.size+1,1,none⟩ (.int .i64 u.n)).setCell ⟨w.heap.size+1,2,none⟩ (.string u.s)).setCell ⟨w.heap.size+1,3,none⟩ (.slice A2 u.l.length c2))=w3 at *
    clear k_t2 l_t2 f_t2 k_t l_t f_t
    have k_t:=BT3.out.cell
    have l_t:=BT3.out.lt
    have f_t:=BT3.out.free
    go_wp2_with fail
    obtain ⟨hle,hl16⟩:=aJ (HOK.out.fixed u (ur HL.out))
    obtain ⟨Az,cz,hez,_,_,_,_,_,hrz⟩:=RTm.cells HO3.out.rtm
    simp only [List.cons.injEq,yB,and_true,true_and] at hez
    obtain ⟨rfl,rfl⟩:=hez
    refine (bP (jJ.rl hrz) (yo _) (by omega)).mono ?_
    rintro e w4 ⟨⟨v,rfl,hv⟩,hb4⟩
    obtain ⟨A4,c4,rfl⟩:=hv.form
    have HO4:Hid (TmOwn D w3.heap.size w4 u A4 c4):=ym ⟨hv.leaves hle,HO3.out.k,HO3.out.n,HO3.out.s,by omega⟩
    have b_t4:=BT3.out.later hb4
    have HB4:=ym (ac HB3.out hb4)
    clear k_t l_t f_t hv hb4 hrz
    have k_t:=b_t4.cell
    have l_t:=b_t4.lt
    have f_t:=b_t4.free
    go_wp2_with fail
    have hlt3:=BT3.out.lt
    have HB5:Hid (Below w.heap.size w (w4.setCell ⟨w.heap.size+1,3,none⟩ (.slice A4 u.l.length c4))):=ym (HB4.out.setCell (p:=⟨w.heap.size+1,3,none⟩) (by show w.heap.size≤w.heap.size+1;omega) _)
    have HO5:=ym (HO4.out.far (g:=w.heap.size+1) (i:=3) (by omega) (.slice A4 u.l.length c4))
    have HS5:=ym (HS.out.later HB5.out)
    generalize (w4.setCell ⟨w.heap.size+1,3,none⟩ (.slice A4 u.l.length c4))=w5 at *
    have hsz5:=HB5.out.size
    refine (fU (x:=⟨u,A4,c4⟩) HS5.out HO5.out.at_ (jS HS.out (fun a ha=>(HO5.out.blk a ha).1) (by omega)) (fun a ha=>⟨by have:=(HO5.out.blk a ha).1;omega,(HO5.out.blk a ha).2⟩) (by omega) (by omega)).mono ?_
    rintro e w6 ⟨rfl,hb6,hps⟩
    have HS6:=ym (And.intro hb6 hps)
    clear hb6 hps k_t l_t f_t b_t4
    go_wp2_with fail
    go_ret
    rw [HV.out]
    exact ⟨rfl,(BelX.of (HB5.out.mono hb)).trans HS6.out.1,fun he=>HS6.out.2.ev rfl rfl⟩
 ·have q1:(o.term.kind==1)=false:=by simpa using h1
  have HV:Hid (sR b o.term (xs.map SV.t)=(0,xs.map SV.t++[o.term])):=ym (by unfold sR;rw [if_neg h1])
  clear h1
  go_wp2_with fail
  generalize hW:World.alloc _ _=w1
  obtain ⟨hb1,hz⟩:=al2 hW
  have b_t:=n22 hW
  have HR1:=ym (HR.out.1.keep hb1 hB)
  have HB1:=ym hb1
  clear hW
  refine (bP HR1.out (yn hB hb1.size) (by omega)).mono ?_
  rintro e w2 ⟨⟨v,rfl,hv⟩,hb2⟩
  obtain ⟨A2,c2,rfl⟩:=hv.form
  have HO:Hid (TmOwn D w1.heap.size w2 o.term A2 c2):=ym ⟨hv.leaves HR.out.2.1,HR.out.2.2.1,HR.out.2.2.2.1,HR.out.2.2.2.2,by omega⟩
  have b_t2:=b_t.later hb2
  have HB2:=ym (ac HB1.out hb2)
  have k_t:=b_t2.cell
  have l_t:=b_t2.lt
  have f_t:=b_t2.free
  clear hv hb2 b_t
  go_wp2_with fail
  have HB3:Hid (Below w.heap.size w (w2.setCell ⟨w.heap.size+1,3,none⟩ (.slice A2 o.term.l.length c2))):=ym (HB2.out.setCell (p:=⟨w.heap.size+1,3,none⟩) (by show w.heap.size≤w.heap.size+1;omega) _)
  have HO3:=ym (HO.out.far (g:=w.heap.size+1) (i:=3) (by omega) (.slice A2 o.term.l.length c2))
  have HS3:=ym (HS.out.later HB3.out)
  generalize (w2.setCell ⟨w.heap.size+1,3,none⟩ (.slice A2 o.term.l.length c2))=w3 at *
  have hsz3:=HB3.out.size
  refine (fU (x:=⟨o.term,A2,c2⟩) HS3.out HO3.out.at_ (jS HS.out (fun a ha=>(HO3.out.blk a ha).1) (by omega)) (fun a ha=>⟨by have:=(HO3.out.blk a ha).1;omega,(HO3.out.blk a ha).2⟩) (by omega) (by omega)).mono ?_
  rintro e w4 ⟨rfl,hb4,hps⟩
  have HS4:=ym (And.intro hb4 hps)
  clear hb4 hps k_t l_t f_t b_t2
  go_wp2_with fail
  go_ret
  rw [HV.out]
  exact ⟨rfl,(BelX.of (HB3.out.mono hb)).trans HS4.out.1,fun he=>HS4.out.2.ev rfl rfl⟩
end Go.Proofs.YtjpndglegpcdnaaGreat
