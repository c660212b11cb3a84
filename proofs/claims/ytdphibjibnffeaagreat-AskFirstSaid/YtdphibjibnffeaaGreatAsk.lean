/- ask.Query, bodies, Every. Printed by mk_ask.py. -/
import Derived.Test.YtdphibjibnffeaaGreatRef1
import Derived.Test.YtdphibjibnffeaaGreatRs3
import Derived.Test.YtdphibjibnffeaaGreatSize
import Derived.Test.YtdphibjibnffeaaGreatRule4
import Derived.Test.YtdphibjibnffeaaGreatTrue
set_option linter.unusedVariables false
set_option linter.unusedSimpArgs false
set_option maxRecDepth 100000
set_option maxHeartbeats 8000000
namespace Go.Proofs.YtdphibjibnffeaaGreat
open Go.ChangeShapes Go.WideShapes Go.ChangeAt Go.RowKit
theorem nq {α:Type} {R:Reader α} (w:World) (B:Nat):RSl R w B [] (.slice none 0 0):=⟨none,0,rfl,by simp,by simp,fun h=>absurd h (by simp)⟩
theorem sX {d B:Nat} {w:World} {f:Fc} {A:Option Addr} {c:Nat} (h:(az d).rd w B f [.string f.pr.name,.slice A f.pr.terms.length c,.int .u32 f.o]):(RuR d).rd w B ⟨f.pr,[],[],[]⟩ [.string f.pr.name,.slice A f.pr.terms.length c,.slice none 0 0,.slice none 0 0,.slice none 0 0]:=by
 obtain ⟨v,e,⟨v2,e2,h1,h2⟩,_⟩:=h
 simp only [List.cons.injEq,and_true,true_and] at e e2
 obtain rfl:=e
 obtain rfl:=e2
 exact ⟨_,_,_,_,rfl,h1,h2,nq _ _,nq _ _,nq _ _⟩
theorem uE {d B c:Nat} {l:List Fc} {A:Option Addr} {w:World} (hl:RL (az (d+1)) w B l A) (hB:B≤w.heap.size) (hn:l.length≤140737488351232) :
 Calls Tryz.prog 101 #[.slice A l.length c] w fun z w'=>(∃q,z=.returned (.bool q)∧(q=true→l.length≤600))∧Below w.heap.size w w':=by
 have HL:=zl hl
 clear hl
 go_enter Tryz.func101,Tryz.ntmps101
 go_wp2_with fail
 go_loopw [3,8] (fun u i wr=>∃(k:Nat) (n:Int),k≤l.length∧i=.int .i64 k∧u=.int .i64 n∧(k:Int)≤n∧n≤600∧Hid (Below w.heap.size w wr)) (fun _ i _=>l.length-(intOf i).toNat)
 case atStart=>exact ⟨0,0,zo _,rfl,rfl,by omega,by omega,zl (zp _ _)⟩
 case round=>
  obtain ⟨k,n,hk,rfl,rfl,hkn,hn6,HW⟩:=hrel
  have hszr:=HW.out.size
  by_cases hlt:k<l.length
  ·obtain ⟨b,off,rfl,hob⟩:=HL.out.base HW.out hB (by omega)
   obtain ⟨x,vs,hx,hlen,hcell,hr⟩:=HL.out.at_ HW.out hB hlt
   obtain ⟨Ax,cx,rfl,_⟩:=aL hr
   have c0:wr.cell? ⟨b,off+k*3,none⟩=some (.string x.pr.name):=hcell 0 _ rfl
   have c1:wr.cell? ⟨b,off+k*3+1,none⟩=some (.slice Ax x.pr.terms.length cx):=hcell 1 _ rfl
   have c2:wr.cell? ⟨b,off+k*3+2,none⟩=some (.int .u32 x.o):=hcell 2 _ rfl
   have HX:=zl hx
   have HR:=zl hr
   clear hx hr hcell hlen
   go_wp2_with fail
   generalize hW2:World.alloc _ _=w2
   obtain ⟨hb2,hz2⟩:=al1 hW2
   have HB2:=zl hb2
   have hsz2:=hb2.size
   clear hW2 hz2 hb2 c0 c1 c2
   refine (mE (d:=d+1) (B:=B) (r:=⟨x.pr,[],[],[]⟩) (vs:=[_,_,_,_,_]) (sX ((az (d+1)).keep HB2.out (zm hB hszr) HR.out)) (by omega)).mono ?_
   rintro z w3 ⟨⟨m,rfl,hm0,hm1⟩,hb3⟩
   have HB3:=zl (ab HW.out (ab HB2.out hb3))
   clear hb3
   by_cases hg:600<n+(1+m)
   ·go_wp2_with fail
    go_ret
    exact ⟨⟨false,rfl,by simp⟩,HB3.out⟩
   ·go_wp2_with fail
    go_roundw
    case rel=>exact ⟨k+1,n+(1+m),by omega,by go_num,rfl,by omega,by omega,HB3⟩
    case measure=>simp [intOf];omega
  ·go_wp2_with fail
   go_ret
   exact ⟨⟨true,rfl,fun _=>by omega⟩,HW.out⟩
theorem mp {d B c:Nat} {l:List Fc} {A:Option Addr} {w:World} (hl:RL (az (d+1)) w B l A) (hB:B≤w.heap.size) (hn:l.length≤140737488351232) :
 Calls Tryz.prog 47 #[.slice A l.length c] w fun z w'=>(∃q:Int,z=.returned (.int .i64 q)∧(q=0→l.length≤600))∧Below w.heap.size w w':=by
 go_enter Tryz.func47,Tryz.ntmps47
 go_wp2_with fail
 refine (uE hl hB hn).mono ?_
 rintro z w1 ⟨⟨q,rfl,hq⟩,hb⟩
 cases q
 ·go_wp2_with fail
  go_ret
  exact ⟨⟨1,rfl,by omega⟩,hb⟩
 ·go_wp2_with fail
  go_ret
  exact ⟨⟨0,rfl,fun _=>hq trivial⟩,hb⟩
structure TwoS (d B:Nat) (w:World) (S:Nat) (xs:List FV) (A:Option Addr) (c M:Nat) (ys:List FV) (A':Option Addr) (c':Nat):Prop where
 s:StA (M+1) d w S xs A c
 m:DSt (M+1) d B w M ys A' c'
 ap:∀k,(Value.slice A xs.length c).ownBlock=some k→(Value.slice A' ys.length c').ownBlock≠some k
 ne:S<M
 hB:B≤S
section
variable {d B S M c c' c2:Nat} {w w':World} {xs ys xs2 ys2:List FV} {A A' A2:Option Addr}
theorem TwoS.later (h:TwoS d B w S xs A c M ys A' c') (hb:Below w.heap.size w w'):TwoS d B w' S xs A c M ys A' c':=⟨h.s.later hb,h.m.later hb,h.ap,h.ne,h.hB⟩
theorem TwoS.addS (h:TwoS d B w S xs A c M ys A' c') (hs:StA (M+1) d w' S xs2 A2 c2) (ha:aw (StM S (.slice A xs.length c)) w w') (hf:bA w (.slice A xs.length c) (.slice A2 xs2.length c2)):TwoS d B w' S xs2 A2 c2 M ys A' c':=by
 refine ⟨hs,h.m.agree ha (fun k hk hl=>?_),fun k hk hm=>?_,h.ne,h.hB⟩
 ·have hne:=h.ne
  have hB:=h.hB
  rcases hk with rfl | hk
  ·refine ⟨hB,fun hm=>?_⟩
   rcases hm with hm | hm
   ·omega
   ·have:=(h.m.row.lt k hm).1;omega
  ·have h1:=(h.s.row.lt k hk).1
   refine ⟨by omega,fun hm=>?_⟩
   rcases hm with hm | hm
   ·omega
   ·exact h.ap k hk hm
 ·rcases hf with e | ⟨k2,e,hk2⟩
  ·rw [e] at hk;exact h.ap k hk hm
  ·rw [e] at hk
   simp only [Option.some.injEq] at hk
   have:=(h.m.row.lt k hm).2
   omega
theorem TwoS.addM (h:TwoS d B w S xs A c M ys A' c') (hs:DSt (M+1) d B w' M ys2 A2 c2) (ha:aw (fun k=>k=M) w w') (hf:bA w (.slice A' ys.length c') (.slice A2 ys2.length c2)):TwoS d B w' S xs A c M ys2 A2 c2:=by
 refine ⟨h.s.agree ha (fun k hk hl hm=>?_) (fun k hk hl=>.inl (by omega)),hs,fun k hk hm=>?_,h.ne,h.hB⟩
 ·have hne:=h.ne
  rcases hm with hm | hm
  ·omega
  ·have:=(h.s.row.lt k hm).1;omega
 ·rcases hf with e | ⟨k2,e,hk2⟩
  ·rw [e] at hm;exact h.ap k hk hm
  ·rw [e] at hm
   simp only [Option.some.injEq] at hm
   have:=(h.s.row.lt k hk).2
   omega
end
def MadeE (d B:Nat) (w w':World) (l:List Fc) (z:Ending):Prop:=
 ∃S M xs A c ys A' c',z=.returned (.tuple #[.pointer (some ⟨S,0,none⟩),.pointer (some ⟨M,0,none⟩)])∧TwoS d B w' S xs A c M ys A' c'∧xs.map FV.f=stL l∧ys.map FV.f=stL l∧Below w.heap.size w w'
theorem rB {l:List Fc} {k:Nat} {x:Fc} (h:l[k]? = some x):stL (l.take (k+1))=rK (stL (l.take k)) x:=by
 rw [←yg]
 congr 1
 obtain ⟨hk,rfl⟩:=List.getElem?_eq_some_iff.1 h
 rw [List.take_succ_eq_append_getElem hk]
theorem vu {d B c:Nat} {l:List Fc} {A:Option Addr} {w:World} (hl:RL (az (d+1)) w B l A) (hB:B≤w.heap.size) (hn:l.length≤100000) :
 Calls Tryz.prog 17 #[.slice A l.length c] w fun z w'=>MadeE d B w w' l z:=by
 have HL:=zl hl
 clear hl
 go_enter Tryz.func17,Tryz.ntmps17
 go_wp2_with fail
 refine (wg d).mono ?_
 rintro e w1 ⟨rfl,hs,hb1⟩
 have HS1:=zl hs
 have HB1:=zl hb1
 have hsl:=hs.hd.lt
 clear hs hb1
 go_upto_region 3 with fail
 generalize hW:World.alloc _ _=w2
 obtain ⟨hb2,hz2⟩:=al1 hW
 have HM2:=zl (n11 hW)
 have HS2:=zl (HS1.out.hd.later hb2)
 have HB2:=zl (ab HB1.out hb2)
 have hsz1:=HB1.out.size
 have hsz2:=hb2.size
 have hml:=HM2.out.lt
 have HT2:Hid (TwoS d B w2 w.heap.size [] none 0 w1.heap.size [] none 0):=zl ⟨⟨HS2.out,by omega,by omega,aq.nil _ _ _ _ _,by simp,by simp,List.Pairwise.nil⟩,⟨HM2.out,by omega,by omega,aq.nil _ _ _ _ _,by simp,by simp,List.Pairwise.nil,by omega⟩,fun k h=>(by cases h),hsl,hB⟩
 clear hW hb2
 generalize w1.heap.size=M at *
 go_loopw [13] (fun i wr=>∃(k:Nat) (xs:List FV) (A1:Option Addr) (c1:Nat) (ys:List FV) (A2:Option Addr) (c2:Nat),k≤l.length∧i=.int .i64 k∧Hid (TwoS d B wr w.heap.size xs A1 c1 M ys A2 c2)∧Hid (xs.map FV.f=stL (l.take k))∧Hid (ys.map FV.f=stL (l.take k))∧Hid (Below w.heap.size w wr)) (fun i _=>l.length-(intOf i).toNat)
 case atStart=>exact ⟨0,[],none,0,[],none,0,zo _,rfl,HT2,zl rfl,zl rfl,HB2⟩
 case round=>
  obtain ⟨k,xs,A1,c1,ys,A2,c2,hk,rfl,HT,HX1,HY1,HW⟩:=hrel
  have hszr:=HW.out.size
  by_cases hlt:k<l.length
  ·obtain ⟨b,off,rfl,hob⟩:=HL.out.base HW.out hB (by omega)
   obtain ⟨x,vs,hx,hlen,hcell,hr⟩:=HL.out.at0 HW.out hB hlt
   have hr0:=hr
   obtain ⟨Ax,cx,rfl,_⟩:=aL hr
   have c0:wr.cell? ⟨b,off+k*3,none⟩=some (.string x.pr.name):=hcell 0 _ rfl
   have c1:wr.cell? ⟨b,off+k*3+1,none⟩=some (.slice Ax x.pr.terms.length cx):=hcell 1 _ rfl
   have c2:wr.cell? ⟨b,off+k*3+2,none⟩=some (.int .u32 x.o):=hcell 2 _ rfl
   have HXK:=zl hx
   have HR:=zl hr
   clear hr0
   clear hx hr hcell hlen
   have HXL:Hid (xs.length≤100000∧ys.length≤100000):=zl (by
    have h1:=qH (l.take k) []
    have h2:=congrArg List.length HX1.out
    have h3:=congrArg List.length HY1.out
    rw [List.length_map] at h2 h3
    rw [List.length_take] at h1
    unfold stL at h2 h3
    simp only [List.length_nil] at h1
    omega)
   go_upto_region 5 with fail
   generalize hW3:World.alloc _ _=w3
   obtain ⟨hb3,hz3⟩:=al1 hW3
   have HF3:=zl (n11 hW3)
   have HT3:=zl (HT.out.later hb3)
   have HB3:=zl (ab HW.out hb3)
   have hsz3:=hb3.size
   clear hW3 hb3 hz3 c0 c1 c2
   have k_f:=HF3.out.cell
   have l_f:=HF3.out.lt
   go_wp2_with fail
   refine (vZ (f:=x) (vf:=[_,_,_]) (B:=B) HT3.out.s ((az (d+1)).keep HB3.out hB HR.out) (by omega) HXL.out.1).mono ?_
   rintro z w4 ⟨xs2,A4,c4,rfl,hx4,hs4,ha4,hf4⟩
   have HT4:=zl (HT3.out.addS hs4 ha4 hf4)
   have HX4:Hid (xs2.map FV.f=stL (l.take (k+1))):=zl (by rw [hx4,HX1.out,rB HXK.out])
   have HF4:=zl (ha4.blk HF3.out (fun hm=>by
    rcases hm with hm | hm
    ·have h1:=HT.out.s.bw;have h2:=HT.out.ne;omega
    ·have:=(HT.out.s.row.lt _ hm).2;omega))
   have HB4:Hid (Below w.heap.size w w4):=zl (HB3.out.trans (ha4.below (fun q hq hm=>by
    rcases hm with hm | hm
    ·omega
    ·have h1:=(HT.out.s.row.lt _ hm).1;have h2:=HT.out.ne;omega) (by omega)))
   have hsz4:=ha4.size
   clear hx4 hs4 ha4 hf4 k_f l_f
   have k_f:=HF4.out.cell
   have l_f:=HF4.out.lt
   go_wp2_with fail
   refine (sU (y:=⟨x,Ax,cx⟩) (B:=B) HT4.out.m ((az (d+1)).keep HB4.out hB HR.out) HXL.out.2).mono ?_
   rintro z w5 ⟨ys2,A5,c5,rfl,hy5,hs5,ha5,hf5⟩
   have HT5:=zl (HT4.out.addM hs5 ha5 hf5)
   have HY5:Hid (ys2.map FV.f=stL (l.take (k+1))):=zl (by rw [hy5,HY1.out,rB HXK.out])
   have HB5:Hid (Below w.heap.size w w5):=zl (HB4.out.trans (ha5.below (fun q hq hm=>by have h2:=HT.out.ne;omega) (by omega)))
   clear hy5 hs5 ha5 hf5 k_f l_f
   go_wp2_with fail
   go_roundw
   case rel=>exact ⟨k+1,xs2,A4,c4,ys2,A5,c5,by omega,by go_num,HT5,HX4,HY5,HB5⟩
   case measure=>simp [intOf];omega
  ·have hkl:l.take k=l:=List.take_of_length_le (by omega)
   have HX2:=zl (HX1.out.trans (by rw [hkl]))
   have HY2:=zl (HY1.out.trans (by rw [hkl]))
   clear hkl
   go_wp2_with fail
   go_ret2
   exact ⟨w.heap.size,M,xs,A1,c1,ys,A2,c2,rfl,HT.out,HX2.out,HY2.out,HW.out⟩
theorem uF {d B c:Nat} {l:List Fc} {A:Option Addr} {r:Ru} {vr:List Value} {w:World} (hl:RL (az (d+1)) w B l A) (hr:(RuR (d+1)).rd w B r vr) (hB:B≤w.heap.size) (hn:l.length≤140737488351232) :
 Calls Tryz.prog 15 #[.slice A l.length c,.agg vr.toArray] w fun z w'=>(∃q,z=.returned (.bool q)∧(q=true→l.length≤600))∧Below w.heap.size w w':=by
 have HL:=zl hl
 have HR:=zl hr
 obtain ⟨_,_,_,_,rfl,hs,⟨A0,c0,rfl,h01,h02,hl0⟩,⟨A1,c1,rfl,h11,h12,hl1⟩,⟨A2,c2,rfl,h21,h22,hl2⟩,⟨A3,c3,rfl,h31,h32,hl3⟩⟩:=hr
 clear hl hl0 hl1 hl2 hl3
 simp only [PrR] at h12
 go_enter Tryz.func15,Tryz.ntmps15
 go_upto_region 2 with fail
 generalize hW:World.alloc _ _=w1
 obtain ⟨hb1,hz⟩:=al1 hW
 have HK1:=zl (n11 hW)
 have HB1:=zl hb1
 clear hW hb1
 have k_r:=HK1.out.cell
 have l_r:=HK1.out.lt
 go_wp2_with fail
 clear k_r l_r
 go_loopw [5,9] (fun u i wr=>∃(k:Nat) (n:Int),k≤r.body.length∧i=.int .i64 k∧u=.int .i64 n∧0≤n∧n≤30000∧wr=w1) (fun _ i _=>r.body.length-(intOf i).toNat)
 case atStart=>exact ⟨0,1,zo _,rfl,rfl,by omega,by omega,rfl⟩
 case round=>
  obtain ⟨k,n,hk,rfl,rfl,hn0,hn1,rfl⟩:=hrel
  by_cases hlt:k<r.body.length
  ·obtain ⟨m,hm⟩:∃m:Int,m=n*((l.length:Int)+1):=⟨_,rfl⟩
   have hm0:0≤m:=by rw [hm];exact Int.mul_nonneg hn0 (by omega)
   have hm1:m≤30000*140737488351233:=by rw [hm];exact Int.mul_le_mul hn1 (by omega) (by omega) (by omega)
   by_cases hg:30000<m
   ·go_wp2_with fail
    rw [←hm]
    go_wp2_with fail
    go_ret
    exact ⟨⟨false,rfl,by simp⟩,HB1.out⟩
   ·go_wp2_with fail
    rw [←hm]
    go_wp2_with fail
    go_roundw
    case rel=>exact ⟨k+1,m,by omega,by go_num,rfl,by omega,by omega,by first | trivial | rfl⟩
    case measure=>simp [intOf];omega
  ·go_wp2_with fail
   refine (mp (HL.out.keep HB1.out hB) (zm hB HB1.out.size) hn).mono ?_
   rintro z w2 ⟨⟨q,rfl,hq⟩,hb⟩
   have HK2:=zl (HK1.out.later hb)
   have HB2:=zl (ab HB1.out hb)
   clear hb
   have k_r:=HK2.out.cell
   have l_r:=HK2.out.lt
   by_cases hq0:q=0
   ·have hl6:=hq hq0
    subst hq0
    clear hq
    go_wp2_with fail
    refine (gG (d:=d+1) (B:=B) (r:=r) (vs:=[_,_,_,_,_]) ((RuR (d+1)).keep HB2.out hB HR.out) (zm hB HB2.out.size)).mono ?_
    rintro z w3 ⟨⟨m,rfl⟩,hb⟩
    have HB3:=zl (ab HB2.out hb)
    clear hb k_r l_r
    go_wp2_with fail
    go_ret
    exact ⟨⟨_,rfl,fun _=>hl6⟩,HB3.out⟩
   ·have hq1:((0:Int)==q)=false:=by simp;omega
    clear hq
    go_wp2_with fail
    go_ret
    exact ⟨⟨_,rfl,by simp⟩,HB2.out⟩
section
variable {w:World} {B d c:Nat}
theorem vn {k n:Int} {s:ByteArray} (hk:I64 k) (hn:I64 n) (hs:s.size≤140737488351232):RTm w B (d+1) ⟨k,n,s,[]⟩ [.int .i64 k,.int .i64 n,.string s,.slice none 0 0]:=
 ⟨none,0,rfl,zn _,⟨by simp,by omega⟩,hs,hk,hn,fun h=>absurd h (by simp)⟩
theorem iI {α:Type} {R:Reader α} {xs:List α} {A:Option Addr} (h:RL R w B xs A) (h1:xs.length≤c) (h2:xs.length*(8*R.k)≤140737488351232) (h3:c≤9223372036854775807):RSl R w B xs (.slice A xs.length c):=⟨A,c,rfl,h1,⟨h2,h3⟩,h⟩
theorem vm {nm:ByteArray} {ts:List Tm} {v:Value} (hn:nm.size≤140737488351232) (h:RSl (TmR d) w B ts v):(PrR d).rd w B ⟨nm,ts⟩ [.string nm,v]:=⟨v,rfl,hn,h⟩
theorem yK {f:Fc} {v:Value} (h:(PrR d).rd w B f.pr [.string f.pr.name,v]) (ho:U32 f.o):(az d).rd w B f [.string f.pr.name,v,.int .u32 f.o]:=⟨v,rfl,h,ho⟩
theorem yL {r:Ru} {v0 v1 v2 v3:Value} (hn:r.head.name.size≤140737488351232) (h0:RSl (TmR d) w B r.head.terms v0) (h1:RSl (PrR d) w B r.body v1) (h2:RSl (ExR d) w B r.exprs v2) (h3:RSl ScR w B r.scopes v3):(RuR d).rd w B r [.string r.head.name,v0,v1,v2,v3]:=⟨v0,v1,v2,v3,rfl,hn,h0,h1,h2,h3⟩
theorem dz {α:Type} {R:Reader α}:RSl R w B [] (.slice none 0 0):=⟨none,0,rfl,by simp,by simp,fun h=>absurd h (by simp)⟩
end
theorem wk (x:Ans):ly [x]=[x]:=by
 unfold ly
 rw [List.perm_singleton.1 (eQ [x])]
 rfl
theorem aq.lit {α:Type} {R:Reader α} {e:TypeId} {w:World} {base B b:Nat} {x:α} {vs:Array Value} (h:w.heap[b]? = some (.cells vs e (0,0))) (hr:R.rd w B x vs.toList) (hb:base≤b):aq R e w base B (.slice (some ⟨b,0,none⟩) 1 1) [x]:=by
 have hl:vs.size=R.k:=by rw [←R.len hr,Array.length_toList]
 exact ⟨vs.toList,⟨by simp [hl],.inr ⟨b,1,vs,rfl,hb,h,zn _,by simp [maxLen],by simp [hl],by show List.take (1*R.k) vs.toList=_;rw [Nat.one_mul,←hl,←Array.length_toList,List.take_length]⟩⟩,bi.one hr⟩
theorem rz {L:List AnV} {R:List Ans} (h:L.map AnV.x=R):decide (0<L.length)=pc R:=by
 unfold pc
 rw [←h,List.length_map]
theorem oV {d baseS B S cs:Nat} {r:Ru} {vr:List Value} {w:World} {fs:List FV} {As:Option Addr} {tr m:Int} (hr:(RuR (d+1)).rd w B r vr) (hB:B≤w.heap.size) (hS:StA baseS d w S fs As cs) (hfew:fs.length≤100000) (hm:w.cell? ⟨0,0,none⟩=some (.int .i64 m)) (hp:0<w.heap.size) :
 Calls Tryz.prog 27 #[.agg vr.toArray,.pointer (some ⟨S,0,none⟩),.int .u32 tr] w fun z w'=>z=.returned (.tuple #[.bool (ga (fs.map FV.f) tr r).1,.int .i64 (ga (fs.map FV.f) tr r).2])∧Below w.heap.size w w':=by
 have HR:=zl hr
 have HS:=zl hS
 have HM:=zl hm
 clear hS hm
 obtain ⟨_,_,_,_,rfl,_,⟨A0,c0,rfl,_⟩,⟨A1,c1,rfl,_⟩,⟨A2,c2,rfl,h21,h22,hl2⟩,⟨A3,c3,rfl,_⟩⟩:=hr
 go_enter Tryz.func27,Tryz.ntmps27
 go_upto_region 1 with fail
 generalize hW:World.alloc _ _=w1
 obtain ⟨hb1,hz⟩:=al1 hW
 have HK1:=zl (n11 hW)
 have HB1:=zl hb1
 have hsz1:=hb1.size
 clear hW hb1 hz
 have k_r:=HK1.out.cell
 have l_r:=HK1.out.lt
 go_wp2_with fail
 refine (eq (d:=d+1) (B:=B) (r:=r) (vs:=[_,_,_,_,_]) ((RuR (d+1)).keep HB1.out hB HR.out) (zm hB hsz1)).mono ?_
 rintro z w2 ⟨rfl,hb2⟩
 have HK2:=zl (HK1.out.later hb2)
 have HB2:=zl (ab HB1.out hb2)
 have hsz2:=HB2.out.size
 clear hb2 k_r l_r
 have k_r:=HK2.out.cell
 have l_r:=HK2.out.lt
 by_cases hq:ay r=true
 rotate_left
 ·have HV:Hid (ga (fs.map FV.f) tr r=(false,1)):=zl (by unfold ga;rw [if_neg hq])
  simp only [Bool.not_eq_true] at hq
  rw [hq]
  go_wp2_with fail
  go_ret2
  exact ⟨by rw [HV.out];rfl,HB2.out⟩
 have HV:Hid (ga (fs.map FV.f) tr r=(pc (aQ (fs.map FV.f) tr r).1,(aQ (fs.map FV.f) tr r).2)):=zl (by unfold ga;rw [if_pos hq])
 rw [hq]
 go_wp2_with fail
 refine (gQ (d:=d) (B:=B) (r:=r) (vr:=[_,_,_,_,_]) (tr:=tr) ((RuR (d+1)).keep HB2.out hB HR.out) (zm hB HB2.out.size) (HS.out.later HB2.out) hfew ((HB2.out.cell (p:=⟨0,0,none⟩) hp).trans HM.out) (zq hp HB2.out.size)).mono ?_
 rintro z w3 ⟨L,AL,cL,rfl,hLx,_,_,_,hb3⟩
 have HB3:=zl (ab HB2.out hb3)
 have HL:=zl (rz hLx)
 generalize aQ (fs.map FV.f) tr r=R at *
 clear hLx hb3 k_r l_r
 go_wp2_with fail
 go_ret2
 exact ⟨by rw [HV.out,←HL.out];rfl,HB3.out⟩
theorem rQ {d baseS B S cs:Nat} {r:Ru} {vr:List Value} {w:World} {fs:List FV} {As:Option Addr} {tr m:Int} (hr:(RuR (d+1)).rd w B r vr) (hB:B≤w.heap.size) (hS:StA baseS d w S fs As cs) (hfew:fs.length≤100000) (hm:w.cell? ⟨0,0,none⟩=some (.int .i64 m)) (hp:0<w.heap.size) :
 Calls Tryz.prog 76 #[.agg vr.toArray,.pointer (some ⟨S,0,none⟩),.int .u32 tr] w fun z w'=>AnsE d w w' (bY (fs.map FV.f) tr r) z:=by
 have HR:=zl hr
 have HS:=zl hS
 have HM:=zl hm
 clear hS hm
 obtain ⟨_,_,_,_,rfl,_,⟨A0,c0,rfl,_⟩,⟨A1,c1,rfl,_⟩,⟨A2,c2,rfl,h21,h22,hl2⟩,⟨A3,c3,rfl,_⟩⟩:=hr
 go_enter Tryz.func76,Tryz.ntmps76
 go_upto_region 1 with fail
 generalize hW:World.alloc _ _=w1
 obtain ⟨hb1,hz⟩:=al1 hW
 have HK1:=zl (n11 hW)
 have HB1:=zl hb1
 have hsz1:=hb1.size
 clear hW hb1 hz
 have k_r:=HK1.out.cell
 have l_r:=HK1.out.lt
 have f_r:=HK1.out.free
 have HB2:Hid (Below w.heap.size w (w1.setCell ⟨w.heap.size,3,none⟩ (.slice none 0 0))):=zl (HB1.out.setCell (p:=⟨w.heap.size,3,none⟩) (zn _) _)
 have HK2:Hid (Blk (w1.setCell ⟨w.heap.size,3,none⟩ (.slice none 0 0)) w.heap.size #[.string r.head.name,.slice A0 r.head.terms.length c0,.slice A1 r.body.length c1,.slice none 0 0,.slice A3 r.scopes.length c3]):=zl (HK1.out.set_ 3 _)
 have HRB:Hid ((RuR (d+1)).rd w B (pB r) [.string r.head.name,.slice A0 r.head.terms.length c0,.slice A1 r.body.length c1,.slice none 0 0,.slice A3 r.scopes.length c3]):=zl (by
  obtain ⟨v0,v1,v2,v3,e,g0,g1,g2,g3,g4⟩:=HR.out
  simp only [List.cons.injEq,and_true,true_and] at e
  obtain ⟨rfl,rfl,rfl,rfl⟩:=e
  exact ⟨_,_,_,_,rfl,g0,g1,g2,dz,g4⟩)
 by_cases hb0:r.body.length=0
 ·have HV:Hid (bY (fs.map FV.f) tr r=([fC],0)):=zl (by unfold bY;rw [if_pos hb0])
  have hb0':((r.body.length:Int)==0)=true:=by simp [hb0]
  clear hb0
  go_upto_region 2 with fail
  generalize hW:World.setCell _ _ _=w2 at *
  clear hW k_r l_r f_r
  have k_r:=HK2.out.cell
  have l_r:=HK2.out.lt
  go_wp2_with fail
  generalize hW:World.alloc _ _=w3
  obtain ⟨hb3,hz3⟩:=al1 hW
  have HH:Hid (w3.heap[w2.heap.size]? = some (.cells #[.slice none 0 0,.slice none 0 0,.int .u32 0] 48 (0,0))):=zl (hW▸heap_alloc_new _ _)
  have HB3:=zl (ab HB2.out hb3)
  have hsz2:=HB2.out.size
  clear hW hb3 hz3 k_r l_r
  go_wp2_with fail
  go_ret2
  rw [HV.out]
  exact ⟨[jN],_,_,rfl,rfl,aq.lit (R:=iX) (x:=jN) HH.out rfl hsz2,fun y hy=>by rw [List.mem_singleton] at hy;subst hy;exact pt,fun y hy=>by rw [List.mem_singleton] at hy;subst hy;exact fun w' _=>mK _ _ _,HB3.out⟩
 ·have HV:Hid (bY (fs.map FV.f) tr r=aQ (fs.map FV.f) tr (pB r)):=zl (by unfold bY;rw [if_neg hb0])
  have hb0':((r.body.length:Int)==0)=false:=by rw [beq_eq_false_iff_ne];omega
  clear hb0
  go_upto_region 2 with fail
  generalize hW:World.setCell _ _ _=w2 at *
  clear hW k_r l_r f_r
  have k_r:=HK2.out.cell
  have l_r:=HK2.out.lt
  go_wp2_with fail
  refine (gQ (d:=d) (B:=B) (r:=pB r) (vr:=[_,_,_,_,_]) (tr:=tr) ((RuR (d+1)).keep HB2.out hB HRB.out) (zm hB HB2.out.size) (HS.out.later HB2.out) hfew ((HB2.out.cell (p:=⟨0,0,none⟩) hp).trans HM.out) (zq hp HB2.out.size)).mono ?_
  rintro z w3 ⟨L,AL,cL,rfl,hLx,hLo,hLk,hLd,hb3⟩
  have HB3:=zl (ab HB2.out hb3)
  have HLX:=zl (And.intro hLx (And.intro (hLo.lower HB2.out.size) (And.intro hLk hLd)))
  clear hLx hLo hLk hLd hb3 k_r l_r
  go_wp2_with fail
  go_ret2
  rw [HV.out]
  exact ⟨L,AL,cL,rfl,HLX.out.1,HLX.out.2.1,HLX.out.2.2.1,HLX.out.2.2.2,HB3.out⟩
theorem sf {b:Bd} {es:List (List OpD)} {j:Nat} {q:List OpD} {a:Bool} (h:es[j]? = some q):eE b (es.drop j) a=if (bO (cU b q)).2≠0 then (false,(bO (cU b q)).2) else eE b (es.drop (j+1)) (a&&(bO (cU b q)).1):=by
 obtain ⟨hj,rfl⟩:=List.getElem?_eq_some_iff.1 h
 rw [List.drop_eq_getElem_cons hj,eE]
theorem sd {es:List (List OpD)} {l:List Ans} {j:Nat} {x:Ans} {a:Bool} (h:l[j]? = some x):hX es (l.drop j) a=if (eE x.b es a).2≠0 then (false,(eE x.b es a).2) else hX es (l.drop (j+1)) (eE x.b es a).1:=by
 obtain ⟨hj,rfl⟩:=List.getElem?_eq_some_iff.1 h
 rw [List.drop_eq_getElem_cons hj,hX]
theorem xQ {w:World} {base B n c:Nat} {L:List AnV} {e:TypeId} {A:Option Addr} (h:aq iX e w base B (.slice A n c) L):L.length≤9223372036854775807:=by
 rcases A with _ | a
 ·rw [(aq.none_nil h).1];simp
 ·obtain ⟨_,_,h1,h2⟩:=aq.some_row h;omega
theorem nZ {d baseS B S cs:Nat} {r:Ru} {vr:List Value} {w:World} {fs:List FV} {As:Option Addr} {tr m:Int} (hr:(RuR (d+1)).rd w B r vr) (hB:B≤w.heap.size) (hS:StA baseS d w S fs As cs) (hfew:fs.length≤100000) (hm:w.cell? ⟨0,0,none⟩=some (.int .i64 m)) (hp:0<w.heap.size) :
 Calls Tryz.prog 28 #[.agg vr.toArray,.pointer (some ⟨S,0,none⟩),.int .u32 tr] w fun z w'=>z=.returned (.tuple #[.bool (dE (fs.map FV.f) tr r).1,.int .i64 (dE (fs.map FV.f) tr r).2])∧Below w.heap.size w w':=by
 have HR:=zl hr
 have HS:=zl hS
 have HM:=zl hm
 clear hS hm
 obtain ⟨_,_,_,_,rfl,_,⟨A0,c0,rfl,_⟩,⟨A1,c1,rfl,_⟩,⟨A2,c2,rfl,h21,h22,hl2⟩,⟨A3,c3,rfl,_⟩⟩:=hr
 go_enter Tryz.func28,Tryz.ntmps28
 go_upto_region 1 with fail
 generalize hW:World.alloc _ _=w1
 obtain ⟨hb1,hz⟩:=al1 hW
 have HK1:=zl (n11 hW)
 have HB1:=zl hb1
 have hsz1:=hb1.size
 clear hW hb1 hz
 have k_r:=HK1.out.cell
 have l_r:=HK1.out.lt
 go_wp2_with fail
 refine (eq (d:=d+1) (B:=B) (r:=r) (vs:=[_,_,_,_,_]) ((RuR (d+1)).keep HB1.out hB HR.out) (zm hB hsz1)).mono ?_
 rintro z w2 ⟨rfl,hb2⟩
 have HK2:=zl (HK1.out.later hb2)
 have HB2:=zl (ab HB1.out hb2)
 have hsz2:=HB2.out.size
 clear hb2 k_r l_r
 have k_r:=HK2.out.cell
 have l_r:=HK2.out.lt
 by_cases hq:ay r=true
 rotate_left
 ·have HV:Hid (dE (fs.map FV.f) tr r=(false,1)):=zl (by unfold dE;rw [if_neg hq])
  simp only [Bool.not_eq_true] at hq
  rw [hq]
  go_wp2_with fail
  go_ret2
  exact ⟨by rw [HV.out];rfl,HB2.out⟩
 have HV0:Hid (dE (fs.map FV.f) tr r=if (bY (fs.map FV.f) tr r).2≠0 then (false,(bY (fs.map FV.f) tr r).2) else hX r.exprs (bY (fs.map FV.f) tr r).1 (pc (bY (fs.map FV.f) tr r).1)):=zl (by unfold dE;rw [if_pos hq])
 have HEX:=zl hl2
 rw [hq]
 clear hl2 hq
 go_wp2_with fail
 refine (rQ (d:=d) (B:=B) (r:=r) (vr:=[_,_,_,_,_]) (tr:=tr) ((RuR (d+1)).keep HB2.out hB HR.out) (zm hB HB2.out.size) (HS.out.later HB2.out) hfew ((HB2.out.cell (p:=⟨0,0,none⟩) hp).trans HM.out) (zq hp HB2.out.size)).mono ?_
 rintro z w3 ⟨L,AL,cL,rfl,hLx,hLo,hLk,hLd,hb3⟩
 have HK3:=zl (HK2.out.later hb3)
 have HB3:=zl (ab HB2.out hb3)
 have hsz3:=HB3.out.size
 have HSL:=zl (rz hLx)
 generalize bY (fs.map FV.f) tr r=R at *
 have HLX:=zl hLx
 have HLO:=zl hLo
 have hLn:=xQ hLo
 have HA3:=zl (fun (w':World) (hb:Below w3.heap.size w3 w') (i:Nat) (hi:i<L.length)=>((hLd L[i] (List.getElem_mem hi)).later hb).here)
 clear hLx hLo hLk hLd hb3 k_r l_r
 by_cases he:R.2=0
 rotate_left
 ·have he':(R.2 !=0)=true:=by simpa using he
  have HV:Hid (dE (fs.map FV.f) tr r=(false,R.2)):=zl (HV0.out.trans (if_pos he))
  clear he
  go_wp2_with fail
  go_ret2
  exact ⟨by rw [HV.out];rfl,HB3.out⟩
 have he':(R.2 !=0)=false:=by simpa using he
 have HV1:Hid (dE (fs.map FV.f) tr r=hX r.exprs R.1 (pc R.1)):=zl (HV0.out.trans (if_neg (by simpa using he)))
 clear he HV0
 go_upto_region 8 with fail
 rw [HSL.out]
 go_loopw [10,35] (fun u i wr=>∃(j:Nat) (a:Bool),j≤L.length∧i=.int .i64 j∧u=.bool a∧Hid (dE (fs.map FV.f) tr r=hX r.exprs (R.1.drop j) a)∧Hid (Below w3.heap.size w3 wr)) (fun _ i _=>L.length-(intOf i).toNat)
 case atStart=>exact ⟨0,pc R.1,zo _,rfl,rfl,HV1,zl (zp _ _)⟩
 case round=>
  obtain ⟨j,a,hj,rfl,rfl,HE,HW⟩:=hrel
  have hszr:=HW.out.size
  by_cases hlt:j<L.length
  ·obtain ⟨g,cg,eg,hg1,hg2,_⟩:=HLO.out.sh aU (by omega)
   simp only [Value.slice.injEq,true_and] at eg
   obtain ⟨rfl,rfl⟩:=eg
   obtain ⟨a0,a1,a2⟩:=go (HLO.out.later HW.out (zo _)) hlt
   have HRA:=zl (HA3.out wr HW.out j hlt)
   have HXJ:Hid (R.1[j]? = some L[j].x):=zl (by rw [←HLX.out,List.getElem?_map,List.getElem?_eq_getElem hlt];rfl)
   have hI0:(0:Int)≤(j:Int):=Int.natCast_nonneg _
   have hI1:(j:Int)<(L.length:Int):=by omega
   generalize L[j]=y at *
   have HE1:Hid (dE (fs.map FV.f) tr r=if (eE y.x.b r.exprs a).2≠0 then (false,(eE y.x.b r.exprs a).2) else hX r.exprs (R.1.drop (j+1)) (eE y.x.b r.exprs a).1):=zl (HE.out.trans (sd HXJ.out))
   have HKr:=zl (HK3.out.later HW.out)
   have k_r:=HKr.out.cell
   have l_r:=HKr.out.lt
   go_upto_region 10 with fail
   generalize hW:World.alloc _ _=w4
   obtain ⟨hb4,hz4⟩:=al1 hW
   have HY4:=zl (n11 hW)
   have HK4:=zl (HKr.out.later hb4)
   have HB4:=zl (ab HW.out hb4)
   have HX4:=zl (ab HB3.out HB4.out)
   have hsz4:=hb4.size
   have HPR:=zl (mJ ((mF (d+1)).keep hb4 (zn _) HRA.out))
   clear hW hb4 hz4 a0 a1 a2 k_r l_r
   have k_r:=HK4.out.cell
   have l_r:=HK4.out.lt
   go_upto_region 11 with fail
   clear k_r l_r
   generalize wr=wo at *
   go_loopw [10,42] (fun u i wr=>∃(k:Nat) (b:Bool),k≤r.exprs.length∧i=.int .i64 k∧u=.bool b∧Hid (eE y.x.b r.exprs a=eE y.x.b (r.exprs.drop k) b)∧Hid (Below w4.heap.size w4 wr)) (fun _ i _=>r.exprs.length-(intOf i).toNat)
   case atStart=>exact ⟨0,a,zo _,rfl,rfl,zl rfl,zl (zp _ _)⟩
   case round=>
    obtain ⟨k,b,hk,rfl,rfl,HK,HWK⟩:=hrel
    have hszk:=HWK.out.size
    have HBk:=zl (ab HX4.out HWK.out)
    have hBk:B≤wr.heap.size:=zm hB HBk.out.size
    by_cases hkl:k<r.exprs.length
    ·obtain ⟨be_,offe,rfl,hobe⟩:=(HEX.out.keep HBk.out hB).base (zp _ _) hBk (by omega)
     obtain ⟨q,vs,hx,hlen,hcell,hr⟩:=(HEX.out.keep HBk.out hB).at_ (zp _ _) hBk hkl
     have HQ:=zl hr
     obtain ⟨_,rfl,Aq,cq,rfl,_⟩:=show (ExR (d+1)).rd wr B q vs from hr
     have c0:wr.cell? ⟨be_,offe+k,none⟩=some (.slice Aq q.length cq):=by have:=hcell 0 _ rfl;simpa [ExR] using this
     have HS1:=zl (HK.out.trans (sf hx))
     have hI2:(0:Int)≤(k:Int):=Int.natCast_nonneg _
     have hI3:(k:Int)<(r.exprs.length:Int):=by omega
     clear hcell hlen hx hr
     go_upto_region 13 with fail
     generalize hW:World.alloc _ _=w5
     obtain ⟨hb5,hz5⟩:=al1 hW
     have HE5:=zl (n11 hW)
     have HY5:=zl ((HY4.out.later HWK.out).later hb5)
     have HB5:=zl (ab HBk.out hb5)
     have HX5:=zl (ab HWK.out hb5)
     have HQ5:=zl ((ExR (d+1)).keep hb5 hBk HQ.out)
     clear hW hb5 hz5 c0
     have k_e:=HE5.out.cell
     have l_e:=HE5.out.lt
     have k_a:=HY5.out.cell
     have l_a:=HY5.out.lt
     go_wp2_with fail
     refine (rE (D:=d) (cn:=y.cn) (ct:=y.ct) (evs:=[_]) (b:=y.x.b) (B:=w4.heap.size) (m:=m) ((ExR (d+1)).wide (zm hB HX4.out.size) HQ5.out) ((HPR.out.1.keep HX5.out hsz4).wide hsz4) ((HPR.out.2.keep HX5.out hsz4).wide hsz4) HX5.out.size ((HB5.out.cell (p:=⟨0,0,none⟩) hp).trans HM.out) (zq hp HB5.out.size)).mono ?_
     rintro z w6 ⟨rfl,hb6⟩
     have HB6:=zl (ab HB5.out hb6)
     have HX6:=zl (ab HX5.out hb6)
     clear k_e l_e k_a l_a hb6
     by_cases h2:(bO (cU y.x.b q)).2=0
     rotate_left
     ·have q2:((bO (cU y.x.b q)).2 !=0)=true:=by simpa using h2
      have HS2:=zl (HS1.out.trans (if_pos h2))
      have HV:Hid (dE (fs.map FV.f) tr r=(false,(bO (cU y.x.b q)).2)):=zl (by
       rw [HE1.out,HS2.out]
       exact if_pos h2)
      generalize bO (cU y.x.b q)=t at *
      clear h2
      go_wp2_with fail
      go_ret2
      exact ⟨by rw [HV.out];rfl,HB6.out⟩
     ·have q2:((bO (cU y.x.b q)).2 !=0)=false:=by simpa using h2
      have HS2:=zl (HS1.out.trans (if_neg (by simpa using h2)))
      generalize bO (cU y.x.b q)=t at *
      clear h2
      obtain ⟨t1,t2⟩:=t
      cases b<;>cases t1
      all_goals
       go_wp2_with fail
       go_roundw
       case rel=>exact ⟨k+1,_,by omega,by go_num,rfl,HS2,HX6⟩
       case measure=>simp [intOf];omega
    ·have HS2:Hid (eE y.x.b r.exprs a=(b,0)):=zl (by rw [HK.out,List.drop_eq_nil_iff.2 (by omega)];rfl)
     have HE2:Hid (dE (fs.map FV.f) tr r=hX r.exprs (R.1.drop (j+1)) b):=zl (by rw [HE1.out,HS2.out];exact if_neg (by simp))
     go_wp2_with fail
     go_roundw
     case rel=>exact ⟨j+1,b,by omega,by go_num,rfl,HE2,zl (ab HB4.out HWK.out)⟩
     case measure=>simp [intOf];omega
  ·have HV:Hid (dE (fs.map FV.f) tr r=(a,0)):=zl (by rw [HE.out,List.drop_eq_nil_iff.2 (by rw [←HLX.out,List.length_map];omega)];rfl)
   go_wp2_with fail
   go_ret2
   exact ⟨by rw [HV.out];rfl,ab HB3.out HW.out⟩
end Go.Proofs.YtdphibjibnffeaaGreat
