/- viaticumlaw21.FixMore. Printed by mk_lfxmore.py. -/
import Derived.Test.YtjpndglegpcdnaaGreatFxAwL
import Derived.Test.YtjpndglegpcdnaaGreatSize
import Derived.Test.YtjpndglegpcdnaaGreatRs1
import Derived.Test.YtjpndglegpcdnaaGreatFx2
set_option linter.unusedVariables false
set_option linter.unusedSimpArgs false
set_option maxRecDepth 100000
set_option maxHeartbeats 8000000
namespace Go.Proofs.YtjpndglegpcdnaaGreat
open Go.ChangeShapes Go.WideShapes Go.ChangeAt Go.RowKit
theorem og {α:Type} {R:Reader α} (w:World) (B:Nat):RSl R w B [] (.slice none 0 0):=⟨none,0,rfl,by simp,by simp,fun h=>absurd h (by simp)⟩
theorem tV {d B:Nat} {w:World} {f:Fc} {A:Option Addr} {c:Nat} (h:(az d).rd w B f [.string f.pr.name,.slice A f.pr.terms.length c,.int .u32 f.o]):(RuR d).rd w B ⟨f.pr,[],[],[]⟩ [.string f.pr.name,.slice A f.pr.terms.length c,.slice none 0 0,.slice none 0 0,.slice none 0 0]:=by
 obtain ⟨v,e,⟨v2,e2,h1,h2⟩,_⟩:=h
 simp only [List.cons.injEq,and_true,true_and] at e e2
 obtain rfl:=e
 obtain rfl:=e2
 exact ⟨_,_,_,_,rfl,h1,h2,og _ _,og _ _,og _ _⟩
theorem vu {d B c:Nat} {l:List Fc} {A:Option Addr} {w:World} (hl:RL (az (d+1)) w B l A) (hB:B≤w.heap.size) (hn:l.length≤140737488351232) :
 Calls Tryz.prog 53 #[.slice A l.length c] w fun z w'=>(∃q,z=.returned (.bool q)∧(q=true→l.length≤600))∧Below w.heap.size w w':=by
 have HL:=zT hl
 clear hl
 go_enter Tryz.func53,Tryz.ntmps53
 go_wp2_with fail
 go_loopw [3,8] (fun u i wr=>∃(k:Nat) (n:Int),k≤l.length∧i=.int .i64 k∧u=.int .i64 n∧(k:Int)≤n∧n≤600∧Hid (Below w.heap.size w wr)) (fun _ i _=>l.length-(intOf i).toNat)
 case atStart=>exact ⟨0,0,zW _,rfl,rfl,by omega,by omega,zT (zX _ _)⟩
 case round=>
  obtain ⟨k,n,hk,rfl,rfl,hkn,hn6,HW⟩:=hrel
  have hszr:=HW.out.size
  by_cases hlt:k<l.length
  ·obtain ⟨b,off,rfl,hob⟩:=HL.out.base HW.out hB (by omega)
   obtain ⟨x,vs,hx,hlen,hcell,hr⟩:=HL.out.at_ HW.out hB hlt
   obtain ⟨Ax,cx,rfl,_⟩:=aN hr
   have c0:wr.cell? ⟨b,off+k*3,none⟩=some (.string x.pr.name):=hcell 0 _ rfl
   have c1:wr.cell? ⟨b,off+k*3+1,none⟩=some (.slice Ax x.pr.terms.length cx):=hcell 1 _ rfl
   have c2:wr.cell? ⟨b,off+k*3+2,none⟩=some (.int .u32 x.o):=hcell 2 _ rfl
   have HX:=zT hx
   have HR:=zT hr
   clear hx hr hcell hlen
   go_wp2_with fail
   generalize hW2:World.alloc _ _=w2
   obtain ⟨hb2,hz2⟩:=al1 hW2
   have HB2:=zT hb2
   have hsz2:=hb2.size
   clear hW2 hz2 hb2 c0 c1 c2
   refine (nr (d:=d+1) (B:=B) (r:=⟨x.pr,[],[],[]⟩) (vs:=[_,_,_,_,_]) (tV ((az (d+1)).keep HB2.out (zU hB hszr) HR.out)) (by omega)).mono ?_
   rintro z w3 ⟨⟨m,rfl,hm0,hm1⟩,hb3⟩
   have HB3:=zT (ac HW.out (ac HB2.out hb3))
   clear hb3
   by_cases hg:600<n+(1+m)
   ·go_wp2_with fail
    go_ret
    exact ⟨⟨false,rfl,by simp⟩,HB3.out⟩
   ·go_wp2_with fail
    go_roundw
    case rel=>exact ⟨k+1,n+(1+m),by omega,by go_num,rfl,by omega,by omega,HB3⟩
    case measure=>simp [intOf];omega
  ·go_wp2_with fail
   go_ret
   exact ⟨⟨true,rfl,fun _=>by omega⟩,HW.out⟩
theorem tD {d B c:Nat} {l:List Fc} {A:Option Addr} {w:World} (hl:RL (az (d+1)) w B l A) (hB:B≤w.heap.size) (hn:l.length≤140737488351232) :
 Calls Tryz.prog 33 #[.slice A l.length c] w fun z w'=>(∃q:Int,z=.returned (.int .i64 q)∧(q=0→l.length≤600))∧Below w.heap.size w w':=by
 go_enter Tryz.func33,Tryz.ntmps33
 go_wp2_with fail
 refine (vu hl hB hn).mono ?_
 rintro z w1 ⟨⟨q,rfl,hq⟩,hb⟩
 cases q
 ·go_wp2_with fail
  go_ret
  exact ⟨⟨1,rfl,by omega⟩,hb⟩
 ·go_wp2_with fail
  go_ret
  exact ⟨⟨0,rfl,fun _=>hq trivial⟩,hb⟩
structure TwoS (d B:Nat) (w:World) (S:Nat) (xs:List FV) (A:Option Addr) (c M:Nat) (ys:List FV) (A':Option Addr) (c':Nat):Prop where
 s:StA (M+1) d w S xs A c
 m:DSt (M+1) d B w M ys A' c'
 ap:∀k,(Value.slice A xs.length c).ownBlock=some k→(Value.slice A' ys.length c').ownBlock≠some k
 ne:S<M
 hB:B≤S
section
variable {d B S M c c' c2:Nat} {w w':World} {xs ys xs2 ys2:List FV} {A A' A2:Option Addr}
theorem TwoS.later (h:TwoS d B w S xs A c M ys A' c') (hb:Below w.heap.size w w'):TwoS d B w' S xs A c M ys A' c':=⟨h.s.later hb,h.m.later hb,h.ap,h.ne,h.hB⟩
end
def iB (n m:Nat) (z:Ending):Prop:=∃q:Bool,z=.returned (.bool q)∧(q=true→n≤60∧m≤400)
theorem iB.no {n m:Nat}:iB n m (.returned (.bool false)):=⟨false,rfl,fun h=>by cases h⟩
theorem ow_rule {d B:Nat} {w:World} {o:OwD} {v0 v1 v2 v3 v4 v5 v6:Value} (h:(OwR d).rd w B o [v0,v1,v2,v3,v4,v5,v6]):(RuR d).rd w B o.rule [v0,v1,v2,v3,v4]:=by
 obtain ⟨_,_,_,_,_,_,_,_,e,hr,_⟩:=iu h
 simp only [List.cons.injEq,and_true] at e
 obtain ⟨rfl,rfl,rfl,rfl,rfl,_,_⟩:=e
 exact hr
theorem vv {d B c cr:Nat} {l:List Fc} {rs:List OwD} {A Ar:Option Addr} {lf lr:Int} {w:World} (hl:RL (az (d+1)) w B l A) (hr:RL (OwR (d+1)) w B rs Ar) (hB:B≤w.heap.size) (hn:l.length≤140737488351232) (hrn:rs.length≤140737488351232) :
 Calls Tryz.prog 15 #[.slice A l.length c,.slice Ar rs.length cr,.agg #[.int .i64 lf,.int .i64 lr]] w fun z w'=>iB l.length rs.length z∧Below w.heap.size w w':=by
 have HL:=zT hl
 have HR:=zT hr
 clear hl hr
 go_enter Tryz.func15,Tryz.ntmps15
 go_upto_region 1 with fail
 generalize hW:World.alloc _ _=w1
 obtain ⟨hb1,hz⟩:=al1 hW
 have HK1:=zT (n11 hW)
 have HB1:=zT hb1
 clear hW hb1 hz
 go_upto_region 3 with fail
 go_loopw [7,12] (fun u i wr=>∃(k:Nat) (n:Int),k≤rs.length∧i=.int .i64 k∧u=.int .i64 n∧(k:Int)≤n∧n≤400∧Hid (Below w1.heap.size w1 wr)) (fun _ i _=>rs.length-(intOf i).toNat)
 case atStart=>exact ⟨0,0,zW _,rfl,rfl,by omega,by omega,zT (zX _ _)⟩
 case round=>
  obtain ⟨k,n,hk,rfl,rfl,hn0,hn1,HW⟩:=hrel
  have HBr:=zT (ac HB1.out HW.out)
  have hszr:=HBr.out.size
  have hBr:B≤wr.heap.size:=zU hB hszr
  by_cases hlt:k<rs.length
  ·obtain ⟨b,off,rfl,hob⟩:=(HR.out.keep HBr.out hB).base (zX _ _) hBr (by omega)
   obtain ⟨x,vs,hx,hlen,hcell,hr⟩:=(HR.out.keep HBr.out hB).at_ (zX _ _) hBr hlt
   have HRX:=zT hr
   obtain ⟨A0,c0,A1,c1,A2,c2,A3,c3,rfl,hrr,_,_⟩:=iu hr
   have hbn:x.rule.body.length≤140737488351232:=by
    obtain ⟨_,_,_,_,e,_,_,⟨_,_,_,_,h,_⟩,_⟩:=hrr
    have:=h.1
    simp only [PrR] at this
    omega
   have p0:wr.cell? ⟨b,off+k*7,none⟩=some (.string x.rule.head.name):=hcell 0 _ rfl
   have p1:wr.cell? ⟨b,off+k*7+1,none⟩=some (.slice A0 x.rule.head.terms.length c0):=hcell 1 _ rfl
   have p2:wr.cell? ⟨b,off+k*7+2,none⟩=some (.slice A1 x.rule.body.length c1):=hcell 2 _ rfl
   have p3:wr.cell? ⟨b,off+k*7+3,none⟩=some (.slice A2 x.rule.exprs.length c2):=hcell 3 _ rfl
   have p4:wr.cell? ⟨b,off+k*7+4,none⟩=some (.slice A3 x.rule.scopes.length c3):=hcell 4 _ rfl
   have p5:wr.cell? ⟨b,off+k*7+5,none⟩=some (.int .i64 x.block):=hcell 5 _ rfl
   have p6:wr.cell? ⟨b,off+k*7+6,none⟩=some (.int .u32 x.trusted):=hcell 6 _ rfl
   clear hcell hlen hx hr hrr
   go_upto_region 5 with fail
   generalize hW:World.alloc _ _=w3
   obtain ⟨hb3,hz3⟩:=al1 hW
   have HK3:=zT (n11 hW)
   have HW3:=zT (ac HW.out hb3)
   have HB3:=zT (ac HBr.out hb3)
   have HRR:=zT (ow_rule ((OwR (d+1)).keep hb3 hBr HRX.out))
   have hsz3:=hb3.size
   clear hW hb3 hz3 p0 p1 p2 p3 p4 p5 p6
   have k_r:=HK3.out.cell
   have l_r:=HK3.out.lt
   go_wp2_with fail
   refine (nr (d:=d+1) (B:=B) (r:=x.rule) (vs:=[_,_,_,_,_]) HRR.out (by omega)).mono ?_
   rintro z w4 ⟨⟨m,rfl,hm0,hm1⟩,hb4⟩
   have HK4:=zT (HK3.out.later hb4)
   have HW4:=zT (ac HW3.out hb4)
   have HB4:=zT (ac HB3.out hb4)
   clear hb4 k_r l_r
   have k_r:=HK4.out.cell
   have l_r:=HK4.out.lt
   have hln:(l.length:Int)≤140737488351232:=by omega
   have hbi:(x.rule.body.length:Int)≤140737488351232:=by omega
   have hk0:(0:Int)≤(k:Int):=Int.natCast_nonneg _
   by_cases hb2:(2:Int)<(x.rule.body.length:Int)
   ·by_cases hl12:(12:Int)<(l.length:Int)
    ·go_wp2_with fail
     go_ret
     exact ⟨iB.no,HB4.out⟩
    ·by_cases h4:(400:Int)<n+(1+m)
     ·go_wp2_with fail
      go_ret
      exact ⟨iB.no,HB4.out⟩
     ·go_wp2_with fail
      go_roundw
      case rel=>exact ⟨k+1,n+(1+m),by omega,by go_num,rfl,by omega,by omega,HW4⟩
      case measure=>simp [intOf];omega
   ·by_cases h4:(400:Int)<n+(1+m)
    ·go_wp2_with fail
     go_ret
     exact ⟨iB.no,HB4.out⟩
    ·go_wp2_with fail
     go_roundw
     case rel=>exact ⟨k+1,n+(1+m),by omega,by go_num,rfl,by omega,by omega,HW4⟩
     case measure=>simp [intOf];omega
  ·have hrl:rs.length≤400:=by omega
   have HKr:=zT (HK1.out.later HW.out)
   generalize wr=w2 at *
   go_wp2_with fail
   refine (tD (HL.out.keep HBr.out hB) hBr hn).mono ?_
   rintro z w3 ⟨⟨v,rfl,hv⟩,hb3⟩
   have HB3:=zT (ac HBr.out hb3)
   have HK3:=zT (HKr.out.later hb3)
   clear hb3
   have k_l:=HK3.out.cell
   have l_l:=HK3.out.lt
   by_cases hv0:v=0
   rotate_left
   ·have hv1:((0:Int)==v)=false:=by rw [beq_eq_false_iff_ne];omega
    clear hv
    go_wp2_with fail
    go_ret
    exact ⟨iB.no,HB3.out⟩
   subst hv0
   clear hv
   by_cases hl60:(l.length:Int)≤60
   rotate_left
   ·clear hk hn0 hn1 hn hrn
    go_wp2_with fail
    go_ret
    exact ⟨iB.no,HB3.out⟩
   have YES:∀q:Bool,iB l.length rs.length (.returned (.bool q)):=fun q=>⟨q,rfl,fun _=>⟨by omega,hrl⟩⟩
   have HY:=zT YES
   clear YES
   by_cases hf1:lf≤60
   ·by_cases hr1:lr≤20
    ·go_wp2_with fail
     go_ret
     exact ⟨HY.out _,HB3.out⟩
    ·go_wp2_with fail
     go_ret
     exact ⟨HY.out _,HB3.out⟩
   ·by_cases hf2:(1000:Int)<lf
    ·by_cases hr1:lr≤20
     ·go_wp2_with fail
      go_ret
      exact ⟨HY.out _,HB3.out⟩
     ·go_wp2_with fail
      go_ret
      exact ⟨HY.out _,HB3.out⟩
    ·go_wp2_with fail
     go_ret
     exact ⟨HY.out _,HB3.out⟩
section
variable {w:World} {B d c:Nat}
theorem fv {k n:Int} {s:ByteArray} (hk:I64 k) (hn:I64 n) (hs:s.size≤140737488351232):RTm w B (d+1) ⟨k,n,s,[]⟩ [.int .i64 k,.int .i64 n,.string s,.slice none 0 0]:=
 ⟨none,0,rfl,zV _,⟨by simp,by omega⟩,hs,hk,hn,fun h=>absurd h (by simp)⟩
theorem mV {α:Type} {R:Reader α} {xs:List α} {A:Option Addr} (h:RL R w B xs A) (h1:xs.length≤c) (h2:xs.length*(8*R.k)≤140737488351232) (h3:c≤9223372036854775807):RSl R w B xs (.slice A xs.length c):=⟨A,c,rfl,h1,⟨h2,h3⟩,h⟩
theorem sj {nm:ByteArray} {ts:List Tm} {v:Value} (hn:nm.size≤140737488351232) (h:RSl (TmR d) w B ts v):(PrR d).rd w B ⟨nm,ts⟩ [.string nm,v]:=⟨v,rfl,hn,h⟩
theorem lit_fc {f:Fc} {v:Value} (h:(PrR d).rd w B f.pr [.string f.pr.name,v]) (ho:U32 f.o):(az d).rd w B f [.string f.pr.name,v,.int .u32 f.o]:=⟨v,rfl,h,ho⟩
theorem lit_ru {r:Ru} {v0 v1 v2 v3:Value} (hn:r.head.name.size≤140737488351232) (h0:RSl (TmR d) w B r.head.terms v0) (h1:RSl (PrR d) w B r.body v1) (h2:RSl (ExR d) w B r.exprs v2) (h3:RSl ScR w B r.scopes v3):(RuR d).rd w B r [.string r.head.name,v0,v1,v2,v3]:=⟨v0,v1,v2,v3,rfl,hn,h0,h1,h2,h3⟩
theorem we {α:Type} {R:Reader α}:RSl R w B [] (.slice none 0 0):=⟨none,0,rfl,by simp,by simp,fun h=>absurd h (by simp)⟩
end
theorem ret_prd {fn:Func} {tmps:Array Value} {p:Tmp} {g:Nat} {w:World} {cs:Array Value} (h:fn.results=#[.cell p 26]) (hp:tmps.getD p undef=.pointer (some ⟨g,0,none⟩)) (hb:Blk w g cs) (hn:cs.size=2) :
 (results fn tmps).run Tryz.prog w=.ok (.agg cs) w:=by
 obtain ⟨T,hb⟩:=hb
 exact results_cell_row h tmps w g T cs (0,0) _ hp hb Tryz.underlying26 rfl (by rw [hn];kernel_rfl)
theorem Blk.rl2 {α:Type} {R:Reader α} {w:World} {B b:Nat} {x y:α} {us vs:List Value} {cells:Array Value} (h:Blk w b cells) (hc:cells.toList=us++vs) (hx:R.rd w B x us) (hy:R.rd w B y vs) (hb:b<B):RL R w B [x,y] (some ⟨b,0,none⟩):=fun _=>
 ⟨b,0,rfl,hb,fun i hi=>by
  have hi0:i=0∨i=1:=by simp at hi;omega
  have l1:=R.len hx
  rcases hi0 with rfl | rfl
  ·refine ⟨us,l1,⟨x,rfl,hx⟩,fun j v hj=>?_⟩
   have hl:=(List.getElem?_eq_some_iff.1 hj).1
   have e:0+0*R.k+j=j:=by omega
   rw [e,h.cell,←Array.getElem?_toList,hc,List.getElem?_append_left hl,hj]
  ·refine ⟨vs,R.len hy,⟨y,rfl,hy⟩,fun j v hj=>?_⟩
   have e:0+1*R.k+j=us.length+j:=by omega
   rw [e,h.cell,←Array.getElem?_toList,hc,List.getElem?_append_right (by omega),Nat.add_sub_cancel_left,hj]⟩
theorem RL.near {α:Type} {R:Reader α} {w w':World} {xs:List α} {A:Option Addr} (h:RL R w w.heap.size xs A) (hb:Below w.heap.size w w'):RL R w' w'.heap.size xs A:=(h.keep hb (zV _)).wide hb.size
def mn {α:Type} (R:Reader α) (xs:List α) (v:Value) (w:World):Prop:=∃A,v=.slice A xs.length xs.length∧RL R w w.heap.size xs A
theorem Stb.sl {α:Type} (R:Reader α) (xs:List α):Stb (mn R xs):=fun _ _ _ ⟨A,e,h⟩ hb=>⟨A,e,h.near hb⟩
def qh (p:Pr) (v:Value) (w:World):Prop:=∃A,v=.agg #[.string p.name,.slice A p.terms.length p.terms.length]∧RL (TmR 2) w w.heap.size p.terms A
theorem Stb.pr (p:Pr):Stb (qh p):=fun _ _ _ ⟨A,e,h⟩ hb=>⟨A,e,h.near hb⟩
def sM (r:Ru) (more:List Value) (v:Value) (w:World):Prop:=∃A0 A1,v=.agg (#[.string r.head.name,.slice A0 r.head.terms.length r.head.terms.length,.slice A1 r.body.length r.body.length,.slice none 0 0,.slice none 0 0]++more.toArray)∧RL (TmR 2) w w.heap.size r.head.terms A0∧RL (PrR 2) w w.heap.size r.body A1
theorem Stb.ru (r:Ru) (m:List Value):Stb (sM r m):=fun _ _ _ ⟨A0,A1,e,h,k⟩ hb=>⟨A0,A1,e,h.near hb,k.near hb⟩
def eE (base:Nat) (o:Int) (v:Value) (w:World):Prop:=∃b A0 A1 A2 A3,v=.slice (some ⟨b,0,none⟩) 2 2∧base≤b ∧
 Blk w b #[.string pwP,.slice A0 2 2,.slice A1 1 1,.slice none 0 0,.slice none 0 0,.int .i64 0,.int .u32 o,.string pwP,.slice A2 2 2,.slice A3 2 2,.slice none 0 0,.slice none 0 0,.int .i64 0,.int .u32 o] ∧
 (RuR 2).rd w b wK [.string pwP,.slice A0 2 2,.slice A1 1 1,.slice none 0 0,.slice none 0 0]∧(RuR 2).rd w b wL [.string pwP,.slice A2 2 2,.slice A3 2 2,.slice none 0 0,.slice none 0 0]
theorem Stb.paths (base:Nat) (o:Int):Stb (eE base o):=fun _ _ _ ⟨b,A0,A1,A2,A3,e,h0,h,k1,k2⟩ hb=>⟨b,A0,A1,A2,A3,e,h0,h.later hb,(RuR 2).keep hb (Nat.le_of_lt h.lt) k1,(RuR 2).keep hb (Nat.le_of_lt h.lt) k2⟩
theorem pw_ru {r:Ru} {w:World} {A0 A1:Option Addr} (hn:r.head.name.size≤140737488351232) (h2:r.head.terms.length=2) (h3:r.body.length≤2) (he:r.exprs=[]) (hs:r.scopes=[]) (h:RL (TmR 2) w w.heap.size r.head.terms A0) (k:RL (PrR 2) w w.heap.size r.body A1):(RuR 2).rd w w.heap.size r [.string r.head.name,.slice A0 r.head.terms.length r.head.terms.length,.slice A1 r.body.length r.body.length,.slice none 0 0,.slice none 0 0]:=by
 refine lit_ru hn (mV h (zV _) (by simp only [TmR];omega) (by omega)) (mV k (zV _) (by simp only [PrR];omega) (by omega)) ?_ ?_
 ·rw [he];exact we
 ·rw [hs];exact we
theorem eE.lower {base B:Nat} {o:Int} {v:Value} {w:World} (h:eE base o v w) (hB:B≤base):eE B o v w:=by
 obtain ⟨b,A0,A1,A2,A3,e,h0,h⟩:=h
 exact ⟨b,A0,A1,A2,A3,e,zU hB h0,h⟩
theorem eE.rl {base:Nat} {o:Int} {v:Value} {w:World} (h:eE base o v w) (ho:U32 o):∃A,v=.slice A 2 2∧RL (OwR 2) w w.heap.size (pwO o) A:=by
 obtain ⟨b,A0,A1,A2,A3,rfl,_,h,k1,k2⟩:=h
 have hlt:=h.lt
 exact ⟨_,rfl,h.rl2 (R:=OwR 2) (x:=⟨wK,0,o⟩) (y:=⟨wL,0,o⟩) (us:=[_,_,_,_,_,_,_]) (vs:=[_,_,_,_,_,_,_]) rfl ⟨_,rfl,(RuR 2).wide (by omega) k1,by unfold I64;simp,ho⟩ ⟨_,rfl,(RuR 2).wide (by omega) k2,by unfold I64;simp,ho⟩ hlt⟩
theorem mg {s:ByteArray} {w:World}:Calls Tryz.prog 25 #[.string s] w fun z w'=>z=.returned (.agg #[.int .i64 1,.int .i64 0,.string s,.slice none 0 0])∧Below w.heap.size w w':=by
 go_enter Tryz.func25,Tryz.ntmps25
 go_upto_region 1 with fail
 generalize hW:World.alloc _ _=w1
 obtain ⟨hb1,hz⟩:=al1 hW
 have HS1:=zT (n11 hW)
 have HB1:=zT hb1
 clear hW hb1 hz
 have f_s:=HS1.out.free
 have k_s:=HS1.out.cell
 have l_s:=HS1.out.lt
 go_wp2_with fail
 refine bodyPost_ret (nj rfl rfl (((((((HS1.out.set_ 0 (.int .i64 1))).set_ 1 (.int .i64 0))).set_ 2 (.string s))).set_ 3 (.slice none 0 0)) rfl) rfl ?_
 exact ⟨rfl,(((HB1.out.setCell (p:=⟨w.heap.size,0,none⟩) (zV _) _).setCell (p:=⟨w.heap.size,1,none⟩) (zV _) _).setCell (p:=⟨w.heap.size,2,none⟩) (zV _) _).setCell (p:=⟨w.heap.size,3,none⟩) (zV _) _⟩
theorem eO {n:Int} {w:World}:Calls Tryz.prog 9 #[.int .i64 n] w fun z w'=>z=.returned (.agg #[.int .i64 2,.int .i64 n,.string ⟨#[]⟩,.slice none 0 0])∧Below w.heap.size w w':=by
 go_enter Tryz.func9,Tryz.ntmps9
 go_upto_region 1 with fail
 generalize hW:World.alloc _ _=w1
 obtain ⟨hb1,hz⟩:=al1 hW
 have HS1:=zT (n11 hW)
 have HB1:=zT hb1
 clear hW hb1 hz
 have f_s:=HS1.out.free
 have k_s:=HS1.out.cell
 have l_s:=HS1.out.lt
 go_wp2_with fail
 refine bodyPost_ret (nj rfl rfl (((((((HS1.out.set_ 0 (.int .i64 2))).set_ 1 (.int .i64 n))).set_ 2 (.string ⟨#[]⟩))).set_ 3 (.slice none 0 0)) rfl) rfl ?_
 exact ⟨rfl,(((HB1.out.setCell (p:=⟨w.heap.size,0,none⟩) (zV _) _).setCell (p:=⟨w.heap.size,1,none⟩) (zV _) _).setCell (p:=⟨w.heap.size,2,none⟩) (zV _) _).setCell (p:=⟨w.heap.size,3,none⟩) (zV _) _⟩
theorem cH {s:ByteArray} {A:Option Addr} {m c:Nat} {w:World}:Calls Tryz.prog 8 #[.string s,.slice A m c] w fun z w'=>z=.returned (.agg #[.string s,.slice A m c])∧Below w.heap.size w w':=by
 go_enter Tryz.func8,Tryz.ntmps8
 go_upto_region 1 with fail
 generalize hW:World.alloc _ _=w1
 obtain ⟨hb1,hz⟩:=al1 hW
 have HS1:=zT (n11 hW)
 have HB1:=zT hb1
 clear hW hb1 hz
 have f_s:=HS1.out.free
 have k_s:=HS1.out.cell
 have l_s:=HS1.out.lt
 go_wp2_with fail
 refine bodyPost_ret (ret_prd rfl rfl (((HS1.out.set_ 0 (.string s))).set_ 1 (.slice A m c)) rfl) rfl ?_
 exact ⟨rfl,(HB1.out.setCell (p:=⟨w.heap.size,0,none⟩) (zV _) _).setCell (p:=⟨w.heap.size,1,none⟩) (zV _) _⟩
theorem rj {o:Int} {w:World} (ho:U32 o):Calls Tryz.prog 11 #[.int .u32 o] w fun z w'=>(∃v,z=.returned v∧eE w.heap.size o v w')∧Below w.heap.size w w':=by
 go_enter Tryz.func11,Tryz.ntmps11
 go_wp2_with fail
 refine mg.mono ?_
 rintro z wa ⟨rfl,hba⟩
 have HBa:=zT hba
 clear hba
 go_wp2_with fail
 refine mg.mono ?_
 rintro z wb ⟨rfl,hbb⟩
 have HBb:=zT (ac HBa.out hbb)
 clear hbb
 go_wp2_with fail
 refine mg.mono ?_
 rintro z wc ⟨rfl,hbc⟩
 have HBc:=zT (ac HBb.out hbc)
 clear hbc
 go_upto_region 2 with fail
 generalize hW:World.alloc _ _=w1
 obtain ⟨hb1,hz1⟩:=al3 hW
 have HX1:=zT (n31 hW)
 have HY1:=zT (n32 hW)
 have HZ1:=zT (n33 hW)
 have HB1:=zT (ac HBc.out hb1)
 clear hW hb1 hz1
 have HST:Hid (zj [fun v _=>v=.agg #[.int .i64 1,.int .i64 0,.string ⟨#[120]⟩,.slice none 0 0],fun v _=>v=.agg #[.int .i64 1,.int .i64 0,.string ⟨#[121]⟩,.slice none 0 0],mn (TmR 2) [pwV 120,pwV 121],qh (pwQ pwP (pwV 120) (pwV 121)),fun v _=>v=.agg #[.int .i64 1,.int .i64 0,.string ⟨#[120]⟩,.slice none 0 0],fun v _=>v=.agg #[.int .i64 1,.int .i64 0,.string ⟨#[121]⟩,.slice none 0 0],mn (TmR 2) [pwV 120,pwV 121],qh (pwQ pwE (pwV 120) (pwV 121)),mn (PrR 2) [pwQ pwE (pwV 120) (pwV 121)],sM wK [],fun v _=>v=.int .u32 o,sM wK [.int .i64 0,.int .u32 o],fun v _=>v=.agg #[.int .i64 1,.int .i64 0,.string ⟨#[120]⟩,.slice none 0 0],fun v _=>v=.agg #[.int .i64 1,.int .i64 0,.string ⟨#[122]⟩,.slice none 0 0],mn (TmR 2) [pwV 120,pwV 122],qh (pwQ pwP (pwV 120) (pwV 122)),fun v _=>v=.agg #[.int .i64 1,.int .i64 0,.string ⟨#[120]⟩,.slice none 0 0],fun v _=>v=.agg #[.int .i64 1,.int .i64 0,.string ⟨#[121]⟩,.slice none 0 0],mn (TmR 2) [pwV 120,pwV 121],qh (pwQ pwP (pwV 120) (pwV 121)),fun v _=>v=.agg #[.int .i64 1,.int .i64 0,.string ⟨#[121]⟩,.slice none 0 0],fun v _=>v=.agg #[.int .i64 1,.int .i64 0,.string ⟨#[122]⟩,.slice none 0 0],mn (TmR 2) [pwV 121,pwV 122],qh (pwQ pwE (pwV 121) (pwV 122)),mn (PrR 2) [pwQ pwP (pwV 120) (pwV 121),pwQ pwE (pwV 121) (pwV 122)],sM wL [],fun v _=>v=.int .u32 o,sM wL [.int .i64 0,.int .u32 o],eE w1.heap.size o]):=zT ⟨Stb.val _,⟨Stb.val _,⟨Stb.sl _ _,⟨Stb.pr _,⟨Stb.val _,⟨Stb.val _,⟨Stb.sl _ _,⟨Stb.pr _,⟨Stb.sl _ _,⟨Stb.ru _ _,⟨Stb.val _,⟨Stb.ru _ _,⟨Stb.val _,⟨Stb.val _,⟨Stb.sl _ _,⟨Stb.pr _,⟨Stb.val _,⟨Stb.val _,⟨Stb.sl _ _,⟨Stb.pr _,⟨Stb.val _,⟨Stb.val _,⟨Stb.sl _ _,⟨Stb.pr _,⟨Stb.sl _ _,⟨Stb.ru _ _,⟨Stb.val _,⟨Stb.ru _ _,⟨Stb.paths _ _,trivial⟩⟩⟩⟩⟩⟩⟩⟩⟩⟩⟩⟩⟩⟩⟩⟩⟩⟩⟩⟩⟩⟩⟩⟩⟩⟩⟩⟩⟩
 have HH0:Hid (w1.heap.size≤w1.drew.heap.size):=zT (zV _)
 have HDR:Hid (Below w1.heap.size w1 w1.drew):=zT (zX _ _).drew
 refine ei 29 (nZ [fun v _=>v=.agg #[.int .i64 1,.int .i64 0,.string ⟨#[120]⟩,.slice none 0 0],fun v _=>v=.agg #[.int .i64 1,.int .i64 0,.string ⟨#[121]⟩,.slice none 0 0],mn (TmR 2) [pwV 120,pwV 121],qh (pwQ pwP (pwV 120) (pwV 121)),fun v _=>v=.agg #[.int .i64 1,.int .i64 0,.string ⟨#[120]⟩,.slice none 0 0],fun v _=>v=.agg #[.int .i64 1,.int .i64 0,.string ⟨#[121]⟩,.slice none 0 0],mn (TmR 2) [pwV 120,pwV 121],qh (pwQ pwE (pwV 120) (pwV 121)),mn (PrR 2) [pwQ pwE (pwV 120) (pwV 121)],sM wK [],fun v _=>v=.int .u32 o,sM wK [.int .i64 0,.int .u32 o],fun v _=>v=.agg #[.int .i64 1,.int .i64 0,.string ⟨#[120]⟩,.slice none 0 0],fun v _=>v=.agg #[.int .i64 1,.int .i64 0,.string ⟨#[122]⟩,.slice none 0 0],mn (TmR 2) [pwV 120,pwV 122],qh (pwQ pwP (pwV 120) (pwV 122)),fun v _=>v=.agg #[.int .i64 1,.int .i64 0,.string ⟨#[120]⟩,.slice none 0 0],fun v _=>v=.agg #[.int .i64 1,.int .i64 0,.string ⟨#[121]⟩,.slice none 0 0],mn (TmR 2) [pwV 120,pwV 121],qh (pwQ pwP (pwV 120) (pwV 121)),fun v _=>v=.agg #[.int .i64 1,.int .i64 0,.string ⟨#[121]⟩,.slice none 0 0],fun v _=>v=.agg #[.int .i64 1,.int .i64 0,.string ⟨#[122]⟩,.slice none 0 0],mn (TmR 2) [pwV 121,pwV 122],qh (pwQ pwE (pwV 121) (pwV 122)),mn (PrR 2) [pwQ pwP (pwV 120) (pwV 121),pwQ pwE (pwV 121) (pwV 122)],sM wL [],fun v _=>v=.int .u32 o,sM wL [.int .i64 0,.int .u32 o],eE w1.heap.size o]) [] (w1.heap.size) HH0.out (by kernel_rfl) (by kernel_rfl) (by kernel_rfl) (by kernel_rfl) (by kernel_rfl) rfl (ab (ab (ab (ab (ab (ab (ab (ab (ab (ab (ab (ab (ab (ab (ab (ab (ab (ab (ab (ab (ab (ab (ab (ab (ab (ab (ab (ab (ab gi ?op0_) ?op1_) ?op2_) ?op3_) ?op4_) ?op5_) ?op6_) ?op7_) ?op8_) ?op9_) ?op10_) ?op11_) ?op12_) ?op13_) ?op14_) ?op15_) ?op16_) ?op17_) ?op18_) ?op19_) ?op20_) ?op21_) ?op22_) ?op23_) ?op24_) ?op25_) ?op26_) ?op27_) ?op28_) ?last_
 case op0_=>
  refine mvA fun T w' hk hb hgr hd K hK=>?_
  have h_:T[3]?.getD undef=.pointer (some ⟨wc.heap.size,0,none⟩):=gqd (mvK hk 3)
  have k_:=(HX1.out.later (HDR.out.trans hb)).cell
  have l_:=(HX1.out.later (HDR.out.trans hb)).lt
  clear hk hd
  go_simp
  exact hK.out _ _ (mvM HST HH0 hb) rfl
 case op1_=>
  refine mvA fun T w' hk hb hgr hd K hK=>?_
  have h_:T[4]?.getD undef=.pointer (some ⟨wc.heap.size+1,0,none⟩):=gqd (mvK hk 4)
  have k_:=(HY1.out.later (HDR.out.trans hb)).cell
  have l_:=(HY1.out.later (HDR.out.trans hb)).lt
  clear hk hd
  go_simp
  exact hK.out _ _ (mvM HST HH0 hb) rfl
 case op2_=>
  refine mvA fun T w' hk hb hgr hd K hK=>?_
  have d0:T[9]?.getD undef=.agg #[.int .i64 1,.int .i64 0,.string ⟨#[120]⟩,.slice none 0 0]:=gqd (mvD hd 0)
  have d1:T[10]?.getD undef=.agg #[.int .i64 1,.int .i64 0,.string ⟨#[121]⟩,.slice none 0 0]:=gqd (mvD hd 1)
  clear hk hd
  go_simp
  generalize hW:World.alloc _ _=w4
  obtain ⟨hb4,hz4⟩:=al1 hW
  have hN4:=hW▸heap_alloc_new w' _
  clear hW
  exact hK.out _ _ (mvN HST HH0 hb hb4) ⟨_,rfl,(show Blk w4 w'.heap.size _ from ⟨_,hN4⟩).rl2 (R:=TmR 2) (us:=[_,_,_,_]) (vs:=[_,_,_,_]) rfl (fv (by unfold I64;omega) (by unfold I64;omega) (by decide)) (fv (by unfold I64;omega) (by unfold I64;omega) (by decide)) (Array.getElem?_eq_some_iff.1 hN4).1⟩
 case op3_=>
  refine mvA fun T w' hk hb hgr hd K hK=>?_
  have d2:=mvD hd 2
  obtain ⟨A,e,rr⟩:=(show mn (TmR 2) [pwV 120,pwV 121] (T.getD 11 undef) w' from d2)
  clear d2
  replace e:T.getD 11 undef=.slice A 2 2:=e
  rw [zZ] at e
  clear hk hd
  go_simp
  refine cH.mono ?_
  rintro z w4 ⟨rfl,hb4⟩
  exact hK.out _ _ (mvN HST HH0 hb hb4) ⟨A,rfl,rr.near hb4⟩
 case op4_=>
  refine mvA fun T w' hk hb hgr hd K hK=>?_
  have h_:T[3]?.getD undef=.pointer (some ⟨wc.heap.size,0,none⟩):=gqd (mvK hk 3)
  have k_:=(HX1.out.later (HDR.out.trans hb)).cell
  have l_:=(HX1.out.later (HDR.out.trans hb)).lt
  clear hk hd
  go_simp
  exact hK.out _ _ (mvM HST HH0 hb) rfl
 case op5_=>
  refine mvA fun T w' hk hb hgr hd K hK=>?_
  have h_:T[4]?.getD undef=.pointer (some ⟨wc.heap.size+1,0,none⟩):=gqd (mvK hk 4)
  have k_:=(HY1.out.later (HDR.out.trans hb)).cell
  have l_:=(HY1.out.later (HDR.out.trans hb)).lt
  clear hk hd
  go_simp
  exact hK.out _ _ (mvM HST HH0 hb) rfl
 case op6_=>
  refine mvA fun T w' hk hb hgr hd K hK=>?_
  have d4:T[13]?.getD undef=.agg #[.int .i64 1,.int .i64 0,.string ⟨#[120]⟩,.slice none 0 0]:=gqd (mvD hd 4)
  have d5:T[14]?.getD undef=.agg #[.int .i64 1,.int .i64 0,.string ⟨#[121]⟩,.slice none 0 0]:=gqd (mvD hd 5)
  clear hk hd
  go_simp
  generalize hW:World.alloc _ _=w4
  obtain ⟨hb4,hz4⟩:=al1 hW
  have hN4:=hW▸heap_alloc_new w' _
  clear hW
  exact hK.out _ _ (mvN HST HH0 hb hb4) ⟨_,rfl,(show Blk w4 w'.heap.size _ from ⟨_,hN4⟩).rl2 (R:=TmR 2) (us:=[_,_,_,_]) (vs:=[_,_,_,_]) rfl (fv (by unfold I64;omega) (by unfold I64;omega) (by decide)) (fv (by unfold I64;omega) (by unfold I64;omega) (by decide)) (Array.getElem?_eq_some_iff.1 hN4).1⟩
 case op7_=>
  refine mvA fun T w' hk hb hgr hd K hK=>?_
  have d6:=mvD hd 6
  obtain ⟨A,e,rr⟩:=(show mn (TmR 2) [pwV 120,pwV 121] (T.getD 15 undef) w' from d6)
  clear d6
  replace e:T.getD 15 undef=.slice A 2 2:=e
  rw [zZ] at e
  clear hk hd
  go_simp
  refine cH.mono ?_
  rintro z w4 ⟨rfl,hb4⟩
  exact hK.out _ _ (mvN HST HH0 hb hb4) ⟨A,rfl,rr.near hb4⟩
 case op8_=>
  refine mvA fun T w' hk hb hgr hd K hK=>?_
  have d7:=mvD hd 7
  obtain ⟨A1,e1,r1⟩:=(show qh (pwQ pwE (pwV 120) (pwV 121)) (T.getD 16 undef) w' from d7)
  clear d7
  replace e1:T.getD 16 undef=.agg #[.string pwE,.slice A1 2 2]:=e1
  rw [zZ] at e1
  clear hk hd
  go_simp
  generalize hW:World.alloc _ _=w4
  obtain ⟨hb4,hz4⟩:=al1 hW
  have hN4:=hW▸heap_alloc_new w' _
  clear hW
  exact hK.out _ _ (mvN HST HH0 hb hb4) ⟨_,rfl,(show Blk w4 w'.heap.size _ from ⟨_,hN4⟩).rl (R:=PrR 2) (sj (by decide) (mV ((r1).near hb4) (zV _) (by simp [TmR,pwQ]) (by simp [pwQ]))) (Array.getElem?_eq_some_iff.1 hN4).1⟩
 case op9_=>
  refine mvA fun T w' hk hb hgr hd K hK=>?_
  have d3:=mvD hd 3
  have d8:=mvD hd 8
  obtain ⟨A1,e1,r1⟩:=(show qh (pwQ pwP (pwV 120) (pwV 121)) (T.getD 12 undef) w' from d3)
  clear d3
  replace e1:T.getD 12 undef=.agg #[.string pwP,.slice A1 2 2]:=e1
  rw [zZ] at e1
  obtain ⟨B1,e2,r2⟩:=(show mn (PrR 2) [pwQ pwE (pwV 120) (pwV 121)] (T.getD 17 undef) w' from d8)
  clear d8
  replace e2:T.getD 17 undef=.slice B1 1 1:=e2
  rw [zZ] at e2
  clear hk hd
  go_simp
  exact hK.out _ _ (mvM HST HH0 hb) ⟨A1,B1,rfl,r1,r2⟩
 case op10_=>
  refine mvA fun T w' hk hb hgr hd K hK=>?_
  have h_:T[0]?.getD undef=.int .u32 o:=gqd (mvK hk 0)
  clear hk hd
  go_simp
  exact hK.out _ _ (mvM HST HH0 hb) rfl
 case op11_=>
  refine mvA fun T w' hk hb hgr hd K hK=>?_
  have d9:=mvD hd 9
  obtain ⟨A1,B1,e1,r1,r2⟩:=(show sM wK [] (T.getD 18 undef) w' from d9)
  clear d9
  replace e1:T.getD 18 undef=.agg #[.string pwP,.slice A1 2 2,.slice B1 1 1,.slice none 0 0,.slice none 0 0]:=e1
  rw [zZ] at e1
  have d10:T[19]?.getD undef=.int .u32 o:=gqd (mvD hd 10)
  clear hk hd
  go_simp
  exact hK.out _ _ (mvM HST HH0 hb) ⟨A1,B1,rfl,r1,r2⟩
 case op12_=>
  refine mvA fun T w' hk hb hgr hd K hK=>?_
  have h_:T[3]?.getD undef=.pointer (some ⟨wc.heap.size,0,none⟩):=gqd (mvK hk 3)
  have k_:=(HX1.out.later (HDR.out.trans hb)).cell
  have l_:=(HX1.out.later (HDR.out.trans hb)).lt
  clear hk hd
  go_simp
  exact hK.out _ _ (mvM HST HH0 hb) rfl
 case op13_=>
  refine mvA fun T w' hk hb hgr hd K hK=>?_
  have h_:T[5]?.getD undef=.pointer (some ⟨wc.heap.size+1+1,0,none⟩):=gqd (mvK hk 5)
  have k_:=(HZ1.out.later (HDR.out.trans hb)).cell
  have l_:=(HZ1.out.later (HDR.out.trans hb)).lt
  clear hk hd
  go_simp
  exact hK.out _ _ (mvM HST HH0 hb) rfl
 case op14_=>
  refine mvA fun T w' hk hb hgr hd K hK=>?_
  have d12:T[21]?.getD undef=.agg #[.int .i64 1,.int .i64 0,.string ⟨#[120]⟩,.slice none 0 0]:=gqd (mvD hd 12)
  have d13:T[22]?.getD undef=.agg #[.int .i64 1,.int .i64 0,.string ⟨#[122]⟩,.slice none 0 0]:=gqd (mvD hd 13)
  clear hk hd
  go_simp
  generalize hW:World.alloc _ _=w4
  obtain ⟨hb4,hz4⟩:=al1 hW
  have hN4:=hW▸heap_alloc_new w' _
  clear hW
  exact hK.out _ _ (mvN HST HH0 hb hb4) ⟨_,rfl,(show Blk w4 w'.heap.size _ from ⟨_,hN4⟩).rl2 (R:=TmR 2) (us:=[_,_,_,_]) (vs:=[_,_,_,_]) rfl (fv (by unfold I64;omega) (by unfold I64;omega) (by decide)) (fv (by unfold I64;omega) (by unfold I64;omega) (by decide)) (Array.getElem?_eq_some_iff.1 hN4).1⟩
 case op15_=>
  refine mvA fun T w' hk hb hgr hd K hK=>?_
  have d14:=mvD hd 14
  obtain ⟨A,e,rr⟩:=(show mn (TmR 2) [pwV 120,pwV 122] (T.getD 23 undef) w' from d14)
  clear d14
  replace e:T.getD 23 undef=.slice A 2 2:=e
  rw [zZ] at e
  clear hk hd
  go_simp
  refine cH.mono ?_
  rintro z w4 ⟨rfl,hb4⟩
  exact hK.out _ _ (mvN HST HH0 hb hb4) ⟨A,rfl,rr.near hb4⟩
 case op16_=>
  refine mvA fun T w' hk hb hgr hd K hK=>?_
  have h_:T[3]?.getD undef=.pointer (some ⟨wc.heap.size,0,none⟩):=gqd (mvK hk 3)
  have k_:=(HX1.out.later (HDR.out.trans hb)).cell
  have l_:=(HX1.out.later (HDR.out.trans hb)).lt
  clear hk hd
  go_simp
  exact hK.out _ _ (mvM HST HH0 hb) rfl
 case op17_=>
  refine mvA fun T w' hk hb hgr hd K hK=>?_
  have h_:T[4]?.getD undef=.pointer (some ⟨wc.heap.size+1,0,none⟩):=gqd (mvK hk 4)
  have k_:=(HY1.out.later (HDR.out.trans hb)).cell
  have l_:=(HY1.out.later (HDR.out.trans hb)).lt
  clear hk hd
  go_simp
  exact hK.out _ _ (mvM HST HH0 hb) rfl
 case op18_=>
  refine mvA fun T w' hk hb hgr hd K hK=>?_
  have d16:T[25]?.getD undef=.agg #[.int .i64 1,.int .i64 0,.string ⟨#[120]⟩,.slice none 0 0]:=gqd (mvD hd 16)
  have d17:T[26]?.getD undef=.agg #[.int .i64 1,.int .i64 0,.string ⟨#[121]⟩,.slice none 0 0]:=gqd (mvD hd 17)
  clear hk hd
  go_simp
  generalize hW:World.alloc _ _=w4
  obtain ⟨hb4,hz4⟩:=al1 hW
  have hN4:=hW▸heap_alloc_new w' _
  clear hW
  exact hK.out _ _ (mvN HST HH0 hb hb4) ⟨_,rfl,(show Blk w4 w'.heap.size _ from ⟨_,hN4⟩).rl2 (R:=TmR 2) (us:=[_,_,_,_]) (vs:=[_,_,_,_]) rfl (fv (by unfold I64;omega) (by unfold I64;omega) (by decide)) (fv (by unfold I64;omega) (by unfold I64;omega) (by decide)) (Array.getElem?_eq_some_iff.1 hN4).1⟩
 case op19_=>
  refine mvA fun T w' hk hb hgr hd K hK=>?_
  have d18:=mvD hd 18
  obtain ⟨A,e,rr⟩:=(show mn (TmR 2) [pwV 120,pwV 121] (T.getD 27 undef) w' from d18)
  clear d18
  replace e:T.getD 27 undef=.slice A 2 2:=e
  rw [zZ] at e
  clear hk hd
  go_simp
  refine cH.mono ?_
  rintro z w4 ⟨rfl,hb4⟩
  exact hK.out _ _ (mvN HST HH0 hb hb4) ⟨A,rfl,rr.near hb4⟩
 case op20_=>
  refine mvA fun T w' hk hb hgr hd K hK=>?_
  have h_:T[4]?.getD undef=.pointer (some ⟨wc.heap.size+1,0,none⟩):=gqd (mvK hk 4)
  have k_:=(HY1.out.later (HDR.out.trans hb)).cell
  have l_:=(HY1.out.later (HDR.out.trans hb)).lt
  clear hk hd
  go_simp
  exact hK.out _ _ (mvM HST HH0 hb) rfl
 case op21_=>
  refine mvA fun T w' hk hb hgr hd K hK=>?_
  have h_:T[5]?.getD undef=.pointer (some ⟨wc.heap.size+1+1,0,none⟩):=gqd (mvK hk 5)
  have k_:=(HZ1.out.later (HDR.out.trans hb)).cell
  have l_:=(HZ1.out.later (HDR.out.trans hb)).lt
  clear hk hd
  go_simp
  exact hK.out _ _ (mvM HST HH0 hb) rfl
 case op22_=>
  refine mvA fun T w' hk hb hgr hd K hK=>?_
  have d20:T[29]?.getD undef=.agg #[.int .i64 1,.int .i64 0,.string ⟨#[121]⟩,.slice none 0 0]:=gqd (mvD hd 20)
  have d21:T[30]?.getD undef=.agg #[.int .i64 1,.int .i64 0,.string ⟨#[122]⟩,.slice none 0 0]:=gqd (mvD hd 21)
  clear hk hd
  go_simp
  generalize hW:World.alloc _ _=w4
  obtain ⟨hb4,hz4⟩:=al1 hW
  have hN4:=hW▸heap_alloc_new w' _
  clear hW
  exact hK.out _ _ (mvN HST HH0 hb hb4) ⟨_,rfl,(show Blk w4 w'.heap.size _ from ⟨_,hN4⟩).rl2 (R:=TmR 2) (us:=[_,_,_,_]) (vs:=[_,_,_,_]) rfl (fv (by unfold I64;omega) (by unfold I64;omega) (by decide)) (fv (by unfold I64;omega) (by unfold I64;omega) (by decide)) (Array.getElem?_eq_some_iff.1 hN4).1⟩
 case op23_=>
  refine mvA fun T w' hk hb hgr hd K hK=>?_
  have d22:=mvD hd 22
  obtain ⟨A,e,rr⟩:=(show mn (TmR 2) [pwV 121,pwV 122] (T.getD 31 undef) w' from d22)
  clear d22
  replace e:T.getD 31 undef=.slice A 2 2:=e
  rw [zZ] at e
  clear hk hd
  go_simp
  refine cH.mono ?_
  rintro z w4 ⟨rfl,hb4⟩
  exact hK.out _ _ (mvN HST HH0 hb hb4) ⟨A,rfl,rr.near hb4⟩
 case op24_=>
  refine mvA fun T w' hk hb hgr hd K hK=>?_
  have d19:=mvD hd 19
  have d23:=mvD hd 23
  obtain ⟨A1,e1,r1⟩:=(show qh (pwQ pwP (pwV 120) (pwV 121)) (T.getD 28 undef) w' from d19)
  clear d19
  replace e1:T.getD 28 undef=.agg #[.string pwP,.slice A1 2 2]:=e1
  rw [zZ] at e1
  obtain ⟨A2,e2,r2⟩:=(show qh (pwQ pwE (pwV 121) (pwV 122)) (T.getD 32 undef) w' from d23)
  clear d23
  replace e2:T.getD 32 undef=.agg #[.string pwE,.slice A2 2 2]:=e2
  rw [zZ] at e2
  clear hk hd
  go_simp
  generalize hW:World.alloc _ _=w4
  obtain ⟨hb4,hz4⟩:=al1 hW
  have hN4:=hW▸heap_alloc_new w' _
  clear hW
  exact hK.out _ _ (mvN HST HH0 hb hb4) ⟨_,rfl,(show Blk w4 w'.heap.size _ from ⟨_,hN4⟩).rl2 (R:=PrR 2) (us:=[_,_]) (vs:=[_,_]) rfl (sj (by decide) (mV ((r1).near hb4) (zV _) (by simp [TmR,pwQ]) (by simp [pwQ]))) (sj (by decide) (mV ((r2).near hb4) (zV _) (by simp [TmR,pwQ]) (by simp [pwQ]))) (Array.getElem?_eq_some_iff.1 hN4).1⟩
 case op25_=>
  refine mvA fun T w' hk hb hgr hd K hK=>?_
  have d15:=mvD hd 15
  have d24:=mvD hd 24
  obtain ⟨A1,e1,r1⟩:=(show qh (pwQ pwP (pwV 120) (pwV 122)) (T.getD 24 undef) w' from d15)
  clear d15
  replace e1:T.getD 24 undef=.agg #[.string pwP,.slice A1 2 2]:=e1
  rw [zZ] at e1
  obtain ⟨B1,e2,r2⟩:=(show mn (PrR 2) [pwQ pwP (pwV 120) (pwV 121),pwQ pwE (pwV 121) (pwV 122)] (T.getD 33 undef) w' from d24)
  clear d24
  replace e2:T.getD 33 undef=.slice B1 2 2:=e2
  rw [zZ] at e2
  clear hk hd
  go_simp
  exact hK.out _ _ (mvM HST HH0 hb) ⟨A1,B1,rfl,r1,r2⟩
 case op26_=>
  refine mvA fun T w' hk hb hgr hd K hK=>?_
  have h_:T[0]?.getD undef=.int .u32 o:=gqd (mvK hk 0)
  clear hk hd
  go_simp
  exact hK.out _ _ (mvM HST HH0 hb) rfl
 case op27_=>
  refine mvA fun T w' hk hb hgr hd K hK=>?_
  have d25:=mvD hd 25
  obtain ⟨A1,B1,e1,r1,r2⟩:=(show sM wL [] (T.getD 34 undef) w' from d25)
  clear d25
  replace e1:T.getD 34 undef=.agg #[.string pwP,.slice A1 2 2,.slice B1 2 2,.slice none 0 0,.slice none 0 0]:=e1
  rw [zZ] at e1
  have d26:T[35]?.getD undef=.int .u32 o:=gqd (mvD hd 26)
  clear hk hd
  go_simp
  exact hK.out _ _ (mvM HST HH0 hb) ⟨A1,B1,rfl,r1,r2⟩
 case op28_=>
  refine mvA fun T w' hk hb hgr hd K hK=>?_
  have d11:=mvD hd 11
  have d27:=mvD hd 27
  obtain ⟨A1,B1,e1,r1,s1⟩:=(show sM wK [.int .i64 0,.int .u32 o] (T.getD 20 undef) w' from d11)
  clear d11
  replace e1:T.getD 20 undef=.agg #[.string pwP,.slice A1 2 2,.slice B1 1 1,.slice none 0 0,.slice none 0 0,.int .i64 0,.int .u32 o]:=e1
  rw [zZ] at e1
  obtain ⟨A2,B2,e2,r2,s2⟩:=(show sM wL [.int .i64 0,.int .u32 o] (T.getD 36 undef) w' from d27)
  clear d27
  replace e2:T.getD 36 undef=.agg #[.string pwP,.slice A2 2 2,.slice B2 2 2,.slice none 0 0,.slice none 0 0,.int .i64 0,.int .u32 o]:=e2
  rw [zZ] at e2
  clear hk hd
  go_simp
  generalize hW:World.alloc _ _=w4
  obtain ⟨hb4,hz4⟩:=al1 hW
  have hN4:=hW▸heap_alloc_new w' _
  clear hW
  exact hK.out _ _ (mvN HST HH0 hb hb4) ⟨w'.heap.size,A1,B1,A2,B2,rfl,hb.size,⟨_,hN4⟩,((RuR 2).keep hb4 (zV _) (pw_ru (r:=wK) (by decide) rfl (by decide) rfl rfl r1 s1)),((RuR 2).keep hb4 (zV _) (pw_ru (r:=wL) (by decide) rfl (by decide) rfl rfl r2 s2))⟩
 case last_=>
  refine mvL fun T w' hk hb hgr hd K hK=>?_
  have d28:=mvD hd 28
  replace d28:eE w1.heap.size o (T.getD 37 undef) w':=d28
  generalize hv:T.getD 37 undef=v at d28
  have HP:=zT d28
  clear d28
  have hT:=ji hk.1
  obtain ⟨f_,hf_⟩:∃f_:Nat→Value,(fun t=>T.getD t undef)=f_:=⟨_,rfl⟩
  rw [hf_] at hT
  replace hv:f_ 37=_:=(congrFun hf_ 37).symm.trans hv
  replace hT:T=#[f_ 0,f_ 1,f_ 2,f_ 3,f_ 4,f_ 5,f_ 6,f_ 7,f_ 8,f_ 9,f_ 10,f_ 11,f_ 12,f_ 13,f_ 14,f_ 15,f_ 16,f_ 17,f_ 18,f_ 19,f_ 20,f_ 21,f_ 22,f_ 23,f_ 24,f_ 25,f_ 26,f_ 27,f_ 28,f_ 29,f_ 30,f_ 31,f_ 32,f_ 33,f_ 34,f_ 35,f_ 36,f_ 37]:=hT
  clear hf_
  subst hT
  rw [hv]
  clear hd hk
  go_simp
  refine hK.out _ _ ?_
  clear hK
  have HB2:=zT (HB1.out.trans ((HDR.out.trans hb).mono HB1.out.size))
  go_wp2_with fail
  go_ret
  exact ⟨⟨v,rfl,HP.out.lower HB1.out.size⟩,HB2.out⟩
theorem zN {w:World} {T:Nat} {s:ByteArray} {m n:Int} (h:Blk w T #[.int .i64 2,.int .i64 m,.string ⟨#[]⟩,.slice none 0 0,.int .i64 2,.int .i64 n,.string ⟨#[]⟩,.slice none 0 0]) (hs:s.size≤140737488351232) (hm:I64 m) (hn:I64 n):(az 2).rd w w.heap.size (pwF s m n) [.string s,.slice (some ⟨T,0,none⟩) 2 2,.int .u32 1]:=
 lit_fc (f:=pwF s m n) (sj hs (mV (R:=TmR 2) (c:=2) (h.rl2 (R:=TmR 2) (x:=pwN m) (y:=pwN n) (us:=[_,_,_,_]) (vs:=[_,_,_,_]) rfl (fv (by unfold I64;omega) hm (by decide)) (fv (by unfold I64;omega) hn (by decide)) h.lt) (by simp) (by simp [TmR]) (by omega))) (by unfold U32;simp [pwF])
theorem pw_has1 {xs:List FV} (h:some pw2=some (xs.map FV.f)):xs.length=5∧ip (xs.map FV.f) (pwF pwP 1 3)=true:=by
 have e:=Option.some.inj h
 have h1:(xs.map FV.f).length=5:=by rw [←e];rfl
 exact ⟨by rw [←h1,Ad],by rw [←e];exact pw_has⟩
theorem qq {w:World} {m:Int} (hm:w.cell? ⟨0,0,none⟩=some (.int .i64 m)) (hp:0<w.heap.size):Calls Tryz.prog 12 #[] w fun z w'=>z=.returned (.bool true)∧Below w.heap.size w w':=by
 have HM:=zT hm
 clear hm
 go_enter Tryz.func12,Tryz.ntmps12
 go_wp2_with fail
 refine eO.mono ?_
 rintro z w1 ⟨rfl,hb_⟩
 have HBw1:=zT (hb_)
 clear hb_
 go_wp2_with fail
 refine eO.mono ?_
 rintro z w2 ⟨rfl,hb_⟩
 have HBw2:=zT (ac HBw1.out hb_)
 clear hb_
 go_wp2_with fail
 generalize hW:World.alloc _ _=w3
 obtain ⟨hb_,hz_⟩:=al1 hW
 have HTw3:=zT (n11 hW)
 have HBw3:=zT (ac HBw2.out hb_)
 clear hW hb_
 try rw [show w2.heap.size+1=w3.heap.size from hz_.symm]
 refine cH.mono ?_
 rintro z w4 ⟨rfl,hb_⟩
 have HBw4:=zT (ac HBw3.out hb_)
 have HTw4:=zT (HTw3.out.later hb_)
 clear hb_
 go_wp2_with fail
 refine eO.mono ?_
 rintro z w5 ⟨rfl,hb_⟩
 have HBw5:=zT (ac HBw4.out hb_)
 have HTw5:=zT (HTw4.out.later hb_)
 clear hb_
 go_wp2_with fail
 refine eO.mono ?_
 rintro z w6 ⟨rfl,hb_⟩
 have HBw6:=zT (ac HBw5.out hb_)
 have HTw6:=zT (HTw5.out.later hb_)
 clear hb_
 go_wp2_with fail
 generalize hW:World.alloc _ _=w7
 obtain ⟨hb_,hz_⟩:=al1 hW
 have HUw7:=zT (n11 hW)
 have HBw7:=zT (ac HBw6.out hb_)
 have HTw7:=zT (HTw6.out.later hb_)
 clear hW hb_
 try rw [show w6.heap.size+1=w7.heap.size from hz_.symm]
 refine cH.mono ?_
 rintro z w8 ⟨rfl,hb_⟩
 have HBw8:=zT (ac HBw7.out hb_)
 have HTw8:=zT (HTw7.out.later hb_)
 have HUw8:=zT (HUw7.out.later hb_)
 clear hb_
 go_wp2_with fail
 generalize hW:World.alloc _ _=w9
 obtain ⟨hb_,hz_⟩:=al1 hW
 have HGw9:=zT (n11 hW)
 have HBw9:=zT (ac HBw8.out hb_)
 have HTw9:=zT (HTw8.out.later hb_)
 have HUw9:=zT (HUw8.out.later hb_)
 clear hW hb_
 try rw [show w8.heap.size+1=w9.heap.size from hz_.symm]
 refine (rj (o:=1) (by unfold U32;simp)).mono ?_
 rintro z w10 ⟨⟨v,rfl,hv⟩,hb_⟩
 obtain ⟨A,rfl,hr⟩:=hv.rl (by unfold U32;simp)
 have HR:=zT hr
 have HBw10:=zT (ac HBw9.out hb_)
 have HTw10:=zT (HTw9.out.later hb_)
 have HUw10:=zT (HUw9.out.later hb_)
 have HGw10:=zT (HGw9.out.later hb_)
 clear hb_ hv hr
 go_wp2_with fail
 have HL:Hid (RL (az 2) w10 w10.heap.size pw0 (some ⟨w8.heap.size,0,none⟩)):=zT (HGw10.out.rl2 (R:=az 2) (us:=[_,_,_]) (vs:=[_,_,_]) rfl (zN HTw10.out (by decide) (by unfold I64;omega) (by unfold I64;omega)) (zN HUw10.out (by decide) (by unfold I64;omega) (by unfold I64;omega)) HGw10.out.lt)
 have hrun:=rx (d:=1) (B:=w10.heap.size) (c:=2) (cr:=2) (lf:=10) (lr:=5) (rs:=pwO 1) HL.out HR.out (zV _) (by decide) (by decide) (fun f hf=>by
  simp only [pw0,List.mem_cons,List.not_mem_nil,or_false] at hf
  rcases hf with rfl | rfl<;>decide) (by unfold I64;omega) (by unfold I64;omega) ((HBw10.out.cell (p:=⟨0,0,none⟩) hp).trans HM.out) (by have:=HBw10.out.size;omega)
 rw [pw_fix] at hrun
 refine hrun.mono ?_
 rintro z w11 ⟨⟨S,base,xs,As,cs,rfl,hst,hx,_,_⟩ | ⟨_,h⟩,hb_⟩
 rotate_left
 ·cases h
 have HST:=zT hst
 obtain ⟨hl5,hhas⟩:=pw_has1 hx
 have HL5:=zT hl5
 have HHAS:=zT hhas
 have HBw11:=zT (ac HBw10.out hb_)
 clear hb_ hst hx hrun hl5 hhas
 go_wp2_with fail
 refine (mc HST.out).mono ?_
 rintro z w12 ⟨rfl,rfl⟩
 rw [show ((xs.length:Nat):Int)=5 by rw [HL5.out];rfl]
 go_wp2_with fail
 refine eO.mono ?_
 rintro z w13 ⟨rfl,hb_⟩
 have HBw13:=zT (ac HBw11.out hb_)
 have HSTw13:=zT (HST.out.later hb_)
 clear hb_
 go_wp2_with fail
 refine eO.mono ?_
 rintro z w14 ⟨rfl,hb_⟩
 have HBw14:=zT (ac HBw13.out hb_)
 have HSTw14:=zT (HSTw13.out.later hb_)
 clear hb_
 go_wp2_with fail
 generalize hW:World.alloc _ _=w15
 obtain ⟨hb_,hz_⟩:=al1 hW
 have HPw15:=zT (n11 hW)
 have HBw15:=zT (ac HBw14.out hb_)
 have HSTw15:=zT (HSTw14.out.later hb_)
 clear hW hb_
 try rw [show w14.heap.size+1=w15.heap.size from hz_.symm]
 refine cH.mono ?_
 rintro z w16 ⟨rfl,hb_⟩
 have HBw16:=zT (ac HBw15.out hb_)
 have HPw16:=zT (HPw15.out.later hb_)
 have HSTw16:=zT (HSTw15.out.later hb_)
 clear hb_
 go_wp2_with fail
 refine (mb (d:=1) (B:=w16.heap.size) (f:=pwF pwP 1 3) (vf:=[_,_,_]) HSTw16.out (zN HPw16.out (by decide) (by unfold I64;omega) (by unfold I64;omega)) (zV _) (by rw [HL5.out];decide) (by decide)).mono ?_
 rintro z w17 ⟨rfl,hb_⟩
 have HBw17:=zT (ac HBw16.out hb_)
 clear hb_
 rw [HHAS.out]
 go_wp2_with fail
 go_ret
 exact ⟨rfl,HBw17.out⟩
theorem kg (d:Nat):cY (az d):=fun h u hu=>by
 obtain ⟨A,c,rfl,_⟩:=aN h
 simp only [List.mem_cons,List.not_mem_nil,or_false] at hu
 rcases hu with rfl | rfl | rfl<;>rfl
theorem wO {d:Nat} {w:World} {B n c:Nat} {xs:List Fc} {A:Option Addr} (h:RSl (az d) w B xs (.slice A n c)):RL (az d) w B xs A:=by
 obtain ⟨A',c',e',_,_,hr⟩:=h
 cases e'
 exact hr
def zi (d:Nat) (w:World) (R:Option (List Fc) × Int × Int) (p:Option Addr):Prop:=R.2.2=0→∃S base xs As cs,p=some ⟨S,0,none⟩∧StA base d w S xs As cs∧R.1=some (xs.map FV.f)
theorem zi.later {d:Nat} {w w':World} {R:Option (List Fc) × Int × Int} {p:Option Addr} (h:zi d w R p) (hb:Below w.heap.size w w'):zi d w' R p:=fun h0=>by
 obtain ⟨S,base,xs,As,cs,e,k,hx⟩:=h h0
 exact ⟨S,base,xs,As,cs,e,k.later hb,hx⟩
theorem uq.p {d:Nat} {w w':World} {l:List Fc} {rs:List OwD} {lf lr:Int} {z:Ending} (h:uq d w w' (el l rs lf lr) z) (hl:∀f∈l,sI f):(∃p,z=.returned (.tuple #[.pointer p,.int .i64 (el l rs lf lr).2.1,.int .i64 (el l rs lf lr).2.2])∧zi d w' (el l rs lf lr) p)∧Below w.heap.size w w':=by
 obtain ⟨⟨S,base,xs,As,cs,rfl,k,hx,_,_⟩ | ⟨rfl,hn⟩,hb⟩:=h
 ·exact ⟨⟨_,rfl,fun _=>⟨S,base,xs,As,cs,rfl,k,hx⟩⟩,hb⟩
 ·refine ⟨⟨_,rfl,fun h0=>?_⟩,hb⟩
  obtain ⟨gs,m,e,_⟩:=zz hl h0
  rw [e] at hn
  cases hn
theorem nC {w w':World} {v v':Value} {k:Nat} {cs:Array Value} {T:TypeId} (h:w.heap[k]? = some (.cells cs T (0,0))) (hn:v.ownBlock≠some k) (hg:w.grownBy w' v.ownBlock) (hf:bv w v v'):w'.heap[k]? = some (.cells cs T (0,0)):=(fx.app (fx.mk' h hn) hg hf).1
end Go.Proofs.YtjpndglegpcdnaaGreat
