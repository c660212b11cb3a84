/- viaticumlaw21.variable, number, pred, paths. Printed by mk_fxaw.py. -/
import Derived.Test.YtdphibjibnffeaaGreatRs3
import Derived.Test.YtdphibjibnffeaaGreatMade
import Derived.Test.YtdphibjibnffeaaGreatScope
import Derived.Test.YtdphibjibnffeaaGreatFx1
import Derived.Test.YtdphibjibnffeaaGreatFx2
set_option linter.unusedVariables false
set_option linter.unusedSimpArgs false
set_option maxRecDepth 100000
set_option maxHeartbeats 8000000
namespace Go.Proofs.YtdphibjibnffeaaGreat
open Go.ChangeShapes Go.WideShapes Go.ChangeAt Go.RowKit
def iw (n m:Nat) (z:Ending):Prop:=∃q:Bool,z=.returned (.bool q)∧(q=true→n≤60∧m≤400)
theorem iw.no {n m:Nat}:iw n m (.returned (.bool false)):=⟨false,rfl,fun h=>by cases h⟩
theorem ow_rule {d B:Nat} {w:World} {o:OwD} {v0 v1 v2 v3 v4 v5 v6:Value} (h:(OwR d).rd w B o [v0,v1,v2,v3,v4,v5,v6]):(RuR d).rd w B o.rule [v0,v1,v2,v3,v4]:=by
 obtain ⟨_,_,_,_,_,_,_,_,e,hr,_⟩:=jB h
 simp only [List.cons.injEq,and_true] at e
 obtain ⟨rfl,rfl,rfl,rfl,rfl,_,_⟩:=e
 exact hr
theorem vd {d B c cr:Nat} {l:List Fc} {rs:List OwD} {A Ar:Option Addr} {lf lr:Int} {w:World} (hl:RL (ay (d+1)) w B l A) (hr:RL (OwR (d+1)) w B rs Ar) (hB:B≤w.heap.size) (hn:l.length≤140737488351232) (hrn:rs.length≤140737488351232) :
 Calls Tryz.prog 42 #[.slice A l.length c,.slice Ar rs.length cr,.agg #[.int .i64 lf,.int .i64 lr]] w fun z w'=>iw l.length rs.length z∧Below w.heap.size w w':=by
 have HL:=zE hl
 have HR:=zE hr
 clear hl hr
 go_enter Tryz.func42,Tryz.ntmps42
 go_upto_region 1 with fail
 generalize hW:World.alloc _ _=w1
 obtain ⟨hb1,hz⟩:=al1 hW
 have HK1:=zE (n11 hW)
 have HB1:=zE hb1
 clear hW hb1 hz
 go_upto_region 3 with fail
 go_loopw [7,12] (fun u i wr=>∃(k:Nat) (n:Int),k≤rs.length∧i=.int .i64 k∧u=.int .i64 n∧(k:Int)≤n∧n≤400∧Hid (Below w1.heap.size w1 wr)) (fun _ i _=>rs.length-(intOf i).toNat)
 case atStart=>exact ⟨0,0,zH _,rfl,rfl,by omega,by omega,zE (zI _ _)⟩
 case round=>
  obtain ⟨k,n,hk,rfl,rfl,hn0,hn1,HW⟩:=hrel
  have HBr:=zE (ab HB1.out HW.out)
  have hszr:=HBr.out.size
  have hBr:B≤wr.heap.size:=zF hB hszr
  by_cases hlt:k<rs.length
  ·obtain ⟨b,off,rfl,hob⟩:=(HR.out.keep HBr.out hB).base (zI _ _) hBr (by omega)
   obtain ⟨x,vs,hx,hlen,hcell,hr⟩:=(HR.out.keep HBr.out hB).at_ (zI _ _) hBr hlt
   have HRX:=zE hr
   obtain ⟨A0,c0,A1,c1,A2,c2,A3,c3,rfl,hrr,_,_⟩:=jB hr
   have hbn:x.rule.body.length≤140737488351232:=by
    obtain ⟨_,_,_,_,e,_,_,⟨_,_,_,_,h,_⟩,_⟩:=hrr
    have:=h.1
    simp only [PrR] at this
    omega
   have p0:wr.cell? ⟨b,off+k*7,none⟩=some (.string x.rule.head.name):=hcell 0 _ rfl
   have p1:wr.cell? ⟨b,off+k*7+1,none⟩=some (.slice A0 x.rule.head.terms.length c0):=hcell 1 _ rfl
   have p2:wr.cell? ⟨b,off+k*7+2,none⟩=some (.slice A1 x.rule.body.length c1):=hcell 2 _ rfl
   have p3:wr.cell? ⟨b,off+k*7+3,none⟩=some (.slice A2 x.rule.exprs.length c2):=hcell 3 _ rfl
   have p4:wr.cell? ⟨b,off+k*7+4,none⟩=some (.slice A3 x.rule.scopes.length c3):=hcell 4 _ rfl
   have p5:wr.cell? ⟨b,off+k*7+5,none⟩=some (.int .i64 x.block):=hcell 5 _ rfl
   have p6:wr.cell? ⟨b,off+k*7+6,none⟩=some (.int .u32 x.trusted):=hcell 6 _ rfl
   clear hcell hlen hx hr hrr
   go_upto_region 5 with fail
   generalize hW:World.alloc _ _=w3
   obtain ⟨hb3,hz3⟩:=al1 hW
   have HK3:=zE (n11 hW)
   have HW3:=zE (ab HW.out hb3)
   have HB3:=zE (ab HBr.out hb3)
   have HRR:=zE (ow_rule ((OwR (d+1)).keep hb3 hBr HRX.out))
   have hsz3:=hb3.size
   clear hW hb3 hz3 p0 p1 p2 p3 p4 p5 p6
   have k_r:=HK3.out.cell
   have l_r:=HK3.out.lt
   go_wp2_with fail
   refine (nf (d:=d+1) (B:=B) (r:=x.rule) (vs:=[_,_,_,_,_]) HRR.out (by omega)).mono ?_
   rintro z w4 ⟨⟨m,rfl,hm0,hm1⟩,hb4⟩
   have HK4:=zE (HK3.out.later hb4)
   have HW4:=zE (ab HW3.out hb4)
   have HB4:=zE (ab HB3.out hb4)
   clear hb4 k_r l_r
   have k_r:=HK4.out.cell
   have l_r:=HK4.out.lt
   have hln:(l.length:Int)≤140737488351232:=by omega
   have hbi:(x.rule.body.length:Int)≤140737488351232:=by omega
   have hk0:(0:Int)≤(k:Int):=Int.natCast_nonneg _
   by_cases hb2:(2:Int)<(x.rule.body.length:Int)
   ·by_cases hl12:(12:Int)<(l.length:Int)
    ·go_wp2_with fail
     go_ret
     exact ⟨iw.no,HB4.out⟩
    ·by_cases h4:(400:Int)<n+(1+m)
     ·go_wp2_with fail
      go_ret
      exact ⟨iw.no,HB4.out⟩
     ·go_wp2_with fail
      go_roundw
      case rel=>exact ⟨k+1,n+(1+m),by omega,by go_num,rfl,by omega,by omega,HW4⟩
      case measure=>simp [intOf];omega
   ·by_cases h4:(400:Int)<n+(1+m)
    ·go_wp2_with fail
     go_ret
     exact ⟨iw.no,HB4.out⟩
    ·go_wp2_with fail
     go_roundw
     case rel=>exact ⟨k+1,n+(1+m),by omega,by go_num,rfl,by omega,by omega,HW4⟩
     case measure=>simp [intOf];omega
  ·have hrl:rs.length≤400:=by omega
   have HKr:=zE (HK1.out.later HW.out)
   generalize wr=w2 at *
   go_wp2_with fail
   refine (tv (HL.out.keep HBr.out hB) hBr hn).mono ?_
   rintro z w3 ⟨⟨v,rfl,hv⟩,hb3⟩
   have HB3:=zE (ab HBr.out hb3)
   have HK3:=zE (HKr.out.later hb3)
   clear hb3
   have k_l:=HK3.out.cell
   have l_l:=HK3.out.lt
   by_cases hv0:v=0
   rotate_left
   ·have hv1:((0:Int)==v)=false:=by rw [beq_eq_false_iff_ne];omega
    clear hv
    go_wp2_with fail
    go_ret
    exact ⟨iw.no,HB3.out⟩
   subst hv0
   clear hv
   by_cases hl60:(l.length:Int)≤60
   rotate_left
   ·clear hk hn0 hn1 hn hrn
    go_wp2_with fail
    go_ret
    exact ⟨iw.no,HB3.out⟩
   have YES:∀q:Bool,iw l.length rs.length (.returned (.bool q)):=fun q=>⟨q,rfl,fun _=>⟨by omega,hrl⟩⟩
   have HY:=zE YES
   clear YES
   by_cases hf1:lf≤60
   ·by_cases hr1:lr≤20
    ·go_wp2_with fail
     go_ret
     exact ⟨HY.out _,HB3.out⟩
    ·go_wp2_with fail
     go_ret
     exact ⟨HY.out _,HB3.out⟩
   ·by_cases hf2:(1000:Int)<lf
    ·by_cases hr1:lr≤20
     ·go_wp2_with fail
      go_ret
      exact ⟨HY.out _,HB3.out⟩
     ·go_wp2_with fail
      go_ret
      exact ⟨HY.out _,HB3.out⟩
    ·go_wp2_with fail
     go_ret
     exact ⟨HY.out _,HB3.out⟩
section
variable {w:World} {B d c:Nat}
theorem fx {k n:Int} {s:ByteArray} (hk:I64 k) (hn:I64 n) (hs:s.size≤140737488351232):RTm w B (d+1) ⟨k,n,s,[]⟩ [.int .i64 k,.int .i64 n,.string s,.slice none 0 0]:=
 ⟨none,0,rfl,zG _,⟨by simp,by omega⟩,hs,hk,hn,fun h=>absurd h (by simp)⟩
theorem mM {α:Type} {R:Reader α} {xs:List α} {A:Option Addr} (h:RL R w B xs A) (h1:xs.length≤c) (h2:xs.length*(8*R.k)≤140737488351232) (h3:c≤9223372036854775807):RSl R w B xs (.slice A xs.length c):=⟨A,c,rfl,h1,⟨h2,h3⟩,h⟩
theorem rZ {nm:ByteArray} {ts:List Tm} {v:Value} (hn:nm.size≤140737488351232) (h:RSl (TmR d) w B ts v):(PrR d).rd w B ⟨nm,ts⟩ [.string nm,v]:=⟨v,rfl,hn,h⟩
theorem lit_fc {f:Fc} {v:Value} (h:(PrR d).rd w B f.pr [.string f.pr.name,v]) (ho:U32 f.o):(ay d).rd w B f [.string f.pr.name,v,.int .u32 f.o]:=⟨v,rfl,h,ho⟩
theorem lit_ru {r:Ru} {v0 v1 v2 v3:Value} (hn:r.head.name.size≤140737488351232) (h0:RSl (TmR d) w B r.head.terms v0) (h1:RSl (PrR d) w B r.body v1) (h2:RSl (ExR d) w B r.exprs v2) (h3:RSl ScR w B r.scopes v3):(RuR d).rd w B r [.string r.head.name,v0,v1,v2,v3]:=⟨v0,v1,v2,v3,rfl,hn,h0,h1,h2,h3⟩
theorem vO {α:Type} {R:Reader α}:RSl R w B [] (.slice none 0 0):=⟨none,0,rfl,by simp,by simp,fun h=>absurd h (by simp)⟩
end
theorem ret_prd {fn:Func} {tmps:Array Value} {p:Tmp} {g:Nat} {w:World} {cs:Array Value} (h:fn.results=#[.cell p 25]) (hp:tmps.getD p undef=.pointer (some ⟨g,0,none⟩)) (hb:Blk w g cs) (hn:cs.size=2) :
 (results fn tmps).run Tryz.prog w=.ok (.agg cs) w:=by
 obtain ⟨T,hb⟩:=hb
 exact results_cell_row h tmps w g T cs (0,0) _ hp hb Tryz.underlying25 rfl (by rw [hn];kernel_rfl)
theorem Blk.rl2 {α:Type} {R:Reader α} {w:World} {B b:Nat} {x y:α} {us vs:List Value} {cells:Array Value} (h:Blk w b cells) (hc:cells.toList=us++vs) (hx:R.rd w B x us) (hy:R.rd w B y vs) (hb:b<B):RL R w B [x,y] (some ⟨b,0,none⟩):=fun _=>
 ⟨b,0,rfl,hb,fun i hi=>by
  have hi0:i=0∨i=1:=by simp at hi;omega
  have l1:=R.len hx
  rcases hi0 with rfl | rfl
  ·refine ⟨us,l1,⟨x,rfl,hx⟩,fun j v hj=>?_⟩
   have hl:=(List.getElem?_eq_some_iff.1 hj).1
   have e:0+0*R.k+j=j:=by omega
   rw [e,h.cell,←Array.getElem?_toList,hc,List.getElem?_append_left hl,hj]
  ·refine ⟨vs,R.len hy,⟨y,rfl,hy⟩,fun j v hj=>?_⟩
   have e:0+1*R.k+j=us.length+j:=by omega
   rw [e,h.cell,←Array.getElem?_toList,hc,List.getElem?_append_right (by omega),Nat.add_sub_cancel_left,hj]⟩
theorem RL.near {α:Type} {R:Reader α} {w w':World} {xs:List α} {A:Option Addr} (h:RL R w w.heap.size xs A) (hb:Below w.heap.size w w'):RL R w' w'.heap.size xs A:=(h.keep hb (zG _)).wide hb.size
def ma {α:Type} (R:Reader α) (xs:List α) (v:Value) (w:World):Prop:=∃A,v=.slice A xs.length xs.length∧RL R w w.heap.size xs A
theorem Stb.sl {α:Type} (R:Reader α) (xs:List α):Stb (ma R xs):=fun _ _ _ ⟨A,e,h⟩ hb=>⟨A,e,h.near hb⟩
def qc (p:Pr) (v:Value) (w:World):Prop:=∃A,v=.agg #[.string p.name,.slice A p.terms.length p.terms.length]∧RL (TmR 2) w w.heap.size p.terms A
theorem Stb.pr (p:Pr):Stb (qc p):=fun _ _ _ ⟨A,e,h⟩ hb=>⟨A,e,h.near hb⟩
def sE (r:Ru) (more:List Value) (v:Value) (w:World):Prop:=∃A0 A1,v=.agg (#[.string r.head.name,.slice A0 r.head.terms.length r.head.terms.length,.slice A1 r.body.length r.body.length,.slice none 0 0,.slice none 0 0]++more.toArray)∧RL (TmR 2) w w.heap.size r.head.terms A0∧RL (PrR 2) w w.heap.size r.body A1
theorem Stb.ru (r:Ru) (m:List Value):Stb (sE r m):=fun _ _ _ ⟨A0,A1,e,h,k⟩ hb=>⟨A0,A1,e,h.near hb,k.near hb⟩
def eD (base:Nat) (o:Int) (v:Value) (w:World):Prop:=∃b A0 A1 A2 A3,v=.slice (some ⟨b,0,none⟩) 2 2∧base≤b ∧
 Blk w b #[.string pwP,.slice A0 2 2,.slice A1 1 1,.slice none 0 0,.slice none 0 0,.int .i64 0,.int .u32 o,.string pwP,.slice A2 2 2,.slice A3 2 2,.slice none 0 0,.slice none 0 0,.int .i64 0,.int .u32 o] ∧
 (RuR 2).rd w b ww [.string pwP,.slice A0 2 2,.slice A1 1 1,.slice none 0 0,.slice none 0 0]∧(RuR 2).rd w b wy [.string pwP,.slice A2 2 2,.slice A3 2 2,.slice none 0 0,.slice none 0 0]
theorem Stb.paths (base:Nat) (o:Int):Stb (eD base o):=fun _ _ _ ⟨b,A0,A1,A2,A3,e,h0,h,k1,k2⟩ hb=>⟨b,A0,A1,A2,A3,e,h0,h.later hb,(RuR 2).keep hb (Nat.le_of_lt h.lt) k1,(RuR 2).keep hb (Nat.le_of_lt h.lt) k2⟩
theorem pw_ru {r:Ru} {w:World} {A0 A1:Option Addr} (hn:r.head.name.size≤140737488351232) (h2:r.head.terms.length=2) (h3:r.body.length≤2) (he:r.exprs=[]) (hs:r.scopes=[]) (h:RL (TmR 2) w w.heap.size r.head.terms A0) (k:RL (PrR 2) w w.heap.size r.body A1):(RuR 2).rd w w.heap.size r [.string r.head.name,.slice A0 r.head.terms.length r.head.terms.length,.slice A1 r.body.length r.body.length,.slice none 0 0,.slice none 0 0]:=by
 refine lit_ru hn (mM h (zG _) (by simp only [TmR];omega) (by omega)) (mM k (zG _) (by simp only [PrR];omega) (by omega)) ?_ ?_
 ·rw [he];exact vO
 ·rw [hs];exact vO
theorem eD.lower {base B:Nat} {o:Int} {v:Value} {w:World} (h:eD base o v w) (hB:B≤base):eD B o v w:=by
 obtain ⟨b,A0,A1,A2,A3,e,h0,h⟩:=h
 exact ⟨b,A0,A1,A2,A3,e,zF hB h0,h⟩
theorem eD.rl {base:Nat} {o:Int} {v:Value} {w:World} (h:eD base o v w) (ho:U32 o):∃A,v=.slice A 2 2∧RL (OwR 2) w w.heap.size (pwO o) A:=by
 obtain ⟨b,A0,A1,A2,A3,rfl,_,h,k1,k2⟩:=h
 have hlt:=h.lt
 exact ⟨_,rfl,h.rl2 (R:=OwR 2) (x:=⟨ww,0,o⟩) (y:=⟨wy,0,o⟩) (us:=[_,_,_,_,_,_,_]) (vs:=[_,_,_,_,_,_,_]) rfl ⟨_,rfl,(RuR 2).wide (by omega) k1,by unfold I64;simp,ho⟩ ⟨_,rfl,(RuR 2).wide (by omega) k2,by unfold I64;simp,ho⟩ hlt⟩
theorem lV {s:ByteArray} {w:World}:Calls Tryz.prog 89 #[.string s] w fun z w'=>z=.returned (.agg #[.int .i64 1,.int .i64 0,.string s,.slice none 0 0])∧Below w.heap.size w w':=by
 go_enter Tryz.func89,Tryz.ntmps89
 go_upto_region 1 with fail
 generalize hW:World.alloc _ _=w1
 obtain ⟨hb1,hz⟩:=al1 hW
 have HS1:=zE (n11 hW)
 have HB1:=zE hb1
 clear hW hb1 hz
 have f_s:=HS1.out.free
 have k_s:=HS1.out.cell
 have l_s:=HS1.out.lt
 go_wp2_with fail
 refine bodyPost_ret (mY rfl rfl (((((((HS1.out.set_ 0 (.int .i64 1))).set_ 1 (.int .i64 0))).set_ 2 (.string s))).set_ 3 (.slice none 0 0)) rfl) rfl ?_
 exact ⟨rfl,(((HB1.out.setCell (p:=⟨w.heap.size,0,none⟩) (zG _) _).setCell (p:=⟨w.heap.size,1,none⟩) (zG _) _).setCell (p:=⟨w.heap.size,2,none⟩) (zG _) _).setCell (p:=⟨w.heap.size,3,none⟩) (zG _) _⟩
theorem eO {n:Int} {w:World}:Calls Tryz.prog 36 #[.int .i64 n] w fun z w'=>z=.returned (.agg #[.int .i64 2,.int .i64 n,.string ⟨#[]⟩,.slice none 0 0])∧Below w.heap.size w w':=by
 go_enter Tryz.func36,Tryz.ntmps36
 go_upto_region 1 with fail
 generalize hW:World.alloc _ _=w1
 obtain ⟨hb1,hz⟩:=al1 hW
 have HS1:=zE (n11 hW)
 have HB1:=zE hb1
 clear hW hb1 hz
 have f_s:=HS1.out.free
 have k_s:=HS1.out.cell
 have l_s:=HS1.out.lt
 go_wp2_with fail
 refine bodyPost_ret (mY rfl rfl (((((((HS1.out.set_ 0 (.int .i64 2))).set_ 1 (.int .i64 n))).set_ 2 (.string ⟨#[]⟩))).set_ 3 (.slice none 0 0)) rfl) rfl ?_
 exact ⟨rfl,(((HB1.out.setCell (p:=⟨w.heap.size,0,none⟩) (zG _) _).setCell (p:=⟨w.heap.size,1,none⟩) (zG _) _).setCell (p:=⟨w.heap.size,2,none⟩) (zG _) _).setCell (p:=⟨w.heap.size,3,none⟩) (zG _) _⟩
theorem cG {s:ByteArray} {A:Option Addr} {m c:Nat} {w:World}:Calls Tryz.prog 35 #[.string s,.slice A m c] w fun z w'=>z=.returned (.agg #[.string s,.slice A m c])∧Below w.heap.size w w':=by
 go_enter Tryz.func35,Tryz.ntmps35
 go_upto_region 1 with fail
 generalize hW:World.alloc _ _=w1
 obtain ⟨hb1,hz⟩:=al1 hW
 have HS1:=zE (n11 hW)
 have HB1:=zE hb1
 clear hW hb1 hz
 have f_s:=HS1.out.free
 have k_s:=HS1.out.cell
 have l_s:=HS1.out.lt
 go_wp2_with fail
 refine bodyPost_ret (ret_prd rfl rfl (((HS1.out.set_ 0 (.string s))).set_ 1 (.slice A m c)) rfl) rfl ?_
 exact ⟨rfl,(HB1.out.setCell (p:=⟨w.heap.size,0,none⟩) (zG _) _).setCell (p:=⟨w.heap.size,1,none⟩) (zG _) _⟩
theorem re {o:Int} {w:World} (ho:U32 o):Calls Tryz.prog 38 #[.int .u32 o] w fun z w'=>(∃v,z=.returned v∧eD w.heap.size o v w')∧Below w.heap.size w w':=by
 go_enter Tryz.func38,Tryz.ntmps38
 go_wp2_with fail
 refine lV.mono ?_
 rintro z wa ⟨rfl,hba⟩
 have HBa:=zE hba
 clear hba
 go_wp2_with fail
 refine lV.mono ?_
 rintro z wb ⟨rfl,hbb⟩
 have HBb:=zE (ab HBa.out hbb)
 clear hbb
 go_wp2_with fail
 refine lV.mono ?_
 rintro z wc ⟨rfl,hbc⟩
 have HBc:=zE (ab HBb.out hbc)
 clear hbc
 go_upto_region 2 with fail
 generalize hW:World.alloc _ _=w1
 obtain ⟨hb1,hz1⟩:=al3 hW
 have HX1:=zE (n31 hW)
 have HY1:=zE (n32 hW)
 have HZ1:=zE (n33 hW)
 have HB1:=zE (ab HBc.out hb1)
 clear hW hb1 hz1
 have HST:Hid (zB [fun v _=>v=.agg #[.int .i64 1,.int .i64 0,.string ⟨#[120]⟩,.slice none 0 0],fun v _=>v=.agg #[.int .i64 1,.int .i64 0,.string ⟨#[121]⟩,.slice none 0 0],ma (TmR 2) [pwV 120,pwV 121],qc (pwQ pwP (pwV 120) (pwV 121)),fun v _=>v=.agg #[.int .i64 1,.int .i64 0,.string ⟨#[120]⟩,.slice none 0 0],fun v _=>v=.agg #[.int .i64 1,.int .i64 0,.string ⟨#[121]⟩,.slice none 0 0],ma (TmR 2) [pwV 120,pwV 121],qc (pwQ pwE (pwV 120) (pwV 121)),ma (PrR 2) [pwQ pwE (pwV 120) (pwV 121)],sE ww [],fun v _=>v=.int .u32 o,sE ww [.int .i64 0,.int .u32 o],fun v _=>v=.agg #[.int .i64 1,.int .i64 0,.string ⟨#[120]⟩,.slice none 0 0],fun v _=>v=.agg #[.int .i64 1,.int .i64 0,.string ⟨#[122]⟩,.slice none 0 0],ma (TmR 2) [pwV 120,pwV 122],qc (pwQ pwP (pwV 120) (pwV 122)),fun v _=>v=.agg #[.int .i64 1,.int .i64 0,.string ⟨#[120]⟩,.slice none 0 0],fun v _=>v=.agg #[.int .i64 1,.int .i64 0,.string ⟨#[121]⟩,.slice none 0 0],ma (TmR 2) [pwV 120,pwV 121],qc (pwQ pwP (pwV 120) (pwV 121)),fun v _=>v=.agg #[.int .i64 1,.int .i64 0,.string ⟨#[121]⟩,.slice none 0 0],fun v _=>v=.agg #[.int .i64 1,.int .i64 0,.string ⟨#[122]⟩,.slice none 0 0],ma (TmR 2) [pwV 121,pwV 122],qc (pwQ pwE (pwV 121) (pwV 122)),ma (PrR 2) [pwQ pwP (pwV 120) (pwV 121),pwQ pwE (pwV 121) (pwV 122)],sE wy [],fun v _=>v=.int .u32 o,sE wy [.int .i64 0,.int .u32 o],eD w1.heap.size o]):=zE ⟨Stb.val _,⟨Stb.val _,⟨Stb.sl _ _,⟨Stb.pr _,⟨Stb.val _,⟨Stb.val _,⟨Stb.sl _ _,⟨Stb.pr _,⟨Stb.sl _ _,⟨Stb.ru _ _,⟨Stb.val _,⟨Stb.ru _ _,⟨Stb.val _,⟨Stb.val _,⟨Stb.sl _ _,⟨Stb.pr _,⟨Stb.val _,⟨Stb.val _,⟨Stb.sl _ _,⟨Stb.pr _,⟨Stb.val _,⟨Stb.val _,⟨Stb.sl _ _,⟨Stb.pr _,⟨Stb.sl _ _,⟨Stb.ru _ _,⟨Stb.val _,⟨Stb.ru _ _,⟨Stb.paths _ _,trivial⟩⟩⟩⟩⟩⟩⟩⟩⟩⟩⟩⟩⟩⟩⟩⟩⟩⟩⟩⟩⟩⟩⟩⟩⟩⟩⟩⟩⟩
 have HH0:Hid (w1.heap.size≤w1.drew.heap.size):=zE (zG _)
 have HDR:Hid (Below w1.heap.size w1 w1.drew):=zE (zI _ _).drew
 refine cT 29 (tG [fun v _=>v=.agg #[.int .i64 1,.int .i64 0,.string ⟨#[120]⟩,.slice none 0 0],fun v _=>v=.agg #[.int .i64 1,.int .i64 0,.string ⟨#[121]⟩,.slice none 0 0],ma (TmR 2) [pwV 120,pwV 121],qc (pwQ pwP (pwV 120) (pwV 121)),fun v _=>v=.agg #[.int .i64 1,.int .i64 0,.string ⟨#[120]⟩,.slice none 0 0],fun v _=>v=.agg #[.int .i64 1,.int .i64 0,.string ⟨#[121]⟩,.slice none 0 0],ma (TmR 2) [pwV 120,pwV 121],qc (pwQ pwE (pwV 120) (pwV 121)),ma (PrR 2) [pwQ pwE (pwV 120) (pwV 121)],sE ww [],fun v _=>v=.int .u32 o,sE ww [.int .i64 0,.int .u32 o],fun v _=>v=.agg #[.int .i64 1,.int .i64 0,.string ⟨#[120]⟩,.slice none 0 0],fun v _=>v=.agg #[.int .i64 1,.int .i64 0,.string ⟨#[122]⟩,.slice none 0 0],ma (TmR 2) [pwV 120,pwV 122],qc (pwQ pwP (pwV 120) (pwV 122)),fun v _=>v=.agg #[.int .i64 1,.int .i64 0,.string ⟨#[120]⟩,.slice none 0 0],fun v _=>v=.agg #[.int .i64 1,.int .i64 0,.string ⟨#[121]⟩,.slice none 0 0],ma (TmR 2) [pwV 120,pwV 121],qc (pwQ pwP (pwV 120) (pwV 121)),fun v _=>v=.agg #[.int .i64 1,.int .i64 0,.string ⟨#[121]⟩,.slice none 0 0],fun v _=>v=.agg #[.int .i64 1,.int .i64 0,.string ⟨#[122]⟩,.slice none 0 0],ma (TmR 2) [pwV 121,pwV 122],qc (pwQ pwE (pwV 121) (pwV 122)),ma (PrR 2) [pwQ pwP (pwV 120) (pwV 121),pwQ pwE (pwV 121) (pwV 122)],sE wy [],fun v _=>v=.int .u32 o,sE wy [.int .i64 0,.int .u32 o],eD w1.heap.size o]) [] (w1.heap.size) HH0.out (by kernel_rfl) (by kernel_rfl) (by kernel_rfl) (by kernel_rfl) (by kernel_rfl) rfl (ac (ac (ac (ac (ac (ac (ac (ac (ac (ac (ac (ac (ac (ac (ac (ac (ac (ac (ac (ac (ac (ac (ac (ac (ac (ac (ac (ac (ac gp ?op0_) ?op1_) ?op2_) ?op3_) ?op4_) ?op5_) ?op6_) ?op7_) ?op8_) ?op9_) ?op10_) ?op11_) ?op12_) ?op13_) ?op14_) ?op15_) ?op16_) ?op17_) ?op18_) ?op19_) ?op20_) ?op21_) ?op22_) ?op23_) ?op24_) ?op25_) ?op26_) ?op27_) ?op28_) ?last_
 case op0_=>
  refine ⟨_,rfl,fun T w' hk hb hgr hd K hK=>?_⟩
  rw [if_pos (show Region.wanted _ _=true from rfl)]
  have h_:T.getD 3 undef=.pointer (some ⟨wc.heap.size,0,none⟩):=hk.2 3 (by kernel_rfl)
  rw [Array.getD_eq_getD_getElem?] at h_
  have k_:=(HX1.out.later (HDR.out.trans hb)).cell
  have l_:=(HX1.out.later (HDR.out.trans hb)).lt
  clear hk hd
  go_simp
  exact hK.out _ _ (Moved.grow (ak HST.out) HH0.out hb (zI _ _)) rfl
 case op1_=>
  refine ⟨_,rfl,fun T w' hk hb hgr hd K hK=>?_⟩
  rw [if_pos (show Region.wanted _ _=true from rfl)]
  have h_:T.getD 4 undef=.pointer (some ⟨wc.heap.size+1,0,none⟩):=hk.2 4 (by kernel_rfl)
  rw [Array.getD_eq_getD_getElem?] at h_
  have k_:=(HY1.out.later (HDR.out.trans hb)).cell
  have l_:=(HY1.out.later (HDR.out.trans hb)).lt
  clear hk hd
  go_simp
  exact hK.out _ _ (Moved.grow (ak HST.out) HH0.out hb (zI _ _)) rfl
 case op2_=>
  refine ⟨_,rfl,fun T w' hk hb hgr hd K hK=>?_⟩
  rw [if_pos (show Region.wanted _ _=true from rfl)]
  have d0:=hd 0 (of_decide_eq_true (by kernel_rfl))
  replace d0:T.getD 9 undef=.agg #[.int .i64 1,.int .i64 0,.string ⟨#[120]⟩,.slice none 0 0]:=d0
  rw [Array.getD_eq_getD_getElem?] at d0
  have d1:=hd 1 (of_decide_eq_true (by kernel_rfl))
  replace d1:T.getD 10 undef=.agg #[.int .i64 1,.int .i64 0,.string ⟨#[121]⟩,.slice none 0 0]:=d1
  rw [Array.getD_eq_getD_getElem?] at d1
  clear hk hd
  go_simp
  generalize hW:World.alloc _ _=w4
  obtain ⟨hb4,hz4⟩:=al1 hW
  have hN4:=hW▸heap_alloc_new w' _
  clear hW
  exact hK.out _ _ (Moved.grow (ak HST.out) HH0.out hb hb4) ⟨_,rfl,(show Blk w4 w'.heap.size _ from ⟨_,hN4⟩).rl2 (R:=TmR 2) (us:=[_,_,_,_]) (vs:=[_,_,_,_]) rfl (fx (by unfold I64;omega) (by unfold I64;omega) (by decide)) (fx (by unfold I64;omega) (by unfold I64;omega) (by decide)) (Array.getElem?_eq_some_iff.1 hN4).1⟩
 case op3_=>
  refine ⟨_,rfl,fun T w' hk hb hgr hd K hK=>?_⟩
  rw [if_pos (show Region.wanted _ _=true from rfl)]
  have d2:=hd 2 (of_decide_eq_true (by kernel_rfl))
  obtain ⟨A,e,rr⟩:=(show ma (TmR 2) [pwV 120,pwV 121] (T.getD 11 undef) w' from d2)
  clear d2
  replace e:T.getD 11 undef=.slice A 2 2:=e
  rw [Array.getD_eq_getD_getElem?] at e
  clear hk hd
  go_simp
  refine cG.mono ?_
  rintro z w4 ⟨rfl,hb4⟩
  exact hK.out _ _ (Moved.grow (ak HST.out) HH0.out hb hb4) ⟨A,rfl,rr.near hb4⟩
 case op4_=>
  refine ⟨_,rfl,fun T w' hk hb hgr hd K hK=>?_⟩
  rw [if_pos (show Region.wanted _ _=true from rfl)]
  have h_:T.getD 3 undef=.pointer (some ⟨wc.heap.size,0,none⟩):=hk.2 3 (by kernel_rfl)
  rw [Array.getD_eq_getD_getElem?] at h_
  have k_:=(HX1.out.later (HDR.out.trans hb)).cell
  have l_:=(HX1.out.later (HDR.out.trans hb)).lt
  clear hk hd
  go_simp
  exact hK.out _ _ (Moved.grow (ak HST.out) HH0.out hb (zI _ _)) rfl
 case op5_=>
  refine ⟨_,rfl,fun T w' hk hb hgr hd K hK=>?_⟩
  rw [if_pos (show Region.wanted _ _=true from rfl)]
  have h_:T.getD 4 undef=.pointer (some ⟨wc.heap.size+1,0,none⟩):=hk.2 4 (by kernel_rfl)
  rw [Array.getD_eq_getD_getElem?] at h_
  have k_:=(HY1.out.later (HDR.out.trans hb)).cell
  have l_:=(HY1.out.later (HDR.out.trans hb)).lt
  clear hk hd
  go_simp
  exact hK.out _ _ (Moved.grow (ak HST.out) HH0.out hb (zI _ _)) rfl
 case op6_=>
  refine ⟨_,rfl,fun T w' hk hb hgr hd K hK=>?_⟩
  rw [if_pos (show Region.wanted _ _=true from rfl)]
  have d4:=hd 4 (of_decide_eq_true (by kernel_rfl))
  replace d4:T.getD 13 undef=.agg #[.int .i64 1,.int .i64 0,.string ⟨#[120]⟩,.slice none 0 0]:=d4
  rw [Array.getD_eq_getD_getElem?] at d4
  have d5:=hd 5 (of_decide_eq_true (by kernel_rfl))
  replace d5:T.getD 14 undef=.agg #[.int .i64 1,.int .i64 0,.string ⟨#[121]⟩,.slice none 0 0]:=d5
  rw [Array.getD_eq_getD_getElem?] at d5
  clear hk hd
  go_simp
  generalize hW:World.alloc _ _=w4
  obtain ⟨hb4,hz4⟩:=al1 hW
  have hN4:=hW▸heap_alloc_new w' _
  clear hW
  exact hK.out _ _ (Moved.grow (ak HST.out) HH0.out hb hb4) ⟨_,rfl,(show Blk w4 w'.heap.size _ from ⟨_,hN4⟩).rl2 (R:=TmR 2) (us:=[_,_,_,_]) (vs:=[_,_,_,_]) rfl (fx (by unfold I64;omega) (by unfold I64;omega) (by decide)) (fx (by unfold I64;omega) (by unfold I64;omega) (by decide)) (Array.getElem?_eq_some_iff.1 hN4).1⟩
 case op7_=>
  refine ⟨_,rfl,fun T w' hk hb hgr hd K hK=>?_⟩
  rw [if_pos (show Region.wanted _ _=true from rfl)]
  have d6:=hd 6 (of_decide_eq_true (by kernel_rfl))
  obtain ⟨A,e,rr⟩:=(show ma (TmR 2) [pwV 120,pwV 121] (T.getD 15 undef) w' from d6)
  clear d6
  replace e:T.getD 15 undef=.slice A 2 2:=e
  rw [Array.getD_eq_getD_getElem?] at e
  clear hk hd
  go_simp
  refine cG.mono ?_
  rintro z w4 ⟨rfl,hb4⟩
  exact hK.out _ _ (Moved.grow (ak HST.out) HH0.out hb hb4) ⟨A,rfl,rr.near hb4⟩
 case op8_=>
  refine ⟨_,rfl,fun T w' hk hb hgr hd K hK=>?_⟩
  rw [if_pos (show Region.wanted _ _=true from rfl)]
  have d7:=hd 7 (of_decide_eq_true (by kernel_rfl))
  obtain ⟨A1,e1,r1⟩:=(show qc (pwQ pwE (pwV 120) (pwV 121)) (T.getD 16 undef) w' from d7)
  clear d7
  replace e1:T.getD 16 undef=.agg #[.string pwE,.slice A1 2 2]:=e1
  rw [Array.getD_eq_getD_getElem?] at e1
  clear hk hd
  go_simp
  generalize hW:World.alloc _ _=w4
  obtain ⟨hb4,hz4⟩:=al1 hW
  have hN4:=hW▸heap_alloc_new w' _
  clear hW
  exact hK.out _ _ (Moved.grow (ak HST.out) HH0.out hb hb4) ⟨_,rfl,(show Blk w4 w'.heap.size _ from ⟨_,hN4⟩).rl (R:=PrR 2) (rZ (by decide) (mM ((r1).near hb4) (zG _) (by simp [TmR,pwQ]) (by simp [pwQ]))) (Array.getElem?_eq_some_iff.1 hN4).1⟩
 case op9_=>
  refine ⟨_,rfl,fun T w' hk hb hgr hd K hK=>?_⟩
  rw [if_pos (show Region.wanted _ _=true from rfl)]
  have d3:=hd 3 (of_decide_eq_true (by kernel_rfl))
  have d8:=hd 8 (of_decide_eq_true (by kernel_rfl))
  obtain ⟨A1,e1,r1⟩:=(show qc (pwQ pwP (pwV 120) (pwV 121)) (T.getD 12 undef) w' from d3)
  clear d3
  replace e1:T.getD 12 undef=.agg #[.string pwP,.slice A1 2 2]:=e1
  rw [Array.getD_eq_getD_getElem?] at e1
  obtain ⟨B1,e2,r2⟩:=(show ma (PrR 2) [pwQ pwE (pwV 120) (pwV 121)] (T.getD 17 undef) w' from d8)
  clear d8
  replace e2:T.getD 17 undef=.slice B1 1 1:=e2
  rw [Array.getD_eq_getD_getElem?] at e2
  clear hk hd
  go_simp
  exact hK.out _ _ (Moved.grow (ak HST.out) HH0.out hb (zI _ _)) ⟨A1,B1,rfl,r1,r2⟩
 case op10_=>
  refine ⟨_,rfl,fun T w' hk hb hgr hd K hK=>?_⟩
  rw [if_pos (show Region.wanted _ _=true from rfl)]
  have h_:T.getD 0 undef=.int .u32 o:=hk.2 0 (by kernel_rfl)
  rw [Array.getD_eq_getD_getElem?] at h_
  clear hk hd
  go_simp
  exact hK.out _ _ (Moved.grow (ak HST.out) HH0.out hb (zI _ _)) rfl
 case op11_=>
  refine ⟨_,rfl,fun T w' hk hb hgr hd K hK=>?_⟩
  rw [if_pos (show Region.wanted _ _=true from rfl)]
  have d9:=hd 9 (of_decide_eq_true (by kernel_rfl))
  obtain ⟨A1,B1,e1,r1,r2⟩:=(show sE ww [] (T.getD 18 undef) w' from d9)
  clear d9
  replace e1:T.getD 18 undef=.agg #[.string pwP,.slice A1 2 2,.slice B1 1 1,.slice none 0 0,.slice none 0 0]:=e1
  rw [Array.getD_eq_getD_getElem?] at e1
  have d10:=hd 10 (of_decide_eq_true (by kernel_rfl))
  replace d10:T.getD 19 undef=.int .u32 o:=d10
  rw [Array.getD_eq_getD_getElem?] at d10
  clear hk hd
  go_simp
  exact hK.out _ _ (Moved.grow (ak HST.out) HH0.out hb (zI _ _)) ⟨A1,B1,rfl,r1,r2⟩
 case op12_=>
  refine ⟨_,rfl,fun T w' hk hb hgr hd K hK=>?_⟩
  rw [if_pos (show Region.wanted _ _=true from rfl)]
  have h_:T.getD 3 undef=.pointer (some ⟨wc.heap.size,0,none⟩):=hk.2 3 (by kernel_rfl)
  rw [Array.getD_eq_getD_getElem?] at h_
  have k_:=(HX1.out.later (HDR.out.trans hb)).cell
  have l_:=(HX1.out.later (HDR.out.trans hb)).lt
  clear hk hd
  go_simp
  exact hK.out _ _ (Moved.grow (ak HST.out) HH0.out hb (zI _ _)) rfl
 case op13_=>
  refine ⟨_,rfl,fun T w' hk hb hgr hd K hK=>?_⟩
  rw [if_pos (show Region.wanted _ _=true from rfl)]
  have h_:T.getD 5 undef=.pointer (some ⟨wc.heap.size+1+1,0,none⟩):=hk.2 5 (by kernel_rfl)
  rw [Array.getD_eq_getD_getElem?] at h_
  have k_:=(HZ1.out.later (HDR.out.trans hb)).cell
  have l_:=(HZ1.out.later (HDR.out.trans hb)).lt
  clear hk hd
  go_simp
  exact hK.out _ _ (Moved.grow (ak HST.out) HH0.out hb (zI _ _)) rfl
 case op14_=>
  refine ⟨_,rfl,fun T w' hk hb hgr hd K hK=>?_⟩
  rw [if_pos (show Region.wanted _ _=true from rfl)]
  have d12:=hd 12 (of_decide_eq_true (by kernel_rfl))
  replace d12:T.getD 21 undef=.agg #[.int .i64 1,.int .i64 0,.string ⟨#[120]⟩,.slice none 0 0]:=d12
  rw [Array.getD_eq_getD_getElem?] at d12
  have d13:=hd 13 (of_decide_eq_true (by kernel_rfl))
  replace d13:T.getD 22 undef=.agg #[.int .i64 1,.int .i64 0,.string ⟨#[122]⟩,.slice none 0 0]:=d13
  rw [Array.getD_eq_getD_getElem?] at d13
  clear hk hd
  go_simp
  generalize hW:World.alloc _ _=w4
  obtain ⟨hb4,hz4⟩:=al1 hW
  have hN4:=hW▸heap_alloc_new w' _
  clear hW
  exact hK.out _ _ (Moved.grow (ak HST.out) HH0.out hb hb4) ⟨_,rfl,(show Blk w4 w'.heap.size _ from ⟨_,hN4⟩).rl2 (R:=TmR 2) (us:=[_,_,_,_]) (vs:=[_,_,_,_]) rfl (fx (by unfold I64;omega) (by unfold I64;omega) (by decide)) (fx (by unfold I64;omega) (by unfold I64;omega) (by decide)) (Array.getElem?_eq_some_iff.1 hN4).1⟩
 case op15_=>
  refine ⟨_,rfl,fun T w' hk hb hgr hd K hK=>?_⟩
  rw [if_pos (show Region.wanted _ _=true from rfl)]
  have d14:=hd 14 (of_decide_eq_true (by kernel_rfl))
  obtain ⟨A,e,rr⟩:=(show ma (TmR 2) [pwV 120,pwV 122] (T.getD 23 undef) w' from d14)
  clear d14
  replace e:T.getD 23 undef=.slice A 2 2:=e
  rw [Array.getD_eq_getD_getElem?] at e
  clear hk hd
  go_simp
  refine cG.mono ?_
  rintro z w4 ⟨rfl,hb4⟩
  exact hK.out _ _ (Moved.grow (ak HST.out) HH0.out hb hb4) ⟨A,rfl,rr.near hb4⟩
 case op16_=>
  refine ⟨_,rfl,fun T w' hk hb hgr hd K hK=>?_⟩
  rw [if_pos (show Region.wanted _ _=true from rfl)]
  have h_:T.getD 3 undef=.pointer (some ⟨wc.heap.size,0,none⟩):=hk.2 3 (by kernel_rfl)
  rw [Array.getD_eq_getD_getElem?] at h_
  have k_:=(HX1.out.later (HDR.out.trans hb)).cell
  have l_:=(HX1.out.later (HDR.out.trans hb)).lt
  clear hk hd
  go_simp
  exact hK.out _ _ (Moved.grow (ak HST.out) HH0.out hb (zI _ _)) rfl
 case op17_=>
  refine ⟨_,rfl,fun T w' hk hb hgr hd K hK=>?_⟩
  rw [if_pos (show Region.wanted _ _=true from rfl)]
  have h_:T.getD 4 undef=.pointer (some ⟨wc.heap.size+1,0,none⟩):=hk.2 4 (by kernel_rfl)
  rw [Array.getD_eq_getD_getElem?] at h_
  have k_:=(HY1.out.later (HDR.out.trans hb)).cell
  have l_:=(HY1.out.later (HDR.out.trans hb)).lt
  clear hk hd
  go_simp
  exact hK.out _ _ (Moved.grow (ak HST.out) HH0.out hb (zI _ _)) rfl
 case op18_=>
  refine ⟨_,rfl,fun T w' hk hb hgr hd K hK=>?_⟩
  rw [if_pos (show Region.wanted _ _=true from rfl)]
  have d16:=hd 16 (of_decide_eq_true (by kernel_rfl))
  replace d16:T.getD 25 undef=.agg #[.int .i64 1,.int .i64 0,.string ⟨#[120]⟩,.slice none 0 0]:=d16
  rw [Array.getD_eq_getD_getElem?] at d16
  have d17:=hd 17 (of_decide_eq_true (by kernel_rfl))
  replace d17:T.getD 26 undef=.agg #[.int .i64 1,.int .i64 0,.string ⟨#[121]⟩,.slice none 0 0]:=d17
  rw [Array.getD_eq_getD_getElem?] at d17
  clear hk hd
  go_simp
  generalize hW:World.alloc _ _=w4
  obtain ⟨hb4,hz4⟩:=al1 hW
  have hN4:=hW▸heap_alloc_new w' _
  clear hW
  exact hK.out _ _ (Moved.grow (ak HST.out) HH0.out hb hb4) ⟨_,rfl,(show Blk w4 w'.heap.size _ from ⟨_,hN4⟩).rl2 (R:=TmR 2) (us:=[_,_,_,_]) (vs:=[_,_,_,_]) rfl (fx (by unfold I64;omega) (by unfold I64;omega) (by decide)) (fx (by unfold I64;omega) (by unfold I64;omega) (by decide)) (Array.getElem?_eq_some_iff.1 hN4).1⟩
 case op19_=>
  refine ⟨_,rfl,fun T w' hk hb hgr hd K hK=>?_⟩
  rw [if_pos (show Region.wanted _ _=true from rfl)]
  have d18:=hd 18 (of_decide_eq_true (by kernel_rfl))
  obtain ⟨A,e,rr⟩:=(show ma (TmR 2) [pwV 120,pwV 121] (T.getD 27 undef) w' from d18)
  clear d18
  replace e:T.getD 27 undef=.slice A 2 2:=e
  rw [Array.getD_eq_getD_getElem?] at e
  clear hk hd
  go_simp
  refine cG.mono ?_
  rintro z w4 ⟨rfl,hb4⟩
  exact hK.out _ _ (Moved.grow (ak HST.out) HH0.out hb hb4) ⟨A,rfl,rr.near hb4⟩
 case op20_=>
  refine ⟨_,rfl,fun T w' hk hb hgr hd K hK=>?_⟩
  rw [if_pos (show Region.wanted _ _=true from rfl)]
  have h_:T.getD 4 undef=.pointer (some ⟨wc.heap.size+1,0,none⟩):=hk.2 4 (by kernel_rfl)
  rw [Array.getD_eq_getD_getElem?] at h_
  have k_:=(HY1.out.later (HDR.out.trans hb)).cell
  have l_:=(HY1.out.later (HDR.out.trans hb)).lt
  clear hk hd
  go_simp
  exact hK.out _ _ (Moved.grow (ak HST.out) HH0.out hb (zI _ _)) rfl
 case op21_=>
  refine ⟨_,rfl,fun T w' hk hb hgr hd K hK=>?_⟩
  rw [if_pos (show Region.wanted _ _=true from rfl)]
  have h_:T.getD 5 undef=.pointer (some ⟨wc.heap.size+1+1,0,none⟩):=hk.2 5 (by kernel_rfl)
  rw [Array.getD_eq_getD_getElem?] at h_
  have k_:=(HZ1.out.later (HDR.out.trans hb)).cell
  have l_:=(HZ1.out.later (HDR.out.trans hb)).lt
  clear hk hd
  go_simp
  exact hK.out _ _ (Moved.grow (ak HST.out) HH0.out hb (zI _ _)) rfl
 case op22_=>
  refine ⟨_,rfl,fun T w' hk hb hgr hd K hK=>?_⟩
  rw [if_pos (show Region.wanted _ _=true from rfl)]
  have d20:=hd 20 (of_decide_eq_true (by kernel_rfl))
  replace d20:T.getD 29 undef=.agg #[.int .i64 1,.int .i64 0,.string ⟨#[121]⟩,.slice none 0 0]:=d20
  rw [Array.getD_eq_getD_getElem?] at d20
  have d21:=hd 21 (of_decide_eq_true (by kernel_rfl))
  replace d21:T.getD 30 undef=.agg #[.int .i64 1,.int .i64 0,.string ⟨#[122]⟩,.slice none 0 0]:=d21
  rw [Array.getD_eq_getD_getElem?] at d21
  clear hk hd
  go_simp
  generalize hW:World.alloc _ _=w4
  obtain ⟨hb4,hz4⟩:=al1 hW
  have hN4:=hW▸heap_alloc_new w' _
  clear hW
  exact hK.out _ _ (Moved.grow (ak HST.out) HH0.out hb hb4) ⟨_,rfl,(show Blk w4 w'.heap.size _ from ⟨_,hN4⟩).rl2 (R:=TmR 2) (us:=[_,_,_,_]) (vs:=[_,_,_,_]) rfl (fx (by unfold I64;omega) (by unfold I64;omega) (by decide)) (fx (by unfold I64;omega) (by unfold I64;omega) (by decide)) (Array.getElem?_eq_some_iff.1 hN4).1⟩
 case op23_=>
  refine ⟨_,rfl,fun T w' hk hb hgr hd K hK=>?_⟩
  rw [if_pos (show Region.wanted _ _=true from rfl)]
  have d22:=hd 22 (of_decide_eq_true (by kernel_rfl))
  obtain ⟨A,e,rr⟩:=(show ma (TmR 2) [pwV 121,pwV 122] (T.getD 31 undef) w' from d22)
  clear d22
  replace e:T.getD 31 undef=.slice A 2 2:=e
  rw [Array.getD_eq_getD_getElem?] at e
  clear hk hd
  go_simp
  refine cG.mono ?_
  rintro z w4 ⟨rfl,hb4⟩
  exact hK.out _ _ (Moved.grow (ak HST.out) HH0.out hb hb4) ⟨A,rfl,rr.near hb4⟩
 case op24_=>
  refine ⟨_,rfl,fun T w' hk hb hgr hd K hK=>?_⟩
  rw [if_pos (show Region.wanted _ _=true from rfl)]
  have d19:=hd 19 (of_decide_eq_true (by kernel_rfl))
  have d23:=hd 23 (of_decide_eq_true (by kernel_rfl))
  obtain ⟨A1,e1,r1⟩:=(show qc (pwQ pwP (pwV 120) (pwV 121)) (T.getD 28 undef) w' from d19)
  clear d19
  replace e1:T.getD 28 undef=.agg #[.string pwP,.slice A1 2 2]:=e1
  rw [Array.getD_eq_getD_getElem?] at e1
  obtain ⟨A2,e2,r2⟩:=(show qc (pwQ pwE (pwV 121) (pwV 122)) (T.getD 32 undef) w' from d23)
  clear d23
  replace e2:T.getD 32 undef=.agg #[.string pwE,.slice A2 2 2]:=e2
  rw [Array.getD_eq_getD_getElem?] at e2
  clear hk hd
  go_simp
  generalize hW:World.alloc _ _=w4
  obtain ⟨hb4,hz4⟩:=al1 hW
  have hN4:=hW▸heap_alloc_new w' _
  clear hW
  exact hK.out _ _ (Moved.grow (ak HST.out) HH0.out hb hb4) ⟨_,rfl,(show Blk w4 w'.heap.size _ from ⟨_,hN4⟩).rl2 (R:=PrR 2) (us:=[_,_]) (vs:=[_,_]) rfl (rZ (by decide) (mM ((r1).near hb4) (zG _) (by simp [TmR,pwQ]) (by simp [pwQ]))) (rZ (by decide) (mM ((r2).near hb4) (zG _) (by simp [TmR,pwQ]) (by simp [pwQ]))) (Array.getElem?_eq_some_iff.1 hN4).1⟩
 case op25_=>
  refine ⟨_,rfl,fun T w' hk hb hgr hd K hK=>?_⟩
  rw [if_pos (show Region.wanted _ _=true from rfl)]
  have d15:=hd 15 (of_decide_eq_true (by kernel_rfl))
  have d24:=hd 24 (of_decide_eq_true (by kernel_rfl))
  obtain ⟨A1,e1,r1⟩:=(show qc (pwQ pwP (pwV 120) (pwV 122)) (T.getD 24 undef) w' from d15)
  clear d15
  replace e1:T.getD 24 undef=.agg #[.string pwP,.slice A1 2 2]:=e1
  rw [Array.getD_eq_getD_getElem?] at e1
  obtain ⟨B1,e2,r2⟩:=(show ma (PrR 2) [pwQ pwP (pwV 120) (pwV 121),pwQ pwE (pwV 121) (pwV 122)] (T.getD 33 undef) w' from d24)
  clear d24
  replace e2:T.getD 33 undef=.slice B1 2 2:=e2
  rw [Array.getD_eq_getD_getElem?] at e2
  clear hk hd
  go_simp
  exact hK.out _ _ (Moved.grow (ak HST.out) HH0.out hb (zI _ _)) ⟨A1,B1,rfl,r1,r2⟩
 case op26_=>
  refine ⟨_,rfl,fun T w' hk hb hgr hd K hK=>?_⟩
  rw [if_pos (show Region.wanted _ _=true from rfl)]
  have h_:T.getD 0 undef=.int .u32 o:=hk.2 0 (by kernel_rfl)
  rw [Array.getD_eq_getD_getElem?] at h_
  clear hk hd
  go_simp
  exact hK.out _ _ (Moved.grow (ak HST.out) HH0.out hb (zI _ _)) rfl
 case op27_=>
  refine ⟨_,rfl,fun T w' hk hb hgr hd K hK=>?_⟩
  rw [if_pos (show Region.wanted _ _=true from rfl)]
  have d25:=hd 25 (of_decide_eq_true (by kernel_rfl))
  obtain ⟨A1,B1,e1,r1,r2⟩:=(show sE wy [] (T.getD 34 undef) w' from d25)
  clear d25
  replace e1:T.getD 34 undef=.agg #[.string pwP,.slice A1 2 2,.slice B1 2 2,.slice none 0 0,.slice none 0 0]:=e1
  rw [Array.getD_eq_getD_getElem?] at e1
  have d26:=hd 26 (of_decide_eq_true (by kernel_rfl))
  replace d26:T.getD 35 undef=.int .u32 o:=d26
  rw [Array.getD_eq_getD_getElem?] at d26
  clear hk hd
  go_simp
  exact hK.out _ _ (Moved.grow (ak HST.out) HH0.out hb (zI _ _)) ⟨A1,B1,rfl,r1,r2⟩
 case op28_=>
  refine ⟨_,rfl,fun T w' hk hb hgr hd K hK=>?_⟩
  rw [if_pos (show Region.wanted _ _=true from rfl)]
  have d11:=hd 11 (of_decide_eq_true (by kernel_rfl))
  have d27:=hd 27 (of_decide_eq_true (by kernel_rfl))
  obtain ⟨A1,B1,e1,r1,s1⟩:=(show sE ww [.int .i64 0,.int .u32 o] (T.getD 20 undef) w' from d11)
  clear d11
  replace e1:T.getD 20 undef=.agg #[.string pwP,.slice A1 2 2,.slice B1 1 1,.slice none 0 0,.slice none 0 0,.int .i64 0,.int .u32 o]:=e1
  rw [Array.getD_eq_getD_getElem?] at e1
  obtain ⟨A2,B2,e2,r2,s2⟩:=(show sE wy [.int .i64 0,.int .u32 o] (T.getD 36 undef) w' from d27)
  clear d27
  replace e2:T.getD 36 undef=.agg #[.string pwP,.slice A2 2 2,.slice B2 2 2,.slice none 0 0,.slice none 0 0,.int .i64 0,.int .u32 o]:=e2
  rw [Array.getD_eq_getD_getElem?] at e2
  clear hk hd
  go_simp
  generalize hW:World.alloc _ _=w4
  obtain ⟨hb4,hz4⟩:=al1 hW
  have hN4:=hW▸heap_alloc_new w' _
  clear hW
  exact hK.out _ _ (Moved.grow (ak HST.out) HH0.out hb hb4) ⟨w'.heap.size,A1,B1,A2,B2,rfl,hb.size,⟨_,hN4⟩,((RuR 2).keep hb4 (zG _) (pw_ru (r:=ww) (by decide) rfl (by decide) rfl rfl r1 s1)),((RuR 2).keep hb4 (zG _) (pw_ru (r:=wy) (by decide) rfl (by decide) rfl rfl r2 s2))⟩
 case last_=>
  refine ⟨_,rfl,fun T w' hk hb hgr hd K hK=>?_⟩
  rw [if_pos (show Region.wanted _ _=true from rfl)]
  have d28:=hd 28 (of_decide_eq_true (by kernel_rfl))
  replace d28:eD w1.heap.size o (T.getD 37 undef) w':=d28
  generalize hv:T.getD 37 undef=v at d28
  have HP:=zE d28
  clear d28
  have hT:=jg hk.1
  obtain ⟨f_,hf_⟩:∃f_:Nat→Value,(fun t=>T.getD t undef)=f_:=⟨_,rfl⟩
  rw [hf_] at hT
  replace hv:f_ 37=_:=(congrFun hf_ 37).symm.trans hv
  replace hT:T=#[f_ 0,f_ 1,f_ 2,f_ 3,f_ 4,f_ 5,f_ 6,f_ 7,f_ 8,f_ 9,f_ 10,f_ 11,f_ 12,f_ 13,f_ 14,f_ 15,f_ 16,f_ 17,f_ 18,f_ 19,f_ 20,f_ 21,f_ 22,f_ 23,f_ 24,f_ 25,f_ 26,f_ 27,f_ 28,f_ 29,f_ 30,f_ 31,f_ 32,f_ 33,f_ 34,f_ 35,f_ 36,f_ 37]:=hT
  clear hf_
  subst hT
  rw [hv]
  clear hd hk
  go_simp
  refine hK.out _ _ ?_
  clear hK
  have HB2:=zE (HB1.out.trans ((HDR.out.trans hb).mono HB1.out.size))
  go_wp2_with fail
  go_ret
  exact ⟨⟨v,rfl,HP.out.lower HB1.out.size⟩,HB2.out⟩
end Go.Proofs.YtdphibjibnffeaaGreat
