/- viaticumlaw18: few, Many, Made; viaticumlaw19.few. Printed by mk_made.py. -/
import Derived.Test.YtdphibjibnffeaaGreatOpen
import Derived.Test.YtdphibjibnffeaaGreatStL0
import Derived.Test.YtdphibjibnffeaaGreatRs3
set_option linter.unusedVariables false
set_option linter.unusedSimpArgs false
set_option maxRecDepth 100000
set_option maxHeartbeats 8000000
namespace Go.Proofs.YtdphibjibnffeaaGreat
open Go.ChangeShapes Go.WideShapes Go.ChangeAt Go.RowKit
theorem xR:∀(dp:Nat),dp≤6→∀(d B:Nat) (ts:List Tm) (A:Option Addr) (c:Nat) (n0:Int) (w:World),RL (TmR d) w B ts A→B≤w.heap.size→ts.length≤140737488351232→0≤n0→n0<100 →
 Calls Tryz.prog 151 #[.slice A ts.length c,.int .i64 n0,.int .i64 (dp:Int)] w fun e w'=>(∃m:Int,e=.returned (.int .i64 m)∧0≤m∧m≤100)∧Below w.heap.size w w':=by
 intro dp
 induction dp with
 | zero=>
   intro _ d B ts A c n0 w hl hB hn h0 h1
   have hdp0:¬(((0:Nat):Int) > 0):=by omega
   go_enter Tryz.func151,Tryz.ntmps151
   go_wp2_with fail
   go_loopw [1,11] (fun v i wr=>∃(k:Nat) (n:Int),k≤ts.length∧i=.int .i64 k∧v=.int .i64 n∧0≤n∧n<100∧Below w.heap.size w wr) (fun _ i _=>ts.length-(intOf i).toNat)
   case atStart=>exact ⟨0,n0,yZ _,rfl,rfl,h0,h1,za _ _⟩
   case round=>
    obtain ⟨k,n,hk,rfl,rfl,hn0,hn1,hbw⟩:=hrel
    by_cases hlt:k<ts.length
    ·obtain ⟨b,off,rfl,hb⟩:=hl.base hbw hB (by omega)
     obtain ⟨t,vs,hx,hlen,hcell,hr⟩:=hl.at0 hbw hB hlt
     obtain ⟨Ax,cx,rfl,g1,g2,g3,g4,g5,hrl⟩:=RTm.cells hr
     have c0:wr.cell? ⟨b,off+k*4,none⟩=some (.int .i64 t.kind):=hcell 0 _ rfl
     have c1:wr.cell? ⟨b,off+k*4+1,none⟩=some (.int .i64 t.n):=hcell 1 _ rfl
     have c2:wr.cell? ⟨b,off+k*4+2,none⟩=some (.string t.s):=hcell 2 _ rfl
     have c3:wr.cell? ⟨b,off+k*4+3,none⟩=some (.slice Ax t.l.length cx):=hcell 3 _ rfl
     have hszr:=hbw.size
     have HB:=yW (fun o:Obj=>hbw.alloc hszr o)
     clear hcell hlen hx hr
     go_wp2_with fail
     ·go_ret
      exact ⟨⟨100,rfl,by omega,by omega⟩,HB.out _⟩
     ·go_roundw
      case rel=>exact ⟨k+1,_,by omega,by go_num,rfl,by omega,by omega,HB.out _⟩
      case measure=>simp [intOf];omega
     ·go_ret
      exact ⟨⟨100,rfl,by omega,by omega⟩,HB.out _⟩
    ·go_wp2_with fail
     go_ret
     exact ⟨⟨n,rfl,hn0,by omega⟩,hbw⟩
 | succ dp ih=>
   intro hdp d B ts A c n0 w hl hB hn h0 h1
   have IH:=yW (ih (by omega))
   clear ih
   have hdp0:((dp+1:Nat):Int) > 0:=by omega
   have hdp1:(((dp+1:Nat):Int)==0)=false:=by simp;omega
   have hdp2:((dp+1:Nat):Int)-1=(dp:Int):=by omega
   have hdp3:((dp+1:Nat):Int)≤6:=by omega
   have HDP:=yW hdp2
   generalize hD:((dp+1:Nat):Int)=D at *
   clear hD hdp2
   go_enter Tryz.func151,Tryz.ntmps151
   go_wp2_with fail
   go_loopw [1,11] (fun v i wr=>∃(k:Nat) (n:Int),k≤ts.length∧i=.int .i64 k∧v=.int .i64 n∧0≤n∧n<100∧Below w.heap.size w wr) (fun _ i _=>ts.length-(intOf i).toNat)
   case atStart=>exact ⟨0,n0,yZ _,rfl,rfl,h0,h1,za _ _⟩
   case round=>
    obtain ⟨k,n,hk,rfl,rfl,hn0,hn1,hbw⟩:=hrel
    by_cases hlt:k<ts.length
    ·obtain ⟨b,off,rfl,hb⟩:=hl.base hbw hB (by omega)
     obtain ⟨t,vs,hx,hlen,hcell,hr⟩:=hl.at0 hbw hB hlt
     obtain ⟨Ax,cx,rfl,g1,g2,g3,g4,g5,hrl⟩:=RTm.cells hr
     have c0:wr.cell? ⟨b,off+k*4,none⟩=some (.int .i64 t.kind):=hcell 0 _ rfl
     have c1:wr.cell? ⟨b,off+k*4+1,none⟩=some (.int .i64 t.n):=hcell 1 _ rfl
     have c2:wr.cell? ⟨b,off+k*4+2,none⟩=some (.string t.s):=hcell 2 _ rfl
     have c3:wr.cell? ⟨b,off+k*4+3,none⟩=some (.slice Ax t.l.length cx):=hcell 3 _ rfl
     have hszr:=hbw.size
     have HB:=yW (fun o:Obj=>hbw.alloc hszr o)
     clear hcell hlen hx hr
     go_wp2_with fail
     ·rw [HDP.out]
      refine (IH.out (d-1) B t.l Ax cx _ _ ((iU.rl hrl).keep (HB.out _) hB) (yX hB (HB.out _).size) (by omega) (by omega) (by omega)).mono ?_
      rintro e w1 ⟨⟨m,rfl,hm0,hm1⟩,hb1⟩
      have HB1:=yW ((HB.out _).trans (hb1.mono (HB.out _).size))
      clear hb1
      go_wp2_with fail
      ·go_roundw
       case rel=>exact ⟨k+1,m,by omega,by go_num,rfl,by omega,by omega,HB1.out⟩
       case measure=>simp [intOf];omega
      ·go_ret
       exact ⟨⟨100,rfl,by omega,by omega⟩,HB1.out⟩
     ·go_ret
      exact ⟨⟨100,rfl,by omega,by omega⟩,HB.out _⟩
    ·go_wp2_with fail
     go_ret
     exact ⟨⟨n,rfl,hn0,by omega⟩,hbw⟩
theorem gS {d B:Nat} {t:Tm} {vs:List Value} {w:World} (hr:RTm w B d t vs) (hB:B≤w.heap.size) :
 Calls Tryz.prog 102 #[.agg vs.toArray] w fun e w'=>(∃m:Int,e=.returned (.int .i64 m)∧0≤m∧m≤100)∧Below w.heap.size w w':=by
 have HR:=yW hr
 obtain ⟨Ax,cx,rfl,g1,g2,g3,g4,g5,hrl⟩:=RTm.cells hr
 have HB:=yW (fun o:Obj=>(za w.heap.size w).alloc (yY _) o)
 clear hr hrl
 go_enter Tryz.func102,Tryz.ntmps102
 go_wp2_with fail
 have HW:=yW ((HB.out (.cells #[.int .i64 t.kind,.int .i64 t.n,.string t.s,.slice Ax t.l.length cx] 79)).trans ((za (w.alloc (.cells #[.int .i64 t.kind,.int .i64 t.n,.string t.s,.slice Ax t.l.length cx] 79)).heap.size (w.alloc (.cells #[.int .i64 t.kind,.int .i64 t.n,.string t.s,.slice Ax t.l.length cx] 79))).alloc (yY _) (.cells #[.int .i64 t.kind,.int .i64 t.n,.string t.s,.slice Ax t.l.length cx] 79) |>.mono (HB.out (.cells #[.int .i64 t.kind,.int .i64 t.n,.string t.s,.slice Ax t.l.length cx] 79)).size))
 have y0:((w.alloc (.cells #[.int .i64 t.kind,.int .i64 t.n,.string t.s,.slice Ax t.l.length cx] 79)).alloc (.cells #[.int .i64 t.kind,.int .i64 t.n,.string t.s,.slice Ax t.l.length cx] 79)).cell? ⟨w.heap.size+1,0,none⟩=some (.int .i64 t.kind):=by go_simp
 have y1:((w.alloc (.cells #[.int .i64 t.kind,.int .i64 t.n,.string t.s,.slice Ax t.l.length cx] 79)).alloc (.cells #[.int .i64 t.kind,.int .i64 t.n,.string t.s,.slice Ax t.l.length cx] 79)).cell? ⟨w.heap.size+1,1,none⟩=some (.int .i64 t.n):=by go_simp
 have y2:((w.alloc (.cells #[.int .i64 t.kind,.int .i64 t.n,.string t.s,.slice Ax t.l.length cx] 79)).alloc (.cells #[.int .i64 t.kind,.int .i64 t.n,.string t.s,.slice Ax t.l.length cx] 79)).cell? ⟨w.heap.size+1,2,none⟩=some (.string t.s):=by go_simp
 have y3:((w.alloc (.cells #[.int .i64 t.kind,.int .i64 t.n,.string t.s,.slice Ax t.l.length cx] 79)).alloc (.cells #[.int .i64 t.kind,.int .i64 t.n,.string t.s,.slice Ax t.l.length cx] 79)).cell? ⟨w.heap.size+1,3,none⟩=some (.slice Ax t.l.length cx):=by go_simp
 have ysz:w.heap.size+1<((w.alloc (.cells #[.int .i64 t.kind,.int .i64 t.n,.string t.s,.slice Ax t.l.length cx] 79)).alloc (.cells #[.int .i64 t.kind,.int .i64 t.n,.string t.s,.slice Ax t.l.length cx] 79)).heap.size:=by go_simp
 generalize ((w.alloc (.cells #[.int .i64 t.kind,.int .i64 t.n,.string t.s,.slice Ax t.l.length cx] 79)).alloc (.cells #[.int .i64 t.kind,.int .i64 t.n,.string t.s,.slice Ax t.l.length cx] 79))=W at *
 have hl:RL (TmR d) W W.heap.size [t] (some ⟨w.heap.size+1,0,none⟩):=RL.one (x:=t) ysz ((TmR d).wide (yX hB HW.out.size) ((TmR d).keep HW.out hB HR.out)) (fun j v hv=>by
  rcases j with _ | _ | _ | _ | j
  ·simp only [List.getElem?_cons_zero,Option.some.injEq] at hv;rw [←hv];exact y0
  ·simp only [List.getElem?_cons_succ,List.getElem?_cons_zero,Option.some.injEq] at hv;rw [←hv];exact y1
  ·simp only [List.getElem?_cons_succ,List.getElem?_cons_zero,Option.some.injEq] at hv;rw [←hv];exact y2
  ·simp only [List.getElem?_cons_succ,List.getElem?_cons_zero,Option.some.injEq] at hv;rw [←hv];exact y3
  ·simp at hv)
 refine (xR 6 (by omega) d _ [t] _ 1 0 W hl (yY _) (by simp) (by omega) (by omega)).mono ?_
 rintro e w1 ⟨⟨m,rfl,hm0,hm1⟩,hb1⟩
 have HB1:=yW (HW.out.trans (hb1.mono HW.out.size))
 clear hb1
 go_wp2_with fail
 go_ret
 exact ⟨⟨m,rfl,hm0,hm1⟩,HB1.out⟩
theorem mB {d B:Nat} {r:Ru} {vs:List Value} {w:World} (hr:(RuR d).rd w B r vs) (hB:B≤w.heap.size) :
 Calls Tryz.prog 48 #[.agg vs.toArray] w fun x w'=>(∃m:Int,x=.returned (.int .i64 m)∧0≤m∧m≤400)∧Below w.heap.size w w':=by
 obtain ⟨_,_,_,_,rfl,hs,⟨A0,c0,rfl,h01,h02,hl0⟩,⟨A1,c1,rfl,h11,h12,hl1⟩,⟨A2,c2,rfl,h21,h22,hl2⟩,⟨A3,c3,rfl,h31,h32,hl3⟩⟩:=hr
 simp only [PrR,ExR,ScR,TmR] at h02 h12 h22 h32
 have HB:=yW (fun o:Obj=>(za w.heap.size w).alloc (yY _) o)
 have HL1:=yW hl1
 have HL2:=yW hl2
 clear hl1 hl2 hl3
 go_enter Tryz.func48,Tryz.ntmps48
 go_wp2_with fail
 have HW:=yW (HB.out (.cells #[.string r.head.name,.slice A0 r.head.terms.length c0,.slice A1 r.body.length c1,.slice A2 r.exprs.length c2,.slice A3 r.scopes.length c3] 30))
 have x2:(w.alloc (.cells #[.string r.head.name,.slice A0 r.head.terms.length c0,.slice A1 r.body.length c1,.slice A2 r.exprs.length c2,.slice A3 r.scopes.length c3] 30)).cell? ⟨w.heap.size,2,none⟩=some (.slice A1 r.body.length c1):=by go_simp
 have x3:(w.alloc (.cells #[.string r.head.name,.slice A0 r.head.terms.length c0,.slice A1 r.body.length c1,.slice A2 r.exprs.length c2,.slice A3 r.scopes.length c3] 30)).cell? ⟨w.heap.size,3,none⟩=some (.slice A2 r.exprs.length c2):=by go_simp
 have xsz:w.heap.size<(w.alloc (.cells #[.string r.head.name,.slice A0 r.head.terms.length c0,.slice A1 r.body.length c1,.slice A2 r.exprs.length c2,.slice A3 r.scopes.length c3] 30)).heap.size:=by go_simp
 generalize (w.alloc (.cells #[.string r.head.name,.slice A0 r.head.terms.length c0,.slice A1 r.body.length c1,.slice A2 r.exprs.length c2,.slice A3 r.scopes.length c3] 30))=W at *
 have hl0':=hl0.keep HW.out hB
 have hBW:=yX hB HW.out.size
 have HLW1:=yW (HL1.out.keep HW.out hB)
 have HLW2:=yW (HL2.out.keep HW.out hB)
 clear hl0 HL1 HL2 HB
 go_loopw [3,26] (fun v i wr=>∃(k:Nat) (n:Int),k≤r.head.terms.length∧i=.int .i64 k∧v=.int .i64 n∧0≤n∧n≤140737488351232+101*k∧Below W.heap.size W wr) (fun _ i _=>r.head.terms.length-(intOf i).toNat)
 case atStart=>exact ⟨0,_,yZ _,rfl,rfl,by omega,by omega,za _ _⟩
 case round=>
  obtain ⟨k,n,hk,rfl,rfl,hn0,hn1,hbw⟩:=hrel
  by_cases hlt:k<r.head.terms.length
  ·obtain ⟨b,off,rfl,hb⟩:=hl0'.base hbw hBW (by omega)
   obtain ⟨t,vs,hx,hlen,hcell,hr⟩:=hl0'.at_ hbw hBW hlt
   obtain ⟨Ax,cx,rfl,g1,g2,g3,g4,g5,hrl⟩:=RTm.cells hr
   have c0:wr.cell? ⟨b,off+k*4,none⟩=some (.int .i64 t.kind):=hcell 0 _ rfl
   have c1:wr.cell? ⟨b,off+k*4+1,none⟩=some (.int .i64 t.n):=hcell 1 _ rfl
   have c2:wr.cell? ⟨b,off+k*4+2,none⟩=some (.string t.s):=hcell 2 _ rfl
   have c3:wr.cell? ⟨b,off+k*4+3,none⟩=some (.slice Ax t.l.length cx):=hcell 3 _ rfl
   have hszr:=hbw.size
   have HB:=yW (fun o:Obj=>hbw.alloc hszr o)
   have HB0:=yW (fun o:Obj=>(za wr.heap.size wr).alloc (yY _) o)
   have HR:=yW hr
   clear hcell hlen hx hr
   go_wp2_with fail
   refine (gS (d:=d) (B:=B) (t:=t) (vs:=[_,_,_,_]) ((TmR d).keep (HB0.out _) (yX hBW hszr) HR.out) (yX hBW (HB.out _).size)).mono ?_
   rintro e w1 ⟨⟨m,rfl,hm0,hm1⟩,hb1⟩
   have HB1:=yW ((HB.out _).trans (hb1.mono (HB.out _).size))
   clear hb1
   go_wp2_with fail
   go_roundw
   case rel=>exact ⟨k+1,_,by omega,by go_num,rfl,by omega,by omega,HB1.out⟩
   case measure=>simp [intOf];omega
  ·clear hl0'
   have hn2:n≤140737488351232+101*(r.head.terms.length:Int):=by omega
   have z2:wr.cell? ⟨w.heap.size,2,none⟩=some (.slice A1 r.body.length c1):=(iZ hbw _ _ xsz).trans x2
   clear hn1
   go_wp2_with fail
   clear z2 hk hlt
   go_loopw [3,38] (fun v i wr=>∃(k:Nat) (n:Int),k≤r.body.length∧i=.int .i64 k∧v=.int .i64 n∧0≤n∧n≤150737488351232+101*(r.head.terms.length:Int)+k∧Below W.heap.size W wr) (fun _ i _=>r.body.length-(intOf i).toNat)
   case atStart=>exact ⟨0,_,yZ _,rfl,rfl,hn0,by omega,hbw⟩
   case round=>
    clear hbw hn0 hn2
    obtain ⟨k,n,hk,rfl,rfl,hn0,hn1,hbw⟩:=hrel
    by_cases hlt:k<r.body.length
    ·obtain ⟨b,off,rfl,hb⟩:=HLW1.out.base hbw hBW (by omega)
     obtain ⟨p,vs,hx,hlen,hcell,hr⟩:=HLW1.out.at0 hbw hBW hlt
     obtain ⟨_,rfl,hs,A',c',rfl,hc1,hc2,hl'⟩:=hr
     simp only [TmR] at hc2
     have c0:wr.cell? ⟨b,off+k*2,none⟩=some (.string p.name):=hcell 0 _ rfl
     have c1:wr.cell? ⟨b,off+k*2+1,none⟩=some (.slice A' p.terms.length c'):=hcell 1 _ rfl
     have hszr:=hbw.size
     have HB:=yW (fun o:Obj=>hbw.alloc hszr o)
     clear hcell hlen hx
     go_wp2_with fail
     have hn3:n+(1+(p.terms.length:Int))≤150737488351232+101*(r.head.terms.length:Int)+k+(1+(p.terms.length:Int)):=by omega
     have hbw2:Below W.heap.size W (wr.alloc (.cells #[.string p.name,.slice A' p.terms.length c'] 25)):=HB.out _
     generalize (wr.alloc (.cells #[.string p.name,.slice A' p.terms.length c'] 25))=W2 at *
     go_loopw [3,51] (fun v i wr2=>∃(j:Nat) (n2:Int),j≤p.terms.length∧i=.int .i64 j∧v=.int .i64 n2∧0≤n2∧((j=0∧n2=n+(1+(p.terms.length:Int)))∨n2≤400)∧Below W.heap.size W wr2) (fun _ i _=>p.terms.length-(intOf i).toNat)
     case atStart=>exact ⟨0,_,yZ _,rfl,rfl,by omega,.inl ⟨rfl,rfl⟩,hbw2⟩
     case round=>
      clear hbw2 hbw hszr c0 c1 HB
      obtain ⟨j,n2,hj,rfl,rfl,hn20,hn21,hbw⟩:=hrel
      by_cases hlt2:j<p.terms.length
      ·obtain ⟨b',off',rfl,hb'⟩:=hl'.base hbw hBW (by omega)
       obtain ⟨t,vs,hx,hlen,hcell,hr⟩:=hl'.at_ hbw hBW hlt2
       obtain ⟨Ax,cx,rfl,g1,g2,g3,g4,g5,hrl⟩:=RTm.cells hr
       have c0:wr.cell? ⟨b',off'+j*4,none⟩=some (.int .i64 t.kind):=hcell 0 _ rfl
       have c1:wr.cell? ⟨b',off'+j*4+1,none⟩=some (.int .i64 t.n):=hcell 1 _ rfl
       have c2:wr.cell? ⟨b',off'+j*4+2,none⟩=some (.string t.s):=hcell 2 _ rfl
       have c3:wr.cell? ⟨b',off'+j*4+3,none⟩=some (.slice Ax t.l.length cx):=hcell 3 _ rfl
       have hszr:=hbw.size
       have HB:=yW (fun o:Obj=>hbw.alloc hszr o)
       have HB0:=yW (fun o:Obj=>(za wr.heap.size wr).alloc (yY _) o)
       have HR:=yW hr
       clear hcell hlen hx hr
       go_wp2_with fail
       refine (gS (d:=d) (B:=B) (t:=t) (vs:=[_,_,_,_]) ((TmR d).keep (HB0.out _) (yX hBW hszr) HR.out) (yX hBW (HB.out _).size)).mono ?_
       rintro e w1 ⟨⟨m,rfl,hm0,hm1⟩,hb1⟩
       have HB1:=yW ((HB.out _).trans (hb1.mono (HB.out _).size))
       clear hb1
       go_wp2_with fail
       ·go_ret
        exact ⟨⟨_,rfl,by omega,by omega⟩,HW.out.trans (HB1.out.mono HW.out.size)⟩
       ·go_roundw
        case rel=>exact ⟨j+1,_,by omega,by go_num,rfl,by omega,.inr (by omega),HB1.out⟩
        case measure=>simp [intOf];omega
      ·go_wp2_with fail
       go_roundw
       case rel=>exact ⟨k+1,n2,by omega,by go_num,rfl,by omega,by omega,hbw⟩
       case measure=>simp [intOf];omega
    ·have z3:wr.cell? ⟨w.heap.size,3,none⟩=some (.slice A2 r.exprs.length c2):=(iZ hbw _ _ xsz).trans x3
     have hn2:n≤160737488351232+101*(r.head.terms.length:Int):=by omega
     clear hn1
     go_wp2_with fail
     clear z3 hk hlt
     go_loopw [3,66] (fun v i wr=>∃(k:Nat) (n:Int),k≤r.exprs.length∧i=.int .i64 k∧v=.int .i64 n∧0≤n∧n≤160737488351232+101*(r.head.terms.length:Int)+k∧Below W.heap.size W wr) (fun _ i _=>r.exprs.length-(intOf i).toNat)
     case atStart=>exact ⟨0,_,yZ _,rfl,rfl,hn0,by omega,hbw⟩
     case round=>
      clear hbw hn0 hn2
      obtain ⟨k,n,hk,rfl,rfl,hn0,hn1,hbw⟩:=hrel
      by_cases hlt:k<r.exprs.length
      ·obtain ⟨b,off,rfl,hb⟩:=HLW2.out.base hbw hBW (by omega)
       obtain ⟨p,vs,hx,hlen,hcell,hr⟩:=HLW2.out.at0 hbw hBW hlt
       obtain ⟨_,rfl,A',c',rfl,hc1,hc2,hl'⟩:=hr
       simp only [OpR] at hc2
       have c0:wr.cell? ⟨b,off+k*1,none⟩=some (.slice A' p.length c'):=hcell 0 _ rfl
       rw [Nat.mul_one] at c0
       have hszr:=hbw.size
       have HB:=yW (fun o:Obj=>hbw.alloc hszr o)
       clear hcell hlen hx
       go_wp2_with fail
       have hn3:n+(1+(p.length:Int))≤160737488351232+101*(r.head.terms.length:Int)+k+(1+(p.length:Int)):=by omega
       have hbw2:Below W.heap.size W (wr.alloc (.cells #[.slice A' p.length c'] 59)):=HB.out _
       generalize (wr.alloc (.cells #[.slice A' p.length c'] 59))=W2 at *
       go_loopw [3,79] (fun v i wr2=>∃(j:Nat) (n2:Int),j≤p.length∧i=.int .i64 j∧v=.int .i64 n2∧0≤n2∧((j=0∧n2=n+(1+(p.length:Int)))∨n2≤400)∧Below W.heap.size W wr2) (fun _ i _=>p.length-(intOf i).toNat)
       case atStart=>exact ⟨0,_,yZ _,rfl,rfl,by omega,.inl ⟨rfl,rfl⟩,hbw2⟩
       case round=>
        clear hbw2 hbw hszr c0 HB
        obtain ⟨j,n2,hj,rfl,rfl,hn20,hn21,hbw⟩:=hrel
        by_cases hlt2:j<p.length
        ·obtain ⟨b',off',rfl,hb'⟩:=hl'.base hbw hBW (by omega)
         obtain ⟨o,vs,hx,hlen,hcell,hr⟩:=hl'.at_ hbw hBW hlt2
         obtain ⟨ts,rfl,i1,i2,i3,ht⟩:=hr
         have hr:=ht
         obtain ⟨Ax,cx,rfl,g1,g2,g3,g4,g5,hrl⟩:=RTm.cells ht
         have c0:wr.cell? ⟨b',off'+j*7,none⟩=some (.int .i64 o.kind):=hcell 0 _ rfl
         have c1:wr.cell? ⟨b',off'+j*7+1,none⟩=some (.int .i64 o.term.kind):=hcell 1 _ rfl
         have c2:wr.cell? ⟨b',off'+j*7+2,none⟩=some (.int .i64 o.term.n):=hcell 2 _ rfl
         have c3:wr.cell? ⟨b',off'+j*7+3,none⟩=some (.string o.term.s):=hcell 3 _ rfl
         have c4:wr.cell? ⟨b',off'+j*7+4,none⟩=some (.slice Ax o.term.l.length cx):=hcell 4 _ rfl
         have c5:wr.cell? ⟨b',off'+j*7+5,none⟩=some (.int .i64 o.code):=hcell 5 _ rfl
         have c6:wr.cell? ⟨b',off'+j*7+6,none⟩=some (.int .i64 o.skip):=hcell 6 _ rfl
         have hszr:=hbw.size
         have HB:=yW (fun o:Obj=>hbw.alloc hszr o)
         have HB0:=yW (fun o:Obj=>(za wr.heap.size wr).alloc (yY _) o)
         have HR:=yW hr
         clear hcell hlen hx hr
         go_wp2_with fail
         refine (gS (d:=d) (B:=B) (t:=o.term) (vs:=[_,_,_,_]) ((TmR d).keep (HB0.out _) (yX hBW hszr) HR.out) (yX hBW (HB.out _).size)).mono ?_
         rintro e w1 ⟨⟨m,rfl,hm0,hm1⟩,hb1⟩
         have HB1:=yW ((HB.out _).trans (hb1.mono (HB.out _).size))
         clear hb1
         go_wp2_with fail
         ·go_ret
          exact ⟨⟨_,rfl,by omega,by omega⟩,HW.out.trans (HB1.out.mono HW.out.size)⟩
         ·go_roundw
          case rel=>exact ⟨j+1,_,by omega,by go_num,rfl,by omega,.inr (by omega),HB1.out⟩
          case measure=>simp [intOf];omega
        ·go_wp2_with fail
         go_roundw
         case rel=>exact ⟨k+1,n2,by omega,by go_num,rfl,by omega,by omega,hbw⟩
         case measure=>simp [intOf];omega
      ·go_wp2_with fail
       go_ret
       exact ⟨⟨_,rfl,by omega,by omega⟩,HW.out.trans (hbw.mono HW.out.size)⟩
theorem gF {d B:Nat} {r:Ru} {vs:List Value} {w:World} (hr:(RuR d).rd w B r vs) (hB:B≤w.heap.size) :
 Calls Tryz.prog 48 #[.agg vs.toArray] w fun x w'=>(∃m:Int,x=.returned (.int .i64 m))∧Below w.heap.size w w':=
 (mB hr hB).mono fun _ _ ⟨⟨m,h,_⟩,hb⟩=>⟨⟨m,h⟩,hb⟩
theorem nd {α:Type} {R:Reader α} (w:World) (B:Nat):RSl R w B [] (.slice none 0 0):=⟨none,0,rfl,by simp,by simp,fun h=>absurd h (by simp)⟩
theorem sU {d B:Nat} {w:World} {f:Fc} {A:Option Addr} {c:Nat} (h:(ax d).rd w B f [.string f.pr.name,.slice A f.pr.terms.length c,.int .u32 f.o]):(RuR d).rd w B ⟨f.pr,[],[],[]⟩ [.string f.pr.name,.slice A f.pr.terms.length c,.slice none 0 0,.slice none 0 0,.slice none 0 0]:=by
 obtain ⟨v,e,⟨v2,e2,h1,h2⟩,_⟩:=h
 simp only [List.cons.injEq,and_true,true_and] at e e2
 obtain rfl:=e
 obtain rfl:=e2
 exact ⟨_,_,_,_,rfl,h1,h2,nd _ _,nd _ _,nd _ _⟩
theorem uu {d B c:Nat} {l:List Fc} {A:Option Addr} {w:World} (hl:RL (ax (d+1)) w B l A) (hB:B≤w.heap.size) (hn:l.length≤140737488351232) :
 Calls Tryz.prog 101 #[.slice A l.length c] w fun z w'=>(∃q,z=.returned (.bool q)∧(q=true→l.length≤600))∧Below w.heap.size w w':=by
 have HL:=yW hl
 clear hl
 go_enter Tryz.func101,Tryz.ntmps101
 go_wp2_with fail
 go_loopw [3,8] (fun u i wr=>∃(k:Nat) (n:Int),k≤l.length∧i=.int .i64 k∧u=.int .i64 n∧(k:Int)≤n∧n≤600∧Hid (Below w.heap.size w wr)) (fun _ i _=>l.length-(intOf i).toNat)
 case atStart=>exact ⟨0,0,yZ _,rfl,rfl,by omega,by omega,yW (za _ _)⟩
 case round=>
  obtain ⟨k,n,hk,rfl,rfl,hkn,hn6,HW⟩:=hrel
  have hszr:=HW.out.size
  by_cases hlt:k<l.length
  ·obtain ⟨b,off,rfl,hob⟩:=HL.out.base HW.out hB (by omega)
   obtain ⟨x,vs,hx,hlen,hcell,hr⟩:=HL.out.at_ HW.out hB hlt
   obtain ⟨Ax,cx,rfl,_⟩:=aI hr
   have c0:wr.cell? ⟨b,off+k*3,none⟩=some (.string x.pr.name):=hcell 0 _ rfl
   have c1:wr.cell? ⟨b,off+k*3+1,none⟩=some (.slice Ax x.pr.terms.length cx):=hcell 1 _ rfl
   have c2:wr.cell? ⟨b,off+k*3+2,none⟩=some (.int .u32 x.o):=hcell 2 _ rfl
   have HX:=yW hx
   have HR:=yW hr
   clear hx hr hcell hlen
   go_wp2_with fail
   generalize hW2:World.alloc _ _=w2
   obtain ⟨hb2,hz2⟩:=al1 hW2
   have HB2:=yW hb2
   have hsz2:=hb2.size
   clear hW2 hz2 hb2 c0 c1 c2
   refine (mB (d:=d+1) (B:=B) (r:=⟨x.pr,[],[],[]⟩) (vs:=[_,_,_,_,_]) (sU ((ax (d+1)).keep HB2.out (yX hB hszr) HR.out)) (by omega)).mono ?_
   rintro z w3 ⟨⟨m,rfl,hm0,hm1⟩,hb3⟩
   have HB3:=yW (ab HW.out (ab HB2.out hb3))
   clear hb3
   by_cases hg:600<n+(1+m)
   ·go_wp2_with fail
    go_ret
    exact ⟨⟨false,rfl,by simp⟩,HB3.out⟩
   ·go_wp2_with fail
    go_roundw
    case rel=>exact ⟨k+1,n+(1+m),by omega,by go_num,rfl,by omega,by omega,HB3⟩
    case measure=>simp [intOf];omega
  ·go_wp2_with fail
   go_ret
   exact ⟨⟨true,rfl,fun _=>by omega⟩,HW.out⟩
theorem mm {d B c:Nat} {l:List Fc} {A:Option Addr} {w:World} (hl:RL (ax (d+1)) w B l A) (hB:B≤w.heap.size) (hn:l.length≤140737488351232) :
 Calls Tryz.prog 47 #[.slice A l.length c] w fun z w'=>(∃q:Int,z=.returned (.int .i64 q)∧(q=0→l.length≤600))∧Below w.heap.size w w':=by
 go_enter Tryz.func47,Tryz.ntmps47
 go_wp2_with fail
 refine (uu hl hB hn).mono ?_
 rintro z w1 ⟨⟨q,rfl,hq⟩,hb⟩
 cases q
 ·go_wp2_with fail
  go_ret
  exact ⟨⟨1,rfl,by omega⟩,hb⟩
 ·go_wp2_with fail
  go_ret
  exact ⟨⟨0,rfl,fun _=>hq trivial⟩,hb⟩
structure TwoS (d B:Nat) (w:World) (S:Nat) (xs:List FV) (A:Option Addr) (c M:Nat) (ys:List FV) (A':Option Addr) (c':Nat):Prop where
 s:StA (M+1) d w S xs A c
 m:DSt (M+1) d B w M ys A' c'
 ap:∀k,(Value.slice A xs.length c).ownBlock=some k→(Value.slice A' ys.length c').ownBlock≠some k
 ne:S<M
 hB:B≤S
section
variable {d B S M c c' c2:Nat} {w w':World} {xs ys xs2 ys2:List FV} {A A' A2:Option Addr}
theorem TwoS.later (h:TwoS d B w S xs A c M ys A' c') (hb:Below w.heap.size w w'):TwoS d B w' S xs A c M ys A' c':=⟨h.s.later hb,h.m.later hb,h.ap,h.ne,h.hB⟩
theorem TwoS.addS (h:TwoS d B w S xs A c M ys A' c') (hs:StA (M+1) d w' S xs2 A2 c2) (ha:aw (StM S (.slice A xs.length c)) w w') (hf:bl w (.slice A xs.length c) (.slice A2 xs2.length c2)):TwoS d B w' S xs2 A2 c2 M ys A' c':=by
 refine ⟨hs,h.m.agree ha (fun k hk hl=>?_),fun k hk hm=>?_,h.ne,h.hB⟩
 ·have hne:=h.ne
  have hB:=h.hB
  rcases hk with rfl | hk
  ·refine ⟨hB,fun hm=>?_⟩
   rcases hm with hm | hm
   ·omega
   ·have:=(h.m.row.lt k hm).1;omega
  ·have h1:=(h.s.row.lt k hk).1
   refine ⟨by omega,fun hm=>?_⟩
   rcases hm with hm | hm
   ·omega
   ·exact h.ap k hk hm
 ·rcases hf with e | ⟨k2,e,hk2⟩
  ·rw [e] at hk;exact h.ap k hk hm
  ·rw [e] at hk
   simp only [Option.some.injEq] at hk
   have:=(h.m.row.lt k hm).2
   omega
theorem TwoS.addM (h:TwoS d B w S xs A c M ys A' c') (hs:DSt (M+1) d B w' M ys2 A2 c2) (ha:aw (fun k=>k=M) w w') (hf:bl w (.slice A' ys.length c') (.slice A2 ys2.length c2)):TwoS d B w' S xs A c M ys2 A2 c2:=by
 refine ⟨h.s.agree ha (fun k hk hl hm=>?_) (fun k hk hl=>.inl (by omega)),hs,fun k hk hm=>?_,h.ne,h.hB⟩
 ·have hne:=h.ne
  rcases hm with hm | hm
  ·omega
  ·have:=(h.s.row.lt k hm).1;omega
 ·rcases hf with e | ⟨k2,e,hk2⟩
  ·rw [e] at hm;exact h.ap k hk hm
  ·rw [e] at hm
   simp only [Option.some.injEq] at hm
   have:=(h.s.row.lt k hk).2
   omega
end
def MadeE (d B:Nat) (w w':World) (l:List Fc) (z:Ending):Prop:=
 ∃S M xs A c ys A' c',z=.returned (.tuple #[.pointer (some ⟨S,0,none⟩),.pointer (some ⟨M,0,none⟩)])∧TwoS d B w' S xs A c M ys A' c'∧xs.map FV.f=stL l∧ys.map FV.f=stL l∧Below w.heap.size w w'
theorem rx {l:List Fc} {k:Nat} {x:Fc} (h:l[k]? = some x):stL (l.take (k+1))=pl (stL (l.take k)) x:=by
 rw [←rv]
 congr 1
 obtain ⟨hk,rfl⟩:=List.getElem?_eq_some_iff.1 h
 rw [List.take_succ_eq_append_getElem hk]
theorem qa {d B c:Nat} {l:List Fc} {A:Option Addr} {w:World} (hl:RL (ax (d+1)) w B l A) (hB:B≤w.heap.size) (hn:l.length≤100000) :
 Calls Tryz.prog 17 #[.slice A l.length c] w fun z w'=>MadeE d B w w' l z:=by
 have HL:=yW hl
 clear hl
 go_enter Tryz.func17,Tryz.ntmps17
 go_wp2_with fail
 refine (vO d).mono ?_
 rintro e w1 ⟨rfl,hs,hb1⟩
 have HS1:=yW hs
 have HB1:=yW hb1
 have hsl:=hs.hd.lt
 clear hs hb1
 go_upto_region 3 with fail
 generalize hW:World.alloc _ _=w2
 obtain ⟨hb2,hz2⟩:=al1 hW
 have HM2:=yW (n11 hW)
 have HS2:=yW (HS1.out.hd.later hb2)
 have HB2:=yW (ab HB1.out hb2)
 have hsz1:=HB1.out.size
 have hsz2:=hb2.size
 have hml:=HM2.out.lt
 have HT2:Hid (TwoS d B w2 w.heap.size [] none 0 w1.heap.size [] none 0):=yW ⟨⟨HS2.out,by omega,by omega,am.nil _ _ _ _ _,by simp,by simp,List.Pairwise.nil⟩,⟨HM2.out,by omega,by omega,am.nil _ _ _ _ _,by simp,by simp,List.Pairwise.nil,by omega⟩,fun k h=>(by cases h),hsl,hB⟩
 clear hW hb2
 generalize w1.heap.size=M at *
 go_loopw [13] (fun i wr=>∃(k:Nat) (xs:List FV) (A1:Option Addr) (c1:Nat) (ys:List FV) (A2:Option Addr) (c2:Nat),k≤l.length∧i=.int .i64 k∧Hid (TwoS d B wr w.heap.size xs A1 c1 M ys A2 c2)∧Hid (xs.map FV.f=stL (l.take k))∧Hid (ys.map FV.f=stL (l.take k))∧Hid (Below w.heap.size w wr)) (fun i _=>l.length-(intOf i).toNat)
 case atStart=>exact ⟨0,[],none,0,[],none,0,yZ _,rfl,HT2,yW rfl,yW rfl,HB2⟩
 case round=>
  obtain ⟨k,xs,A1,c1,ys,A2,c2,hk,rfl,HT,HX1,HY1,HW⟩:=hrel
  have hszr:=HW.out.size
  by_cases hlt:k<l.length
  ·obtain ⟨b,off,rfl,hob⟩:=HL.out.base HW.out hB (by omega)
   obtain ⟨x,vs,hx,hlen,hcell,hr⟩:=HL.out.at0 HW.out hB hlt
   have hr0:=hr
   obtain ⟨Ax,cx,rfl,_⟩:=aI hr
   have c0:wr.cell? ⟨b,off+k*3,none⟩=some (.string x.pr.name):=hcell 0 _ rfl
   have c1:wr.cell? ⟨b,off+k*3+1,none⟩=some (.slice Ax x.pr.terms.length cx):=hcell 1 _ rfl
   have c2:wr.cell? ⟨b,off+k*3+2,none⟩=some (.int .u32 x.o):=hcell 2 _ rfl
   have HXK:=yW hx
   have HR:=yW hr
   clear hr0
   clear hx hr hcell hlen
   have HXL:Hid (xs.length≤100000∧ys.length≤100000):=yW (by
    have h1:=nh (l.take k) []
    have h2:=congrArg List.length HX1.out
    have h3:=congrArg List.length HY1.out
    rw [List.length_map] at h2 h3
    rw [List.length_take] at h1
    unfold stL at h2 h3
    simp only [List.length_nil] at h1
    omega)
   go_upto_region 5 with fail
   generalize hW3:World.alloc _ _=w3
   obtain ⟨hb3,hz3⟩:=al1 hW3
   have HF3:=yW (n11 hW3)
   have HT3:=yW (HT.out.later hb3)
   have HB3:=yW (ab HW.out hb3)
   have hsz3:=hb3.size
   clear hW3 hb3 hz3 c0 c1 c2
   have k_f:=HF3.out.cell
   have l_f:=HF3.out.lt
   go_wp2_with fail
   refine (vN (f:=x) (vf:=[_,_,_]) (B:=B) HT3.out.s ((ax (d+1)).keep HB3.out hB HR.out) (by omega) HXL.out.1).mono ?_
   rintro z w4 ⟨xs2,A4,c4,rfl,hx4,hs4,ha4,hf4⟩
   have HT4:=yW (HT3.out.addS hs4 ha4 hf4)
   have HX4:Hid (xs2.map FV.f=stL (l.take (k+1))):=yW (by rw [hx4,HX1.out,rx HXK.out])
   have HF4:=yW (ha4.blk HF3.out (fun hm=>by
    rcases hm with hm | hm
    ·have h1:=HT.out.s.bw;have h2:=HT.out.ne;omega
    ·have:=(HT.out.s.row.lt _ hm).2;omega))
   have HB4:Hid (Below w.heap.size w w4):=yW (HB3.out.trans (ha4.below (fun q hq hm=>by
    rcases hm with hm | hm
    ·omega
    ·have h1:=(HT.out.s.row.lt _ hm).1;have h2:=HT.out.ne;omega) (by omega)))
   have hsz4:=ha4.size
   clear hx4 hs4 ha4 hf4 k_f l_f
   have k_f:=HF4.out.cell
   have l_f:=HF4.out.lt
   go_wp2_with fail
   refine (sQ (y:=⟨x,Ax,cx⟩) (B:=B) HT4.out.m ((ax (d+1)).keep HB4.out hB HR.out) HXL.out.2).mono ?_
   rintro z w5 ⟨ys2,A5,c5,rfl,hy5,hs5,ha5,hf5⟩
   have HT5:=yW (HT4.out.addM hs5 ha5 hf5)
   have HY5:Hid (ys2.map FV.f=stL (l.take (k+1))):=yW (by rw [hy5,HY1.out,rx HXK.out])
   have HB5:Hid (Below w.heap.size w w5):=yW (HB4.out.trans (ha5.below (fun q hq hm=>by have h2:=HT.out.ne;omega) (by omega)))
   clear hy5 hs5 ha5 hf5 k_f l_f
   go_wp2_with fail
   go_roundw
   case rel=>exact ⟨k+1,xs2,A4,c4,ys2,A5,c5,by omega,by go_num,HT5,HX4,HY5,HB5⟩
   case measure=>simp [intOf];omega
  ·have hkl:l.take k=l:=List.take_of_length_le (by omega)
   have HX2:=yW (HX1.out.trans (by rw [hkl]))
   have HY2:=yW (HY1.out.trans (by rw [hkl]))
   clear hkl
   go_wp2_with fail
   go_ret2
   exact ⟨w.heap.size,M,xs,A1,c1,ys,A2,c2,rfl,HT.out,HX2.out,HY2.out,HW.out⟩
theorem uv {d B c:Nat} {l:List Fc} {A:Option Addr} {r:Ru} {vr:List Value} {w:World} (hl:RL (ax (d+1)) w B l A) (hr:(RuR (d+1)).rd w B r vr) (hB:B≤w.heap.size) (hn:l.length≤140737488351232) :
 Calls Tryz.prog 15 #[.slice A l.length c,.agg vr.toArray] w fun z w'=>(∃q,z=.returned (.bool q)∧(q=true→l.length≤600))∧Below w.heap.size w w':=by
 have HL:=yW hl
 have HR:=yW hr
 obtain ⟨_,_,_,_,rfl,hs,⟨A0,c0,rfl,h01,h02,hl0⟩,⟨A1,c1,rfl,h11,h12,hl1⟩,⟨A2,c2,rfl,h21,h22,hl2⟩,⟨A3,c3,rfl,h31,h32,hl3⟩⟩:=hr
 clear hl hl0 hl1 hl2 hl3
 simp only [PrR] at h12
 go_enter Tryz.func15,Tryz.ntmps15
 go_upto_region 2 with fail
 generalize hW:World.alloc _ _=w1
 obtain ⟨hb1,hz⟩:=al1 hW
 have HK1:=yW (n11 hW)
 have HB1:=yW hb1
 clear hW hb1
 have k_r:=HK1.out.cell
 have l_r:=HK1.out.lt
 go_wp2_with fail
 clear k_r l_r
 go_loopw [5,9] (fun u i wr=>∃(k:Nat) (n:Int),k≤r.body.length∧i=.int .i64 k∧u=.int .i64 n∧0≤n∧n≤30000∧wr=w1) (fun _ i _=>r.body.length-(intOf i).toNat)
 case atStart=>exact ⟨0,1,yZ _,rfl,rfl,by omega,by omega,rfl⟩
 case round=>
  obtain ⟨k,n,hk,rfl,rfl,hn0,hn1,rfl⟩:=hrel
  by_cases hlt:k<r.body.length
  ·obtain ⟨m,hm⟩:∃m:Int,m=n*((l.length:Int)+1):=⟨_,rfl⟩
   have hm0:0≤m:=by rw [hm];exact Int.mul_nonneg hn0 (by omega)
   have hm1:m≤30000*140737488351233:=by rw [hm];exact Int.mul_le_mul hn1 (by omega) (by omega) (by omega)
   by_cases hg:30000<m
   ·go_wp2_with fail
    rw [←hm]
    go_wp2_with fail
    go_ret
    exact ⟨⟨false,rfl,by simp⟩,HB1.out⟩
   ·go_wp2_with fail
    rw [←hm]
    go_wp2_with fail
    go_roundw
    case rel=>exact ⟨k+1,m,by omega,by go_num,rfl,by omega,by omega,by first | trivial | rfl⟩
    case measure=>simp [intOf];omega
  ·go_wp2_with fail
   refine (mm (HL.out.keep HB1.out hB) (yX hB HB1.out.size) hn).mono ?_
   rintro z w2 ⟨⟨q,rfl,hq⟩,hb⟩
   have HK2:=yW (HK1.out.later hb)
   have HB2:=yW (ab HB1.out hb)
   clear hb
   have k_r:=HK2.out.cell
   have l_r:=HK2.out.lt
   by_cases hq0:q=0
   ·have hl6:=hq hq0
    subst hq0
    clear hq
    go_wp2_with fail
    refine (gF (d:=d+1) (B:=B) (r:=r) (vs:=[_,_,_,_,_]) ((RuR (d+1)).keep HB2.out hB HR.out) (yX hB HB2.out.size)).mono ?_
    rintro z w3 ⟨⟨m,rfl⟩,hb⟩
    have HB3:=yW (ab HB2.out hb)
    clear hb k_r l_r
    go_wp2_with fail
    go_ret
    exact ⟨⟨_,rfl,fun _=>hl6⟩,HB3.out⟩
   ·have hq1:((0:Int)==q)=false:=by simp;omega
    clear hq
    go_wp2_with fail
    go_ret
    exact ⟨⟨_,rfl,by simp⟩,HB2.out⟩
end Go.Proofs.YtdphibjibnffeaaGreat
