/- store.New, (*store.Store).Named. -/
import Derived.Test.YtjpndglegpcdnaaGreatUniq
import Derived.Test.YtjpndglegpcdnaaGreatSingle
import Derived.Test.YtjpndglegpcdnaaGreatFc5
set_option linter.unusedVariables false
set_option linter.unusedSimpArgs false
set_option maxRecDepth 100000
set_option maxHeartbeats 8000000
namespace Go.Proofs.YtjpndglegpcdnaaGreat
open Go.ChangeShapes Go.WideShapes Go.ChangeAt Go.RowKit
def cw (ts:List Tm):List aY:=(ts.filter (fun t=>decide (t.kind=1))).map (fun t=>bs t.s)
def az (ps:List Pr):List aY:=ps.flatMap (fun p=>cw p.terms)
theorem nZ (ts us:List Tm):cw (ts++us)=cw ts++cw us:=by simp [cw]
theorem mv (ps qs:List Pr):az (ps++qs)=az ps++az qs:=by simp [az]
theorem lV (ts:List Tm) (j:Nat):(cw (ts.take j)).length≤(cw ts).length:=by
 have e:=nZ (ts.take j) (ts.drop j)
 rw [List.take_append_drop] at e
 rw [e];simp
theorem pS (ps:List Pr) (k:Nat):(az (ps.take k)).length≤(az ps).length:=by
 have e:=mv (ps.take k) (ps.drop k)
 rw [List.take_append_drop] at e
 rw [e];simp
theorem pR {ps:List Pr} {k:Nat} {p:Pr} (h:ps[k]? = some p):az (ps.take (k+1))=az (ps.take k)++cw p.terms:=by
 obtain ⟨h1,h2⟩:=List.getElem?_eq_some_iff.1 h
 rw [List.take_succ_eq_append_getElem h1,h2];simp [az]
theorem rm {ts:List Tm} {k:Nat} {t:Tm} (h:ts[k]? = some t):cw (ts.take (k+1))=cw (ts.take k)++(if t.kind=1 then [bs t.s] else []):=by
 obtain ⟨h1,h2⟩:=List.getElem?_eq_some_iff.1 h
 rw [List.take_succ_eq_append_getElem h1,h2]
 by_cases hk:t.kind=1<;>simp [cw,hk]
theorem vd:(Tryz.prog.info? 9).map (fun i=>(i.zero,i.size,i.bytes))=some (some (.string ⟨#[]⟩),1,16):=by kernel_rfl
theorem jD.later {w w':World} {base:Nat} {v:Value} {L:List aY} (h:jD w base v L) (hb:Below w.heap.size w w'):jD w' base v L:=by
 refine ⟨h.1,?_⟩
 rcases h.2 with h2 | ⟨g,cap,cur,hv,hg,hh,r⟩
 ·exact .inl h2
 ·refine .inr ⟨g,cap,cur,hv,hg,?_,r⟩
  have hlt:g<w.heap.size:=by
   rcases Nat.lt_or_ge g w.heap.size with h' | h'
   ·exact h'
   ·rw [Array.getElem?_eq_none h'] at hh;cases hh
  rw [hb.block g hlt];exact hh
theorem jD.reads {w:World} {base:Nat} {v:Value} {L:List aY} (h:jD w base v L) (hl:∀l∈L,l.length≤140737488351232) (hn:L.length≤1000000):∃A c,v=.slice A L.length c∧L.length≤c∧RL cV w w.heap.size (L.map mkS) A:=by
 rcases h.2 with ⟨h1,h2⟩ | ⟨g,cap,cur,hv,hg,hh,h1,h2,h3,h4⟩
 ·refine ⟨none,0,by rw [h1,h2],by omega,?_⟩
  intro h0
  simp [h2] at h0
 ·refine ⟨_,cap,hv,h1,fun _=>⟨g,0,rfl,?_,fun i hi=>?_⟩⟩
  ·rcases Nat.lt_or_ge g w.heap.size with h' | h'
   ·exact h'
   ·rw [Array.getElem?_eq_none h'] at hh;cases hh
  ·have hi':i<L.length:=by simpa using hi
   refine ⟨[.string (mkS L[i])],rfl,⟨mkS L[i],by simp [hi'],rfl,?_⟩,fun j v hj=>?_⟩
   ·have:=hl L[i] (List.getElem_mem hi')
    show (mkS L[i]).size≤_
    rw [Lib.size_eq]
    simpa [mkS] using this
   ·match j,hj with
    | 0,hj=>
      have hj:Value.string (mkS L[i])=v:=by simpa using hj
      subst hj
      have hc:cur[i]? = some (encStr L[i]):=by
       have:(cur.toList.take (L.length*1))[i]? = (L.map encStr)[i]?:=by rw [h4]
       rw [List.getElem?_take,if_pos (by omega),List.getElem?_map,zD hi'] at this
       simpa using this
      show World.cell? w ⟨g,0+i*1+0,none⟩=_
      simp [World.cell?,hh,hc,encStr,mkS]
theorem ly (d:Nat) (ps:List Pr) (A:Option Addr) (c B:Nat) (w:World) (hl:RL (PrR d) w B ps A) (hB:B≤w.heap.size) (hn:ps.length≤140737488351232) (hcount:(az ps).length≤1000000) :
 Calls Tryz.prog 90 #[.slice A ps.length c] w fun e w'=>∃v,e=.returned v∧jD w' w.heap.size v (ey (az ps))∧Below w.heap.size w w':=by
 obtain ⟨i0,hi,hz0,hz1,hz2⟩:=info_parts vd
 go_enter Tryz.func90,Tryz.ntmps90
 go_wp2_with fail
 go_loopw [3,10] (fun v i wr=>∃k:Nat,k≤ps.length∧i=.int .i64 k∧jD wr w.heap.size v (az (ps.take k))∧Below w.heap.size w wr) (fun _ i _=>ps.length-(intOf i).toNat)
 case atStart=>exact ⟨0,zx _,rfl,World.ownsRow_nil _ _ _ _,zy _ _⟩
 case round=>
  obtain ⟨k,hk,rfl,hown,hbw⟩:=hrel
  by_cases hlt:k<ps.length
  ·obtain ⟨b,off,rfl,hb⟩:=hl.base hbw hB (by omega)
   obtain ⟨p,vs,hx,hlen,hcell,hr⟩:=hl.at0 hbw hB hlt
   obtain ⟨_,rfl,hs,A',c',rfl,hc1,hc2,hl'⟩:=hr
   have c0:wr.cell? ⟨b,off+k*2,none⟩=some (.string p.name):=hcell 0 _ rfl
   have c1:wr.cell? ⟨b,off+k*2+1,none⟩=some (.slice A' p.terms.length c'):=hcell 1 _ rfl
   simp only [TmR] at hc2
   have HX:=zu (pR hx)
   have HT:=zu (pS ps (k+1))
   clear hcell hlen hx
   go_wp2_with fail
   have hbw2:Below w.heap.size w (wr.alloc (.cells #[.string p.name,.slice A' p.terms.length c'] 26)):=hbw.alloc hbw.size _
   have hown2:jD (wr.alloc (.cells #[.string p.name,.slice A' p.terms.length c'] 26)) w.heap.size u3 (az (ps.take k)):=hown.alloc _
   have hsz2:wr.heap.size<(wr.alloc (.cells #[.string p.name,.slice A' p.terms.length c'] 26)).heap.size:=by simp
   have hsz:=hbw.size
   clear hbw hown c0 c1 hl
   generalize (wr.alloc (.cells #[.string p.name,.slice A' p.terms.length c'] 26))=W at *
   go_loopw [3,17] (fun v i wr2=>∃j:Nat,j≤p.terms.length∧i=.int .i64 j∧jD wr2 w.heap.size v (az (ps.take k)++cw (p.terms.take j))∧Below w.heap.size w wr2) (fun _ i _=>p.terms.length-(intOf i).toNat)
   case atStart=>exact ⟨0,zx _,rfl,by simpa [cw] using hown2,hbw2⟩
   case round=>
    obtain ⟨j,hj,rfl,hown3,hbw3⟩:=hrel
    by_cases hlt2:j<p.terms.length
    ·obtain ⟨b',off',rfl,hb'⟩:=hl'.base hbw3 hB (by omega)
     obtain ⟨x,vs,hx,hlen,hcell,hr⟩:=hl'.at0 hbw3 hB hlt2
     obtain ⟨Ax,cx,rfl,_⟩:=RTm.cells hr
     have c0:wr.cell? ⟨b',off'+j*4,none⟩=some (.int .i64 x.kind):=hcell 0 _ rfl
     have c1:wr.cell? ⟨b',off'+j*4+1,none⟩=some (.int .i64 x.n):=hcell 1 _ rfl
     have c2:wr.cell? ⟨b',off'+j*4+2,none⟩=some (.string x.s):=hcell 2 _ rfl
     have c3:wr.cell? ⟨b',off'+j*4+3,none⟩=some (.slice Ax x.l.length cx):=hcell 3 _ rfl
     have HX2:=zu (rm hx)
     have HT2:=zu (lV p.terms (j+1))
     have HO:=zu hown3
     have HG:=zu (fun g (hg:u3.ownBlock=some g)=>((HO.out.lt g hg).1:w.heap.size≤g))
     have HL:Hid ((az (ps.take k)).length+(cw (p.terms.take j)).length≤1000000):=by
      have h1:=HT.out
      rw [HX.out,zA] at h1
      have h2:=lV p.terms j
      exact (by omega:(az (ps.take k)).length+(cw (p.terms.take j)).length≤1000000)
     have hszr:=hbw3.size
     clear hcell hlen hx hr hown3
     by_cases hk1:(x.kind==1)=true
     ·have HK:=zu hk1
      go_wp2_with (at_builtin;refine wpList_append_own _ rfl (.tmp 24) (.tmp 27) 112 rfl w.heap.size 9 i0 (.string ⟨#[]⟩) 1 16 Tryz.underlying112 hi hz0 hz1 hz2 rfl (by decide) _ _ _ rfl (World.ownsRow.alloc (World.ownsRow.alloc HO.out _) _) ⟨wr.heap.size+1,0,none⟩ 1 1 [.string x.s] rfl rfl ?c1 ?c2 ?c3 ?c4 ?c5 ?_)
      case c1=>
       intro i u hi
       match i,hi with
       | 0,hi=>
         simp only [zI,zE] at hi
         subst hi
         simp [Addr.add]
      case c2=>intro u hu;simp at hu;subst hu;rfl
      case c3=>have:=HL.out;unfold maxLen;rw [zA];omega
      case c4=>have:=HL.out;rw [zA];omega
      case c5=>simp;omega
      intro v' w' hown' hgrow _
      have hnew:jD w' w.heap.size v' (az (ps.take k)++cw (p.terms.take (j+1))):=by
       have:=HK.out
       rw [beq_iff_eq] at this
       rw [HX2.out,if_pos this]
       unfold jD
       simpa [oN,Nat.add_assoc] using hown'
      have hbelow:Below w.heap.size w w':=by
       refine Below.grown (w:=(wr.alloc _).alloc _) ((hbw3.alloc hszr _).alloc (by simp;omega) _) hgrow (by simp;omega) ?_
       intro g hg
       exact HG.out g hg
      clear hown' hgrow
      go_wp2
      go_roundw
      case rel=>exact ⟨j+1,by omega,by go_num,hnew,hbelow⟩
      case measure=>simp [intOf];omega
     ·have hk1:(x.kind==1)=false:=by simpa using hk1
      have HK:=zu hk1
      have hnew:jD (wr.alloc (.cells #[.int .i64 x.kind,.int .i64 x.n,.string x.s,.slice Ax x.l.length cx] 29)) w.heap.size u3 (az (ps.take k)++cw (p.terms.take (j+1))):=by
       have:=HK.out
       rw [beq_eq_false_iff_ne] at this
       rw [HX2.out,if_neg this,List.append_nil]
       exact World.ownsRow.alloc HO.out _
      have HN:=zu hnew
      have HBel:=zu (fun o:Obj=>hbw3.alloc hszr o)
      clear hnew
      go_wp2_with fail
      go_roundw
      case rel=>exact ⟨j+1,by omega,by go_num,HN.out,HBel.out _⟩
      case measure=>simp [intOf];omega
    ·go_wp2_with fail
     go_roundw
     case rel=>exact ⟨k+1,by omega,by go_num,by
      rw [HX.out]
      rw [List.take_of_length_le (l:=p.terms) (by omega)] at hown3
      exact hown3,hbw3⟩
     case measure=>simp [intOf];omega
  ·have hown':jD wr w.heap.size u3 (az ps):=by rwa [List.take_of_length_le (by omega)] at hown
   have HO:=zu hown'
   clear hown hown'
   go_wp2_with fail
   refine (pK _ w.heap.size _ _ HO.out hbw.size (by omega)).mono ?_
   rintro e w1 ⟨rfl,hs1,hb1⟩
   have HS:=zu hs1
   have HB1:=zu (hbw.trans hb1)
   clear hs1 hb1
   go_wp2_with fail
   refine (jG _ w.heap.size _ _ HS.out (by rw [cH];omega)).mono ?_
   rintro e w2 ⟨v',rfl,hs2,hb2⟩
   have HS2:=zu hs2
   have HB2:=zu (HB1.out.trans hb2)
   clear hs2 hb2
   go_wp2_with fail
   go_ret
   exact ⟨_,rfl,HS2.out,HB2.out⟩
def iI (names others:List aY):Bool:=names.all (fun s=>decide (s∈others))
theorem oY (L:List aY) (A:Option Addr) (c B G:Nat) (w:World) (hl:RL cV w B (L.map mkS) A) (hB:B≤w.heap.size) (hn:L.length≤1000000) (hs:L.Pairwise (· < ·))
 (hG:w.cell? ⟨G,0,none⟩=some (.slice A L.length c)) :
 bW Tryz.prog cV zk B w 116 #[.pointer (some ⟨G,0,none⟩)] (fun s=>!decide (bs s∈L)):=by
 intro s vs w1 hb hr
 obtain ⟨rfl,hsz⟩:=hr
 have hGl:G<w.heap.size:=block_lt_of_cell hG
 have hG1:w1.cell? ⟨G,0,none⟩=some (.slice A L.length c):=(hb.cell (p:=⟨G,0,none⟩) hGl).trans hG
 have hGl1:G<w1.heap.size:=by have:=hb.size;omega
 have HL:=zu (hl.keep hb hB)
 have hB1:B≤w1.heap.size:=by have:=hb.size;omega
 clear hl hG
 show Calls Tryz.prog 116 #[.string s,.pointer (some ⟨G,0,none⟩)] w1 _
 go_enter Tryz.func116,Tryz.ntmps116
 go_wp2_with (go_at_call 117;refine (gZ L A c B s _ HL.out hB1 hn hs).mono ?_;rintro e w' ⟨rfl,rfl⟩)
 go_ret
 exact ⟨rfl,zy _ _⟩
theorem oZ (M L:List aY) (A' A:Option Addr) (c' c B:Nat) (w:World) (hm:RL cV w B (M.map mkS) A') (hl:RL cV w B (L.map mkS) A) (hB:B≤w.heap.size) (hn':M.length≤1000000) (hn:L.length≤1000000) (hs:L.Pairwise (· < ·)) :
 Calls Tryz.prog 89 #[.slice A' M.length c',.slice A L.length c] w fun e w'=>e=.returned (.bool (iI M L))∧Below w.heap.size w w':=by
 have HB:=zu (fun o:Obj=>(zy w.heap.size w).alloc (zw _) o)
 have HM:=zu hm
 have HL:=zu hl
 clear hm hl
 go_enter Tryz.func89,Tryz.ntmps89
 go_wp2_with fail
 have h:=fB 116 #[.pointer (some ⟨w.heap.size,0,none⟩)] (fun s=>!decide (bs s∈L)) (M.map mkS) A' c' B (w.alloc (.cells #[.slice A L.length c] 112)) (ent Tryz.func116 (by kernel_rfl) rfl)
  (HM.out.keep (HB.out _) hB) (zv hB (HB.out _).size) (by simp;omega) (oY L A c B w.heap.size _ (HL.out.keep (HB.out _) hB) (zv hB (HB.out _).size) hn hs (by go_simp))
 rw [zB] at h
 refine h.mono ?_
 clear h
 rintro e w1 ⟨rfl,hb1⟩
 have hfin:=zu ((HB.out _).trans (hb1.mono (HB.out _).size))
 clear hb1
 go_wp2_with fail
 go_ret
 exact ⟨ac (by simp [iI,List.all_eq_not_any_not,List.any_map,Function.comp_def,jE]),hfin.out⟩
def jH (t:Tm):Bool:=decide (t.kind=0)&&decide (t.n=0)&&decide (t.s=ByteArray.empty)&&decide (t.l=[])
def dI (o:OpD):Bool:=decide (o.kind=4)||decide (o.kind=5)
def aG (o:OpD):Int:=if o.kind=1 then 0 else if o.kind=3 then 2 else 1
def dK (o:OpD):Bool:=
 if o.kind=1 then decide (o.code=0)&&decide (o.skip=0)&&fy o.term
 else jH o.term &&
  (if o.kind=2 then decide (o.skip=0)&&decide (1≤o.code)&&decide (o.code≤3)
   else if o.kind=3 then decide (o.skip=0)&&decide (1≤o.code)&&decide (o.code≤19)
   else dI o&&decide (o.code=0)&&decide (1≤o.skip))
theorem uI {d B:Nat} {t:Tm} {vs:List Value} {w:World} (ht:RTm w B d t vs) :
 Calls Tryz.prog 183 #[.agg vs.toArray] w fun e w'=>e=.returned (.bool (jH t))∧Below w.heap.size w w':=by
 obtain ⟨A,c,rfl,hc1,hc2,hs,_,_,hl⟩:=ht.cells
 obtain ⟨kind,n,s,l⟩:=t
 dsimp only at hc1 hc2 hs hl
 have HB:=zu (fun o:Obj=>(zy w.heap.size w).alloc (zw _) o)
 clear ht hl
 go_enter Tryz.func183,Tryz.ntmps183
 go_wp2_with fail
 all_goals go_ret
 all_goals refine ⟨ac ?_,HB.out _⟩
 all_goals
  try simp only [dC,be,beq_eq_false_iff_ne] at *
  rw [Bool.eq_iff_iff]
  simp [jH,be, *]
theorem OpR.cells {d B:Nat} {o:OpD} {vs:List Value} {w:World} (h:(OpR d).rd w B o vs) :
 ∃A c,vs=[.int .i64 o.kind,.int .i64 o.term.kind,.int .i64 o.term.n,.string o.term.s,.slice A o.term.l.length c,.int .i64 o.code,.int .i64 o.skip]∧I64 o.kind∧I64 o.code∧I64 o.skip ∧
  RTm w B d o.term [.int .i64 o.term.kind,.int .i64 o.term.n,.string o.term.s,.slice A o.term.l.length c]:=by
 obtain ⟨ts,rfl,h1,h2,h3,h⟩:=h
 have h':=h
 obtain ⟨A,c,rfl,_⟩:=RTm.cells h'
 exact ⟨A,c,rfl,h1,h2,h3,h⟩
theorem rM {d B:Nat} {o:OpD} {vs:List Value} {w:World} (ho:(OpR d).rd w B o vs) :
 Calls Tryz.prog 165 #[.agg vs.toArray] w fun e w'=>e=.returned (.bool (dI o))∧Below w.heap.size w w':=by
 obtain ⟨A,c,rfl,_⟩:=OpR.cells ho
 have HB:=zu (fun o:Obj=>(zy w.heap.size w).alloc (zw _) o)
 clear ho
 go_enter Tryz.func165,Tryz.ntmps165
 go_wp2_with fail
 all_goals go_ret
 all_goals refine ⟨ac ?_,HB.out _⟩
 all_goals
  rw [Bool.eq_iff_iff]
  simp [dI, *]
theorem pm {d B:Nat} {o:OpD} {vs:List Value} {w:World} (ho:(OpR d).rd w B o vs) :
 Calls Tryz.prog 164 #[.agg vs.toArray] w fun e w'=>e=.returned (.int .i64 (aG o))∧Below w.heap.size w w':=by
 obtain ⟨A,c,rfl,_⟩:=OpR.cells ho
 have HB:=zu (fun o:Obj=>(zy w.heap.size w).alloc (zw _) o)
 clear ho
 go_enter Tryz.func164,Tryz.ntmps164
 go_wp2_with fail
 all_goals go_ret
 all_goals refine ⟨au ?_,HB.out _⟩
 all_goals
  simp only [beq_iff_eq,beq_eq_false_iff_ne] at *
  simp [aG, *]
theorem ua {d B:Nat} {o:OpD} {vs:List Value} {w:World} (ho:(OpR d).rd w B o vs) (hB:B≤w.heap.size) :
 Calls Tryz.prog 163 #[.agg vs.toArray] w fun e w'=>e=.returned (.bool (dK o))∧Below w.heap.size w w':=by
 have ho0:=ho
 obtain ⟨A,c,rfl,_,_,_,ht⟩:=OpR.cells ho
 have HB:=zu (fun o:Obj=>(zy w.heap.size w).alloc (zw _) o)
 have HT:=zu ht
 have HO:=zu ho0
 clear ho ho0 ht
 have hcases:(o.kind==1)=true∨((o.kind==1)=false∧jH o.term=false)∨((o.kind==1)=false∧jH o.term=true∧(o.kind==2)=true)∨((o.kind==1)=false∧jH o.term=true∧(o.kind==2)=false∧(o.kind==3)=true)∨((o.kind==1)=false∧jH o.term=true∧(o.kind==2)=false∧(o.kind==3)=false):=by
  cases (o.kind==1)<;>cases jH o.term<;>cases (o.kind==2)<;>cases (o.kind==3)<;>simp
 rcases hcases with h1 | ⟨h1,h2⟩ | ⟨h1,h2,h3⟩ | ⟨h1,h2,h3,h4⟩ | ⟨h1,h2,h3,h4⟩
 all_goals
  go_enter Tryz.func163,Tryz.ntmps163
  go_wp2_with (first
   | (go_at_call 68;refine (vG (vs:=[_,_,_,_]) (RTm.below (HB.out _) hB HT.out) (zv hB (HB.out _).size)).mono ?_;rintro e w1 ⟨rfl,hb1⟩;have HB1:=zu hb1;clear hb1)
   | (go_at_call 183;refine (uI (vs:=[_,_,_,_]) (RTm.below (HB.out _) hB HT.out)).mono ?_;rintro e w1 ⟨rfl,hb1⟩;have hc1:=kF hb1;have hz1:w.heap.size<w1.heap.size:=(by have:=hb1.size;simp at this;omega);have HB1:=zu hb1;clear hb1)
   | (go_at_call 165;refine (rM (d:=d) (B:=B) (vs:=[_,_,_,_,_,_,_]) ((OpR d).keep ((HB.out _).trans (HB1.out.mono (HB.out _).size)) hB HO.out)).mono ?_;rintro e w2 ⟨rfl,hb2⟩;have hc2:=kF hb2;have hz2:w.heap.size<w2.heap.size:=(by have:=hb2.size;omega);have HB2:=zu hb2;clear hb2))
  all_goals go_ret
  all_goals first
   | refine ⟨ac ?_,HB.out _⟩
   | refine ⟨ac ?_,(HB.out _).trans (HB1.out.mono (HB.out _).size)⟩
   | refine ⟨ac ?_,((HB.out _).trans (HB1.out.mono (HB.out _).size)).trans (HB2.out.mono (by have:=(HB.out (.cells #[.int .i64 o.kind,.int .i64 o.term.kind,.int .i64 o.term.n,.string o.term.s,.slice A o.term.l.length c,.int .i64 o.code,.int .i64 o.skip] 104)).size;have:=HB1.out.size;omega))⟩
  all_goals
   clear HO HT HB
   try clear HB1
   try clear hc1
   try simp only [beq_iff_eq,beq_eq_false_iff_ne] at *
   rw [Bool.eq_iff_iff]
   simp [dK, *]
   try omega
def jR:Nat→Int→List OpD→Bool
 | 0,_,_=>false
 | _+1,t,[]=>decide (t=1)
 | n+1,t,o::r=>
   dK o&&decide (aG o≤t) &&
    (if dI o then decide (o.skip≤r.length)&&jR n 0 (r.take o.skip.toNat)&&jR n (t+(1-aG o)) (r.drop o.skip.toNat)
     else jR n (t+(1-aG o)) r)
theorem gp:∀(n m:Nat) (t:Int) (l:List OpD),l.length<n→l.length<m→jR n t l=jR m t l
 | 0,_,_,_,h,_=>absurd h (by omega)
 | _,0,_,_,_,h=>absurd h (by omega)
 | n+1,m+1,t,[],_,_=>rfl
 | n+1,m+1,t,o::r,h,k=>by
   simp only [zJ] at h k
   have e1:=gp n m 0 (r.take o.skip.toNat) (by rw [zK];omega) (by rw [zK];omega)
   have e2:=gp n m (t+(1-aG o)) (r.drop o.skip.toNat) (by rw [List.length_drop];omega) (by rw [List.length_drop];omega)
   have e3:=gp n m (t+(1-aG o)) r (by omega) (by omega)
   simp only [jR,e1,e2,e3]
def bv (t:Int) (l:List OpD):Bool:=jR (l.length+1) t l
theorem jz (t:Int):bv t []=decide (t=1):=rfl
theorem eq (t:Int) (o:OpD) (r:List OpD):bv t (o::r)=(dK o&&decide (aG o≤t) &&
 (if dI o then decide (o.skip≤r.length)&&bv 0 (r.take o.skip.toNat)&&bv (t+(1-aG o)) (r.drop o.skip.toNat)
  else bv (t+(1-aG o)) r)):=by
 unfold bv
 rw [zJ,jR]
 rw [gp (r.length+1) ((r.take o.skip.toNat).length+1) 0 (r.take o.skip.toNat) (by rw [zK];omega) (by omega)]
 rw [gp (r.length+1) ((r.drop o.skip.toNat).length+1) _ (r.drop o.skip.toNat) (by rw [List.length_drop];omega) (by omega)]
theorem qO (o:OpD):aG o=0∨aG o=1∨aG o=2:=by
 unfold aG;split
 ·simp
 ·split<;>simp
theorem RL.cut {α:Type} {R:Reader α} {w:World} {B:Nat} {xs:List α} {b off:Nat} (h:RL R w B xs (some ⟨b,off,none⟩)) (i n:Nat) (hin:i+n≤xs.length):RL R w B ((xs.drop i).take n) (some ⟨b,off+i*R.k,none⟩):=by
 intro h0
 have hlen:((xs.drop i).take n).length=n:=by simp;omega
 rw [hlen] at h0 ⊢
 obtain ⟨b',off',e,hb,hc⟩:=h (by omega)
 simp only [zE,Addr.mk.injEq,and_true] at e
 obtain ⟨rfl,rfl⟩:=e
 refine ⟨b,off+i*R.k,rfl,hb,fun j hj=>?_⟩
 obtain ⟨vs,hl,⟨x,hx,hr⟩,hv⟩:=hc (i+j) (by omega)
 refine ⟨vs,hl,⟨x,?_,hr⟩,fun m v hm=>?_⟩
 ·rw [List.getElem?_take,if_pos hj,List.getElem?_drop];exact hx
 ·have:=hv m v hm
  rw [Nat.add_mul] at this
  rw [show off+i*R.k+j*R.k+m=off+(i*R.k+j*R.k)+m by omega]
  exact this
theorem wN (d N:Nat):∀(l:List OpD) (A:Option Addr) (c B:Nat) (w:World),l.length≤N→RL (OpR d) w B l A→B≤w.heap.size→l.length≤c→(l.length*56≤140737488351232∧c≤9223372036854775807) →
 Calls Tryz.prog 143 #[.slice A l.length c] w fun e w'=>e=.returned (.bool (bv 0 l))∧Below w.heap.size w w':=by
 induction N with
 | zero=>
   intro l A c B w hN hl hB hc hn
   obtain rfl:l=[]:=List.eq_nil_of_length_eq_zero (by omega)
   show Calls _ _ #[.slice A 0 c] _ _
   go_enter Tryz.func143,Tryz.ntmps143
   go_wp2_with fail
   go_loopw [3,4] (fun t i wr=>i=.int .i64 0∧t=.int .i64 0∧wr=w) (fun _ _ _=>0)
   case atStart=>exact ⟨rfl,rfl,rfl⟩
   case round=>
    obtain ⟨rfl,rfl,rfl⟩:=hrel
    go_wp2_with fail
    go_ret
    exact ⟨rfl,zy _ _⟩
 | succ N ih=>
   intro l A c B w hN hl hB hc hn
   have HI:=zu ih
   clear ih
   go_enter Tryz.func143,Tryz.ntmps143
   go_wp2_with fail
   go_loopw [3,4] (fun t i wr=>∃(k:Nat) (n:Int),k≤l.length∧i=.int .i64 k∧t=.int .i64 n∧0≤n∧n≤k∧Below w.heap.size w wr∧bv 0 l=bv n (l.drop k)) (fun _ i _=>l.length-(intOf i).toNat)
   case atStart=>exact ⟨0,0,zx _,rfl,rfl,by omega,by omega,zy _ _,rfl⟩
   case round=>
    obtain ⟨k,n,hk,rfl,rfl,hn0,hnk,hbw,heq⟩:=hrel
    have HE:=zu heq
    clear heq
    by_cases hlt:k<l.length
    ·obtain ⟨b,off,rfl,hb⟩:=hl.base hbw hB (by omega)
     obtain ⟨o,vs,hx,hlen,hcell,hr⟩:=hl.at_ hbw hB hlt
     have hr0:=hr
     obtain ⟨Ao,co,rfl,hk1,hk2,hk3,_⟩:=OpR.cells hr
     have c0:wr.cell? ⟨b,off+k*7,none⟩=some (.int .i64 o.kind):=hcell 0 _ rfl
     have c1:wr.cell? ⟨b,off+k*7+1,none⟩=some (.int .i64 o.term.kind):=hcell 1 _ rfl
     have c2:wr.cell? ⟨b,off+k*7+2,none⟩=some (.int .i64 o.term.n):=hcell 2 _ rfl
     have c3:wr.cell? ⟨b,off+k*7+3,none⟩=some (.string o.term.s):=hcell 3 _ rfl
     have c4:wr.cell? ⟨b,off+k*7+4,none⟩=some (.slice Ao o.term.l.length co):=hcell 4 _ rfl
     have c5:wr.cell? ⟨b,off+k*7+5,none⟩=some (.int .i64 o.code):=hcell 5 _ rfl
     have c6:wr.cell? ⟨b,off+k*7+6,none⟩=some (.int .i64 o.skip):=hcell 6 _ rfl
     have hdrop:l.drop k=o::l.drop (k+1):=by
      obtain ⟨h1,h2⟩:=List.getElem?_eq_some_iff.1 hx
      rw [←h2];exact List.drop_eq_getElem_cons h1
     have HE2:Hid (bv 0 l=(dK o&&decide (aG o≤n) &&
      (if dI o then decide (o.skip≤(l.drop (k+1)).length)&&bv 0 ((l.drop (k+1)).take o.skip.toNat)&&bv (n+(1-aG o)) ((l.drop (k+1)).drop o.skip.toNat)
       else bv (n+(1-aG o)) (l.drop (k+1))))):=by
      rw [←eq,←hdrop];exact HE.out
     have HR:=zu hr0
     have HBo:=zu (fun o:Obj=>hbw.alloc hbw.size o)
     have HBr:=zu (fun o:Obj=>(zy wr.heap.size wr).alloc (zw _) o)
     have hszr:=hbw.size
     have hneeds:=qO o
     clear hcell hlen hx hr hr0 hdrop HE
     go_wp2_with fail
     refine (ua (d:=d) (B:=B) (o:=o) (vs:=[_,_,_,_,_,_,_]) ((OpR d).keep (HBr.out _) (by omega) HR.out) (by simp;omega)).mono ?_
     rintro e w1 ⟨rfl,hb1⟩
     have hc1:=kF hb1
     have hz1:wr.heap.size<w1.heap.size:=(by have:=hb1.size;simp at this;omega)
     have HB1:=zu ((HBr.out _).trans (hb1.mono (HBr.out _).size))
     clear hb1
     by_cases ha:dK o=true
     ·go_wp2_with fail
      refine (pm (d:=d) (B:=B) (o:=o) (vs:=[_,_,_,_,_,_,_]) ((OpR d).keep HB1.out (by omega) HR.out)).mono ?_
      rintro e w2 ⟨rfl,hb2⟩
      have hc2:=kF hb2
      have hz2:wr.heap.size<w2.heap.size:=(by have:=hb2.size;omega)
      have HB2:=zu (HB1.out.trans (hb2.mono HB1.out.size))
      clear hb2
      by_cases hnd:n<aG o
      ·go_wp2_with fail
       go_ret
       exact ⟨ac (by rw [HE2.out,show decide (aG o≤n)=false by simpa using hnd];simp),hbw.trans (HB2.out.mono hszr)⟩
      ·have hnd':decide (n<aG o)=false:=by simpa using hnd
       have hle:aG o≤n:=by omega
       go_wp2_with fail
       refine (pm (d:=d) (B:=B) (o:=o) (vs:=[_,_,_,_,_,_,_]) ((OpR d).keep HB2.out (by omega) HR.out)).mono ?_
       rintro e w3 ⟨rfl,hb3⟩
       have hc3:=kF hb3
       have hz3:wr.heap.size<w3.heap.size:=(by have:=hb3.size;omega)
       have HB3:=zu (HB2.out.trans (hb3.mono HB2.out.size))
       clear hb3
       go_wp2_with fail
       refine (rM (d:=d) (B:=B) (o:=o) (vs:=[_,_,_,_,_,_,_]) ((OpR d).keep HB3.out (by omega) HR.out)).mono ?_
       rintro e w4 ⟨rfl,hb4⟩
       have hc4:=kF hb4
       have hz4:wr.heap.size<w4.heap.size:=(by have:=hb4.size;omega)
       have HB4:=zu (HB3.out.trans (hb4.mono HB3.out.size))
       clear hb4
       by_cases hlz:dI o=true
       ·have HE3:Hid (bv 0 l=(decide (o.skip≤(l.drop (k+1)).length)&&bv 0 ((l.drop (k+1)).take o.skip.toNat)&&bv (n+(1-aG o)) ((l.drop (k+1)).drop o.skip.toNat))):=by
         have:=HE2.out
         rw [ha,hlz,if_pos rfl,show decide (aG o≤n)=true by simpa using hle,Bool.true_and,Bool.true_and] at this
         exact this
        have hsk1:1≤o.skip:=by
         have h1:=ha
         unfold dK dI at h1
         have h2:=hlz
         unfold dI at h2
         simp only [Bool.or_eq_true,zH] at h2
         rw [if_neg (by omega),if_neg (by omega),if_neg (by omega)] at h1
         simp only [zC,zH] at h1
         omega
        clear HE2
        by_cases hsk:o.skip≤(l.length:Int)-k-1
        ·have hsk':decide ((l.length:Int)-k-1<o.skip)=false:=by simpa using hsk
         have hL:((l.drop (k+1)).take o.skip.toNat).length=o.skip.toNat:=by rw [zK,List.length_drop];omega
         have HL:=zu hL
         have hcut:=hl.cut (k+1) o.skip.toNat (by omega)
         have HC:=zu hcut
         clear hL hcut
         go_wp2_with fail
         rw [show ((k:Int)+1+o.skip).toNat-(k+1)=((l.drop (k+1)).take o.skip.toNat).length from by rw [HL.out];omega]
         refine (HI.out ((l.drop (k+1)).take o.skip.toNat) _ (c-(k+1)) B w4 (by rw [HL.out];omega) (HC.out.keep (hbw.trans (HB4.out.mono hszr)) hB) (by omega) (by rw [HL.out];omega) (by rw [HL.out];omega)).mono ?_
         rintro e w5 ⟨rfl,hb5⟩
         have hc5:=kF hb5
         have hz5:wr.heap.size<w5.heap.size:=(by have:=hb5.size;omega)
         have HB5:=zu (HB4.out.trans (hb5.mono HB4.out.size))
         clear hb5
         by_cases hw:bv 0 ((l.drop (k+1)).take o.skip.toNat)=true
         ·go_wp2_with fail
          go_roundw
          case rel=>exact ⟨k+1+o.skip.toNat,n+(1-aG o),by omega,by go_num,rfl,by omega,by omega,hbw.trans (HB5.out.mono hszr),by
           rw [HE3.out,hw,List.drop_drop,show decide (o.skip≤((l.drop (k+1)).length:Int))=true by rw [List.length_drop];simp;omega]
           rfl⟩
          case measure=>simp [intOf];omega
         ·have hw':bv 0 ((l.drop (k+1)).take o.skip.toNat)=false:=by simpa using hw
          go_wp2_with fail
          go_ret
          exact ⟨ac (by rw [HE3.out,hw'];simp),hbw.trans (HB5.out.mono hszr)⟩
        ·have hsk':decide ((l.length:Int)-k-1<o.skip)=true:=by simp;omega
         go_wp2_with fail
         go_ret
         exact ⟨ac (by rw [HE3.out,show decide (o.skip≤((l.drop (k+1)).length:Int))=false by rw [List.length_drop];simp;omega];rfl),hbw.trans (HB4.out.mono hszr)⟩
       ·have hlz':dI o=false:=by simpa using hlz
        go_wp2_with fail
        go_roundw
        case rel=>exact ⟨k+1,n+(1-aG o),by omega,by go_num,rfl,by omega,by omega,hbw.trans (HB4.out.mono hszr),by
         rw [HE2.out,ha,hlz',show decide (aG o≤n)=true by simpa using hle]
         simp⟩
        case measure=>simp [intOf];omega
     ·have ha':dK o=false:=by simpa using ha
      go_wp2_with fail
      go_ret
      exact ⟨ac (by rw [HE2.out,ha'];rfl),hbw.trans (HB1.out.mono hszr)⟩
    ·go_wp2_with fail
     go_ret
     have hz:l.drop k=[]:=List.drop_eq_nil_iff.2 (by omega)
     exact ⟨ac (by rw [HE.out,hz,jz,Bool.eq_iff_iff];simp),hbw⟩
def cK (p q:List UInt8 × Int):Int:=if dg p.1 q.1=0 then cU p.2 q.2 else dg p.1 q.1
theorem oz:Ord3 cK:=Ord3.andThen (kg.by fun p:List UInt8 × Int=>p.1) (gB.by fun p:List UInt8 × Int=>p.2)
def kOf (f:Fc):List UInt8 × Int:=(bs f.pr.name,(f.pr.terms.length:Int))
theorem iu (f:Fc) (name:ByteArray) (n:Int):dE f name n=cK (kOf f) (bs name,n):=by unfold dE cK kOf;rw [orL2]
theorem uA {a b:Fc} (h:aD a b<0):cK (kOf a) (kOf b)≤0:=by
 unfold aD at h
 unfold cK kOf
 simp only [orL] at h ⊢
 split
 ·rename_i h1
  rw [if_pos h1] at h
  split at h
  ·rename_i h2;omega
  ·omega
 ·rename_i h1
  rw [if_neg h1] at h
  omega
def bV (fs:List Fc) (name:ByteArray) (n:Int):List Fc:=fs.filter (fun f=>decide (dE f name n=0))
def csA (fs:List Fc) (name:ByteArray) (n:Int) (i:Nat):Int:=match fs[i]? with | some x=>dE x name n | none=>0
section
variable {fs:List Fc} {name:ByteArray} {n:Int} {i j:Nat}
theorem iv (h:i<fs.length):csA fs name n i=dE fs[i] name n:=by unfold csA;rw [zD h]
theorem yT (hs:bB fs) (hij:i≤j) (hj:j<fs.length):cK (kOf (fs[i]'(by omega))) (kOf fs[j])≤0:=by
 rcases Nat.lt_or_eq_of_le hij with h1 | rfl
 ·exact uA (List.pairwise_iff_getElem.1 hs i j (by omega) hj h1)
 ·rw [oz.self];exact Int.le_refl _
theorem rA (hs:bB fs) (hij:i≤j) (hj:j<fs.length) (h:csA fs name n j<0):csA fs name n i<0:=by
 rw [iv hj,iu] at h
 rw [iv (by omega),iu]
 exact oz.le_lt (yT hs hij hj) h
theorem csA_up (hs:bB fs) (hij:i≤j) (hj:j<fs.length) (h:0<csA fs name n i):0<csA fs name n j:=by
 rw [iv (by omega),iu] at h
 rw [iv hj,iu]
 have h1:=oz.anti (kOf (fs[i]'(by omega))) (bs name,n)
 have h2:=oz.anti (kOf fs[j]) (bs name,n)
 have h3:=oz.lt_le (x:=(bs name,n)) (by omega) (yT hs hij hj)
 omega
theorem pj {p q:Nat} (hs:bB fs) (hp:p=pw fs.length (csA fs name n)) (hpq:p≤q) (hq:q≤fs.length) (h1:∀i,p≤i→i<q→csA fs name n i=0) (h2:q<fs.length→csA fs name n q≠0):(fs.drop p).take (q-p)=bV fs name n:=by
 have e:fs=fs.take p++((fs.drop p).take (q-p)++fs.drop q):=by
  have h3:fs.drop q=(fs.drop p).drop (q-p):=by rw [List.drop_drop];congr 1;omega
  rw [h3,List.take_append_drop,List.take_append_drop]
 have f1:(fs.take p).filter (fun f=>decide (dE f name n=0))=[]:=by
  rw [List.filter_eq_nil_iff]
  intro a ha
  obtain ⟨i,hi,rfl⟩:=List.getElem_of_mem ha
  rw [zK] at hi
  rw [List.getElem_take]
  have:=lB (n:=fs.length) (cs:=csA fs name n) (k:=i) (by omega)
  rw [iv (by omega)] at this
  simp only [zH];omega
 have f2:((fs.drop p).take (q-p)).filter (fun f=>decide (dE f name n=0))=(fs.drop p).take (q-p):=by
  rw [List.filter_eq_self]
  intro a ha
  obtain ⟨i,hi,rfl⟩:=List.getElem_of_mem ha
  rw [zK,List.length_drop] at hi
  rw [List.getElem_take,List.getElem_drop]
  have:=h1 (p+i) (by omega) (by omega)
  rw [iv (by omega)] at this
  simpa using this
 have f3:(fs.drop q).filter (fun f=>decide (dE f name n=0))=[]:=by
  rw [List.filter_eq_nil_iff]
  intro a ha
  obtain ⟨i,hi,rfl⟩:=List.getElem_of_mem ha
  rw [List.length_drop] at hi
  rw [List.getElem_drop]
  have h3:=h2 (by omega)
  have h4:¬csA fs name n q<0:=by
   intro h5
   have h6:=rA hs hpq (show q<fs.length by omega) h5
   have h7:¬csA fs name n p<0:=by rw [hp];exact vQ (by omega)
   exact h7 h6
  have h5:=csA_up hs (Nat.le_add_right q i) (show q+i<fs.length by omega) (by omega:0<csA fs name n q)
  rw [iv (by omega)] at h5
  simp only [zH];omega
 unfold bV
 conv=>rhs;rw [e]
 rw [List.filter_append,List.filter_append,f1,f2,f3,List.nil_append,List.append_nil]
end
theorem FRow.lower {base b0 d c:Nat} {w:World} {xs:List FV} {A:Option Addr} (h:FRow base d w xs A c) (hb:b0≤base):FRow b0 d w xs A c:=
 ⟨h.own.lower hb,fun x hx=>⟨(h.deep x hx).1,(h.deep x hx).2.less fun k _ hm=>hm.imp (fun h=>by omega) id⟩⟩
theorem am.none_nil {α:Type} {R:Reader α} {e:TypeId} {w:World} {base B n c:Nat} {xs:List α} (h:am R e w base B (.slice none n c) xs):xs=[]∧c=0:=by
 obtain ⟨cells,how,_⟩:=h
 rcases how.2 with ⟨h1,h2⟩ | ⟨g,cap,cur,hv,_⟩
 ·simp only [zG,true_and] at h1
  exact ⟨List.eq_nil_of_length_eq_zero h2,h1.2⟩
 ·cases hv
theorem am.some_row {α:Type} {R:Reader α} {e:TypeId} {w:World} {base B n c:Nat} {a:Addr} {xs:List α} (h:am R e w base B (.slice (some a) n c) xs):∃g,a=⟨g,0,none⟩∧xs.length≤c∧c≤9223372036854775807:=by
 obtain ⟨cells,how,_⟩:=h
 rcases how.2 with ⟨h1,h2⟩ | ⟨g,cap,cur,hv,_,_,k1,k2,_⟩
 ·cases h1
 ·simp only [zG,zE] at hv
  obtain ⟨rfl,_,rfl⟩:=hv
  exact ⟨g,rfl,k1,by unfold maxLen at k2;omega⟩
theorem wy {w:World} (d:Nat):Calls Tryz.prog 40 #[] w fun z w'=>z=.returned (.pointer (some ⟨w.heap.size,0,none⟩))∧StA (w.heap.size+1) d w' w.heap.size [] none 0∧Below w.heap.size w w':=by
 go_enter Tryz.func40,Tryz.ntmps40
 go_wp2_with fail
 generalize hW:World.alloc _ _=w1
 obtain ⟨hb1,hz⟩:=al1 hW
 have HS1:=zu (n11 hW)
 have HB1:=zu hb1
 clear hW hb1
 go_wp2_with fail
 go_ret
 exact ⟨rfl,⟨HS1.out,by omega,by omega,am.nil _ _ _ _ _,by simp,by simp,List.Pairwise.nil⟩,HB1.out⟩
theorem ri {base d S c:Nat} {xs:List FV} {A:Option Addr} {name:ByteArray} {n:Int} {w:World} (hs:StA base d w S xs A c) (hn:xs.length≤100000) :
 Calls Tryz.prog 14 #[.pointer (some ⟨S,0,none⟩),.string name,.int .i64 n] w fun z w'=>(∃ys A' c',ys.map FV.f=bV (xs.map FV.f) name n∧z=.returned (.slice A' ys.length c')∧FRow w.heap.size d w' ys A' c')∧Below w.heap.size w w':=by
 have HS:=zu hs
 clear hs
 go_enter Tryz.func14,Tryz.ntmps14
 go_upto_region 1 with fail
 generalize hW:World.alloc _ _=w1
 obtain ⟨hb,hz⟩:=al1 hW
 have HP1:=zu (n11 hW)
 have HB1:=zu hb
 have hsz1:=hb.size
 have HS1:=zu (HS.out.later hb)
 clear hW hb
 have HRL:=zu (HS1.out.rl (by omega))
 have hlm:(xs.map FV.f).length=xs.length:=zB _
 have HLM:=zu hlm
 have HOK:Hid (∀f∈xs.map FV.f,FcOk f):=zu (fun f hf=>by obtain ⟨y,hy,rfl⟩:=List.mem_map.1 hf;exact HS.out.ok y hy)
 obtain ⟨p,hp⟩:∃p,p=pw (xs.map FV.f).length (csA (xs.map FV.f) name n):=⟨_,rfl⟩
 have HP:=zu hp
 have hpn:p≤xs.length:=by have:=vR (xs.map FV.f).length (csA (xs.map FV.f) name n);rw [hlm] at this;rw [hp,hlm];exact this
 clear hp hlm
 have k_s:=HS1.out.hd.cell
 have l_s:=HS1.out.hd.lt
 go_upto_region 4 with fail
 go_wp2_with (go_at_call 30;rw [←HLM.out];refine (sG (d:=d) (B:=w1.heap.size) (c:=c) (G:=w.heap.size) (fs:=xs.map FV.f) (name:=name) (n:=n) (A:=A) HRL.out HP1.out HOK.out (by rw [HLM.out];omega) (zw _) (csA (xs.map FV.f) name n) (fun i hi=>iv hi) (fun i j hij hj h=>rA HS.out.sort hij hj h)).mono ?_;rintro z w2 ⟨rfl,hb⟩;rw [←HP.out,HLM.out];have HB2:=zu hb;have hsz2:=hb.size;clear k_s l_s hb)
 have hen:=yN
 generalize (decide (p<xs.length)&&decide (csA (xs.map FV.f) name n p=0))=bq
 go_loopw [10] (fun i wr=>∃q:Nat,p≤q∧q≤xs.length∧i=.int .i64 q∧Hid (∀i,p≤i→i<q→csA (xs.map FV.f) name n i=0)∧Hid (Below w2.heap.size w2 wr)) (fun i _=>xs.length-(intOf i).toNat)
 case atStart=>exact ⟨p,zw _,hpn,rfl,zu (fun i h1 h2=>absurd h2 (by omega)),zu (zy _ _)⟩
 case round=>
  obtain ⟨q,hpq,hq,rfl,HZ,HWR⟩:=hrel
  have HBr:=zu (aa (aa HB1.out HB2.out) HWR.out)
  have HSr:=zu (HS.out.later HBr.out)
  have HPr:=zu ((HP1.out.later HB2.out).later HWR.out)
  have hszr:=HWR.out.size
  have k_s:=HSr.out.hd.cell
  have l_s:=HSr.out.hd.lt
  by_cases hlt:q<xs.length
  ·obtain ⟨g,c9,e9,h1,h2,h3,h4,h5,h6,_⟩:=HSr.out.row.sh aU (by omega)
   simp only [zG,true_and] at e9
   obtain ⟨rfl,rfl⟩:=e9
   obtain ⟨x,hx⟩:∃x,x=xs[q]:=⟨_,rfl⟩
   have c0:wr.cell? ⟨g,q*3,none⟩=some (.string x.f.pr.name):=by rw [hx];exact h5 q hlt 0 _ rfl
   have c1:wr.cell? ⟨g,q*3+1,none⟩=some (.slice x.a x.f.pr.terms.length x.c):=by rw [hx];exact h5 q hlt 1 _ rfl
   have c2:wr.cell? ⟨g,q*3+2,none⟩=some (.int .u32 x.f.o):=by rw [hx];exact h5 q hlt 2 _ rfl
   have HXR:Hid ((ax (d+1)).rd wr wr.heap.size x.f x.cs):=zu (by rw [hx];exact (HSr.out.deep _ (List.getElem_mem hlt)).here)
   have HXA:Hid (csA (xs.map FV.f) name n q=dE x.f name n):=zu (by rw [iv (by rw [HLM.out];exact hlt),List.getElem_map,hx])
   have hI1:(q:Int)<(xs.length:Int):=by omega
   have hI0:(0:Int)≤(q:Int):=Int.natCast_nonneg _
   clear h5 h6 hx
   go_wp2_with fail
   refine (ug (d:=d) (B:=wr.heap.size) (f:=x.f) (vf:=[_,_,_]) (name:=name) (n:=n) HXR.out HPr.out (zw _)).mono ?_
   rintro z w5 ⟨rfl,hb⟩
   have HB5:=zu (aa HWR.out hb)
   have hsz5:=hb.size
   clear c0 c1 c2 k_s l_s hb
   by_cases hz:dE x.f name n=0
   ·have hz':(dE x.f name n==0)=true:=by simpa using hz
    have HN:=zu hz
    generalize dE x.f name n=r at *
    clear hz
    go_wp2_with fail
    go_roundw
    case rel=>exact ⟨q+1,by omega,by omega,by go_num,zu (fun i h1 h2=>by
     rcases Nat.lt_or_ge i q with h | h
     ·exact HZ.out i h1 h
     ·obtain rfl:i=q:=by omega
      rw [HXA.out];exact HN.out),HB5⟩
    case measure=>simp [intOf];omega
   ·have hz':(dE x.f name n==0)=false:=by simpa using hz
    have HN:Hid (q<(xs.map FV.f).length→csA (xs.map FV.f) name n q≠0):=zu (fun _=>by rw [HXA.out];exact hz)
    generalize dE x.f name n=r at *
    clear hz HXA
    have HS5:=zu (HS.out.later (aa (aa HB1.out HB2.out) HB5.out))
    have HCUT:=zu (pj HS.out.sort HP.out hpq (by rw [HLM.out];exact hq) HZ.out HN.out)
    have HLN:Hid ((((xs.map FV.f).drop p).take (q-p)).length=q-p):=zu (by rw [zK,List.length_drop,HLM.out];omega)
    have k_s:=HS5.out.hd.cell
    have l_s:=HS5.out.hd.lt
    go_upto_region 8 with fail
    have hI2:(p:Int)≤(q:Int):=by omega
    have hI3:(q:Int)≤(c:Int):=by omega
    have hI4:(0:Int)≤(p:Int):=Int.natCast_nonneg _
    go_wp2_with fail
    have HA:=fN (d:=d) (B:=w5.heap.size) (c:=c-p) (fs:=((xs.map FV.f).drop p).take (q-p)) (A:=some ⟨g,p*3,none⟩) (w:=w5) (by have h:=(HS5.out.rl (by omega)).cut p (q-p) (by rw [HLM.out];omega);rwa [show (0+p*(ax (d+1)).k)=p*3 from by show 0+p*3=_;omega] at h) (fun f hf=>HOK.out f (List.mem_of_mem_drop (List.mem_of_mem_take hf))) (by rw [HLN.out];omega) (zw _)
    rw [HLN.out] at HA
    refine HA.mono ?_
    rintro z w6 ⟨⟨ys,A6,c6,hys,rfl,hrow⟩,hb6⟩
    have HROW:=zu hrow
    have HYS:=zu hys
    have HB6:=zu hb6
    have HYL:Hid (ys.length=q-p):=zu (by rw [←zB FV.f,hys,HLN.out])
    clear hrow hys hb6 HA
    go_wp2_with fail
    go_ret
    exact ⟨⟨ys,A6,c6,by rw [HYS.out,HCUT.out],by rw [HYL.out];rfl,HROW.out.lower (aa (aa (aa HB1.out HB2.out) HB5.out) (zy _ _)).size⟩,aa (aa (aa HB1.out HB2.out) HB5.out) HB6.out⟩
  ·have HN:Hid (q<(xs.map FV.f).length→csA (xs.map FV.f) name n q≠0):=zu (fun h=>by rw [HLM.out] at h;omega)
   rcases A with _ | a
   ·obtain ⟨rfl,rfl⟩:=am.none_nil HSr.out.row
    have hq0:q=0:=by simpa using hq
    have hp0:p=0:=by omega
    subst hq0 hp0
    have HCUT:Hid ([]=bV (([]:List FV).map FV.f) name n):=zu rfl
    clear hpq hq hlt hpn k_s HN HZ HLM hn
    have k_s:∀o:Nat,wr.cell? ⟨S,o,none⟩=(#[.slice none 0 0]:Array Value)[o]?:=HSr.out.hd.cell
    simp only [List.length_nil]
    go_wp2_with fail
    refine (fN (d:=d) (B:=wr.heap.size) (c:=0) (fs:=[]) (A:=none) (w:=wr) (fun h=>absurd h (by simp)) (by simp) (by simp) (zw _)).mono ?_
    rintro z w6 ⟨⟨ys,A6,c6,hys,rfl,hrow⟩,hb6⟩
    have HROW:=zu hrow
    have HYS:=zu hys
    have HB6:=zu hb6
    have HYL:Hid (ys.length=0):=zu (by rw [←zB FV.f,hys];rfl)
    clear hrow hys hb6
    go_wp2_with fail
    go_ret
    exact ⟨⟨ys,A6,c6,by rw [HYS.out,HCUT.out],by rw [HYL.out];rfl,HROW.out.lower HBr.out.size⟩,aa HBr.out HB6.out⟩
   ·obtain ⟨g,rfl,hg3,hg4⟩:=am.some_row HSr.out.row
    have HB5:=HWR
    have hsz5:=hszr
    clear k_s l_s
    generalize wr=w5 at *
    have HS5:=zu (HS.out.later (aa (aa HB1.out HB2.out) HB5.out))
    have HCUT:=zu (pj HS.out.sort HP.out hpq (by rw [HLM.out];exact hq) HZ.out HN.out)
    have HLN:Hid ((((xs.map FV.f).drop p).take (q-p)).length=q-p):=zu (by rw [zK,List.length_drop,HLM.out];omega)
    have k_s:=HS5.out.hd.cell
    have l_s:=HS5.out.hd.lt
    go_upto_region 8 with fail
    have hI2:(p:Int)≤(q:Int):=by omega
    have hI3:(q:Int)≤(c:Int):=by omega
    have hI4:(0:Int)≤(p:Int):=Int.natCast_nonneg _
    go_wp2_with fail
    ·have HA:=fN (d:=d) (B:=w5.heap.size) (c:=0) (fs:=((xs.map FV.f).drop p).take (q-p)) (A:=some ⟨g,0,none⟩) (w:=w5) (fun h=>by rw [HLN.out] at h;omega) (fun f hf=>HOK.out f (List.mem_of_mem_drop (List.mem_of_mem_take hf))) (by rw [HLN.out];omega) (zw _)
     rw [HLN.out] at HA
     refine HA.mono ?_
     rintro z w6 ⟨⟨ys,A6,c6,hys,rfl,hrow⟩,hb6⟩
     have HROW:=zu hrow
     have HYS:=zu hys
     have HB6:=zu hb6
     have HYL:Hid (ys.length=q-p):=zu (by rw [←zB FV.f,hys,HLN.out])
     clear hrow hys hb6 HA
     go_wp2_with fail
     go_ret
     exact ⟨⟨ys,A6,c6,by rw [HYS.out,HCUT.out],by rw [HYL.out];rfl,HROW.out.lower (aa (aa (aa HB1.out HB2.out) HB5.out) (zy _ _)).size⟩,aa (aa (aa HB1.out HB2.out) HB5.out) HB6.out⟩
    ·have HA:=fN (d:=d) (B:=w5.heap.size) (c:=c-p) (fs:=((xs.map FV.f).drop p).take (q-p)) (A:=some ⟨g,p*3,none⟩) (w:=w5) (by have h:=(HS5.out.rl (by omega)).cut p (q-p) (by rw [HLM.out];omega);rwa [show (0+p*(ax (d+1)).k)=p*3 from by show 0+p*3=_;omega] at h) (fun f hf=>HOK.out f (List.mem_of_mem_drop (List.mem_of_mem_take hf))) (by rw [HLN.out];omega) (zw _)
     rw [HLN.out] at HA
     refine HA.mono ?_
     rintro z w6 ⟨⟨ys,A6,c6,hys,rfl,hrow⟩,hb6⟩
     have HROW:=zu hrow
     have HYS:=zu hys
     have HB6:=zu hb6
     have HYL:Hid (ys.length=q-p):=zu (by rw [←zB FV.f,hys,HLN.out])
     clear hrow hys hb6 HA
     go_wp2_with fail
     go_ret
     exact ⟨⟨ys,A6,c6,by rw [HYS.out,HCUT.out],by rw [HYL.out];rfl,HROW.out.lower (aa (aa (aa HB1.out HB2.out) HB5.out) (zy _ _)).size⟩,aa (aa (aa HB1.out HB2.out) HB5.out) HB6.out⟩
end Go.Proofs.YtjpndglegpcdnaaGreat
