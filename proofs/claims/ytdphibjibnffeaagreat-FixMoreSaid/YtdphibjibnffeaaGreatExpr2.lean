/- expr: whole, May. -/
import Derived.Test.YtdphibjibnffeaaGreatBSearch
set_option linter.unusedVariables false
set_option linter.unusedSimpArgs false
set_option maxRecDepth 100000
set_option maxHeartbeats 8000000
namespace Go.Proofs.YtdphibjibnffeaaGreat
open Go.ChangeShapes Go.WideShapes Go.ChangeAt Go.RowKit
def cA (ts:List Tm):List aZ:=(ts.filter (fun t=>decide (t.kind=1))).map (fun t=>bs t.s)
def aA (ps:List Pr):List aZ:=ps.flatMap (fun p=>cA p.terms)
theorem og (ts us:List Tm):cA (ts++us)=cA ts++cA us:=by simp [cA]
theorem ms (ps qs:List Pr):aA (ps++qs)=aA ps++aA qs:=by simp [aA]
theorem lW (ts:List Tm) (j:Nat):(cA (ts.take j)).length≤(cA ts).length:=by
 have e:=og (ts.take j) (ts.drop j)
 rw [List.take_append_drop] at e
 rw [e];simp
theorem pZ (ps:List Pr) (k:Nat):(aA (ps.take k)).length≤(aA ps).length:=by
 have e:=ms (ps.take k) (ps.drop k)
 rw [List.take_append_drop] at e
 rw [e];simp
theorem pY {ps:List Pr} {k:Nat} {p:Pr} (h:ps[k]? = some p):aA (ps.take (k+1))=aA (ps.take k)++cA p.terms:=by
 obtain ⟨h1,h2⟩:=List.getElem?_eq_some_iff.1 h
 rw [List.take_succ_eq_append_getElem h1,h2];simp [aA]
theorem rz {ts:List Tm} {k:Nat} {t:Tm} (h:ts[k]? = some t):cA (ts.take (k+1))=cA (ts.take k)++(if t.kind=1 then [bs t.s] else []):=by
 obtain ⟨h1,h2⟩:=List.getElem?_eq_some_iff.1 h
 rw [List.take_succ_eq_append_getElem h1,h2]
 by_cases hk:t.kind=1<;>simp [cA,hk]
theorem vw:(Tryz.prog.info? 9).map (fun i=>(i.zero,i.size,i.bytes))=some (some (.string ⟨#[]⟩),1,16):=by kernel_rfl
theorem jK.later {w w':World} {base:Nat} {v:Value} {L:List aZ} (h:jK w base v L) (hb:Below w.heap.size w w'):jK w' base v L:=by
 refine ⟨h.1,?_⟩
 rcases h.2 with h2 | ⟨g,cap,cur,hv,hg,hh,r⟩
 ·exact .inl h2
 ·refine .inr ⟨g,cap,cur,hv,hg,?_,r⟩
  have hlt:g<w.heap.size:=by
   rcases Nat.lt_or_ge g w.heap.size with h' | h'
   ·exact h'
   ·rw [Array.getElem?_eq_none h'] at hh;cases hh
  rw [hb.block g hlt];exact hh
theorem jK.reads {w:World} {base:Nat} {v:Value} {L:List aZ} (h:jK w base v L) (hl:∀l∈L,l.length≤140737488351232) (hn:L.length≤1000000):∃A c,v=.slice A L.length c∧L.length≤c∧RL cU w w.heap.size (L.map mkS) A:=by
 rcases h.2 with ⟨h1,h2⟩ | ⟨g,cap,cur,hv,hg,hh,h1,h2,h3,h4⟩
 ·refine ⟨none,0,by rw [h1,h2],by omega,?_⟩
  intro h0
  simp [h2] at h0
 ·refine ⟨_,cap,hv,h1,fun _=>⟨g,0,rfl,?_,fun i hi=>?_⟩⟩
  ·rcases Nat.lt_or_ge g w.heap.size with h' | h'
   ·exact h'
   ·rw [Array.getElem?_eq_none h'] at hh;cases hh
  ·have hi':i<L.length:=by simpa using hi
   refine ⟨[.string (mkS L[i])],rfl,⟨mkS L[i],by simp [hi'],rfl,?_⟩,fun j v hj=>?_⟩
   ·have:=hl L[i] (List.getElem_mem hi')
    show (mkS L[i]).size≤_
    rw [Lib.size_eq]
    simpa [mkS] using this
   ·match j,hj with
    | 0,hj=>
      have hj:Value.string (mkS L[i])=v:=by simpa using hj
      subst hj
      have hc:cur[i]? = some (encStr L[i]):=by
       have:(cur.toList.take (L.length*1))[i]? = (L.map encStr)[i]?:=by rw [h4]
       rw [List.getElem?_take,if_pos (by omega),List.getElem?_map,List.getElem?_eq_getElem hi'] at this
       simpa using this
      show World.cell? w ⟨g,0+i*1+0,none⟩=_
      simp [World.cell?,hh,hc,encStr,mkS]
theorem lF (d:Nat) (ps:List Pr) (A:Option Addr) (c B:Nat) (w:World) (hl:RL (PrR d) w B ps A) (hB:B≤w.heap.size) (hn:ps.length≤140737488351232) (hcount:(aA ps).length≤1000000) :
 Calls Tryz.prog 113 #[.slice A ps.length c] w fun e w'=>∃v,e=.returned v∧jK w' w.heap.size v (ep (aA ps))∧Below w.heap.size w w':=by
 obtain ⟨i0,hi,hz0,hz1,hz2⟩:=info_parts vw
 go_enter Tryz.func113,Tryz.ntmps113
 go_wp2_with fail
 go_loopw [3,10] (fun v i wr=>∃k:Nat,k≤ps.length∧i=.int .i64 k∧jK wr w.heap.size v (aA (ps.take k))∧Below w.heap.size w wr) (fun _ i _=>ps.length-(intOf i).toNat)
 case atStart=>exact ⟨0,zH _,rfl,World.ownsRow_nil _ _ _ _,zI _ _⟩
 case round=>
  obtain ⟨k,hk,rfl,hown,hbw⟩:=hrel
  by_cases hlt:k<ps.length
  ·obtain ⟨b,off,rfl,hb⟩:=hl.base hbw hB (by omega)
   obtain ⟨p,vs,hx,hlen,hcell,hr⟩:=hl.at0 hbw hB hlt
   obtain ⟨_,rfl,hs,A',c',rfl,hc1,hc2,hl'⟩:=hr
   have c0:wr.cell? ⟨b,off+k*2,none⟩=some (.string p.name):=hcell 0 _ rfl
   have c1:wr.cell? ⟨b,off+k*2+1,none⟩=some (.slice A' p.terms.length c'):=hcell 1 _ rfl
   simp only [TmR] at hc2
   have HX:=zE (pY hx)
   have HT:=zE (pZ ps (k+1))
   clear hcell hlen hx
   go_wp2_with fail
   have hbw2:Below w.heap.size w (wr.alloc (.cells #[.string p.name,.slice A' p.terms.length c'] 25)):=hbw.alloc hbw.size _
   have hown2:jK (wr.alloc (.cells #[.string p.name,.slice A' p.terms.length c'] 25)) w.heap.size u3 (aA (ps.take k)):=hown.alloc _
   have hsz2:wr.heap.size<(wr.alloc (.cells #[.string p.name,.slice A' p.terms.length c'] 25)).heap.size:=by simp
   have hsz:=hbw.size
   clear hbw hown c0 c1 hl
   generalize (wr.alloc (.cells #[.string p.name,.slice A' p.terms.length c'] 25))=W at *
   go_loopw [3,17] (fun v i wr2=>∃j:Nat,j≤p.terms.length∧i=.int .i64 j∧jK wr2 w.heap.size v (aA (ps.take k)++cA (p.terms.take j))∧Below w.heap.size w wr2) (fun _ i _=>p.terms.length-(intOf i).toNat)
   case atStart=>exact ⟨0,zH _,rfl,by simpa [cA] using hown2,hbw2⟩
   case round=>
    obtain ⟨j,hj,rfl,hown3,hbw3⟩:=hrel
    by_cases hlt2:j<p.terms.length
    ·obtain ⟨b',off',rfl,hb'⟩:=hl'.base hbw3 hB (by omega)
     obtain ⟨x,vs,hx,hlen,hcell,hr⟩:=hl'.at0 hbw3 hB hlt2
     obtain ⟨Ax,cx,rfl,_⟩:=RTm.cells hr
     have c0:wr.cell? ⟨b',off'+j*4,none⟩=some (.int .i64 x.kind):=hcell 0 _ rfl
     have c1:wr.cell? ⟨b',off'+j*4+1,none⟩=some (.int .i64 x.n):=hcell 1 _ rfl
     have c2:wr.cell? ⟨b',off'+j*4+2,none⟩=some (.string x.s):=hcell 2 _ rfl
     have c3:wr.cell? ⟨b',off'+j*4+3,none⟩=some (.slice Ax x.l.length cx):=hcell 3 _ rfl
     have HX2:=zE (rz hx)
     have HT2:=zE (lW p.terms (j+1))
     have HO:=zE hown3
     have HG:=zE (fun g (hg:u3.ownBlock=some g)=>((HO.out.lt g hg).1:w.heap.size≤g))
     have HL:Hid ((aA (ps.take k)).length+(cA (p.terms.take j)).length≤1000000):=by
      have h1:=HT.out
      rw [HX.out,List.length_append] at h1
      have h2:=lW p.terms j
      exact (by omega:(aA (ps.take k)).length+(cA (p.terms.take j)).length≤1000000)
     have hszr:=hbw3.size
     clear hcell hlen hx hr hown3
     by_cases hk1:(x.kind==1)=true
     ·have HK:=zE hk1
      go_wp2_with (at_builtin;refine wpList_append_own _ rfl (.tmp 24) (.tmp 27) 44 rfl w.heap.size 9 i0 (.string ⟨#[]⟩) 1 16 Tryz.underlying44 hi hz0 hz1 hz2 rfl (by decide) _ _ _ rfl (World.ownsRow.alloc (World.ownsRow.alloc HO.out _) _) ⟨wr.heap.size+1,0,none⟩ 1 1 [.string x.s] rfl rfl ?c1 ?c2 ?c3 ?c4 ?c5 ?_)
      case c1=>
       intro i u hi
       match i,hi with
       | 0,hi=>
         simp only [List.getElem?_cons_zero,Option.some.injEq] at hi
         subst hi
         simp [Addr.add]
      case c2=>intro u hu;simp at hu;subst hu;rfl
      case c3=>have:=HL.out;unfold maxLen;rw [List.length_append];omega
      case c4=>have:=HL.out;rw [List.length_append];omega
      case c5=>simp;omega
      intro v' w' hown' hgrow _
      have hnew:jK w' w.heap.size v' (aA (ps.take k)++cA (p.terms.take (j+1))):=by
       have:=HK.out
       rw [beq_iff_eq] at this
       rw [HX2.out,if_pos this]
       unfold jK
       simpa [oR,Nat.add_assoc] using hown'
      have hbelow:Below w.heap.size w w':=by
       refine Below.grown (w:=(wr.alloc _).alloc _) ((hbw3.alloc hszr _).alloc (by simp;omega) _) hgrow (by simp;omega) ?_
       intro g hg
       exact HG.out g hg
      clear hown' hgrow
      go_wp2
      go_roundw
      case rel=>exact ⟨j+1,by omega,by go_num,hnew,hbelow⟩
      case measure=>simp [intOf];omega
     ·have hk1:(x.kind==1)=false:=by simpa using hk1
      have HK:=zE hk1
      have hnew:jK (wr.alloc (.cells #[.int .i64 x.kind,.int .i64 x.n,.string x.s,.slice Ax x.l.length cx] 79)) w.heap.size u3 (aA (ps.take k)++cA (p.terms.take (j+1))):=by
       have:=HK.out
       rw [beq_eq_false_iff_ne] at this
       rw [HX2.out,if_neg this,List.append_nil]
       exact World.ownsRow.alloc HO.out _
      have HN:=zE hnew
      have HBel:=zE (fun o:Obj=>hbw3.alloc hszr o)
      clear hnew
      go_wp2_with fail
      go_roundw
      case rel=>exact ⟨j+1,by omega,by go_num,HN.out,HBel.out _⟩
      case measure=>simp [intOf];omega
    ·go_wp2_with fail
     go_roundw
     case rel=>exact ⟨k+1,by omega,by go_num,by
      rw [HX.out]
      rw [List.take_of_length_le (l:=p.terms) (by omega)] at hown3
      exact hown3,hbw3⟩
     case measure=>simp [intOf];omega
  ·have hown':jK wr w.heap.size u3 (aA ps):=by rwa [List.take_of_length_le (by omega)] at hown
   have HO:=zE hown'
   clear hown hown'
   go_wp2_with fail
   refine (pR _ w.heap.size _ _ HO.out hbw.size (by omega)).mono ?_
   rintro e w1 ⟨rfl,hs1,hb1⟩
   have HS:=zE hs1
   have HB1:=zE (hbw.trans hb1)
   clear hs1 hb1
   go_wp2_with fail
   refine (jO _ w.heap.size _ _ HS.out (by rw [cH];omega)).mono ?_
   rintro e w2 ⟨v',rfl,hs2,hb2⟩
   have HS2:=zE hs2
   have HB2:=zE (HB1.out.trans hb2)
   clear hs2 hb2
   go_wp2_with fail
   go_ret
   exact ⟨_,rfl,HS2.out,HB2.out⟩
def iM (names others:List aZ):Bool:=names.all (fun s=>decide (s∈others))
theorem pm (L:List aZ) (A:Option Addr) (c B G:Nat) (w:World) (hl:RL cU w B (L.map mkS) A) (hB:B≤w.heap.size) (hn:L.length≤1000000) (hs:L.Pairwise (· < ·))
 (hG:w.cell? ⟨G,0,none⟩=some (.slice A L.length c)) :
 bS Tryz.prog cU zv B w 166 #[.pointer (some ⟨G,0,none⟩)] (fun s=>!decide (bs s∈L)):=by
 intro s vs w1 hb hr
 obtain ⟨rfl,hsz⟩:=hr
 have hGl:G<w.heap.size:=block_lt_of_cell hG
 have hG1:w1.cell? ⟨G,0,none⟩=some (.slice A L.length c):=(hb.cell (p:=⟨G,0,none⟩) hGl).trans hG
 have hGl1:G<w1.heap.size:=by have:=hb.size;omega
 have HL:=zE (hl.keep hb hB)
 have hB1:B≤w1.heap.size:=by have:=hb.size;omega
 clear hl hG
 show Calls Tryz.prog 166 #[.string s,.pointer (some ⟨G,0,none⟩)] w1 _
 go_enter Tryz.func166,Tryz.ntmps166
 go_wp2_with (go_at_call 167;refine (ig L A c B s _ HL.out hB1 hn hs).mono ?_;rintro e w' ⟨rfl,rfl⟩)
 go_ret
 exact ⟨rfl,zI _ _⟩
theorem pn (M L:List aZ) (A' A:Option Addr) (c' c B:Nat) (w:World) (hm:RL cU w B (M.map mkS) A') (hl:RL cU w B (L.map mkS) A) (hB:B≤w.heap.size) (hn':M.length≤1000000) (hn:L.length≤1000000) (hs:L.Pairwise (· < ·)) :
 Calls Tryz.prog 112 #[.slice A' M.length c',.slice A L.length c] w fun e w'=>e=.returned (.bool (iM M L))∧Below w.heap.size w w':=by
 have HB:=zE (fun o:Obj=>(zI w.heap.size w).alloc (zG _) o)
 have HM:=zE hm
 have HL:=zE hl
 clear hm hl
 go_enter Tryz.func112,Tryz.ntmps112
 go_wp2_with fail
 have h:=fA 166 #[.pointer (some ⟨w.heap.size,0,none⟩)] (fun s=>!decide (bs s∈L)) (M.map mkS) A' c' B (w.alloc (.cells #[.slice A L.length c] 44)) (ent Tryz.func166 (by kernel_rfl) rfl)
  (HM.out.keep (HB.out _) hB) (zF hB (HB.out _).size) (by simp;omega) (pm L A c B w.heap.size _ (HL.out.keep (HB.out _) hB) (zF hB (HB.out _).size) hn hs (by go_simp))
 rw [List.length_map] at h
 refine h.mono ?_
 clear h
 rintro e w1 ⟨rfl,hb1⟩
 have hfin:=zE ((HB.out _).trans (hb1.mono (HB.out _).size))
 clear hb1
 go_wp2_with fail
 go_ret
 exact ⟨ae (by simp [iM,List.all_eq_not_any_not,List.any_map,Function.comp_def,jM]),hfin.out⟩
def jQ (t:Tm):Bool:=decide (t.kind=0)&&decide (t.n=0)&&decide (t.s=ByteArray.empty)&&decide (t.l=[])
def dD (o:OpD):Bool:=decide (o.kind=4)||decide (o.kind=5)
def aF (o:OpD):Int:=if o.kind=1 then 0 else if o.kind=3 then 2 else 1
def dF (o:OpD):Bool:=
 if o.kind=1 then decide (o.code=0)&&decide (o.skip=0)&&lx o.term
 else jQ o.term &&
  (if o.kind=2 then decide (o.skip=0)&&decide (1≤o.code)&&decide (o.code≤3)
   else if o.kind=3 then decide (o.skip=0)&&decide (1≤o.code)&&decide (o.code≤19)
   else dD o&&decide (o.code=0)&&decide (1≤o.skip))
theorem uV {d B:Nat} {t:Tm} {vs:List Value} {w:World} (ht:RTm w B d t vs) :
 Calls Tryz.prog 287 #[.agg vs.toArray] w fun e w'=>e=.returned (.bool (jQ t))∧Below w.heap.size w w':=by
 obtain ⟨A,c,rfl,hc1,hc2,hs,_,_,hl⟩:=ht.cells
 obtain ⟨kind,n,s,l⟩:=t
 dsimp only at hc1 hc2 hs hl
 have HB:=zE (fun o:Obj=>(zI w.heap.size w).alloc (zG _) o)
 clear ht hl
 go_enter Tryz.func287,Tryz.ntmps287
 go_wp2_with fail
 all_goals go_ret
 all_goals refine ⟨ae ?_,HB.out _⟩
 all_goals
  try simp only [eB,bX,beq_eq_false_iff_ne] at *
  rw [Bool.eq_iff_iff]
  simp [jQ,bX, *]
theorem OpR.cells {d B:Nat} {o:OpD} {vs:List Value} {w:World} (h:(OpR d).rd w B o vs) :
 ∃A c,vs=[.int .i64 o.kind,.int .i64 o.term.kind,.int .i64 o.term.n,.string o.term.s,.slice A o.term.l.length c,.int .i64 o.code,.int .i64 o.skip]∧I64 o.kind∧I64 o.code∧I64 o.skip ∧
  RTm w B d o.term [.int .i64 o.term.kind,.int .i64 o.term.n,.string o.term.s,.slice A o.term.l.length c]:=by
 obtain ⟨ts,rfl,h1,h2,h3,h⟩:=h
 have h':=h
 obtain ⟨A,c,rfl,_⟩:=RTm.cells h'
 exact ⟨A,c,rfl,h1,h2,h3,h⟩
theorem rX {d B:Nat} {o:OpD} {vs:List Value} {w:World} (ho:(OpR d).rd w B o vs) :
 Calls Tryz.prog 256 #[.agg vs.toArray] w fun e w'=>e=.returned (.bool (dD o))∧Below w.heap.size w w':=by
 obtain ⟨A,c,rfl,_⟩:=OpR.cells ho
 have HB:=zE (fun o:Obj=>(zI w.heap.size w).alloc (zG _) o)
 clear ho
 go_enter Tryz.func256,Tryz.ntmps256
 go_wp2_with fail
 all_goals go_ret
 all_goals refine ⟨ae ?_,HB.out _⟩
 all_goals
  rw [Bool.eq_iff_iff]
  simp [dD, *]
theorem pz {d B:Nat} {o:OpD} {vs:List Value} {w:World} (ho:(OpR d).rd w B o vs) :
 Calls Tryz.prog 255 #[.agg vs.toArray] w fun e w'=>e=.returned (.int .i64 (aF o))∧Below w.heap.size w w':=by
 obtain ⟨A,c,rfl,_⟩:=OpR.cells ho
 have HB:=zE (fun o:Obj=>(zI w.heap.size w).alloc (zG _) o)
 clear ho
 go_enter Tryz.func255,Tryz.ntmps255
 go_wp2_with fail
 all_goals go_ret
 all_goals refine ⟨aC ?_,HB.out _⟩
 all_goals
  simp only [beq_iff_eq,beq_eq_false_iff_ne] at *
  simp [aF, *]
theorem ur {d B:Nat} {o:OpD} {vs:List Value} {w:World} (ho:(OpR d).rd w B o vs) (hB:B≤w.heap.size) :
 Calls Tryz.prog 254 #[.agg vs.toArray] w fun e w'=>e=.returned (.bool (dF o))∧Below w.heap.size w w':=by
 have ho0:=ho
 obtain ⟨A,c,rfl,_,_,_,ht⟩:=OpR.cells ho
 have HB:=zE (fun o:Obj=>(zI w.heap.size w).alloc (zG _) o)
 have HT:=zE ht
 have HO:=zE ho0
 clear ho ho0 ht
 have hcases:(o.kind==1)=true∨((o.kind==1)=false∧jQ o.term=false)∨((o.kind==1)=false∧jQ o.term=true∧(o.kind==2)=true)∨((o.kind==1)=false∧jQ o.term=true∧(o.kind==2)=false∧(o.kind==3)=true)∨((o.kind==1)=false∧jQ o.term=true∧(o.kind==2)=false∧(o.kind==3)=false):=by
  cases (o.kind==1)<;>cases jQ o.term<;>cases (o.kind==2)<;>cases (o.kind==3)<;>simp
 rcases hcases with h1 | ⟨h1,h2⟩ | ⟨h1,h2,h3⟩ | ⟨h1,h2,h3,h4⟩ | ⟨h1,h2,h3,h4⟩
 all_goals
  go_enter Tryz.func254,Tryz.ntmps254
  go_wp2_with (first
   | (go_at_call 124;refine (vU (vs:=[_,_,_,_]) (RTm.below (HB.out _) hB HT.out) (zF hB (HB.out _).size)).mono ?_;rintro e w1 ⟨rfl,hb1⟩;have HB1:=zE hb1;clear hb1)
   | (go_at_call 287;refine (uV (vs:=[_,_,_,_]) (RTm.below (HB.out _) hB HT.out)).mono ?_;rintro e w1 ⟨rfl,hb1⟩;have hc1:=jm hb1;have hz1:w.heap.size<w1.heap.size:=(by have:=hb1.size;simp at this;omega);have HB1:=zE hb1;clear hb1)
   | (go_at_call 256;refine (rX (d:=d) (B:=B) (vs:=[_,_,_,_,_,_,_]) ((OpR d).keep ((HB.out _).trans (HB1.out.mono (HB.out _).size)) hB HO.out)).mono ?_;rintro e w2 ⟨rfl,hb2⟩;have hc2:=jm hb2;have hz2:w.heap.size<w2.heap.size:=(by have:=hb2.size;omega);have HB2:=zE hb2;clear hb2))
  all_goals go_ret
  all_goals first
   | refine ⟨ae ?_,HB.out _⟩
   | refine ⟨ae ?_,(HB.out _).trans (HB1.out.mono (HB.out _).size)⟩
   | refine ⟨ae ?_,((HB.out _).trans (HB1.out.mono (HB.out _).size)).trans (HB2.out.mono (by have:=(HB.out (.cells #[.int .i64 o.kind,.int .i64 o.term.kind,.int .i64 o.term.n,.string o.term.s,.slice A o.term.l.length c,.int .i64 o.code,.int .i64 o.skip] 81)).size;have:=HB1.out.size;omega))⟩
  all_goals
   clear HO HT HB
   try clear HB1
   try clear hc1
   try simp only [beq_iff_eq,beq_eq_false_iff_ne] at *
   rw [Bool.eq_iff_iff]
   simp [dF, *]
   try omega
def kf:Nat→Int→List OpD→Bool
 | 0,_,_=>false
 | _+1,t,[]=>decide (t=1)
 | n+1,t,o::r=>
   dF o&&decide (aF o≤t) &&
    (if dD o then decide (o.skip≤r.length)&&kf n 0 (r.take o.skip.toNat)&&kf n (t+(1-aF o)) (r.drop o.skip.toNat)
     else kf n (t+(1-aF o)) r)
theorem gy:∀(n m:Nat) (t:Int) (l:List OpD),l.length<n→l.length<m→kf n t l=kf m t l
 | 0,_,_,_,h,_=>absurd h (by omega)
 | _,0,_,_,_,h=>absurd h (by omega)
 | n+1,m+1,t,[],_,_=>rfl
 | n+1,m+1,t,o::r,h,k=>by
   simp only [List.length_cons] at h k
   have e1:=gy n m 0 (r.take o.skip.toNat) (by rw [List.length_take];omega) (by rw [List.length_take];omega)
   have e2:=gy n m (t+(1-aF o)) (r.drop o.skip.toNat) (by rw [List.length_drop];omega) (by rw [List.length_drop];omega)
   have e3:=gy n m (t+(1-aF o)) r (by omega) (by omega)
   simp only [kf,e1,e2,e3]
def bu (t:Int) (l:List OpD):Bool:=kf (l.length+1) t l
theorem jG (t:Int):bu t []=decide (t=1):=rfl
theorem ej (t:Int) (o:OpD) (r:List OpD):bu t (o::r)=(dF o&&decide (aF o≤t) &&
 (if dD o then decide (o.skip≤r.length)&&bu 0 (r.take o.skip.toNat)&&bu (t+(1-aF o)) (r.drop o.skip.toNat)
  else bu (t+(1-aF o)) r)):=by
 unfold bu
 rw [List.length_cons,kf]
 rw [gy (r.length+1) ((r.take o.skip.toNat).length+1) 0 (r.take o.skip.toNat) (by rw [List.length_take];omega) (by omega)]
 rw [gy (r.length+1) ((r.drop o.skip.toNat).length+1) _ (r.drop o.skip.toNat) (by rw [List.length_drop];omega) (by omega)]
theorem qX (o:OpD):aF o=0∨aF o=1∨aF o=2:=by
 unfold aF;split
 ·simp
 ·split<;>simp
theorem RL.cut {α:Type} {R:Reader α} {w:World} {B:Nat} {xs:List α} {b off:Nat} (h:RL R w B xs (some ⟨b,off,none⟩)) (i n:Nat) (hin:i+n≤xs.length):RL R w B ((xs.drop i).take n) (some ⟨b,off+i*R.k,none⟩):=by
 intro h0
 have hlen:((xs.drop i).take n).length=n:=by simp;omega
 rw [hlen] at h0 ⊢
 obtain ⟨b',off',e,hb,hc⟩:=h (by omega)
 simp only [Option.some.injEq,Addr.mk.injEq,and_true] at e
 obtain ⟨rfl,rfl⟩:=e
 refine ⟨b,off+i*R.k,rfl,hb,fun j hj=>?_⟩
 obtain ⟨vs,hl,⟨x,hx,hr⟩,hv⟩:=hc (i+j) (by omega)
 refine ⟨vs,hl,⟨x,?_,hr⟩,fun m v hm=>?_⟩
 ·rw [List.getElem?_take,if_pos hj,List.getElem?_drop];exact hx
 ·have:=hv m v hm
  rw [Nat.add_mul] at this
  rw [show off+i*R.k+j*R.k+m=off+(i*R.k+j*R.k)+m by omega]
  exact this
theorem xc (d N:Nat):∀(l:List OpD) (A:Option Addr) (c B:Nat) (w:World),l.length≤N→RL (OpR d) w B l A→B≤w.heap.size→l.length≤c→(l.length*56≤140737488351232∧c≤9223372036854775807) →
 Calls Tryz.prog 218 #[.slice A l.length c] w fun e w'=>e=.returned (.bool (bu 0 l))∧Below w.heap.size w w':=by
 induction N with
 | zero=>
   intro l A c B w hN hl hB hc hn
   obtain rfl:l=[]:=List.eq_nil_of_length_eq_zero (by omega)
   show Calls _ _ #[.slice A 0 c] _ _
   go_enter Tryz.func218,Tryz.ntmps218
   go_wp2_with fail
   go_loopw [3,4] (fun t i wr=>i=.int .i64 0∧t=.int .i64 0∧wr=w) (fun _ _ _=>0)
   case atStart=>exact ⟨rfl,rfl,rfl⟩
   case round=>
    obtain ⟨rfl,rfl,rfl⟩:=hrel
    go_wp2_with fail
    go_ret
    exact ⟨rfl,zI _ _⟩
 | succ N ih=>
   intro l A c B w hN hl hB hc hn
   have HI:=zE ih
   clear ih
   go_enter Tryz.func218,Tryz.ntmps218
   go_wp2_with fail
   go_loopw [3,4] (fun t i wr=>∃(k:Nat) (n:Int),k≤l.length∧i=.int .i64 k∧t=.int .i64 n∧0≤n∧n≤k∧Below w.heap.size w wr∧bu 0 l=bu n (l.drop k)) (fun _ i _=>l.length-(intOf i).toNat)
   case atStart=>exact ⟨0,0,zH _,rfl,rfl,by omega,by omega,zI _ _,rfl⟩
   case round=>
    obtain ⟨k,n,hk,rfl,rfl,hn0,hnk,hbw,heq⟩:=hrel
    have HE:=zE heq
    clear heq
    by_cases hlt:k<l.length
    ·obtain ⟨b,off,rfl,hb⟩:=hl.base hbw hB (by omega)
     obtain ⟨o,vs,hx,hlen,hcell,hr⟩:=hl.at_ hbw hB hlt
     have hr0:=hr
     obtain ⟨Ao,co,rfl,hk1,hk2,hk3,_⟩:=OpR.cells hr
     have c0:wr.cell? ⟨b,off+k*7,none⟩=some (.int .i64 o.kind):=hcell 0 _ rfl
     have c1:wr.cell? ⟨b,off+k*7+1,none⟩=some (.int .i64 o.term.kind):=hcell 1 _ rfl
     have c2:wr.cell? ⟨b,off+k*7+2,none⟩=some (.int .i64 o.term.n):=hcell 2 _ rfl
     have c3:wr.cell? ⟨b,off+k*7+3,none⟩=some (.string o.term.s):=hcell 3 _ rfl
     have c4:wr.cell? ⟨b,off+k*7+4,none⟩=some (.slice Ao o.term.l.length co):=hcell 4 _ rfl
     have c5:wr.cell? ⟨b,off+k*7+5,none⟩=some (.int .i64 o.code):=hcell 5 _ rfl
     have c6:wr.cell? ⟨b,off+k*7+6,none⟩=some (.int .i64 o.skip):=hcell 6 _ rfl
     have hdrop:l.drop k=o::l.drop (k+1):=by
      obtain ⟨h1,h2⟩:=List.getElem?_eq_some_iff.1 hx
      rw [←h2];exact List.drop_eq_getElem_cons h1
     have HE2:Hid (bu 0 l=(dF o&&decide (aF o≤n) &&
      (if dD o then decide (o.skip≤(l.drop (k+1)).length)&&bu 0 ((l.drop (k+1)).take o.skip.toNat)&&bu (n+(1-aF o)) ((l.drop (k+1)).drop o.skip.toNat)
       else bu (n+(1-aF o)) (l.drop (k+1))))):=by
      rw [←ej,←hdrop];exact HE.out
     have HR:=zE hr0
     have HBo:=zE (fun o:Obj=>hbw.alloc hbw.size o)
     have HBr:=zE (fun o:Obj=>(zI wr.heap.size wr).alloc (zG _) o)
     have hszr:=hbw.size
     have hneeds:=qX o
     clear hcell hlen hx hr hr0 hdrop HE
     go_wp2_with fail
     refine (ur (d:=d) (B:=B) (o:=o) (vs:=[_,_,_,_,_,_,_]) ((OpR d).keep (HBr.out _) (by omega) HR.out) (by simp;omega)).mono ?_
     rintro e w1 ⟨rfl,hb1⟩
     have hc1:=jm hb1
     have hz1:wr.heap.size<w1.heap.size:=(by have:=hb1.size;simp at this;omega)
     have HB1:=zE ((HBr.out _).trans (hb1.mono (HBr.out _).size))
     clear hb1
     by_cases ha:dF o=true
     ·go_wp2_with fail
      refine (pz (d:=d) (B:=B) (o:=o) (vs:=[_,_,_,_,_,_,_]) ((OpR d).keep HB1.out (by omega) HR.out)).mono ?_
      rintro e w2 ⟨rfl,hb2⟩
      have hc2:=jm hb2
      have hz2:wr.heap.size<w2.heap.size:=(by have:=hb2.size;omega)
      have HB2:=zE (HB1.out.trans (hb2.mono HB1.out.size))
      clear hb2
      by_cases hnd:n<aF o
      ·go_wp2_with fail
       go_ret
       exact ⟨ae (by rw [HE2.out,show decide (aF o≤n)=false by simpa using hnd];simp),hbw.trans (HB2.out.mono hszr)⟩
      ·have hnd':decide (n<aF o)=false:=by simpa using hnd
       have hle:aF o≤n:=by omega
       go_wp2_with fail
       refine (pz (d:=d) (B:=B) (o:=o) (vs:=[_,_,_,_,_,_,_]) ((OpR d).keep HB2.out (by omega) HR.out)).mono ?_
       rintro e w3 ⟨rfl,hb3⟩
       have hc3:=jm hb3
       have hz3:wr.heap.size<w3.heap.size:=(by have:=hb3.size;omega)
       have HB3:=zE (HB2.out.trans (hb3.mono HB2.out.size))
       clear hb3
       go_wp2_with fail
       refine (rX (d:=d) (B:=B) (o:=o) (vs:=[_,_,_,_,_,_,_]) ((OpR d).keep HB3.out (by omega) HR.out)).mono ?_
       rintro e w4 ⟨rfl,hb4⟩
       have hc4:=jm hb4
       have hz4:wr.heap.size<w4.heap.size:=(by have:=hb4.size;omega)
       have HB4:=zE (HB3.out.trans (hb4.mono HB3.out.size))
       clear hb4
       by_cases hlz:dD o=true
       ·have HE3:Hid (bu 0 l=(decide (o.skip≤(l.drop (k+1)).length)&&bu 0 ((l.drop (k+1)).take o.skip.toNat)&&bu (n+(1-aF o)) ((l.drop (k+1)).drop o.skip.toNat))):=by
         have:=HE2.out
         rw [ha,hlz,if_pos rfl,show decide (aF o≤n)=true by simpa using hle,Bool.true_and,Bool.true_and] at this
         exact this
        have hsk1:1≤o.skip:=by
         have h1:=ha
         unfold dF dD at h1
         have h2:=hlz
         unfold dD at h2
         simp only [Bool.or_eq_true,decide_eq_true_eq] at h2
         rw [if_neg (by omega),if_neg (by omega),if_neg (by omega)] at h1
         simp only [Bool.and_eq_true,decide_eq_true_eq] at h1
         omega
        clear HE2
        by_cases hsk:o.skip≤(l.length:Int)-k-1
        ·have hsk':decide ((l.length:Int)-k-1<o.skip)=false:=by simpa using hsk
         have hL:((l.drop (k+1)).take o.skip.toNat).length=o.skip.toNat:=by rw [List.length_take,List.length_drop];omega
         have HL:=zE hL
         have hcut:=hl.cut (k+1) o.skip.toNat (by omega)
         have HC:=zE hcut
         clear hL hcut
         go_wp2_with fail
         rw [show ((k:Int)+1+o.skip).toNat-(k+1)=((l.drop (k+1)).take o.skip.toNat).length from by rw [HL.out];omega]
         refine (HI.out ((l.drop (k+1)).take o.skip.toNat) _ (c-(k+1)) B w4 (by rw [HL.out];omega) (HC.out.keep (hbw.trans (HB4.out.mono hszr)) hB) (by omega) (by rw [HL.out];omega) (by rw [HL.out];omega)).mono ?_
         rintro e w5 ⟨rfl,hb5⟩
         have hc5:=jm hb5
         have hz5:wr.heap.size<w5.heap.size:=(by have:=hb5.size;omega)
         have HB5:=zE (HB4.out.trans (hb5.mono HB4.out.size))
         clear hb5
         by_cases hw:bu 0 ((l.drop (k+1)).take o.skip.toNat)=true
         ·go_wp2_with fail
          go_roundw
          case rel=>exact ⟨k+1+o.skip.toNat,n+(1-aF o),by omega,by go_num,rfl,by omega,by omega,hbw.trans (HB5.out.mono hszr),by
           rw [HE3.out,hw,List.drop_drop,show decide (o.skip≤((l.drop (k+1)).length:Int))=true by rw [List.length_drop];simp;omega]
           rfl⟩
          case measure=>simp [intOf];omega
         ·have hw':bu 0 ((l.drop (k+1)).take o.skip.toNat)=false:=by simpa using hw
          go_wp2_with fail
          go_ret
          exact ⟨ae (by rw [HE3.out,hw'];simp),hbw.trans (HB5.out.mono hszr)⟩
        ·have hsk':decide ((l.length:Int)-k-1<o.skip)=true:=by simp;omega
         go_wp2_with fail
         go_ret
         exact ⟨ae (by rw [HE3.out,show decide (o.skip≤((l.drop (k+1)).length:Int))=false by rw [List.length_drop];simp;omega];rfl),hbw.trans (HB4.out.mono hszr)⟩
       ·have hlz':dD o=false:=by simpa using hlz
        go_wp2_with fail
        go_roundw
        case rel=>exact ⟨k+1,n+(1-aF o),by omega,by go_num,rfl,by omega,by omega,hbw.trans (HB4.out.mono hszr),by
         rw [HE2.out,ha,hlz',show decide (aF o≤n)=true by simpa using hle]
         simp⟩
        case measure=>simp [intOf];omega
     ·have ha':dF o=false:=by simpa using ha
      go_wp2_with fail
      go_ret
      exact ⟨ae (by rw [HE2.out,ha'];rfl),hbw.trans (HB1.out.mono hszr)⟩
    ·go_wp2_with fail
     go_ret
     have hz:l.drop k=[]:=List.drop_eq_nil_iff.2 (by omega)
     exact ⟨ae (by rw [HE.out,hz,jG,Bool.eq_iff_iff];simp),hbw⟩
end Go.Proofs.YtdphibjibnffeaaGreat
