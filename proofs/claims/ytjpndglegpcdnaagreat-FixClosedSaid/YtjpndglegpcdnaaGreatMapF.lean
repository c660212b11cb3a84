/- A map with int keys that a call makes: its entries known whole; an insertion, a look. -/
import Derived.Test.YtjpndglegpcdnaaGreatBind
import Derived.Test.YtjpndglegpcdnaaGreatEv3
import Derived.Test.YtjpndglegpcdnaaGreatMat2
import Derived.Test.YtjpndglegpcdnaaGreatPush
import Derived.MapKept
import Derived.Below
import Derived.ProofKit
import Derived.WalkKit
set_option linter.unusedVariables false
set_option linter.unusedSimpArgs false
set_option maxRecDepth 100000
set_option maxHeartbeats 8000000
namespace Go.Proofs.YtjpndglegpcdnaaGreat
open Go.ChangeShapes Go.WideShapes Go.ChangeAt Go.RowKit
def uy (b:Bd) (t:Tm) (ts:List Tm):Int × List Tm:=
 if t.kind=1 then
  match cZ b (bs t.s) with
  | none=>(8,ts)
  | some u=>(0,ts++[u])
 else (0,ts++[t])
theorem wG {b:Bd} {n:aZ} {u:Tm} (h:cZ b n=some u):u∈b.terms:=by
 unfold cZ at h
 split at h
 ·exact List.mem_of_getElem? h
 ·cases h
theorem mO.no {d:Nat} {w w':World} {z:Ending} (h:mO d w w' none z):(∃A c,z=.returned (.tuple #[.agg #[.int .i64 0,.int .i64 0,.string ⟨#[]⟩,.slice A 0 c],.bool false]))∧Below w.heap.size w w':=by
 obtain ⟨⟨A,c,e,_⟩,hb⟩:=h
 exact ⟨⟨A,c,e⟩,hb⟩
theorem mO.yes {d:Nat} {w w':World} {u:Tm} {z:Ending} (h:mO d w w' (some u) z):(∃A c,z=.returned (.tuple #[.agg #[.int .i64 u.kind,.int .i64 u.n,.string u.s,.slice A u.l.length c],.bool true])∧TmOwn d w.heap.size w' u A c)∧Below w.heap.size w w':=h
theorem tu {S base D B c cn ct:Nat} {b:Bd} {An At:Option Addr} {w:World} {xs:List SV} {next:Int} {A:Option Addr} {o:OpD} {ovs:List Value} (hok:BdOk b) (hbn:RL cX w B (b.names.map mkS) An) (hbt:RL (TmR (D+1)) w B b.terms At)
 (h:StkE S base D (.slice An b.names.length cn) (.slice At b.terms.length ct) w xs next A c) (ho:(OpR (D+1)).rd w B o ovs) (hol:∀u∈o.term.l,jv u) (ho16:o.term.l.length≤16) (hB:B≤w.heap.size) (hb:base≤w.heap.size) (hn:xs.length≤90000) :
 Calls Tryz.prog 175 #[.pointer (some ⟨S,0,none⟩),.agg ovs.toArray] w fun e w'=>EvE S base D (.slice An b.names.length cn) (.slice At b.terms.length ct) w w' (uy b o.term (xs.map SV.t)).1 (uy b o.term (xs.map SV.t)).2 next e:=by
 obtain ⟨ts,rfl,_,_,_,ht⟩:=ho
 obtain ⟨Ao,co,rfl,_,_,hs,hk,hi,hr⟩:=RTm.cells ht
 have hSlt:=h.hd.blk.lt
 have HS:=AE h
 have HOK:=AE hok
 have HN:=AE hbn
 have HT:=AE hbt
 have HR:=AE (And.intro (jt.rl hr) (And.intro hol (And.intro hk (And.intro hi hs))))
 clear h ht hr hol hok hbn hbt
 go_enter Tryz.func175,Tryz.ntmps175
 by_cases h1:o.term.kind=1
 ·have q1:(o.term.kind==1)=true:=by rw [h1];rfl
  go_upto_region 4 with fail
  generalize hW:World.alloc _ _=w1
  obtain ⟨hb1,hz⟩:=al2 hW
  have b_t:=n22 hW
  have BT:=AE b_t
  have HB1:=AE hb1
  have HS1:=AE (HS.out.later hb1)
  have HN1:=AE (HN.out.keep hb1.drew hB)
  have HT1:=AE (HT.out.keep hb1.drew hB)
  have hB1:B≤w1.drew.heap.size:=AF hB hb1.size
  have k_t:=b_t.cell
  have l_t:=b_t.lt
  have f_t:=b_t.free
  have k_s:=HS1.out.hd.blk.cell
  have l_s:=HS1.out.hd.blk.lt
  clear hW hb1 b_t
  rcases hL:cZ b (bs o.term.s) with _ | u
  ·have HV:Hid (uy b o.term (xs.map SV.t)=(8,xs.map SV.t)):=AE (by unfold uy;rw [if_pos h1,hL])
   have HL:=AE hL
   clear h1 hL
   go_region_with (first
    | (go_at_call 102
       refine (lB (cn:=cn) (ct:=ct) (name:=o.term.s) HOK.out HN1.out HT1.out hB1).mono ?_
       rintro e w2 hE
       rw [HL.out] at hE
       obtain ⟨⟨A2,c2,rfl⟩,hb2⟩:=hE.no
       have b_t2:=BT.out.drew.later hb2
       have k_t2:=b_t2.cell
       have l_t2:=b_t2.lt
       have f_t2:=b_t2.free
       have HF:=AE (Below.trans HB1.out.drew (hb2.mono (show w.heap.size≤w1.drew.heap.size from HB1.out.size)))
       clear hE hb2 b_t2))
   all_goals
    go_wp2_with fail
    go_ret
    rw [HV.out]
    exact ⟨rfl,.of ((cC HF.out (Nat.le_succ _) _ _ _ _).mono hb),fun h=>absurd (show (8:Int)=0 from h) (by decide)⟩
  ·have HV:Hid (uy b o.term (xs.map SV.t)=(0,xs.map SV.t++[u])):=AE (by unfold uy;rw [if_pos h1,hL])
   have HL:=AE hL
   clear h1 hL
   go_region_with (first
    | (go_at_call 102
       refine (lB (cn:=cn) (ct:=ct) (name:=o.term.s) HOK.out HN1.out HT1.out hB1).mono ?_
       rintro e w2 hE
       rw [HL.out] at hE
       obtain ⟨⟨A2,c2,rfl,hown⟩,hb2⟩:=hE.yes
       have b_t2:=BT.out.drew.later hb2
       have k_t2:=b_t2.cell
       have l_t2:=b_t2.lt
       have f_t2:=b_t2.free
       have HF:=AE (And.intro (Below.trans HB1.out.drew (hb2.mono (show w.heap.size≤w1.drew.heap.size from HB1.out.size))) (And.intro hown b_t2))
       clear hE hb2 b_t2 hown))
   all_goals
    have HB3:=AE (cC HF.out.1 (Nat.le_succ _) (.int .i64 u.kind) (.int .i64 u.n) (.string u.s) (.slice A2 u.l.length c2))
    have HO3:=AE (HF.out.2.1.put4 (g:=w.heap.size+1) (show w.heap.size+1<w1.heap.size by omega) (.int .i64 u.kind) (.int .i64 u.n) (.string u.s) (.slice A2 u.l.length c2))
    have BT3:=AE (dA HF.out.2.2 (.int .i64 u.kind) (.int .i64 u.n) (.string u.s) (.slice A2 u.l.length c2))
    generalize ((((w2.setCell ⟨w.heap.size+1,0,none⟩ (.int .i64 u.kind)).setCell ⟨w.heap.size+1,1,none⟩ (.int .i64 u.n)).setCell ⟨w.heap.size+1,2,none⟩ (.string u.s)).setCell ⟨w.heap.size+1,3,none⟩ (.slice A2 u.l.length c2))=w3 at *
    clear k_t2 l_t2 f_t2 k_t l_t f_t
    have k_t:=BT3.out.cell
    have l_t:=BT3.out.lt
    have f_t:=BT3.out.free
    go_wp2_with fail
    obtain ⟨hle,hl16⟩:=aO (HOK.out.fixed u (wG HL.out))
    obtain ⟨Az,cz,hez,_,_,_,_,_,hrz⟩:=RTm.cells HO3.out.rtm
    simp only [List.cons.injEq,AR,and_true,true_and] at hez
    obtain ⟨rfl,rfl⟩:=hez
    refine (bU (jt.rl hrz) (AG _) (by omega)).mono ?_
    rintro e w4 ⟨⟨v,rfl,hv⟩,hb4⟩
    obtain ⟨A4,c4,rfl⟩:=hv.form
    have HO4:Hid (TmOwn D w3.heap.size w4 u A4 c4):=AE ⟨hv.leaves hle,HO3.out.k,HO3.out.n,HO3.out.s,by omega⟩
    have b_t4:=BT3.out.later hb4
    have HB4:=AE (aa HB3.out hb4)
    clear k_t l_t f_t hv hb4 hrz
    have k_t:=b_t4.cell
    have l_t:=b_t4.lt
    have f_t:=b_t4.free
    go_wp2_with fail
    have hlt3:=BT3.out.lt
    have HB5:Hid (Below w.heap.size w (w4.setCell ⟨w.heap.size+1,3,none⟩ (.slice A4 u.l.length c4))):=AE (HB4.out.setCell (p:=⟨w.heap.size+1,3,none⟩) (by show w.heap.size≤w.heap.size+1;omega) _)
    have HO5:=AE (HO4.out.far (g:=w.heap.size+1) (i:=3) (by omega) (.slice A4 u.l.length c4))
    have HS5:=AE (HS.out.later HB5.out)
    generalize (w4.setCell ⟨w.heap.size+1,3,none⟩ (.slice A4 u.l.length c4))=w5 at *
    have hsz5:=HB5.out.size
    refine (gt (x:=⟨u,A4,c4⟩) HS5.out HO5.out.at_ (kF HS.out (fun a ha=>(HO5.out.blk a ha).1) (by omega)) (fun a ha=>⟨by have:=(HO5.out.blk a ha).1;omega,(HO5.out.blk a ha).2⟩) (by omega) (by omega)).mono ?_
    rintro e w6 ⟨rfl,hb6,hps⟩
    have HS6:=AE (And.intro hb6 hps)
    clear hb6 hps k_t l_t f_t b_t4
    go_wp2_with fail
    go_ret
    rw [HV.out]
    exact ⟨rfl,(BelX.of (HB5.out.mono hb)).trans HS6.out.1,fun he=>HS6.out.2.ev rfl rfl⟩
 ·have q1:(o.term.kind==1)=false:=by simpa using h1
  have HV:Hid (uy b o.term (xs.map SV.t)=(0,xs.map SV.t++[o.term])):=AE (by unfold uy;rw [if_neg h1])
  clear h1
  go_wp2_with fail
  generalize hW:World.alloc _ _=w1
  obtain ⟨hb1,hz⟩:=al2 hW
  have b_t:=n22 hW
  have HR1:=AE (HR.out.1.keep hb1 hB)
  have HB1:=AE hb1
  clear hW
  refine (bU HR1.out (AF hB hb1.size) (by omega)).mono ?_
  rintro e w2 ⟨⟨v,rfl,hv⟩,hb2⟩
  obtain ⟨A2,c2,rfl⟩:=hv.form
  have HO:Hid (TmOwn D w1.heap.size w2 o.term A2 c2):=AE ⟨hv.leaves HR.out.2.1,HR.out.2.2.1,HR.out.2.2.2.1,HR.out.2.2.2.2,by omega⟩
  have b_t2:=b_t.later hb2
  have HB2:=AE (aa HB1.out hb2)
  have k_t:=b_t2.cell
  have l_t:=b_t2.lt
  have f_t:=b_t2.free
  clear hv hb2 b_t
  go_wp2_with fail
  have HB3:Hid (Below w.heap.size w (w2.setCell ⟨w.heap.size+1,3,none⟩ (.slice A2 o.term.l.length c2))):=AE (HB2.out.setCell (p:=⟨w.heap.size+1,3,none⟩) (by show w.heap.size≤w.heap.size+1;omega) _)
  have HO3:=AE (HO.out.far (g:=w.heap.size+1) (i:=3) (by omega) (.slice A2 o.term.l.length c2))
  have HS3:=AE (HS.out.later HB3.out)
  generalize (w2.setCell ⟨w.heap.size+1,3,none⟩ (.slice A2 o.term.l.length c2))=w3 at *
  have hsz3:=HB3.out.size
  refine (gt (x:=⟨o.term,A2,c2⟩) HS3.out HO3.out.at_ (kF HS.out (fun a ha=>(HO3.out.blk a ha).1) (by omega)) (fun a ha=>⟨by have:=(HO3.out.blk a ha).1;omega,(HO3.out.blk a ha).2⟩) (by omega) (by omega)).mono ?_
  rintro e w4 ⟨rfl,hb4,hps⟩
  have HS4:=AE (And.intro hb4 hps)
  clear hb4 hps k_t l_t f_t b_t2
  go_wp2_with fail
  go_ret
  rw [HV.out]
  exact ⟨rfl,(BelX.of (HB3.out.mono hb)).trans HS4.out.1,fun he=>HS4.out.2.ev rfl rfl⟩
def aP (e:List OpD):Bool:=decide (e.length≤32)&&bz 0 e
theorem dl {d B:Nat} {e:List OpD} {vs:List Value} {w:World} (he:(ExR d).rd w B e vs) (hB:B≤w.heap.size) :
 Calls Tryz.prog 109 #[.agg vs.toArray] w fun x w'=>x=.returned (.bool (aP e))∧Below w.heap.size w w':=by
 obtain ⟨_,rfl,A,c,rfl,hc1,hc2,hl⟩:=he
 have HB:=AE (fun o:Obj=>(AI w.heap.size w).alloc (AG _) o)
 have HL:=AE hl
 simp only [OpR] at hc2
 clear hl
 by_cases hn:(e.length:Int)≤32
 ·go_enter Tryz.func109,Tryz.ntmps109
  go_wp2_with fail
  refine (xL d e.length e A c B _ (AG _) (HL.out.keep (HB.out _) hB) (AF hB (HB.out _).size) hc1 (by omega)).mono ?_
  rintro x w1 ⟨rfl,hb1⟩
  have hfin:=AE ((HB.out _).trans (hb1.mono (HB.out _).size))
  clear hb1
  go_wp2_with fail
  go_ret
  exact ⟨ac (by rw [aP,show decide (e.length≤32)=true by simp;omega];simp),hfin.out⟩
 ·have hn':decide ((e.length:Int)≤32)=false:=by simpa using hn
  go_enter Tryz.func109,Tryz.ntmps109
  go_wp2_with fail
  go_ret
  exact ⟨ac (by rw [aP,show decide (e.length≤32)=false by simp;omega];simp),HB.out _⟩
def mI (o:OpD):Bool:=decide (o.kind=1)&&decide (o.term.kind=1)
def bY (e:List OpD):List aZ:=(e.filter mI).map (fun o=>bs o.term.s)
def fE (e:List OpD):List aZ:=if aP e then eB (bY e) else []
theorem nQ {e:List OpD} {k:Nat} {o:OpD} (h:e[k]? = some o):bY (e.take (k+1))=bY (e.take k)++(if mI o then [bs o.term.s] else []):=by
 obtain ⟨h1,h2⟩:=List.getElem?_eq_some_iff.1 h
 rw [List.take_succ_eq_append_getElem h1,h2]
 by_cases hk:mI o=true
 ·simp [bY,hk]
 ·simp [bY,(by simpa using hk:mI o=false)]
theorem iu (e:List OpD):(bY e).length≤e.length:=by
 unfold bY;rw [AM];exact List.length_filter_le _ _
theorem nP {d B:Nat} {e:List OpD} {vs:List Value} {w:World} (he:(ExR d).rd w B e vs) (hB:B≤w.heap.size) :
 Calls Tryz.prog 114 #[.agg vs.toArray] w fun x w'=>∃v,x=.returned v∧jW w' w.heap.size v (fE e)∧Below w.heap.size w w':=by
 obtain ⟨i0,hi,hz0,hz1,hz2⟩:=info_parts vX
 have he0:=he
 obtain ⟨_,rfl,A,c,rfl,hc1,hc2,hl⟩:=he
 have HB:=AE (fun o:Obj=>(AI w.heap.size w).alloc (AG _) o)
 have HL:=AE hl
 have HE:=AE he0
 simp only [OpR] at hc2
 clear hl he0
 by_cases hm:aP e=true
 ·have hlen:e.length≤32:=by unfold aP at hm;simp at hm;exact hm.1
  go_enter Tryz.func114,Tryz.ntmps114
  go_wp2_with fail
  refine (dl (d:=d) (B:=B) (e:=e) (vs:=[_]) ((ExR d).keep (HB.out _) hB HE.out) (AF hB (HB.out _).size)).mono ?_
  rintro x w1 ⟨rfl,hb1⟩
  have hq:w1.cell? ⟨w.heap.size,0,none⟩=some (.slice A e.length c):=(hb1.cell (p:=⟨w.heap.size,0,none⟩) (by simp)).trans (by go_simp)
  have HB1:=AE ((HB.out _).trans (hb1.mono (HB.out _).size))
  clear hb1
  go_wp2_with fail
  go_loopw [3,12] (fun v i wr=>∃k:Nat,k≤e.length∧i=.int .i64 k∧jW wr w.heap.size v (bY (e.take k))∧Below w.heap.size w wr) (fun _ i _=>e.length-(intOf i).toNat)
  case atStart=>exact ⟨0,AH _,rfl,World.ownsRow_nil _ _ _ _,HB1.out⟩
  case round=>
   obtain ⟨k,hk,rfl,hown,hbw⟩:=hrel
   by_cases hlt:k<e.length
   ·obtain ⟨b,off,rfl,hb⟩:=HL.out.base hbw hB (by omega)
    obtain ⟨o,vs,hx,hlen',hcell,hr⟩:=HL.out.at_ hbw hB hlt
    obtain ⟨Ao,co,rfl,_⟩:=OpR.cells hr
    have c0:wr.cell? ⟨b,off+k*7,none⟩=some (.int .i64 o.kind):=hcell 0 _ rfl
    have c1:wr.cell? ⟨b,off+k*7+1,none⟩=some (.int .i64 o.term.kind):=hcell 1 _ rfl
    have c2:wr.cell? ⟨b,off+k*7+2,none⟩=some (.int .i64 o.term.n):=hcell 2 _ rfl
    have c3:wr.cell? ⟨b,off+k*7+3,none⟩=some (.string o.term.s):=hcell 3 _ rfl
    have c4:wr.cell? ⟨b,off+k*7+4,none⟩=some (.slice Ao o.term.l.length co):=hcell 4 _ rfl
    have c5:wr.cell? ⟨b,off+k*7+5,none⟩=some (.int .i64 o.code):=hcell 5 _ rfl
    have c6:wr.cell? ⟨b,off+k*7+6,none⟩=some (.int .i64 o.skip):=hcell 6 _ rfl
    have HX:=AE (nQ hx)
    have HT:Hid ((bY (e.take k)).length≤32):=AF (iu _) (by rw [AW];omega)
    have HO:=AE hown
    have HG:=AE (fun g (hg:u3.ownBlock=some g)=>((HO.out.lt g hg).1:w.heap.size≤g))
    have hszr:=hbw.size
    clear hcell hlen' hx hr hown
    have hcases:((o.kind==1)=true∧(o.term.kind==1)=true)∨((o.kind==1)=true∧(o.term.kind==1)=false)∨(o.kind==1)=false:=by
     cases (o.kind==1)<;>cases (o.term.kind==1)<;>simp
    rcases hcases with ⟨h1,h2⟩ | ⟨h1,h2⟩ | h1
    ·have HK:Hid (mI o=true):=by
      show mI o=true
      simp only [beq_iff_eq] at h1 h2
      simp [mI,h1,h2]
     go_wp2_with (at_builtin;refine wpList_append_own _ rfl (.tmp 25) (.tmp 29) 112 rfl w.heap.size 9 i0 (.string ⟨#[]⟩) 1 16 Tryz.underlying112 hi hz0 hz1 hz2 rfl (by decide) _ _ _ rfl (World.ownsRow.alloc (World.ownsRow.alloc HO.out _) _) ⟨wr.heap.size+1,0,none⟩ 1 1 [.string o.term.s] rfl rfl ?c1 ?c2 ?c3 ?c4 ?c5 ?_)
     case c1=>
      intro i u hi
      match i,hi with
      | 0,hi=>
        simp only [AU,AP] at hi
        subst hi
        simp [Addr.add]
     case c2=>intro u hu;simp at hu;subst hu;rfl
     case c3=>have:=HT.out;unfold maxLen;omega
     case c4=>have:=HT.out;omega
     case c5=>simp;omega
     intro v' w' hown' hgrow _
     have hnew:jW w' w.heap.size v' (bY (e.take (k+1))):=by
      rw [HX.out,if_pos HK.out]
      unfold jW
      simpa [pj] using hown'
     have hbelow:Below w.heap.size w w':=by
      refine Below.grown (w:=(wr.alloc _).alloc _) ((hbw.alloc hszr _).alloc (by simp;omega) _) hgrow (by simp;omega) ?_
      intro g hg
      exact HG.out g hg
     clear hown' hgrow
     go_wp2
     go_roundw
     case rel=>exact ⟨k+1,by omega,by go_num,hnew,hbelow⟩
     case measure=>simp [intOf];omega
    all_goals
     have HK:Hid (mI o=false):=by
      show mI o=false
      simp only [beq_iff_eq,beq_eq_false_iff_ne] at *
      simp [mI, *]
     have HN:=AE (fun ob:Obj=>(World.ownsRow.alloc HO.out ob:jW (wr.alloc ob) w.heap.size u3 (bY (e.take k))))
     have HBel:=AE (fun o:Obj=>hbw.alloc hszr o)
     go_wp2_with fail
     go_roundw
     case rel=>exact ⟨k+1,by omega,by go_num,by rw [HX.out,if_neg (by rw [HK.out];simp),List.append_nil];exact HN.out _,HBel.out _⟩
     case measure=>simp [intOf];omega
   ·have hown':jW wr w.heap.size u3 (bY e):=by rwa [List.take_of_length_le (by omega)] at hown
    have HO:=AE hown'
    have hle:=iu e
    clear hown hown'
    go_wp2_with fail
    refine (qg _ w.heap.size _ _ HO.out hbw.size (by omega)).mono ?_
    rintro x w1 ⟨rfl,hs1,hb1⟩
    have HS:=AE hs1
    have HB1:=AE (hbw.trans hb1)
    clear hs1 hb1
    go_wp2_with fail
    refine (jZ _ w.heap.size _ _ HS.out (by rw [cJ];omega)).mono ?_
    rintro x w2 ⟨v',rfl,hs2,hb2⟩
    have HS2:=AE hs2
    have HB2:=AE (HB1.out.trans hb2)
    clear hs2 hb2
    go_wp2_with fail
    go_ret
    exact ⟨_,rfl,by rw [fE,if_pos hm];exact HS2.out,HB2.out⟩
 ·have hm':aP e=false:=by simpa using hm
  go_enter Tryz.func114,Tryz.ntmps114
  go_wp2_with fail
  refine (dl (d:=d) (B:=B) (e:=e) (vs:=[_]) ((ExR d).keep (HB.out _) hB HE.out) (AF hB (HB.out _).size)).mono ?_
  rintro x w1 ⟨rfl,hb1⟩
  have HB1:=AE ((HB.out _).trans (hb1.mono (HB.out _).size))
  clear hb1
  go_wp2_with fail
  go_ret
  exact ⟨_,rfl,by rw [fE,if_neg hm];exact World.ownsRow_nil _ _ _ _,HB1.out⟩
def aS (b:Bd) (o:OpD) (ts:List Tm):Int × List Tm × Bool:=
 if o.kind=1 then ((uy b o.term ts).1,(uy b o.term ts).2,false)
 else if o.kind=2 then
  match ts.getLast? with
  | none=>(0,ts,false)
  | some t=>((unR o.code t).2,ts.dropLast++[(unR o.code t).1],false)
 else if o.kind=3 then
  match ts.dropLast.getLast?,ts.getLast? with
  | some s,some t=>((zH o.code s t).2,ts.dropLast.dropLast++[(zH o.code s t).1],false)
  | _,_=>(0,ts,false)
 else
  match ts.getLast? with
  | none=>(0,ts,false)
  | some t=>if t.kind≠6 then (7,ts,false) else if (decide (t.n=1)==decide (o.kind=5))=true then (0,ts,true) else (0,ts.dropLast,false)
def evG (b:Bd):Nat→List OpD→List Tm→Int × List Tm
 | 0,_,ts=>(0,ts)
 | _+1,[],ts=>(0,ts)
 | n+1,o::r,ts=>if (aS b o ts).1≠0 then ((aS b o ts).1,ts) else evG b n (if (aS b o ts).2.2=true then r.drop o.skip.toNat else r) (aS b o ts).2.1
theorem zK (b:Bd):∀(n m:Nat) (l:List OpD) (ts:List Tm),l.length<n→l.length<m→evG b n l ts=evG b m l ts
 | 0,_,_,_,h,_=>absurd h (by omega)
 | _,0,_,_,_,h=>absurd h (by omega)
 | n+1,m+1,[],ts,_,_=>rfl
 | n+1,m+1,o::r,ts,h,k=>by
   simp only [AV] at h k
   unfold evG
   split
   ·rfl
   ·apply zK
    ·split<;>(try simp only [List.length_drop])<;>omega
    ·split<;>(try simp only [List.length_drop])<;>omega
def evR (b:Bd) (l:List OpD) (ts:List Tm):Int × List Tm:=evG b (l.length+1) l ts
theorem evR_nil (b:Bd) (ts:List Tm):evR b [] ts=(0,ts):=rfl
theorem sg (b:Bd) (o:OpD) (r:List OpD) (ts:List Tm) :
 evR b (o::r) ts=if (aS b o ts).1≠0 then ((aS b o ts).1,ts) else evR b (if (aS b o ts).2.2=true then r.drop o.skip.toNat else r) (aS b o ts).2.1:=by
 unfold evR
 rw [AV,evG]
 split
 ·rfl
 ·apply zK
  ·split<;>(try simp only [List.length_drop])<;>omega
  ·omega
def ir (b:Bd) (l:List OpD):Tm × Int:=if (evR b l []).1≠0 then (noT,(evR b l []).1) else ((evR b l []).2.getLast?.getD noT,0)
theorem tT {o:OpD} (h:dK o=true):aH o=1:=by
 unfold dK at h
 rw [Bool.or_eq_true,AT,AT] at h
 unfold aH
 rw [if_neg (by omega),if_neg (by omega)]
theorem gC:∀(n:Nat) (l r:List OpD) (a s:Int),l.length≤n→0≤s→bz a l=true→bz (s+1) r=true→bz (s+a) (l++r)=true
 | n,[],r,a,s,_,_,h,k=>by
   rw [jS,AT] at h
   subst h
   exact k
 | 0,_::_,_,_,_,h,_,_,_=>absurd h (by simp)
 | n+1,o::l,r,a,s,hn,hs,h,k=>by
   simp only [AV] at hn
   rw [ew,AN,AN] at h
   rw [List.cons_append,ew,AN,AN]
   obtain ⟨⟨h1,h2⟩,h3⟩:=h
   have h2':=of_decide_eq_true h2
   refine ⟨⟨h1,decide_eq_true (by omega)⟩,?_⟩
   by_cases hz:dK o=true
   ·rw [if_pos hz] at h3 ⊢
    rw [AN,AN] at h3 ⊢
    obtain ⟨⟨h4,h5⟩,h6⟩:=h3
    have h4':=of_decide_eq_true h4
    have hle:o.skip.toNat≤l.length:=by omega
    refine ⟨⟨decide_eq_true (by simp;omega),?_⟩,?_⟩
    ·rw [List.take_append_of_le_length hle];exact h5
    ·rw [List.drop_append_of_le_length hle]
     have:=gC n (l.drop o.skip.toNat) r _ s (by simp;omega) hs h6 k
     rw [show s+a+(1-aH o)=s+(a+(1-aH o)) by omega]
     exact this
   ·rw [if_neg hz] at h3 ⊢
    have:=gC n l r _ s (by omega) hs h3 k
    rw [show s+a+(1-aH o)=s+(a+(1-aH o)) by omega]
    exact this
theorem uz {b:Bd} {o:OpD} {r:List OpD} {ts:List Tm} (h:bz ts.length (o::r)=true) (he:(aS b o ts).1=0) :
 bz (aS b o ts).2.1.length (if (aS b o ts).2.2=true then r.drop o.skip.toNat else r)=true:=by
 rw [ew,AN,AN] at h
 obtain ⟨⟨h1,h2⟩,h3⟩:=h
 have h2':=of_decide_eq_true h2
 by_cases k1:o.kind=1
 ·have hz:¬dK o=true:=by simp [dK,k1]
  rw [if_neg hz] at h3
  have hn:aH o=0:=by simp [aH,k1]
  rw [hn] at h3
  unfold aS at he ⊢
  rw [if_pos k1] at he ⊢
  simp only [Bool.false_eq_true,if_false] at he ⊢
  have:((uy b o.term ts).2.length:Int)=ts.length+(1-0):=by
   unfold uy at he ⊢
   split at he
   ·split at he
    ·exact absurd (show (8:Int)=0 from he) (by decide)
    ·rename_i hk _ _ _
     rw [if_pos hk];simp
   ·rename_i hk
    rw [if_neg hk];simp
  rw [this];exact h3
 by_cases k2:o.kind=2
 ·have hz:¬dK o=true:=by simp [dK,k2]
  have hn:aH o=1:=by simp [aH,k2]
  rw [if_neg hz,hn] at h3
  rw [hn] at h2'
  unfold aS at he ⊢
  rw [if_neg k1,if_pos k2] at he ⊢
  rcases List.eq_nil_or_concat ts with rfl | ⟨l,t,rfl⟩
  ·simp at h2'
  ·simp only [List.concat_eq_append,List.getLast?_concat,List.dropLast_concat] at *
   simpa using h3
 by_cases k3:o.kind=3
 ·have hz:¬dK o=true:=by simp [dK,k3]
  have hn:aH o=2:=by simp [aH,k3]
  rw [if_neg hz,hn] at h3
  rw [hn] at h2'
  unfold aS at he ⊢
  rw [if_neg k1,if_neg k2,if_pos k3] at he ⊢
  rcases List.eq_nil_or_concat ts with rfl | ⟨l,t,rfl⟩
  ·simp at h2'
  ·rcases List.eq_nil_or_concat l with rfl | ⟨l,s,rfl⟩
   ·simp at h2'
   ·simp only [List.concat_eq_append,List.getLast?_concat,List.dropLast_concat] at *
    have e:((l++[s]++[t]).length:Int)+(1-2)=(l++[(zH o.code s t).1]).length:=by simp;omega
    rw [e] at h3
    simpa using h3
 ·have hz:dK o=true:=by
   unfold dM at h1
   rw [if_neg k1,if_neg k2,if_neg k3,AN,AN,AN] at h1
   exact h1.2.1.1
  have hn:=tT hz
  rw [if_pos hz,hn,AN,AN] at h3
  rw [hn] at h2'
  unfold aS at he ⊢
  rw [if_neg k1,if_neg k2,if_neg k3] at he ⊢
  rcases List.eq_nil_or_concat ts with rfl | ⟨l,t,rfl⟩
  ·simp at h2'
  ·simp only [List.concat_eq_append,List.getLast?_concat,List.dropLast_concat] at *
   split at he
   ·exact absurd (show (7:Int)=0 from he) (by decide)
   ·rename_i h6
    rw [if_neg h6]
    by_cases hq:(decide (t.n=1)==decide (o.kind=5))=true
    ·rw [if_pos hq]
     simpa using h3.2
    ·rw [if_neg hq]
     have h4:=h3.2
     have e:((l++[t]).length:Int)+(1-1)=l.length+1:=by simp
     rw [e] at h4
     have:=gC r.length (r.take o.skip.toNat) (r.drop o.skip.toNat) 0 l.length (by simp;omega) (by omega) h3.1.2 h4
     rw [List.take_append_drop] at this
     simpa using this
def pM (b:Bd) (o:OpD) (ts:List Tm) (next:Int):Int:=if (aS b o ts).2.2=true then wrap64 (next+o.skip) else next
def jw (S base D:Nat) (bn bt:Value) (b:Bd) (o:OpD) (ts:List Tm) (next:Int) (w:World) (z:Ending) (w':World):Prop:=
 EvE S base D bn bt w w' (aS b o ts).1 (aS b o ts).2.1 (pM b o ts next) z
theorem EvE.as {S base D:Nat} {bn bt:Value} {w w':World} {e e':Int} {ts ts':List Tm} {n n':Int} {z:Ending} (h:EvE S base D bn bt w w' e ts n z) (h1:e=e') (h2:e=0→ts=ts') (h3:e=0→n=n'):EvE S base D bn bt w w' e' ts' n' z:=by
 subst h1
 obtain ⟨k1,k2,k3⟩:=h
 exact ⟨k1,k2,fun he=>by rw [←h2 he,←h3 he];exact k3 he⟩
theorem mQ {o:OpD} (h:dM o=true):o.kind=1∨o.kind=2∨o.kind=3∨o.kind=4∨o.kind=5:=by
 unfold dM at h
 split at h
 ·exact .inl ‹_›
 ·rw [AN] at h
  have h2:=h.2
  split at h2
  ·exact .inr (.inl ‹_›)
  ·split at h2
   ·exact .inr (.inr (.inl ‹_›))
   ·rw [AN,AN] at h2
    have h3:=h2.1.1
    unfold dK at h3
    rw [Bool.or_eq_true,AT,AT] at h3
    omega
theorem ta {o:OpD} (h:dM o=true) (h1:o.kind=1):fD o.term=true:=by
 unfold dM at h
 rw [if_pos h1,AN] at h
 exact h.2
theorem tP {t:Tm} (h:fD t=true):(∀u∈t.l,jv u)∧t.l.length≤16:=by
 unfold fD at h
 split at h
 ·rw [AN] at h
  exact ⟨(dC h.2).2,(dC h.2).1⟩
 ·unfold ef at h
  rw [AN,AT] at h
  have:t.l=[]:=List.eq_nil_of_length_eq_zero h.1
  rw [this]
  exact ⟨fun u hu=>(List.not_mem_nil hu).elim,by simp⟩
section
variable {S base D B c cn ct:Nat} {b:Bd} {An At:Option Addr} {w:World} {xs:List SV} {next:Int} {A:Option Addr} {o:OpD} {ovs:List Value} {r:List OpD}
theorem step1 (hok:BdOk b) (hbn:RL cX w B (b.names.map mkS) An) (hbt:RL (TmR (D+1)) w B b.terms At)
 (h:StkE S base D (.slice An b.names.length cn) (.slice At b.terms.length ct) w xs next A c) (ho:(OpR (D+1)).rd w B o ovs) (hm:dM o=true) (hB:B≤w.heap.size) (hb:base≤w.heap.size) (hn:xs.length≤90000) (hk:o.kind=1) :
 Calls Tryz.prog 175 #[.pointer (some ⟨S,0,none⟩),.agg ovs.toArray] w fun z w'=>jw S base D (.slice An b.names.length cn) (.slice At b.terms.length ct) b o (xs.map SV.t) next w z w':=by
 have hl:=tP (ta hm hk)
 refine (tu hok hbn hbt h ho hl.1 hl.2 hB hb hn).mono fun z w' hz=>?_
 unfold jw pM aS
 rw [if_pos hk]
 exact hz.as rfl (fun _=>rfl) (fun _=>rfl)
theorem eQ {xs:List SV} (h:1≤xs.length):∃ys x,xs=ys++[x]:=by
 rcases List.eq_nil_or_concat xs with rfl | ⟨l,t,rfl⟩
 ·simp at h
 ·exact ⟨l,t,by simp⟩
theorem step2 {bn bt:Value} (h:StkE S base D bn bt w xs next A c) (ho:(OpR (D+1)).rd w B o ovs) (hl:1≤xs.length) (hb:base≤w.heap.size) (hn:xs.length≤90000) (hk:o.kind=2) :
 Calls Tryz.prog 176 #[.pointer (some ⟨S,0,none⟩),.agg ovs.toArray] w fun z w'=>jw S base D bn bt b o (xs.map SV.t) next w z w':=by
 obtain ⟨ys,x,rfl⟩:=eQ hl
 rw [AK] at hn
 refine (tt h ho hb (by omega)).mono fun z w' hz=>?_
 unfold jw pM aS
 rw [if_neg (by omega),if_pos hk]
 simp only [List.map_append,List.map_cons,List.map_nil,List.getLast?_concat,List.dropLast_concat]
 exact hz.as rfl (fun _=>rfl) (fun _=>rfl)
theorem step3 {bn bt:Value} {m:Int} (h:StkE S base D bn bt w xs next A c) (ho:(OpR (D+1)).rd w B o ovs) (hl:2≤xs.length) (hb:base≤w.heap.size) (hS0:0<S) (hn:xs.length≤90000) (hm:w.cell? ⟨0,0,none⟩=some (.int .i64 m)) (h0:0<base) (hk:o.kind=3) :
 Calls Tryz.prog 177 #[.pointer (some ⟨S,0,none⟩),.agg ovs.toArray] w fun z w'=>jw S base D bn bt b o (xs.map SV.t) next w z w':=by
 obtain ⟨zs,x,rfl⟩:=eQ (show 1≤xs.length by omega)
 rw [AK,List.length_singleton] at hl hn
 obtain ⟨ys,y,rfl⟩:=eQ (show 1≤zs.length by omega)
 rw [AK] at hn
 refine (qX h ho hb hS0 (by omega) hm h0).mono fun z w' hz=>?_
 unfold jw pM aS
 rw [if_neg (by omega),if_neg (by omega),if_pos hk]
 simp only [List.map_append,List.map_cons,List.map_nil,List.getLast?_concat,List.dropLast_concat]
 exact hz.as rfl (fun _=>rfl) (fun _=>rfl)
theorem step4 {bn bt:Value} (h:StkE S base D bn bt w xs next A c) (ho:(OpR (D+1)).rd w B o ovs) (hl:1≤xs.length) (hb:base≤w.heap.size) (hn:xs.length≤90000) (hk:o.kind=4∨o.kind=5) :
 Calls Tryz.prog 178 #[.pointer (some ⟨S,0,none⟩),.agg ovs.toArray] w fun z w'=>jw S base D bn bt b o (xs.map SV.t) next w z w':=by
 obtain ⟨ys,x,rfl⟩:=eQ hl
 rw [AK] at hn
 refine (pi h ho hb (by omega)).mono fun z w' hz=>?_
 unfold jw pM aS
 rw [if_neg (by omega),if_neg (by omega),if_neg (by omega)]
 simp only [List.map_append,List.map_cons,List.map_nil,List.getLast?_concat,List.dropLast_concat]
 unfold xQ at hz
 by_cases h6:x.t.kind=6
 ·rw [if_neg (by simp [h6])] at hz ⊢
  by_cases hq:(decide (x.t.n=1)==decide (o.kind=5))=true
  ·rw [if_pos hq] at hz ⊢
   exact hz.as rfl (fun _=>rfl) (fun _=>rfl)
  ·rw [if_neg hq] at hz ⊢
   exact hz.as rfl (fun _=>rfl) (fun _=>rfl)
 ·rw [if_pos h6] at hz ⊢
  exact hz.as rfl (fun he=>absurd (show (7:Int)=0 from he) (by decide)) (fun he=>absurd (show (7:Int)=0 from he) (by decide))
end
theorem gv (b:Bd) (o:OpD) (ts:List Tm):(aS b o ts).2.1.length≤ts.length+1:=by
 unfold aS
 split
 ·unfold uy
  split
  ·split<;>simp
  ·simp
 ·split
  ·split<;>simp
  ·split
   ·split<;>simp<;>omega
   ·split
    ·simp
    ·split
     ·simp
     ·split
      ·simp
      ·simp;omega
theorem xj {ops:List OpD} {b:Bd} {ts:List Tm} {k:Nat} {o:OpD} (ho:ops[k]? = some o) (hwh:bz ts.length (ops.drop k)=true) (hev:evR b ops []=evR b (ops.drop k) ts) (h32:ops.length≤32) :
 dM o=true∧aH o≤ts.length∧((aS b o ts).1≠0→(evR b ops []).1=(aS b o ts).1) ∧
  ((aS b o ts).1=0→∃k':Nat,k<k'∧k'≤ops.length∧pM b o ts ((k:Int)+1)=k'∧bz (aS b o ts).2.1.length (ops.drop k')=true∧evR b ops []=evR b (ops.drop k') (aS b o ts).2.1):=by
 have hk:k<ops.length:=by
  rcases Nat.lt_or_ge k ops.length with h | h
  ·exact h
  ·rw [List.getElem?_eq_none h] at ho;cases ho
 have hd:ops.drop k=o::ops.drop (k+1):=by
  rw [List.drop_eq_getElem_cons hk]
  rw [AO hk] at ho
  simp only [AP] at ho
  rw [ho]
 rw [hd] at hwh hev
 have hc:=hwh
 rw [ew,AN,AN,AT] at hc
 refine ⟨hc.1.1,hc.1.2,fun he=>?_,fun he=>?_⟩
 ·rw [hev,sg,if_pos he]
 ·have hst:=uz hwh he
  rw [sg,if_neg (by simpa using he)] at hev
  by_cases hs:(aS b o ts).2.2=true
  ·rw [if_pos hs] at hst hev
   have hz:dK o=true:=by
    rcases mQ hc.1.1 with h | h | h | h | h
    ·unfold aS at hs;rw [if_pos h] at hs;cases hs
    ·unfold aS at hs;rw [if_neg (by omega),if_pos h] at hs;split at hs<;>cases hs
    ·unfold aS at hs;rw [if_neg (by omega),if_neg (by omega),if_pos h] at hs;split at hs<;>cases hs
    ·simp [dK,h]
    ·simp [dK,h]
   have h3:=hc.2
   rw [if_pos hz,AN,AN,AT] at h3
   have hsk:1≤o.skip:=by
    have h1:=hc.1.1
    unfold dM at h1
    unfold dK at hz
    rw [Bool.or_eq_true,AT,AT] at hz
    rw [if_neg (by omega),if_neg (by omega),if_neg (by omega),AN,AN,AT] at h1
    exact h1.2.2
   have hle:=h3.1.1
   rw [List.length_drop] at hle
   refine ⟨k+1+o.skip.toNat,by omega,by omega,?_,?_,?_⟩
   ·unfold pM
    rw [if_pos hs]
    unfold wrap64
    omega
   ·rw [List.drop_drop] at hst
    exact hst
   ·rw [List.drop_drop] at hev
    exact hev
  ·rw [if_neg hs] at hst hev
   refine ⟨k+1,by omega,by omega,?_,hst,hev⟩
   unfold pM
   rw [if_neg hs];simp
open Go.RowKit
theorem eP {P:Program} {w:World} {t kt et:TypeId} {r n:Nat} {es:Array MapEntry} (ht:P.underlying t=some (.map kt et)) (hk:P.underlying kt=some (.int .i64)) (hb:w.heap[r]? = some (.map es n)) (k:Int) (v:Value)
 (hne:Instr.findNow (.int .i64) (.int .i64 k) es.toList 0=some none) :
 ∃w',(Instr.mapUpdate t (.map (some r)) (.int .i64 k) v).run P w=.ok () w'∧w'.heap[r]? = some (.map (es.push ⟨.int .i64 k,v,n⟩) (n+1))∧(∀b,b≠r→w'.heap[b]? = w.heap[b]?)∧Below r w w':=by
 refine ⟨{ w with heap:=w.heap.setIfInBounds r (.map (es.push ⟨.int .i64 k,v,n⟩) (n+1)) },?_,(Go.MapKept.heap_set hb).1,(Go.MapKept.heap_set hb).2,⟨rfl,rfl,rfl,by simp,fun b hbr=>(Go.MapKept.heap_set hb).2 b (by omega)⟩⟩
 have h1:=Go.MapKept.run_getObj_map (P:=P) hb
 have h2:=Go.MapKept.run_setObj_map (P:=P) (.map (es.push ⟨.int .i64 k,v,n⟩) (n+1)) hb
 have h3:=Go.MapKept.run_checkKey (P:=P) (w:=w) hk (k:=.int .i64 k) (by simp [Go.MapKept.IsKey]) false 9999
 have h4:=Go.MapKept.run_findKey (P:=P) (w:=w) hk hne
 unfold Instr.mapUpdate
 simp only [Sem.run_bind,run_underlying ht,Result.andThen,h1,h3,h4,h2]
theorem eR {P:Program} {w:World} {t kt et:TypeId} {r n i:Nat} {es:Array MapEntry} (ht:P.underlying t=some (.map kt et)) (hk:P.underlying kt=some (.int .i64)) (hb:w.heap[r]? = some (.map es n)) (k:Int) (v:Value)
 (hf:Instr.findNow (.int .i64) (.int .i64 k) es.toList 0=some (some (i,v))) :
 (Instr.lookup t (.map (some r)) (.int .i64 k) false).run P w=.ok v w:=by
 have h1:=Go.MapKept.run_getObj_map (P:=P) hb
 have h3:=fun e=>Go.MapKept.run_checkKey (P:=P) (w:=w) hk (k:=.int .i64 k) (by simp [Go.MapKept.IsKey]) e 9999
 have h4:=Go.MapKept.run_findKey (P:=P) (w:=w) hk hf
 unfold Instr.lookup
 simp only [Sem.run_bind,run_underlying ht,Result.andThen,h1,h3,h4,Sem.run_pure]
 rfl
end Go.Proofs.YtjpndglegpcdnaaGreat
