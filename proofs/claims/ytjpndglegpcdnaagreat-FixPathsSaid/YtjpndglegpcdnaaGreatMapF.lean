/- A map with int keys that a call makes: its entries known whole; an insertion, a look. -/
import Derived.Test.YtjpndglegpcdnaaGreatFc6
import Derived.Test.YtjpndglegpcdnaaGreatEv4
import Derived.Test.YtjpndglegpcdnaaGreatOp5
import Derived.Test.YtjpndglegpcdnaaGreatAn1
import Derived.MapKept
import Derived.Below
import Derived.ProofKit
import Derived.WalkKit
set_option linter.unusedVariables false
set_option linter.unusedSimpArgs false
set_option maxRecDepth 100000
set_option maxHeartbeats 8000000
namespace Go.Proofs.YtjpndglegpcdnaaGreat
open Go.ChangeShapes Go.WideShapes Go.ChangeAt Go.RowKit
def aK (e:List OpD):Bool:=decide (e.length≤32)&&bk 0 e
theorem cY {d B:Nat} {e:List OpD} {vs:List Value} {w:World} (he:(ExR d).rd w B e vs) (hB:B≤w.heap.size) :
 Calls Tryz.prog 109 #[.agg vs.toArray] w fun x w'=>x=.returned (.bool (aK e))∧Below w.heap.size w w':=by
 obtain ⟨_,rfl,A,c,rfl,hc1,hc2,hl⟩:=he
 have HB:=ym (fun o:Obj=>(yq w.heap.size w).alloc (yo _) o)
 have HL:=ym hl
 simp only [OpR] at hc2
 clear hl
 by_cases hn:(e.length:Int)≤32
 ·go_enter Tryz.func109,Tryz.ntmps109
  go_wp2_with fail
  refine (vx d e.length e A c B _ (yo _) (HL.out.keep (HB.out _) hB) (yn hB (HB.out _).size) hc1 (by omega)).mono ?_
  rintro x w1 ⟨rfl,hb1⟩
  have hfin:=ym ((HB.out _).trans (hb1.mono (HB.out _).size))
  clear hb1
  go_wp2_with fail
  go_ret
  exact ⟨ae (by rw [aK,show decide (e.length≤32)=true by simp;omega];simp),hfin.out⟩
 ·have hn':decide ((e.length:Int)≤32)=false:=by simpa using hn
  go_enter Tryz.func109,Tryz.ntmps109
  go_wp2_with fail
  go_ret
  exact ⟨ae (by rw [aK,show decide (e.length≤32)=false by simp;omega];simp),HB.out _⟩
def lU (o:OpD):Bool:=decide (o.kind=1)&&decide (o.term.kind=1)
def bU (e:List OpD):List aW:=(e.filter lU).map (fun o=>bs o.term.s)
def fk (e:List OpD):List aW:=if aK e then ef (bU e) else []
theorem mY {e:List OpD} {k:Nat} {o:OpD} (h:e[k]? = some o):bU (e.take (k+1))=bU (e.take k)++(if lU o then [bs o.term.s] else []):=by
 obtain ⟨h1,h2⟩:=List.getElem?_eq_some_iff.1 h
 rw [List.take_succ_eq_append_getElem h1,h2]
 by_cases hk:lU o=true
 ·simp [bU,hk]
 ·simp [bU,(by simpa using hk:lU o=false)]
theorem gW (e:List OpD):(bU e).length≤e.length:=by
 unfold bU;rw [yw];exact List.length_filter_le _ _
theorem mX {d B:Nat} {e:List OpD} {vs:List Value} {w:World} (he:(ExR d).rd w B e vs) (hB:B≤w.heap.size) :
 Calls Tryz.prog 114 #[.agg vs.toArray] w fun x w'=>∃v,x=.returned v∧jp w' w.heap.size v (fk e)∧Below w.heap.size w w':=by
 obtain ⟨i0,hi,hz0,hz1,hz2⟩:=info_parts tZ
 have he0:=he
 obtain ⟨_,rfl,A,c,rfl,hc1,hc2,hl⟩:=he
 have HB:=ym (fun o:Obj=>(yq w.heap.size w).alloc (yo _) o)
 have HL:=ym hl
 have HE:=ym he0
 simp only [OpR] at hc2
 clear hl he0
 by_cases hm:aK e=true
 ·have hlen:e.length≤32:=by unfold aK at hm;simp at hm;exact hm.1
  go_enter Tryz.func114,Tryz.ntmps114
  go_wp2_with fail
  refine (cY (d:=d) (B:=B) (e:=e) (vs:=[_]) ((ExR d).keep (HB.out _) hB HE.out) (yn hB (HB.out _).size)).mono ?_
  rintro x w1 ⟨rfl,hb1⟩
  have hq:w1.cell? ⟨w.heap.size,0,none⟩=some (.slice A e.length c):=(hb1.cell (p:=⟨w.heap.size,0,none⟩) (by simp)).trans (by go_simp)
  have HB1:=ym ((HB.out _).trans (hb1.mono (HB.out _).size))
  clear hb1
  go_wp2_with fail
  go_loopw [3,12] (fun v i wr=>∃k:Nat,k≤e.length∧i=.int .i64 k∧jp wr w.heap.size v (bU (e.take k))∧Below w.heap.size w wr) (fun _ i _=>e.length-(intOf i).toNat)
  case atStart=>exact ⟨0,yp _,rfl,World.ownsRow_nil _ _ _ _,HB1.out⟩
  case round=>
   obtain ⟨k,hk,rfl,hown,hbw⟩:=hrel
   by_cases hlt:k<e.length
   ·obtain ⟨b,off,rfl,hb⟩:=HL.out.base hbw hB (by omega)
    obtain ⟨o,vs,hx,hlen',hcell,hr⟩:=HL.out.at_ hbw hB hlt
    obtain ⟨Ao,co,rfl,_⟩:=OpR.cells hr
    have c0:wr.cell? ⟨b,off+k*7,none⟩=some (.int .i64 o.kind):=hcell 0 _ rfl
    have c1:wr.cell? ⟨b,off+k*7+1,none⟩=some (.int .i64 o.term.kind):=hcell 1 _ rfl
    have c2:wr.cell? ⟨b,off+k*7+2,none⟩=some (.int .i64 o.term.n):=hcell 2 _ rfl
    have c3:wr.cell? ⟨b,off+k*7+3,none⟩=some (.string o.term.s):=hcell 3 _ rfl
    have c4:wr.cell? ⟨b,off+k*7+4,none⟩=some (.slice Ao o.term.l.length co):=hcell 4 _ rfl
    have c5:wr.cell? ⟨b,off+k*7+5,none⟩=some (.int .i64 o.code):=hcell 5 _ rfl
    have c6:wr.cell? ⟨b,off+k*7+6,none⟩=some (.int .i64 o.skip):=hcell 6 _ rfl
    have HX:=ym (mY hx)
    have HT:Hid ((bU (e.take k)).length≤32):=yn (gW _) (by rw [yF];omega)
    have HO:=ym hown
    have HG:=ym (fun g (hg:u3.ownBlock=some g)=>((HO.out.lt g hg).1:w.heap.size≤g))
    have hszr:=hbw.size
    clear hcell hlen' hx hr hown
    have hcases:((o.kind==1)=true∧(o.term.kind==1)=true)∨((o.kind==1)=true∧(o.term.kind==1)=false)∨(o.kind==1)=false:=by
     cases (o.kind==1)<;>cases (o.term.kind==1)<;>simp
    rcases hcases with ⟨h1,h2⟩ | ⟨h1,h2⟩ | h1
    ·have HK:Hid (lU o=true):=by
      show lU o=true
      simp only [beq_iff_eq] at h1 h2
      simp [lU,h1,h2]
     go_wp2_with (at_builtin;refine wpList_append_own _ rfl (.tmp 25) (.tmp 29) 112 rfl w.heap.size 9 i0 (.string ⟨#[]⟩) 1 16 Tryz.underlying112 hi hz0 hz1 hz2 rfl (by decide) _ _ _ rfl (World.ownsRow.alloc (World.ownsRow.alloc HO.out _) _) ⟨wr.heap.size+1,0,none⟩ 1 1 [.string o.term.s] rfl rfl ?c1 ?c2 ?c3 ?c4 ?c5 ?_)
     case c1=>
      intro i u hi
      match i,hi with
      | 0,hi=>
        simp only [yD,yz] at hi
        subst hi
        simp [Addr.add]
     case c2=>intro u hu;simp at hu;subst hu;rfl
     case c3=>have:=HT.out;unfold maxLen;omega
     case c4=>have:=HT.out;omega
     case c5=>simp;omega
     intro v' w' hown' hgrow _
     have hnew:jp w' w.heap.size v' (bU (e.take (k+1))):=by
      rw [HX.out,if_pos HK.out]
      unfold jp
      simpa [oh] using hown'
     have hbelow:Below w.heap.size w w':=by
      refine Below.grown (w:=(wr.alloc _).alloc _) ((hbw.alloc hszr _).alloc (by simp;omega) _) hgrow (by simp;omega) ?_
      intro g hg
      exact HG.out g hg
     clear hown' hgrow
     go_wp2
     go_roundw
     case rel=>exact ⟨k+1,by omega,by go_num,hnew,hbelow⟩
     case measure=>simp [intOf];omega
    all_goals
     have HK:Hid (lU o=false):=by
      show lU o=false
      simp only [beq_iff_eq,beq_eq_false_iff_ne] at *
      simp [lU, *]
     have HN:=ym (fun ob:Obj=>(World.ownsRow.alloc HO.out ob:jp (wr.alloc ob) w.heap.size u3 (bU (e.take k))))
     have HBel:=ym (fun o:Obj=>hbw.alloc hszr o)
     go_wp2_with fail
     go_roundw
     case rel=>exact ⟨k+1,by omega,by go_num,by rw [HX.out,if_neg (by rw [HK.out];simp),List.append_nil];exact HN.out _,HBel.out _⟩
     case measure=>simp [intOf];omega
   ·have hown':jp wr w.heap.size u3 (bU e):=by rwa [List.take_of_length_le (by omega)] at hown
    have HO:=ym hown'
    have hle:=gW e
    clear hown hown'
    go_wp2_with fail
    refine (pa _ w.heap.size _ _ HO.out hbw.size (by omega)).mono ?_
    rintro x w1 ⟨rfl,hs1,hb1⟩
    have HS:=ym hs1
    have HB1:=ym (hbw.trans hb1)
    clear hs1 hb1
    go_wp2_with fail
    refine (js _ w.heap.size _ _ HS.out (by rw [cG];omega)).mono ?_
    rintro x w2 ⟨v',rfl,hs2,hb2⟩
    have HS2:=ym hs2
    have HB2:=ym (HB1.out.trans hb2)
    clear hs2 hb2
    go_wp2_with fail
    go_ret
    exact ⟨_,rfl,by rw [fk,if_pos hm];exact HS2.out,HB2.out⟩
 ·have hm':aK e=false:=by simpa using hm
  go_enter Tryz.func114,Tryz.ntmps114
  go_wp2_with fail
  refine (cY (d:=d) (B:=B) (e:=e) (vs:=[_]) ((ExR d).keep (HB.out _) hB HE.out) (yn hB (HB.out _).size)).mono ?_
  rintro x w1 ⟨rfl,hb1⟩
  have HB1:=ym ((HB.out _).trans (hb1.mono (HB.out _).size))
  clear hb1
  go_wp2_with fail
  go_ret
  exact ⟨_,rfl,by rw [fk,if_neg hm];exact World.ownsRow_nil _ _ _ _,HB1.out⟩
def aQ (b:Bd) (o:OpD) (ts:List Tm):Int × List Tm × Bool:=
 if o.kind=1 then ((sR b o.term ts).1,(sR b o.term ts).2,false)
 else if o.kind=2 then
  match ts.getLast? with
  | none=>(0,ts,false)
  | some t=>((unR o.code t).2,ts.dropLast++[(unR o.code t).1],false)
 else if o.kind=3 then
  match ts.dropLast.getLast?,ts.getLast? with
  | some s,some t=>((xJ o.code s t).2,ts.dropLast.dropLast++[(xJ o.code s t).1],false)
  | _,_=>(0,ts,false)
 else
  match ts.getLast? with
  | none=>(0,ts,false)
  | some t=>if t.kind≠6 then (7,ts,false) else if (decide (t.n=1)==decide (o.kind=5))=true then (0,ts,true) else (0,ts.dropLast,false)
def evG (b:Bd):Nat→List OpD→List Tm→Int × List Tm
 | 0,_,ts=>(0,ts)
 | _+1,[],ts=>(0,ts)
 | n+1,o::r,ts=>if (aQ b o ts).1≠0 then ((aQ b o ts).1,ts) else evG b n (if (aQ b o ts).2.2=true then r.drop o.skip.toNat else r) (aQ b o ts).2.1
theorem xM (b:Bd):∀(n m:Nat) (l:List OpD) (ts:List Tm),l.length<n→l.length<m→evG b n l ts=evG b m l ts
 | 0,_,_,_,h,_=>absurd h (by omega)
 | _,0,_,_,_,h=>absurd h (by omega)
 | n+1,m+1,[],ts,_,_=>rfl
 | n+1,m+1,o::r,ts,h,k=>by
   simp only [yE] at h k
   unfold evG
   split
   ·rfl
   ·apply xM
    ·split<;>(try simp only [List.length_drop])<;>omega
    ·split<;>(try simp only [List.length_drop])<;>omega
def evR (b:Bd) (l:List OpD) (ts:List Tm):Int × List Tm:=evG b (l.length+1) l ts
theorem evR_nil (b:Bd) (ts:List Tm):evR b [] ts=(0,ts):=rfl
theorem qN (b:Bd) (o:OpD) (r:List OpD) (ts:List Tm) :
 evR b (o::r) ts=if (aQ b o ts).1≠0 then ((aQ b o ts).1,ts) else evR b (if (aQ b o ts).2.2=true then r.drop o.skip.toNat else r) (aQ b o ts).2.1:=by
 unfold evR
 rw [yE,evG]
 split
 ·rfl
 ·apply xM
  ·split<;>(try simp only [List.length_drop])<;>omega
  ·omega
def gV (b:Bd) (l:List OpD):Tm × Int:=if (evR b l []).1≠0 then (noT,(evR b l []).1) else ((evR b l []).2.getLast?.getD noT,0)
theorem su {o:OpD} (h:dy o=true):aD o=1:=by
 unfold dy at h
 rw [Bool.or_eq_true,yC,yC] at h
 unfold aD
 rw [if_neg (by omega),if_neg (by omega)]
theorem fY:∀(n:Nat) (l r:List OpD) (a s:Int),l.length≤n→0≤s→bk a l=true→bk (s+1) r=true→bk (s+a) (l++r)=true
 | n,[],r,a,s,_,_,h,k=>by
   rw [jl,yC] at h
   subst h
   exact k
 | 0,_::_,_,_,_,h,_,_,_=>absurd h (by simp)
 | n+1,o::l,r,a,s,hn,hs,h,k=>by
   simp only [yE] at hn
   rw [eb,yx,yx] at h
   rw [List.cons_append,eb,yx,yx]
   obtain ⟨⟨h1,h2⟩,h3⟩:=h
   have h2':=of_decide_eq_true h2
   refine ⟨⟨h1,decide_eq_true (by omega)⟩,?_⟩
   by_cases hz:dy o=true
   ·rw [if_pos hz] at h3 ⊢
    rw [yx,yx] at h3 ⊢
    obtain ⟨⟨h4,h5⟩,h6⟩:=h3
    have h4':=of_decide_eq_true h4
    have hle:o.skip.toNat≤l.length:=by omega
    refine ⟨⟨decide_eq_true (by simp;omega),?_⟩,?_⟩
    ·rw [List.take_append_of_le_length hle];exact h5
    ·rw [List.drop_append_of_le_length hle]
     have:=fY n (l.drop o.skip.toNat) r _ s (by simp;omega) hs h6 k
     rw [show s+a+(1-aD o)=s+(a+(1-aD o)) by omega]
     exact this
   ·rw [if_neg hz] at h3 ⊢
    have:=fY n l r _ s (by omega) hs h3 k
    rw [show s+a+(1-aD o)=s+(a+(1-aD o)) by omega]
    exact this
theorem sS {b:Bd} {o:OpD} {r:List OpD} {ts:List Tm} (h:bk ts.length (o::r)=true) (he:(aQ b o ts).1=0) :
 bk (aQ b o ts).2.1.length (if (aQ b o ts).2.2=true then r.drop o.skip.toNat else r)=true:=by
 rw [eb,yx,yx] at h
 obtain ⟨⟨h1,h2⟩,h3⟩:=h
 have h2':=of_decide_eq_true h2
 by_cases k1:o.kind=1
 ·have hz:¬dy o=true:=by simp [dy,k1]
  rw [if_neg hz] at h3
  have hn:aD o=0:=by simp [aD,k1]
  rw [hn] at h3
  unfold aQ at he ⊢
  rw [if_pos k1] at he ⊢
  simp only [Bool.false_eq_true,if_false] at he ⊢
  have:((sR b o.term ts).2.length:Int)=ts.length+(1-0):=by
   unfold sR at he ⊢
   split at he
   ·split at he
    ·exact absurd (show (8:Int)=0 from he) (by decide)
    ·rename_i hk _ _ _
     rw [if_pos hk];simp
   ·rename_i hk
    rw [if_neg hk];simp
  rw [this];exact h3
 by_cases k2:o.kind=2
 ·have hz:¬dy o=true:=by simp [dy,k2]
  have hn:aD o=1:=by simp [aD,k2]
  rw [if_neg hz,hn] at h3
  rw [hn] at h2'
  unfold aQ at he ⊢
  rw [if_neg k1,if_pos k2] at he ⊢
  rcases List.eq_nil_or_concat ts with rfl | ⟨l,t,rfl⟩
  ·simp at h2'
  ·simp only [List.concat_eq_append,List.getLast?_concat,List.dropLast_concat] at *
   simpa using h3
 by_cases k3:o.kind=3
 ·have hz:¬dy o=true:=by simp [dy,k3]
  have hn:aD o=2:=by simp [aD,k3]
  rw [if_neg hz,hn] at h3
  rw [hn] at h2'
  unfold aQ at he ⊢
  rw [if_neg k1,if_neg k2,if_pos k3] at he ⊢
  rcases List.eq_nil_or_concat ts with rfl | ⟨l,t,rfl⟩
  ·simp at h2'
  ·rcases List.eq_nil_or_concat l with rfl | ⟨l,s,rfl⟩
   ·simp at h2'
   ·simp only [List.concat_eq_append,List.getLast?_concat,List.dropLast_concat] at *
    have e:((l++[s]++[t]).length:Int)+(1-2)=(l++[(xJ o.code s t).1]).length:=by simp;omega
    rw [e] at h3
    simpa using h3
 ·have hz:dy o=true:=by
   unfold dA at h1
   rw [if_neg k1,if_neg k2,if_neg k3,yx,yx,yx] at h1
   exact h1.2.1.1
  have hn:=su hz
  rw [if_pos hz,hn,yx,yx] at h3
  rw [hn] at h2'
  unfold aQ at he ⊢
  rw [if_neg k1,if_neg k2,if_neg k3] at he ⊢
  rcases List.eq_nil_or_concat ts with rfl | ⟨l,t,rfl⟩
  ·simp at h2'
  ·simp only [List.concat_eq_append,List.getLast?_concat,List.dropLast_concat] at *
   split at he
   ·exact absurd (show (7:Int)=0 from he) (by decide)
   ·rename_i h6
    rw [if_neg h6]
    by_cases hq:(decide (t.n=1)==decide (o.kind=5))=true
    ·rw [if_pos hq]
     simpa using h3.2
    ·rw [if_neg hq]
     have h4:=h3.2
     have e:((l++[t]).length:Int)+(1-1)=l.length+1:=by simp
     rw [e] at h4
     have:=fY r.length (r.take o.skip.toNat) (r.drop o.skip.toNat) 0 l.length (by simp;omega) (by omega) h3.1.2 h4
     rw [List.take_append_drop] at this
     simpa using this
def oM (b:Bd) (o:OpD) (ts:List Tm) (next:Int):Int:=if (aQ b o ts).2.2=true then wrap64 (next+o.skip) else next
def iQ (S base D:Nat) (bn bt:Value) (b:Bd) (o:OpD) (ts:List Tm) (next:Int) (w:World) (z:Ending) (w':World):Prop:=
 EvE S base D bn bt w w' (aQ b o ts).1 (aQ b o ts).2.1 (oM b o ts next) z
theorem EvE.as {S base D:Nat} {bn bt:Value} {w w':World} {e e':Int} {ts ts':List Tm} {n n':Int} {z:Ending} (h:EvE S base D bn bt w w' e ts n z) (h1:e=e') (h2:e=0→ts=ts') (h3:e=0→n=n'):EvE S base D bn bt w w' e' ts' n' z:=by
 subst h1
 obtain ⟨k1,k2,k3⟩:=h
 exact ⟨k1,k2,fun he=>by rw [←h2 he,←h3 he];exact k3 he⟩
theorem mb {o:OpD} (h:dA o=true):o.kind=1∨o.kind=2∨o.kind=3∨o.kind=4∨o.kind=5:=by
 unfold dA at h
 split at h
 ·exact .inl ‹_›
 ·rw [yx] at h
  have h2:=h.2
  split at h2
  ·exact .inr (.inl ‹_›)
  ·split at h2
   ·exact .inr (.inr (.inl ‹_›))
   ·rw [yx,yx] at h2
    have h3:=h2.1.1
    unfold dy at h3
    rw [Bool.or_eq_true,yC,yC] at h3
    omega
theorem rC {o:OpD} (h:dA o=true) (h1:o.kind=1):kc o.term=true:=by
 unfold dA at h
 rw [if_pos h1,yx] at h
 exact h.2
theorem sn {t:Tm} (h:kc t=true):(∀u∈t.l,iP u)∧t.l.length≤16:=by
 unfold kc at h
 split at h
 ·rw [yx] at h
  exact ⟨(dr h.2).2,(dr h.2).1⟩
 ·unfold ew at h
  rw [yx,yC] at h
  have:t.l=[]:=List.eq_nil_of_length_eq_zero h.1
  rw [this]
  exact ⟨fun u hu=>(List.not_mem_nil hu).elim,by simp⟩
section
variable {S base D B c cn ct:Nat} {b:Bd} {An At:Option Addr} {w:World} {xs:List SV} {next:Int} {A:Option Addr} {o:OpD} {ovs:List Value} {r:List OpD}
theorem step1 (hok:BdOk b) (hbn:RL cR w B (b.names.map mkS) An) (hbt:RL (TmR (D+1)) w B b.terms At)
 (h:StkE S base D (.slice An b.names.length cn) (.slice At b.terms.length ct) w xs next A c) (ho:(OpR (D+1)).rd w B o ovs) (hm:dA o=true) (hB:B≤w.heap.size) (hb:base≤w.heap.size) (hn:xs.length≤90000) (hk:o.kind=1) :
 Calls Tryz.prog 175 #[.pointer (some ⟨S,0,none⟩),.agg ovs.toArray] w fun z w'=>iQ S base D (.slice An b.names.length cn) (.slice At b.terms.length ct) b o (xs.map SV.t) next w z w':=by
 have hl:=sn (rC hm hk)
 refine (rS hok hbn hbt h ho hl.1 hl.2 hB hb hn).mono fun z w' hz=>?_
 unfold iQ oM aQ
 rw [if_pos hk]
 exact hz.as rfl (fun _=>rfl) (fun _=>rfl)
theorem eE {xs:List SV} (h:1≤xs.length):∃ys x,xs=ys++[x]:=by
 rcases List.eq_nil_or_concat xs with rfl | ⟨l,t,rfl⟩
 ·simp at h
 ·exact ⟨l,t,by simp⟩
theorem step2 {bn bt:Value} (h:StkE S base D bn bt w xs next A c) (ho:(OpR (D+1)).rd w B o ovs) (hl:1≤xs.length) (hb:base≤w.heap.size) (hn:xs.length≤90000) (hk:o.kind=2) :
 Calls Tryz.prog 176 #[.pointer (some ⟨S,0,none⟩),.agg ovs.toArray] w fun z w'=>iQ S base D bn bt b o (xs.map SV.t) next w z w':=by
 obtain ⟨ys,x,rfl⟩:=eE hl
 rw [yv] at hn
 refine (rR h ho hb (by omega)).mono fun z w' hz=>?_
 unfold iQ oM aQ
 rw [if_neg (by omega),if_pos hk]
 simp only [List.map_append,List.map_cons,List.map_nil,List.getLast?_concat,List.dropLast_concat]
 exact hz.as rfl (fun _=>rfl) (fun _=>rfl)
theorem step3 {bn bt:Value} {m:Int} (h:StkE S base D bn bt w xs next A c) (ho:(OpR (D+1)).rd w B o ovs) (hl:2≤xs.length) (hb:base≤w.heap.size) (hS0:0<S) (hn:xs.length≤90000) (hm:w.cell? ⟨0,0,none⟩=some (.int .i64 m)) (h0:0<base) (hk:o.kind=3) :
 Calls Tryz.prog 177 #[.pointer (some ⟨S,0,none⟩),.agg ovs.toArray] w fun z w'=>iQ S base D bn bt b o (xs.map SV.t) next w z w':=by
 obtain ⟨zs,x,rfl⟩:=eE (show 1≤xs.length by omega)
 rw [yv,List.length_singleton] at hl hn
 obtain ⟨ys,y,rfl⟩:=eE (show 1≤zs.length by omega)
 rw [yv] at hn
 refine (pN h ho hb hS0 (by omega) hm h0).mono fun z w' hz=>?_
 unfold iQ oM aQ
 rw [if_neg (by omega),if_neg (by omega),if_pos hk]
 simp only [List.map_append,List.map_cons,List.map_nil,List.getLast?_concat,List.dropLast_concat]
 exact hz.as rfl (fun _=>rfl) (fun _=>rfl)
theorem step4 {bn bt:Value} (h:StkE S base D bn bt w xs next A c) (ho:(OpR (D+1)).rd w B o ovs) (hl:1≤xs.length) (hb:base≤w.heap.size) (hn:xs.length≤90000) (hk:o.kind=4∨o.kind=5) :
 Calls Tryz.prog 178 #[.pointer (some ⟨S,0,none⟩),.agg ovs.toArray] w fun z w'=>iQ S base D bn bt b o (xs.map SV.t) next w z w':=by
 obtain ⟨ys,x,rfl⟩:=eE hl
 rw [yv] at hn
 refine (og h ho hb (by omega)).mono fun z w' hz=>?_
 unfold iQ oM aQ
 rw [if_neg (by omega),if_neg (by omega),if_neg (by omega)]
 simp only [List.map_append,List.map_cons,List.map_nil,List.getLast?_concat,List.dropLast_concat]
 unfold vE at hz
 by_cases h6:x.t.kind=6
 ·rw [if_neg (by simp [h6])] at hz ⊢
  by_cases hq:(decide (x.t.n=1)==decide (o.kind=5))=true
  ·rw [if_pos hq] at hz ⊢
   exact hz.as rfl (fun _=>rfl) (fun _=>rfl)
  ·rw [if_neg hq] at hz ⊢
   exact hz.as rfl (fun _=>rfl) (fun _=>rfl)
 ·rw [if_pos h6] at hz ⊢
  exact hz.as rfl (fun he=>absurd (show (7:Int)=0 from he) (by decide)) (fun he=>absurd (show (7:Int)=0 from he) (by decide))
end
theorem fV (b:Bd) (o:OpD) (ts:List Tm):(aQ b o ts).2.1.length≤ts.length+1:=by
 unfold aQ
 split
 ·unfold sR
  split
  ·split<;>simp
  ·simp
 ·split
  ·split<;>simp
  ·split
   ·split<;>simp<;>omega
   ·split
    ·simp
    ·split
     ·simp
     ·split
      ·simp
      ·simp;omega
theorem uT {ops:List OpD} {b:Bd} {ts:List Tm} {k:Nat} {o:OpD} (ho:ops[k]? = some o) (hwh:bk ts.length (ops.drop k)=true) (hev:evR b ops []=evR b (ops.drop k) ts) (h32:ops.length≤32) :
 dA o=true∧aD o≤ts.length∧((aQ b o ts).1≠0→(evR b ops []).1=(aQ b o ts).1) ∧
  ((aQ b o ts).1=0→∃k':Nat,k<k'∧k'≤ops.length∧oM b o ts ((k:Int)+1)=k'∧bk (aQ b o ts).2.1.length (ops.drop k')=true∧evR b ops []=evR b (ops.drop k') (aQ b o ts).2.1):=by
 have hk:k<ops.length:=by
  rcases Nat.lt_or_ge k ops.length with h | h
  ·exact h
  ·rw [List.getElem?_eq_none h] at ho;cases ho
 have hd:ops.drop k=o::ops.drop (k+1):=by
  rw [List.drop_eq_getElem_cons hk]
  rw [yy hk] at ho
  simp only [yz] at ho
  rw [ho]
 rw [hd] at hwh hev
 have hc:=hwh
 rw [eb,yx,yx,yC] at hc
 refine ⟨hc.1.1,hc.1.2,fun he=>?_,fun he=>?_⟩
 ·rw [hev,qN,if_pos he]
 ·have hst:=sS hwh he
  rw [qN,if_neg (by simpa using he)] at hev
  by_cases hs:(aQ b o ts).2.2=true
  ·rw [if_pos hs] at hst hev
   have hz:dy o=true:=by
    rcases mb hc.1.1 with h | h | h | h | h
    ·unfold aQ at hs;rw [if_pos h] at hs;cases hs
    ·unfold aQ at hs;rw [if_neg (by omega),if_pos h] at hs;split at hs<;>cases hs
    ·unfold aQ at hs;rw [if_neg (by omega),if_neg (by omega),if_pos h] at hs;split at hs<;>cases hs
    ·simp [dy,h]
    ·simp [dy,h]
   have h3:=hc.2
   rw [if_pos hz,yx,yx,yC] at h3
   have hsk:1≤o.skip:=by
    have h1:=hc.1.1
    unfold dA at h1
    unfold dy at hz
    rw [Bool.or_eq_true,yC,yC] at hz
    rw [if_neg (by omega),if_neg (by omega),if_neg (by omega),yx,yx,yC] at h1
    exact h1.2.2
   have hle:=h3.1.1
   rw [List.length_drop] at hle
   refine ⟨k+1+o.skip.toNat,by omega,by omega,?_,?_,?_⟩
   ·unfold oM
    rw [if_pos hs]
    unfold wrap64
    omega
   ·rw [List.drop_drop] at hst
    exact hst
   ·rw [List.drop_drop] at hev
    exact hev
  ·rw [if_neg hs] at hst hev
   refine ⟨k+1,by omega,by omega,?_,hst,hev⟩
   unfold oM
   rw [if_neg hs];simp
open Go.RowKit
theorem eD {P:Program} {w:World} {t kt et:TypeId} {r n:Nat} {es:Array MapEntry} (ht:P.underlying t=some (.map kt et)) (hk:P.underlying kt=some (.int .i64)) (hb:w.heap[r]? = some (.map es n)) (k:Int) (v:Value)
 (hne:Instr.findNow (.int .i64) (.int .i64 k) es.toList 0=some none) :
 ∃w',(Instr.mapUpdate t (.map (some r)) (.int .i64 k) v).run P w=.ok () w'∧w'.heap[r]? = some (.map (es.push ⟨.int .i64 k,v,n⟩) (n+1))∧(∀b,b≠r→w'.heap[b]? = w.heap[b]?)∧Below r w w':=by
 refine ⟨{ w with heap:=w.heap.setIfInBounds r (.map (es.push ⟨.int .i64 k,v,n⟩) (n+1)) },?_,(Go.MapKept.heap_set hb).1,(Go.MapKept.heap_set hb).2,⟨rfl,rfl,rfl,by simp,fun b hbr=>(Go.MapKept.heap_set hb).2 b (by omega)⟩⟩
 have h1:=Go.MapKept.run_getObj_map (P:=P) hb
 have h2:=Go.MapKept.run_setObj_map (P:=P) (.map (es.push ⟨.int .i64 k,v,n⟩) (n+1)) hb
 have h3:=Go.MapKept.run_checkKey (P:=P) (w:=w) hk (k:=.int .i64 k) (by simp [Go.MapKept.IsKey]) false 9999
 have h4:=Go.MapKept.run_findKey (P:=P) (w:=w) hk hne
 unfold Instr.mapUpdate
 simp only [Sem.run_bind,run_underlying ht,Result.andThen,h1,h3,h4,h2]
theorem eF {P:Program} {w:World} {t kt et:TypeId} {r n i:Nat} {es:Array MapEntry} (ht:P.underlying t=some (.map kt et)) (hk:P.underlying kt=some (.int .i64)) (hb:w.heap[r]? = some (.map es n)) (k:Int) (v:Value)
 (hf:Instr.findNow (.int .i64) (.int .i64 k) es.toList 0=some (some (i,v))) :
 (Instr.lookup t (.map (some r)) (.int .i64 k) false).run P w=.ok v w:=by
 have h1:=Go.MapKept.run_getObj_map (P:=P) hb
 have h3:=fun e=>Go.MapKept.run_checkKey (P:=P) (w:=w) hk (k:=.int .i64 k) (by simp [Go.MapKept.IsKey]) e 9999
 have h4:=Go.MapKept.run_findKey (P:=P) (w:=w) hk hf
 unfold Instr.lookup
 simp only [Sem.run_bind,run_underlying ht,Result.andThen,h1,h3,h4,Sem.run_pure]
 rfl
end Go.Proofs.YtjpndglegpcdnaaGreat
