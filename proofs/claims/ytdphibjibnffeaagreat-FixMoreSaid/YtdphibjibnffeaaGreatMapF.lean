/- A map with int keys that a call makes: its entries known whole; an insertion, a look. -/
import Derived.Test.YtdphibjibnffeaaGreatExpr3
import Derived.Test.YtdphibjibnffeaaGreatOp5
import Derived.Test.YtdphibjibnffeaaGreatCmpD
import Derived.MapKept
import Derived.Below
import Derived.ProofKit
import Derived.WalkKit
set_option linter.unusedVariables false
set_option linter.unusedSimpArgs false
set_option maxRecDepth 100000
set_option maxHeartbeats 8000000
namespace Go.Proofs.YtdphibjibnffeaaGreat
def aV (b:Bd) (o:OpD) (ts:List Tm):Int × List Tm × Bool:=
 if o.kind=1 then ((ud b o.term ts).1,(ud b o.term ts).2,false)
 else if o.kind=2 then
  match ts.getLast? with
  | none=>(0,ts,false)
  | some t=>((unR o.code t).2,ts.dropLast++[(unR o.code t).1],false)
 else if o.kind=3 then
  match ts.dropLast.getLast?,ts.getLast? with
  | some s,some t=>((za o.code s t).2,ts.dropLast.dropLast++[(za o.code s t).1],false)
  | _,_=>(0,ts,false)
 else
  match ts.getLast? with
  | none=>(0,ts,false)
  | some t=>if t.kind≠6 then (7,ts,false) else if (decide (t.n=1)==decide (o.kind=5))=true then (0,ts,true) else (0,ts.dropLast,false)
def evG (b:Bd):Nat→List OpD→List Tm→Int × List Tm
 | 0,_,ts=>(0,ts)
 | _+1,[],ts=>(0,ts)
 | n+1,o::r,ts=>if (aV b o ts).1≠0 then ((aV b o ts).1,ts) else evG b n (if (aV b o ts).2.2=true then r.drop o.skip.toNat else r) (aV b o ts).2.1
theorem zd (b:Bd):∀(n m:Nat) (l:List OpD) (ts:List Tm),l.length<n→l.length<m→evG b n l ts=evG b m l ts
 | 0,_,_,_,h,_=>absurd h (by omega)
 | _,0,_,_,_,h=>absurd h (by omega)
 | n+1,m+1,[],ts,_,_=>rfl
 | n+1,m+1,o::r,ts,h,k=>by
   simp only [List.length_cons] at h k
   unfold evG
   split
   ·rfl
   ·apply zd
    ·split<;>(try simp only [List.length_drop])<;>omega
    ·split<;>(try simp only [List.length_drop])<;>omega
def evR (b:Bd) (l:List OpD) (ts:List Tm):Int × List Tm:=evG b (l.length+1) l ts
theorem evR_nil (b:Bd) (ts:List Tm):evR b [] ts=(0,ts):=rfl
theorem rL (b:Bd) (o:OpD) (r:List OpD) (ts:List Tm) :
 evR b (o::r) ts=if (aV b o ts).1≠0 then ((aV b o ts).1,ts) else evR b (if (aV b o ts).2.2=true then r.drop o.skip.toNat else r) (aV b o ts).2.1:=by
 unfold evR
 rw [List.length_cons,evG]
 split
 ·rfl
 ·apply zd
  ·split<;>(try simp only [List.length_drop])<;>omega
  ·omega
def im (b:Bd) (l:List OpD):Tm × Int:=if (evR b l []).1≠0 then (noT,(evR b l []).1) else ((evR b l []).2.getLast?.getD noT,0)
theorem tB {o:OpD} (h:dD o=true):aF o=1:=by
 unfold dD at h
 rw [Bool.or_eq_true,decide_eq_true_eq,decide_eq_true_eq] at h
 unfold aF
 rw [if_neg (by omega),if_neg (by omega)]
theorem gA:∀(n:Nat) (l r:List OpD) (a s:Int),l.length≤n→0≤s→bu a l=true→bu (s+1) r=true→bu (s+a) (l++r)=true
 | n,[],r,a,s,_,_,h,k=>by
   rw [jG,decide_eq_true_eq] at h
   subst h
   exact k
 | 0,_::_,_,_,_,h,_,_,_=>absurd h (by simp)
 | n+1,o::l,r,a,s,hn,hs,h,k=>by
   simp only [List.length_cons] at hn
   rw [ej,Bool.and_eq_true,Bool.and_eq_true] at h
   rw [List.cons_append,ej,Bool.and_eq_true,Bool.and_eq_true]
   obtain ⟨⟨h1,h2⟩,h3⟩:=h
   have h2':=of_decide_eq_true h2
   refine ⟨⟨h1,decide_eq_true (by omega)⟩,?_⟩
   by_cases hz:dD o=true
   ·rw [if_pos hz] at h3 ⊢
    rw [Bool.and_eq_true,Bool.and_eq_true] at h3 ⊢
    obtain ⟨⟨h4,h5⟩,h6⟩:=h3
    have h4':=of_decide_eq_true h4
    have hle:o.skip.toNat≤l.length:=by omega
    refine ⟨⟨decide_eq_true (by simp;omega),?_⟩,?_⟩
    ·rw [List.take_append_of_le_length hle];exact h5
    ·rw [List.drop_append_of_le_length hle]
     have:=gA n (l.drop o.skip.toNat) r _ s (by simp;omega) hs h6 k
     rw [show s+a+(1-aF o)=s+(a+(1-aF o)) by omega]
     exact this
   ·rw [if_neg hz] at h3 ⊢
    have:=gA n l r _ s (by omega) hs h3 k
    rw [show s+a+(1-aF o)=s+(a+(1-aF o)) by omega]
    exact this
theorem ue {b:Bd} {o:OpD} {r:List OpD} {ts:List Tm} (h:bu ts.length (o::r)=true) (he:(aV b o ts).1=0) :
 bu (aV b o ts).2.1.length (if (aV b o ts).2.2=true then r.drop o.skip.toNat else r)=true:=by
 rw [ej,Bool.and_eq_true,Bool.and_eq_true] at h
 obtain ⟨⟨h1,h2⟩,h3⟩:=h
 have h2':=of_decide_eq_true h2
 by_cases k1:o.kind=1
 ·have hz:¬dD o=true:=by simp [dD,k1]
  rw [if_neg hz] at h3
  have hn:aF o=0:=by simp [aF,k1]
  rw [hn] at h3
  unfold aV at he ⊢
  rw [if_pos k1] at he ⊢
  simp only [Bool.false_eq_true,if_false] at he ⊢
  have:((ud b o.term ts).2.length:Int)=ts.length+(1-0):=by
   unfold ud at he ⊢
   split at he
   ·split at he
    ·exact absurd (show (8:Int)=0 from he) (by decide)
    ·rename_i hk _ _ _
     rw [if_pos hk];simp
   ·rename_i hk
    rw [if_neg hk];simp
  rw [this];exact h3
 by_cases k2:o.kind=2
 ·have hz:¬dD o=true:=by simp [dD,k2]
  have hn:aF o=1:=by simp [aF,k2]
  rw [if_neg hz,hn] at h3
  rw [hn] at h2'
  unfold aV at he ⊢
  rw [if_neg k1,if_pos k2] at he ⊢
  rcases List.eq_nil_or_concat ts with rfl | ⟨l,t,rfl⟩
  ·simp at h2'
  ·simp only [List.concat_eq_append,List.getLast?_concat,List.dropLast_concat] at *
   simpa using h3
 by_cases k3:o.kind=3
 ·have hz:¬dD o=true:=by simp [dD,k3]
  have hn:aF o=2:=by simp [aF,k3]
  rw [if_neg hz,hn] at h3
  rw [hn] at h2'
  unfold aV at he ⊢
  rw [if_neg k1,if_neg k2,if_pos k3] at he ⊢
  rcases List.eq_nil_or_concat ts with rfl | ⟨l,t,rfl⟩
  ·simp at h2'
  ·rcases List.eq_nil_or_concat l with rfl | ⟨l,s,rfl⟩
   ·simp at h2'
   ·simp only [List.concat_eq_append,List.getLast?_concat,List.dropLast_concat] at *
    have e:((l++[s]++[t]).length:Int)+(1-2)=(l++[(za o.code s t).1]).length:=by simp;omega
    rw [e] at h3
    simpa using h3
 ·have hz:dD o=true:=by
   unfold dF at h1
   rw [if_neg k1,if_neg k2,if_neg k3,Bool.and_eq_true,Bool.and_eq_true,Bool.and_eq_true] at h1
   exact h1.2.1.1
  have hn:=tB hz
  rw [if_pos hz,hn,Bool.and_eq_true,Bool.and_eq_true] at h3
  rw [hn] at h2'
  unfold aV at he ⊢
  rw [if_neg k1,if_neg k2,if_neg k3] at he ⊢
  rcases List.eq_nil_or_concat ts with rfl | ⟨l,t,rfl⟩
  ·simp at h2'
  ·simp only [List.concat_eq_append,List.getLast?_concat,List.dropLast_concat] at *
   split at he
   ·exact absurd (show (7:Int)=0 from he) (by decide)
   ·rename_i h6
    rw [if_neg h6]
    by_cases hq:(decide (t.n=1)==decide (o.kind=5))=true
    ·rw [if_pos hq]
     simpa using h3.2
    ·rw [if_neg hq]
     have h4:=h3.2
     have e:((l++[t]).length:Int)+(1-1)=l.length+1:=by simp
     rw [e] at h4
     have:=gA r.length (r.take o.skip.toNat) (r.drop o.skip.toNat) 0 l.length (by simp;omega) (by omega) h3.1.2 h4
     rw [List.take_append_drop] at this
     simpa using this
open Go.ChangeShapes Go.WideShapes Go.ChangeAt Go.RowKit
def pB (b:Bd) (o:OpD) (ts:List Tm) (next:Int):Int:=if (aV b o ts).2.2=true then wrap64 (next+o.skip) else next
def jj (S base D:Nat) (bn bt:Value) (b:Bd) (o:OpD) (ts:List Tm) (next:Int) (w:World) (z:Ending) (w':World):Prop:=
 EvE S base D bn bt w w' (aV b o ts).1 (aV b o ts).2.1 (pB b o ts next) z
theorem EvE.as {S base D:Nat} {bn bt:Value} {w w':World} {e e':Int} {ts ts':List Tm} {n n':Int} {z:Ending} (h:EvE S base D bn bt w w' e ts n z) (h1:e=e') (h2:e=0→ts=ts') (h3:e=0→n=n'):EvE S base D bn bt w w' e' ts' n' z:=by
 subst h1
 obtain ⟨k1,k2,k3⟩:=h
 exact ⟨k1,k2,fun he=>by rw [←h2 he,←h3 he];exact k3 he⟩
theorem my {o:OpD} (h:dF o=true):o.kind=1∨o.kind=2∨o.kind=3∨o.kind=4∨o.kind=5:=by
 unfold dF at h
 split at h
 ·exact .inl ‹_›
 ·rw [Bool.and_eq_true] at h
  have h2:=h.2
  split at h2
  ·exact .inr (.inl ‹_›)
  ·split at h2
   ·exact .inr (.inr (.inl ‹_›))
   ·rw [Bool.and_eq_true,Bool.and_eq_true] at h2
    have h3:=h2.1.1
    unfold dD at h3
    rw [Bool.or_eq_true,decide_eq_true_eq,decide_eq_true_eq] at h3
    omega
theorem sF {o:OpD} (h:dF o=true) (h1:o.kind=1):lx o.term=true:=by
 unfold dF at h
 rw [if_pos h1,Bool.and_eq_true] at h
 exact h.2
theorem tw {t:Tm} (h:lx t=true):(∀u∈t.l,ji u)∧t.l.length≤16:=by
 unfold lx at h
 split at h
 ·rw [Bool.and_eq_true] at h
  exact ⟨(dw h.2).2,(dw h.2).1⟩
 ·unfold fc at h
  rw [Bool.and_eq_true,decide_eq_true_eq] at h
  have:t.l=[]:=List.eq_nil_of_length_eq_zero h.1
  rw [this]
  exact ⟨fun u hu=>(List.not_mem_nil hu).elim,by simp⟩
section
variable {S base D B c cn ct:Nat} {b:Bd} {An At:Option Addr} {w:World} {xs:List SV} {next:Int} {A:Option Addr} {o:OpD} {ovs:List Value} {r:List OpD}
theorem step1 (hok:BdOk b) (hbn:RL cU w B (b.names.map mkS) An) (hbt:RL (TmR (D+1)) w B b.terms At)
 (h:StkE S base D (.slice An b.names.length cn) (.slice At b.terms.length ct) w xs next A c) (ho:(OpR (D+1)).rd w B o ovs) (hm:dF o=true) (hB:B≤w.heap.size) (hb:base≤w.heap.size) (hn:xs.length≤90000) (hk:o.kind=1) :
 Calls Tryz.prog 199 #[.pointer (some ⟨S,0,none⟩),.agg ovs.toArray] w fun z w'=>jj S base D (.slice An b.names.length cn) (.slice At b.terms.length ct) b o (xs.map SV.t) next w z w':=by
 have hl:=tw (sF hm hk)
 refine (sW hok hbn hbt h ho hl.1 hl.2 hB hb hn).mono fun z w' hz=>?_
 unfold jj pB aV
 rw [if_pos hk]
 exact hz.as rfl (fun _=>rfl) (fun _=>rfl)
theorem eM {xs:List SV} (h:1≤xs.length):∃ys x,xs=ys++[x]:=by
 rcases List.eq_nil_or_concat xs with rfl | ⟨l,t,rfl⟩
 ·simp at h
 ·exact ⟨l,t,by simp⟩
theorem step2 {bn bt:Value} (h:StkE S base D bn bt w xs next A c) (ho:(OpR (D+1)).rd w B o ovs) (hl:1≤xs.length) (hb:base≤w.heap.size) (hn:xs.length≤90000) (hk:o.kind=2) :
 Calls Tryz.prog 200 #[.pointer (some ⟨S,0,none⟩),.agg ovs.toArray] w fun z w'=>jj S base D bn bt b o (xs.map SV.t) next w z w':=by
 obtain ⟨ys,x,rfl⟩:=eM hl
 rw [List.length_append] at hn
 refine (sV h ho hb (by omega)).mono fun z w' hz=>?_
 unfold jj pB aV
 rw [if_neg (by omega),if_pos hk]
 simp only [List.map_append,List.map_cons,List.map_nil,List.getLast?_concat,List.dropLast_concat]
 exact hz.as rfl (fun _=>rfl) (fun _=>rfl)
theorem step3 {bn bt:Value} {m:Int} (h:StkE S base D bn bt w xs next A c) (ho:(OpR (D+1)).rd w B o ovs) (hl:2≤xs.length) (hb:base≤w.heap.size) (hS0:0<S) (hn:xs.length≤90000) (hm:w.cell? ⟨0,0,none⟩=some (.int .i64 m)) (h0:0<base) (hk:o.kind=3) :
 Calls Tryz.prog 201 #[.pointer (some ⟨S,0,none⟩),.agg ovs.toArray] w fun z w'=>jj S base D bn bt b o (xs.map SV.t) next w z w':=by
 obtain ⟨zs,x,rfl⟩:=eM (show 1≤xs.length by omega)
 rw [List.length_append,List.length_singleton] at hl hn
 obtain ⟨ys,y,rfl⟩:=eM (show 1≤zs.length by omega)
 rw [List.length_append] at hn
 refine (qE h ho hb hS0 (by omega) hm h0).mono fun z w' hz=>?_
 unfold jj pB aV
 rw [if_neg (by omega),if_neg (by omega),if_pos hk]
 simp only [List.map_append,List.map_cons,List.map_nil,List.getLast?_concat,List.dropLast_concat]
 exact hz.as rfl (fun _=>rfl) (fun _=>rfl)
theorem step4 {bn bt:Value} (h:StkE S base D bn bt w xs next A c) (ho:(OpR (D+1)).rd w B o ovs) (hl:1≤xs.length) (hb:base≤w.heap.size) (hn:xs.length≤90000) (hk:o.kind=4∨o.kind=5) :
 Calls Tryz.prog 202 #[.pointer (some ⟨S,0,none⟩),.agg ovs.toArray] w fun z w'=>jj S base D bn bt b o (xs.map SV.t) next w z w':=by
 obtain ⟨ys,x,rfl⟩:=eM hl
 rw [List.length_append] at hn
 refine (oQ h ho hb (by omega)).mono fun z w' hz=>?_
 unfold jj pB aV
 rw [if_neg (by omega),if_neg (by omega),if_neg (by omega)]
 simp only [List.map_append,List.map_cons,List.map_nil,List.getLast?_concat,List.dropLast_concat]
 unfold xi at hz
 by_cases h6:x.t.kind=6
 ·rw [if_neg (by simp [h6])] at hz ⊢
  by_cases hq:(decide (x.t.n=1)==decide (o.kind=5))=true
  ·rw [if_pos hq] at hz ⊢
   exact hz.as rfl (fun _=>rfl) (fun _=>rfl)
  ·rw [if_neg hq] at hz ⊢
   exact hz.as rfl (fun _=>rfl) (fun _=>rfl)
 ·rw [if_pos h6] at hz ⊢
  exact hz.as rfl (fun he=>absurd (show (7:Int)=0 from he) (by decide)) (fun he=>absurd (show (7:Int)=0 from he) (by decide))
end
theorem gu (b:Bd) (o:OpD) (ts:List Tm):(aV b o ts).2.1.length≤ts.length+1:=by
 unfold aV
 split
 ·unfold ud
  split
  ·split<;>simp
  ·simp
 ·split
  ·split<;>simp
  ·split
   ·split<;>simp<;>omega
   ·split
    ·simp
    ·split
     ·simp
     ·split
      ·simp
      ·simp;omega
theorem wE {ops:List OpD} {b:Bd} {ts:List Tm} {k:Nat} {o:OpD} (ho:ops[k]? = some o) (hwh:bu ts.length (ops.drop k)=true) (hev:evR b ops []=evR b (ops.drop k) ts) (h32:ops.length≤32) :
 dF o=true∧aF o≤ts.length∧((aV b o ts).1≠0→(evR b ops []).1=(aV b o ts).1) ∧
  ((aV b o ts).1=0→∃k':Nat,k<k'∧k'≤ops.length∧pB b o ts ((k:Int)+1)=k'∧bu (aV b o ts).2.1.length (ops.drop k')=true∧evR b ops []=evR b (ops.drop k') (aV b o ts).2.1):=by
 have hk:k<ops.length:=by
  rcases Nat.lt_or_ge k ops.length with h | h
  ·exact h
  ·rw [List.getElem?_eq_none h] at ho;cases ho
 have hd:ops.drop k=o::ops.drop (k+1):=by
  rw [List.drop_eq_getElem_cons hk]
  rw [List.getElem?_eq_getElem hk] at ho
  simp only [Option.some.injEq] at ho
  rw [ho]
 rw [hd] at hwh hev
 have hc:=hwh
 rw [ej,Bool.and_eq_true,Bool.and_eq_true,decide_eq_true_eq] at hc
 refine ⟨hc.1.1,hc.1.2,fun he=>?_,fun he=>?_⟩
 ·rw [hev,rL,if_pos he]
 ·have hst:=ue hwh he
  rw [rL,if_neg (by simpa using he)] at hev
  by_cases hs:(aV b o ts).2.2=true
  ·rw [if_pos hs] at hst hev
   have hz:dD o=true:=by
    rcases my hc.1.1 with h | h | h | h | h
    ·unfold aV at hs;rw [if_pos h] at hs;cases hs
    ·unfold aV at hs;rw [if_neg (by omega),if_pos h] at hs;split at hs<;>cases hs
    ·unfold aV at hs;rw [if_neg (by omega),if_neg (by omega),if_pos h] at hs;split at hs<;>cases hs
    ·simp [dD,h]
    ·simp [dD,h]
   have h3:=hc.2
   rw [if_pos hz,Bool.and_eq_true,Bool.and_eq_true,decide_eq_true_eq] at h3
   have hsk:1≤o.skip:=by
    have h1:=hc.1.1
    unfold dF at h1
    unfold dD at hz
    rw [Bool.or_eq_true,decide_eq_true_eq,decide_eq_true_eq] at hz
    rw [if_neg (by omega),if_neg (by omega),if_neg (by omega),Bool.and_eq_true,Bool.and_eq_true,decide_eq_true_eq] at h1
    exact h1.2.2
   have hle:=h3.1.1
   rw [List.length_drop] at hle
   refine ⟨k+1+o.skip.toNat,by omega,by omega,?_,?_,?_⟩
   ·unfold pB
    rw [if_pos hs]
    unfold wrap64
    omega
   ·rw [List.drop_drop] at hst
    exact hst
   ·rw [List.drop_drop] at hev
    exact hev
  ·rw [if_neg hs] at hst hev
   refine ⟨k+1,by omega,by omega,?_,hst,hev⟩
   unfold pB
   rw [if_neg hs];simp
open Go.RowKit
theorem eL {P:Program} {w:World} {t kt et:TypeId} {r n:Nat} {es:Array MapEntry} (ht:P.underlying t=some (.map kt et)) (hk:P.underlying kt=some (.int .i64)) (hb:w.heap[r]? = some (.map es n)) (k:Int) (v:Value)
 (hne:Instr.findNow (.int .i64) (.int .i64 k) es.toList 0=some none) :
 ∃w',(Instr.mapUpdate t (.map (some r)) (.int .i64 k) v).run P w=.ok () w'∧w'.heap[r]? = some (.map (es.push ⟨.int .i64 k,v,n⟩) (n+1))∧(∀b,b≠r→w'.heap[b]? = w.heap[b]?)∧Below r w w':=by
 refine ⟨{ w with heap:=w.heap.setIfInBounds r (.map (es.push ⟨.int .i64 k,v,n⟩) (n+1)) },?_,(Go.MapKept.heap_set hb).1,(Go.MapKept.heap_set hb).2,⟨rfl,rfl,rfl,by simp,fun b hbr=>(Go.MapKept.heap_set hb).2 b (by omega)⟩⟩
 have h1:=Go.MapKept.run_getObj_map (P:=P) hb
 have h2:=Go.MapKept.run_setObj_map (P:=P) (.map (es.push ⟨.int .i64 k,v,n⟩) (n+1)) hb
 have h3:=Go.MapKept.run_checkKey (P:=P) (w:=w) hk (k:=.int .i64 k) (by simp [Go.MapKept.IsKey]) false 9999
 have h4:=Go.MapKept.run_findKey (P:=P) (w:=w) hk hne
 unfold Instr.mapUpdate
 simp only [Sem.run_bind,run_underlying ht,Result.andThen,h1,h3,h4,h2]
theorem eN {P:Program} {w:World} {t kt et:TypeId} {r n i:Nat} {es:Array MapEntry} (ht:P.underlying t=some (.map kt et)) (hk:P.underlying kt=some (.int .i64)) (hb:w.heap[r]? = some (.map es n)) (k:Int) (v:Value)
 (hf:Instr.findNow (.int .i64) (.int .i64 k) es.toList 0=some (some (i,v))) :
 (Instr.lookup t (.map (some r)) (.int .i64 k) false).run P w=.ok v w:=by
 have h1:=Go.MapKept.run_getObj_map (P:=P) hb
 have h3:=fun e=>Go.MapKept.run_checkKey (P:=P) (w:=w) hk (k:=.int .i64 k) (by simp [Go.MapKept.IsKey]) e 9999
 have h4:=Go.MapKept.run_findKey (P:=P) (w:=w) hk hf
 unfold Instr.lookup
 simp only [Sem.run_bind,run_underlying ht,Result.andThen,h1,h3,h4,Sem.run_pure]
 rfl
end Go.Proofs.YtdphibjibnffeaaGreat
