/- regex.either. -/
import Derived.Test.YtdphibjibnffeaaGreatReg1
import Derived.Test.YtdphibjibnffeaaGreatOwn
import Derived.Test.YtdphibjibnffeaaGreatHeap1
import Derived.Laws.MakeOwn
import Derived.Test.YtdphibjibnffeaaGreatOp1
import Derived.Deep.Cut
import Derived.Deep.CutRange
import Derived.Deep.LoopGhost
set_option linter.unusedVariables false
set_option linter.unusedSimpArgs false
set_option maxRecDepth 100000
set_option maxHeartbeats 8000000
namespace Go.Proofs.YtdphibjibnffeaaGreat
open Go.ChangeShapes Go.WideShapes Go.ChangeAt Go.RowKit
def bz (s:ByteArray) (p:PS):Nat:=if p.e=0 then s.size-p.at_ else 0
theorem jE (s:ByteArray) (p:PS):bz s p≤s.size:=by unfold bz;split<;>omega
theorem er (s:ByteArray) (p:PS):bI s p=decide (bz s p=0):=by
 unfold bI bz
 by_cases h:p.e=0
 ·simp [h];omega
 ·simp [h]
theorem jT {s:ByteArray} {p:PS} {e:Int} (he:e≠0):bz s (aX p e)=0:=by
 unfold aX bz
 by_cases h:p.e=0
 ·simp [h,he]
 ·simp [h]
theorem jb (p:PS) (e:Int):(aX p e).at_=p.at_:=by unfold aX;split<;>rfl
theorem kC (p:PS) (e:Int):(aX p e).deep=p.deep:=by unfold aX;split<;>rfl
theorem fail_e {p:PS} {e:Int} (he:e≠0):(aX p e).e≠0:=by unfold aX;split<;>simp_all
structure Less (s:ByteArray) (d:Nat) (p q:PS):Prop where
 rem:bz s q+d≤bz s p∨d≠0∧bz s p=0∧bz s q=0
 deep:q.deep=p.deep
 at_:p.at_≤s.size→q.at_≤s.size
 up:p.at_≤q.at_
theorem Less.refl (s:ByteArray) (p:PS):Less s 0 p p:=⟨.inl (yY _),rfl,id,yY _⟩
theorem Less.zero {s:ByteArray} {d:Nat} {p q:PS} (h:Less s d p q):Less s 0 p q:=⟨.inl (by rcases h.rem with h | ⟨_,h,k⟩<;>omega),h.deep,h.at_,h.up⟩
theorem Less.le {s:ByteArray} {d:Nat} {p q:PS} (h:Less s d p q):bz s q≤bz s p:=by rcases h.rem with h | ⟨_,h,k⟩<;>omega
theorem Less.trans {s:ByteArray} {p q r:PS} (h:Less s 0 p q) (k:Less s 0 q r):Less s 0 p r:=⟨.inl (by have:=h.le;have:=k.le;omega),k.deep.trans h.deep,fun x=>k.at_ (h.at_ x),yX h.up k.up⟩
theorem Less.one {s:ByteArray} {p q r:PS} (h:Less s 1 p q) (k:Less s 0 q r):Less s 1 p r:=⟨by have:=k.le;rcases h.rem with h | ⟨_,h,k⟩<;>omega,k.deep.trans h.deep,fun x=>k.at_ (h.at_ x),yX h.up k.up⟩
theorem Less.fail {s:ByteArray} {d:Nat} {p q:PS} {e:Int} (h:Less s d p q) (he:e≠0):Less s d p (aX q e):=
 ⟨by rw [jT he];rcases h.rem with h | ⟨_,h,k⟩<;>omega,by rw [kC,h.deep],by rw [jb];exact h.at_,by rw [jb];exact h.up⟩
theorem Less.failed {s:ByteArray} {p:PS} {e:Int} (he:e≠0):Less s 1 p (aX p e):=
 ⟨by rw [jT he];omega,by rw [kC],by rw [jb];exact id,by rw [jb];exact yY _⟩
theorem Less.stepped {s:ByteArray} {p:PS} (h:bI s p=false):Less s 1 p p.step:=by
 rw [er] at h
 have h:bz s p≠0:=by simpa using h
 unfold bz at h
 refine ⟨.inl ?_,rfl,fun hx=>?_,by simp [PS.step]⟩
 ·unfold bz PS.step
  split at h
  ·rename_i he
   simp [he]
   omega
  ·exact absurd rfl h
 ·unfold PS.step
  split at h
  ·simp;omega
  ·exact absurd rfl h
theorem kT {s:ByteArray} {p:PS} {c:Nat} (h:isP s p c=true):bI s p=false:=by
 unfold isP at h
 rw [Bool.and_eq_true] at h
 simpa using h.1
theorem Less.byte {s:ByteArray} {p:PS} {c:Nat} (h:isP s p c=true):Less s 1 p p.step:=Less.stepped (kT h)
theorem cJ (s:ByteArray) (p:PS):Less s 1 p (aD s p).2:=by
 unfold aD
 rcases Bool.eq_false_or_eq_true (bI s p) with h | h
 ·rw [if_pos h];exact Less.failed (by decide)
 ·rw [if_neg (by rw [h];simp)];exact Less.stepped h
theorem byte_lt (s:ByteArray) (k:Nat):bW s k<256:=by
 unfold bW
 rcases (bs s)[k]? with _ | b
 ·simp
 ·simp;exact b.toNat_lt
theorem qh (s:ByteArray) (p:PS):(aD s p).1<256:=by
 unfold aD
 split
 ·simp
 ·exact byte_lt _ _
theorem dV (s:ByteArray) (p:PS):Less s 1 p (aN s p).2:=by
 unfold aN
 simp only
 split
 ·exact (cJ s p).one (cJ s _).zero
 ·exact cJ s p
theorem oz (s:ByteArray) (p:PS):(aN s p).1<256:=by
 unfold aN
 simp only
 split<;>exact qh _ _
theorem oZ (s:ByteArray) (p:PS):Less s 1 p (eO s p).2:=by
 unfold eO
 simp only
 split
 ·rename_i h
  rw [Bool.and_eq_true] at h
  exact ((dV s p).one (Less.byte h.1).zero).one (dV s _).zero
 ·exact dV s p
theorem fF (s:ByteArray):∀n p i,Less s 0 p (be s n p i).2
 | 0,p,i=>Less.refl s p
 | n+1,p,i=>by
   unfold be
   split
   ·simp only
    refine Less.trans ?_ (fF s n _ _)
    split
    ·exact ((oZ s p).fail (by decide)).zero
    ·exact (oZ s p).zero
   ·exact Less.refl s p
theorem rS (s:ByteArray) (p:PS):Less s 0 p (dN s p).2:=by
 unfold dN
 simp only
 have h1:Less s 0 p (if isP s p 94=true then p.step else p):=by
  split
  ·rename_i h;exact (Less.byte h).zero
  ·exact Less.refl s p
 have h2:∀q:PS,Less s 0 p q→Less s 0 p (if isP s q 93=true then aX q 3 else q):=by
  intro q hq
  split
  ·exact hq.fail (by decide)
  ·exact hq
 exact (((h2 _ h1).trans (fF s _ _ _)).trans (cJ s _).zero)
structure Made (s:ByteArray) (d:Nat) (p:PS) (r:List Ins × PS):Prop where
 less:Less s 0 p r.2
 one:bz s p≠0→bz s r.2+d≤bz s p
 len:r.1.length+2*bz s r.2≤2*bz s p
theorem ah (l:List Ins) (k:Int):(aF l k).length=l.length:=by simp [aF]
theorem Less.lt {s:ByteArray} {p q:PS} (h:Less s 1 p q) (hp:bz s p≠0):bz s q+1≤bz s p:=by rcases h.rem with h | ⟨_,h,k⟩<;>omega
theorem eZ (s:ByteArray):∀n,(∀p,Made s 0 p (qi s n p))∧(∀p out,Less s 0 p (jm s n p out).2∧(jm s n p out).1.length+2*bz s (jm s n p out).2≤out.length+2*bz s p)∧(∀p,bz s p≠0→Made s (if n≤1 then 0 else 1) p (eL s n p))∧(∀p,bz s p≠0→Made s (if n=0 then 0 else 1) p (fB s n p)):=by
 intro n
 induction n with
 | zero=>
   refine ⟨fun p=>⟨Less.refl s p,fun _=>by simp [qi],by simp [qi]⟩,fun p out=>⟨Less.refl s p,by simp [jm]⟩,fun p _=>⟨Less.refl s p,fun _=>by simp [eL],by simp [eL]⟩,fun p _=>⟨Less.refl s p,fun _=>by simp [fB],by simp [fB]⟩⟩
 | succ n ih=>
   obtain ⟨ihp,ihr,ihc,iha⟩:=ih
   refine ⟨fun p=>?_,fun p out=>?_,fun p hp=>?_,fun p hp=>?_⟩
   ·unfold qi
    simp only
    obtain ⟨h1,h2⟩:=ihr p []
    split
    ·rename_i hb
     have hs:=Less.byte hb
     have hne:bz s (jm s n p []).2≠0:=by
      have:=kT hb
      rw [er] at this
      simpa using this
     have h3:=ihp (jm s n p []).2.step
     have h4:=hs.lt hne
     have h5:=h3.len
     have h6:=h3.less.le
     have h7:=h1.le
     refine ⟨(h1.trans hs.zero).trans h3.less,fun _=>by simp only;omega,?_⟩
     simp only [gV,List.length_append,ah,List.length_cons,List.length_nil] at h2 ⊢
     omega
    ·refine ⟨h1,fun _=>h1.le,?_⟩
     simpa using h2
   ·unfold jm
    split
    ·rename_i hc
     have hne:bz s p≠0:=by
      rw [Bool.and_eq_true] at hc
      have:=hc.1
      rw [er] at this
      simpa using this
     have h1:=ihc p hne
     have h2:=ihr (eL s n p).2 (out++aF (eL s n p).1 out.length)
     refine ⟨h1.less.trans h2.1,?_⟩
     have h3:=h2.2
     rw [List.length_append,ah] at h3
     have h4:=h1.len
     simp only
     omega
    ·exact ⟨Less.refl s p,by simp⟩
   ·unfold eL
    simp only
    have h1:=iha p hp
    have hd:(if n+1≤1 then 0 else 1)=(if n=0 then 0 else 1):=by by_cases h:n=0<;>simp [h]
    rw [hd]
    generalize (if n=0 then 0 else 1)=dd at *
    have hb:∀c,isP s (fB s n p).2 c=true→Less s 1 (fB s n p).2 (fB s n p).2.step∧bz s (fB s n p).2.step+1≤bz s (fB s n p).2:=by
     intro c hc
     refine ⟨Less.byte hc,(Less.byte hc).lt ?_⟩
     have:=kT hc
     rw [er] at this
     simpa using this
    have hl:=h1.len
    have ho:=h1.one hp
    split
    ·rename_i hc
     obtain ⟨h2,h3⟩:=hb _ hc
     exact ⟨h1.less.trans h2.zero,fun _=>by simp only;omega,by simp [ah];omega⟩
    ·split
     ·rename_i hc
      obtain ⟨h2,h3⟩:=hb _ hc
      exact ⟨h1.less.trans h2.zero,fun _=>by simp only;omega,by simp [ah];omega⟩
     ·split
      ·rename_i hc
       obtain ⟨h2,h3⟩:=hb _ hc
       exact ⟨h1.less.trans h2.zero,fun _=>by simp only;omega,by simp [ah];omega⟩
      ·exact h1
   ·rw [if_neg (by omega)]
    unfold fB
    simp only
    have h1:=cJ s p
    have h2:=h1.lt hp
    have leaf:∀(i:Ins) (q:PS),Less s 0 (aD s p).2 q→Made s 1 p ([i],q):=by
     intro i q hq
     have:=hq.le
     exact ⟨h1.zero.trans hq,fun _=>by simp only;omega,by simp;omega⟩
    split
    ·rename_i hc
     split
     ·have h3:=jT (s:=s) (p:=(aD s p).2) (e:=4) (by decide)
      exact ⟨(h1.fail (by decide)).zero,fun _=>by simp only;omega,by simp [h3]⟩
     ·have h3:=ihp ⟨(aD s p).2.at_,(aD s p).2.deep+1,(aD s p).2.e⟩
      generalize hq:qi s n ⟨(aD s p).2.at_,(aD s p).2.deep+1,(aD s p).2.e⟩=q at *
      have h4:=cJ s q.2
      generalize hz:aD s q.2=z at *
      have hr:bz s ⟨(aD s p).2.at_,(aD s p).2.deep+1,(aD s p).2.e⟩=bz s (aD s p).2:=rfl
      have h5:=h3.less.le
      have h6:=h3.len
      have h7:=h4.le
      have hdp:q.2.deep=(aD s p).2.deep+1:=h3.less.deep
      have hdz:z.2.deep=q.2.deep:=h4.deep
      have hkey:∀f:PS,Less s 0 z.2 f→Made s 1 p (q.1,⟨f.at_,f.deep-1,f.e⟩):=by
       intro f hf
       have hrf:bz s ⟨f.at_,f.deep-1,f.e⟩=bz s f:=rfl
       have h8:=hf.le
       refine ⟨⟨.inl (by simp only;rw [hrf];omega),?_,?_,?_⟩,fun _=>by simp only;rw [hrf];omega,by simp only;rw [hrf];omega⟩
       ·have:=hf.deep;have:=h1.deep;simp only;omega
       ·exact fun hx=>hf.at_ (h4.at_ (h3.less.at_ (h1.at_ hx)))
       ·exact yX h1.up (yX h3.less.up (yX h4.up hf.up))
      refine hkey _ ?_
      split
      ·exact (Less.refl s _).fail (by decide)
      ·exact Less.refl s _
    ·split
     ·exact leaf _ _ (rS s _)
     ·split
      ·exact leaf _ _ (Less.refl s _)
      ·split
       ·exact leaf _ _ (Less.refl s _)
       ·split
        ·exact leaf _ _ (Less.refl s _)
        ·split
         ·exact leaf _ _ (cJ s _).zero
         ·split
          ·exact leaf _ _ ((Less.refl s _).fail (by decide))
          ·exact leaf _ _ (Less.refl s _)
theorem iJ (s:ByteArray) (n:Nat) (p:PS):Made s 0 p (qi s n p):=(eZ s n).1 p
theorem xN (s:ByteArray) (n:Nat) (p:PS) (out:List Ins):Less s 0 p (jm s n p out).2∧(jm s n p out).1.length+2*bz s (jm s n p out).2≤out.length+2*bz s p:=(eZ s n).2.1 p out
theorem sH (s:ByteArray) (n:Nat) (p:PS) (hp:bz s p≠0) (hn:2≤n):Made s 1 p (eL s n p):=by
 have:=(eZ s n).2.2.1 p hp
 rwa [if_neg (by omega)] at this
theorem tC (s:ByteArray) (n:Nat) (p:PS) (hp:bz s p≠0) (hn:1≤n):Made s 1 p (fB s n p):=by
 have:=(eZ s n).2.2.2 p hp
 rwa [if_neg (by omega)] at this
section
variable {α:Type} {R:Reader α} {e:TypeId} {w:World} {base B:Nat} {v:Value} {xs:List α} {A:Option Addr} {c:Nat}
theorem qO (b off j:Nat):(⟨b,off,none⟩:Addr).add j=⟨b,off+j,none⟩:=by
 unfold Addr.add
 split
 ·rename_i h;subst h;rfl
 ·rfl
theorem am.src (h:am R e w base B (.slice A xs.length c) xs):fl R w B A xs:=by
 obtain ⟨cells,h,hf⟩:=h
 rcases h.2 with ⟨h1,h2⟩ | ⟨g,cap,cur,hv,hg,hh,k1,k2,k3,k4⟩
 ·have:xs=[]:=List.eq_nil_of_length_eq_zero h2
  subst this
  refine ⟨[],bg.nil,fun _=>rfl,fun a _ j u hu=>by simp at hu⟩
 ·simp only [Value.slice.injEq] at hv
  obtain ⟨rfl,_,rfl⟩:=hv
  refine ⟨cells,hf,fun e=>(by cases e),fun a ha j u hu=>?_⟩
  simp only [Option.some.injEq] at ha
  subst ha
  rw [←k4,List.getElem?_take] at hu
  split at hu
  ·rw [qO]
   show w.cell? ⟨g,0+j,none⟩=_
   rw [cell_of_row w g _ cur e (0,0) hh,Nat.zero_add]
   simpa using hu
  ·cases hu
theorem bg.take {news:List Value} (h:bg R w B xs news) (k:Nat):bg R w B (xs.take k) (news.take (k*R.k)):=by
 refine ⟨?_,fun i hi=>?_⟩
 ·rw [List.length_take,List.length_take,h.1]
  rcases Nat.le_total k xs.length with hk | hk
  ·rw [Nat.min_eq_left hk,Nat.min_eq_left (Nat.mul_le_mul_right _ hk)]
  ·rw [Nat.min_eq_right hk,Nat.min_eq_right (Nat.mul_le_mul_right _ hk)]
 ·rw [List.length_take] at hi
  have hik:i<k:=by omega
  have h1:(i+1)*R.k≤k*R.k:=Nat.mul_le_mul_right _ hik
  rw [Nat.add_mul,Nat.one_mul] at h1
  have:=h.2 i (by omega)
  rw [List.getElem_take,List.drop_take,List.take_take,Nat.min_eq_left (by omega)]
  exact this
theorem bg.drop {news:List Value} (h:bg R w B xs news) (k:Nat):bg R w B (xs.drop k) (news.drop (k*R.k)):=by
 refine ⟨?_,fun i hi=>?_⟩
 ·rw [List.length_drop,List.length_drop,h.1,Nat.sub_mul]
 ·rw [List.length_drop] at hi
  have:=h.2 (k+i) (by omega)
  rw [List.getElem_drop,List.drop_drop]
  rw [show k*R.k+i*R.k=(k+i)*R.k by rw [Nat.add_mul]]
  exact this
theorem fl.take (h:fl R w B A xs) (k:Nat):fl R w B A (xs.take k):=by
 obtain ⟨cells,hf,h1,h2⟩:=h
 refine ⟨_,hf.take k,fun e=>(by rw [h1 e];simp),fun a ha j u hu=>?_⟩
 rw [List.getElem?_take] at hu
 split at hu
 ·exact h2 a ha j u hu
 ·cases hu
theorem fl.drop {b off:Nat} (h:fl R w B (some ⟨b,off,none⟩) xs) (k:Nat):fl R w B (some ⟨b,off+k*R.k,none⟩) (xs.drop k):=by
 obtain ⟨cells,hf,h1,h2⟩:=h
 refine ⟨_,hf.drop k,fun e=>(by cases e),fun a ha j u hu=>?_⟩
 rw [List.getElem?_drop] at hu
 simp only [Option.some.injEq] at ha
 subst ha
 have:=h2 _ rfl _ _ hu
 rw [qO] at this ⊢
 rw [Nat.add_assoc];exact this
theorem fl.none {A:Option Addr} {ys:List α} (h:ys=[]):fl R w B A ys:=by
 subst h;exact ⟨[],bg.nil,fun _=>rfl,fun a _ j u hu=>by simp at hu⟩
end
section
variable {α:Type} {c:α→α→Int} {t:α}
end
def jP (i:Ins):List Value:=[.int .i64 i.kind,.int .u64 i.a,.int .u64 i.b,.int .u64 i.c,.int .u64 i.d,.int .i64 i.x,.int .i64 i.y]
def fk:Reader Ins where
 k:=7
 rd:=fun _ _ i vs=>vs=jP i
 keep:=fun _ _ h=>h
 wide:=fun _ h=>h
 len:=fun h=>by subst h;rfl
theorem cP:dq fk:=fun {w B x vs} h u hu=>by
 obtain rfl:vs=jP x:=h
 simp only [jP,List.mem_cons,List.not_mem_nil,or_false] at hu
 rcases hu with rfl | rfl | rfl | rfl | rfl | rfl | rfl<;>rfl
theorem od:(Tryz.prog.info? 336).map (fun i=>(i.zero,i.size,i.bytes))=some (some (.agg #[.int .i64 0,.int .u64 0,.int .u64 0,.int .u64 0,.int .u64 0,.int .i64 0,.int .i64 0]),7,56):=by kernel_rfl
def eG:List Ins→List Value
 | []=>[]
 | i::l=>jP i++eG l
theorem jC:∀l:List Ins,(eG l).length=l.length*7
 | []=>rfl
 | i::l=>by simp [eG,jC l,jP];omega
theorem kJ:∀(l:List Ins) (k:Nat) (i:Ins) (j:Nat),l[k]? = some i→j<7→(eG l)[k*7+j]? = (jP i)[j]?
 | [],k,i,j,h,_=>by simp at h
 | a::l,0,i,j,h,hj=>by
   simp only [List.getElem?_cons_zero,Option.some.injEq] at h
   subst h
   rw [eG,List.getElem?_append_left (by simp [jP];omega)]
   simp
 | a::l,k+1,i,j,h,hj=>by
   rw [eG,List.getElem?_append_right (by simp [jP];omega)]
   have e:(k+1)*7+j-(jP a).length=k*7+j:=by simp [jP];omega
   rw [e]
   exact kJ l k i j (by simpa using h) hj
theorem mh (w:World) (B:Nat):∀l:List Ins,bg fk w B l (eG l)
 | []=>bg.nil
 | i::l=>bg.append (xs:=[i]) (bg.one (R:=fk) rfl) (mh w B l)
theorem uA (l:List Ins) (k:Nat) (i:Ins) (hk:k<l.length) :
 (((((((eG l).set (k*7) (.int .i64 i.kind)).set (k*7+1) (.int .u64 i.a)).set (k*7+2) (.int .u64 i.b)).set (k*7+3) (.int .u64 i.c)).set (k*7+4) (.int .u64 i.d)).set (k*7+5) (.int .i64 i.x)).set (k*7+6) (.int .i64 i.y)=eG (l.set k i):=by
 induction l generalizing k with
 | nil=>simp at hk
 | cons a l ih=>
   cases k with
   | zero=>simp [eG,jP]
   | succ k=>
     have:=ih k (by simpa using hk)
     rw [List.set_cons_succ,eG,eG,←this]
     have e:∀(j:Nat) (v:Value) (m:List Value),(jP a++m).set ((k+1)*7+j) v=jP a++m.set (k*7+j) v:=by
      intro j v m
      rw [List.set_append_right _ _ (by simp [jP];omega)]
      congr 2
      simp [jP];omega
     have e0:=e 0
     simp only [Nat.add_zero] at e0
     rw [e0,e,e,e,e,e,e]
def gj:Ins:=⟨0,0,0,0,0,0,0⟩
theorem sA (n:Nat):madeCells #[.int .i64 0,.int .u64 0,.int .u64 0,.int .u64 0,.int .u64 0,.int .i64 0,.int .i64 0] (n*7)=(eG (List.replicate n gj)).toArray:=by
 apply Array.ext'
 apply List.ext_getElem?
 intro q
 by_cases hq:q<n*7
 ·have h1:(eG (List.replicate n gj))[q / 7*7+q % 7]? = (jP gj)[q % 7]?:=kJ _ _ _ _ (by rw [List.getElem?_replicate,if_pos (by omega)]) (by omega)
  have e:q / 7*7+q % 7=q:=by omega
  rw [e] at h1
  rw [h1]
  have h2:q % 7=0∨q % 7=1∨q % 7=2∨q % 7=3∨q % 7=4∨q % 7=5∨q % 7=6:=by omega
  have h3:(madeCells #[.int .i64 0,.int .u64 0,.int .u64 0,.int .u64 0,.int .u64 0,.int .i64 0,.int .i64 0] (n*7)).toList[q]? = some ((#[.int .i64 0,.int .u64 0,.int .u64 0,.int .u64 0,.int .u64 0,.int .i64 0,.int .i64 0]:Array Value)[q % 7]!):=by
   have hs:q<(madeCells #[.int .i64 0,.int .u64 0,.int .u64 0,.int .u64 0,.int .u64 0,.int .i64 0,.int .i64 0] (n*7)).toList.length:=by rw [Array.length_toList,size_madeCells];exact hq
   rw [List.getElem?_eq_getElem hs]
   simp [madeCells]
  rw [h3]
  rcases h2 with h | h | h | h | h | h | h<;>(rw [h];rfl)
 ·rw [List.getElem?_eq_none (by rw [Array.length_toList,size_madeCells];omega),List.getElem?_eq_none (by show (eG _).length≤q;rw [jC];simp;omega)]
def bV (w:World) (b:Nat) (vs:Array Value) (T:TypeId):Prop:=w.heap[b]? = some (.cells vs T (0,0))
section
variable {w w':World} {b c:Nat} {vs:Array Value} {T:TypeId}
theorem bV.blk (h:bV w b vs T):Blk w b vs:=⟨T,h⟩
theorem bV.keep {B:Nat} (h:bV w b vs T) (hb:Below B w w') (hB:b<B):bV w' b vs T:=(hb.block b hB).trans h
theorem bV.later (h:bV w b vs T) (hb:Below w.heap.size w w'):bV w' b vs T:=h.keep hb h.blk.lt
theorem bV.set_ (h:bV w b vs T) (i:Nat) (u:Value):bV (w.setCell ⟨b,i,none⟩ u) b (vs.setIfInBounds i u) T:=by
 unfold bV at h ⊢
 simp [World.setCell,Array.getElem?_modify,h]
theorem bV.far (h:bV w b vs T) (hne:b≠c) (i:Nat) (u:Value):bV (w.setCell ⟨c,i,none⟩ u) b vs T:=(Below.heap_setCell w ⟨c,i,none⟩ u b hne).trans h
theorem bV.drew (h:bV w b vs T):bV w.drew b vs T:=h
theorem bV.own {α:Type} {R:Reader α} {base B n:Nat} {xs:List α} {cells:List Value} (h:bV w b cells.toArray T) (hf:bg R w B xs cells) (hb:base≤b) (hn:xs.length=n) (hlen:n≤maxLen):am R T w base B (.slice (some ⟨b,0,none⟩) n n) xs:=by
 subst hn
 refine ⟨cells,⟨hf.1,.inr ⟨b,xs.length,cells.toArray,rfl,hb,h,yY _,hlen,?_,?_⟩⟩,hf⟩
 ·simp [hf.1]
 ·simp
  exact List.take_of_length_le (by rw [hf.1];exact yY _)
end
def ListE (w w':World) (l:List Ins) (e:Ending):Prop:=(∃A c,e=.returned (.slice A l.length c)∧am fk 336 w' w.heap.size 0 (.slice A l.length c) l)∧Below w.heap.size w w'
theorem xu (n:Nat) (hn:n≤1000000) (w:World):(Instr.makeSlice 317 (.int .i64 (n:Int)) (.int .i64 (n:Int))).run Tryz.prog w=.ok (.slice (some ⟨w.heap.size,0,none⟩) n n) (w.alloc (.cells (eG (List.replicate n gj)).toArray 336)):=by
 obtain ⟨i0,hi0,hz0,hz1,hz2⟩:=info_parts od
 have hr:=run_make (P:=Tryz.prog) w 317 336 i0 _ Tryz.underlying317 hi0 hz0 .i64 .i64 n n (by omega) (Int.le_refl _) (by rw [hz2];omega) (by omega)
 simp only [Int.toNat_natCast] at hr
 rw [hz1] at hr
 rw [hr,←sA]
 rfl
theorem yP {w:World} {g k:Nat} {l:List Ins} {T:TypeId} (h:bV w g (eG l).toArray T) {i:Ins} {kd a b c d x y:Int} (hi:i=⟨kd,a,b,c,d,x,y⟩) (hk:k<l.length) :
 bV (((((((w.setCell ⟨g,k*7,none⟩ (.int .i64 kd)).setCell ⟨g,k*7+1,none⟩ (.int .u64 a)).setCell ⟨g,k*7+2,none⟩ (.int .u64 b)).setCell ⟨g,k*7+3,none⟩ (.int .u64 c)).setCell ⟨g,k*7+4,none⟩ (.int .u64 d)).setCell ⟨g,k*7+5,none⟩ (.int .i64 x)).setCell ⟨g,k*7+6,none⟩ (.int .i64 y)) g (eG (l.set k i)).toArray T:=by
 have e:=uA l k ⟨kd,a,b,c,d,x,y⟩ hk
 simp only at e
 subst hi
 have:=((((((h.set_ (k*7) (.int .i64 kd)).set_ (k*7+1) (.int .u64 a)).set_ (k*7+2) (.int .u64 b)).set_ (k*7+3) (.int .u64 c)).set_ (k*7+4) (.int .u64 d)).set_ (k*7+5) (.int .i64 x)).set_ (k*7+6) (.int .i64 y)
 simp only [List.setIfInBounds_toArray] at this
 rw [e] at this
 exact this
theorem tL {w w2:World} {B g:Nat} (h:Below B w w2) (hg:B≤g) {i0 i1 i2 i3 i4 i5 i6:Nat} (v0 v1 v2 v3 v4 v5 v6:Value) :
 Below B w (((((((w2.setCell ⟨g,i0,none⟩ v0).setCell ⟨g,i1,none⟩ v1).setCell ⟨g,i2,none⟩ v2).setCell ⟨g,i3,none⟩ v3).setCell ⟨g,i4,none⟩ v4).setCell ⟨g,i5,none⟩ v5).setCell ⟨g,i6,none⟩ v6):=
 ((((((h.setCell (p:=⟨g,i0,none⟩) hg v0).setCell (p:=⟨g,i1,none⟩) hg v1).setCell (p:=⟨g,i2,none⟩) hg v2).setCell (p:=⟨g,i3,none⟩) hg v3).setCell (p:=⟨g,i4,none⟩) hg v4).setCell (p:=⟨g,i5,none⟩) hg v5).setCell (p:=⟨g,i6,none⟩) hg v6
theorem sD {l:List Ins} {k:Nat} {i:Ins} {by_:Int} (h:l[k]? = some i):((aF (l.take k) by_++List.replicate (l.length-k) gj).set k (gN by_ i))=aF (l.take (k+1)) by_++List.replicate (l.length-(k+1)) gj:=by
 obtain ⟨hk,e⟩:=List.getElem?_eq_some_iff.1 h
 have hl:(aF (l.take k) by_).length=k:=by rw [ah,List.length_take];omega
 obtain ⟨m,hm⟩:∃m,l.length-k=m+1:=⟨l.length-k-1,by omega⟩
 have hm2:l.length-(k+1)=m:=by omega
 rw [hm,hm2,List.set_append_right _ _ (by omega),hl,Nat.sub_self,List.replicate_succ,List.set_cons_zero,List.take_succ_eq_append_getElem hk,e]
 simp [aF]
theorem ld {B c:Nat} {l:List Ins} {A:Option Addr} {k0:Int} {w:World} (hl:RL fk w B l A) (hB:B≤w.heap.size) (hn:l.length≤1000000) :
 Calls Tryz.prog 330 #[.slice A l.length c,.int .i64 k0] w fun e w'=>ListE w w' (aF l k0) e:=by
 have HL:=yW hl
 have HN:=yW hn
 have hmk:=fun w=>xu l.length hn w
 clear hl
 go_enter Tryz.func330,Tryz.ntmps330
 go_wp2_with fail
 generalize hW:World.alloc _ _=w1
 obtain ⟨hb,hz⟩:=al1 hW
 have bo:=yW (show bV w1 w.heap.size (eG (List.replicate l.length gj)).toArray 336 from hW▸heap_alloc_new w _)
 have HB1:=yW hb
 clear hW hz hb hmk
 go_loopw [13] (fun i wr=>∃k:Nat,k≤l.length∧i=.int .i64 k∧Hid (Below w.heap.size w wr)∧w.heap.size<wr.heap.size∧Hid (bV wr w.heap.size (eG (aF (l.take k) k0++List.replicate (l.length-k) gj)).toArray 336)) (fun i _=>l.length-(intOf i).toNat)
 case atStart=>exact ⟨0,yZ _,rfl,HB1,bo.out.blk.lt,by simpa [aF] using bo⟩
 case round=>
  obtain ⟨k,hk,rfl,HBW,hsz,HI⟩:=hrel
  by_cases hlt:k<l.length
  ·have HLr:=yW (HL.out.keep HBW.out hB)
   have hBr:B≤wr.heap.size:=by omega
   obtain ⟨b_,off,rfl,hob⟩:=HLr.out.base (za _ _) hBr (by omega)
   obtain ⟨x,vs,hx,hlen,hcell,hr⟩:=HLr.out.at_ (za _ _) hBr hlt
   obtain rfl:vs=jP x:=hr
   have c0:wr.cell? ⟨b_,off+k*7,none⟩=some (.int .i64 x.kind):=hcell 0 _ rfl
   have c1:wr.cell? ⟨b_,off+k*7+1,none⟩=some (.int .u64 x.a):=hcell 1 _ rfl
   have c2:wr.cell? ⟨b_,off+k*7+2,none⟩=some (.int .u64 x.b):=hcell 2 _ rfl
   have c3:wr.cell? ⟨b_,off+k*7+3,none⟩=some (.int .u64 x.c):=hcell 3 _ rfl
   have c4:wr.cell? ⟨b_,off+k*7+4,none⟩=some (.int .u64 x.d):=hcell 4 _ rfl
   have c5:wr.cell? ⟨b_,off+k*7+5,none⟩=some (.int .i64 x.x):=hcell 5 _ rfl
   have c6:wr.cell? ⟨b_,off+k*7+6,none⟩=some (.int .i64 x.y):=hcell 6 _ rfl
   have HX:=yW hx
   have hG:=HI.out.blk.cell
   have fG:=HI.out.blk.free
   have hzk:(aF (l.take k) k0++List.replicate (l.length-k) gj)[k]? = some gj:=by
    have hl:(aF (l.take k) k0).length=k:=by rw [ah,List.length_take];omega
    rw [List.getElem?_append_right (by omega),hl,Nat.sub_self,List.getElem?_replicate,if_pos (by omega)]
   have gz:∀j,j<7→wr.cell? ⟨w.heap.size,k*7+j,none⟩=(jP gj)[j]?:=fun j hj=>(hG (k*7+j)).trans ((List.getElem?_toArray).trans (kJ _ k gj j hzk hj))
   have g0:wr.cell? ⟨w.heap.size,k*7,none⟩=some (.int .i64 0):=gz 0 (by omega)
   have g1:wr.cell? ⟨w.heap.size,k*7+1,none⟩=some (.int .u64 0):=gz 1 (by omega)
   have g2:wr.cell? ⟨w.heap.size,k*7+2,none⟩=some (.int .u64 0):=gz 2 (by omega)
   have g3:wr.cell? ⟨w.heap.size,k*7+3,none⟩=some (.int .u64 0):=gz 3 (by omega)
   have g4:wr.cell? ⟨w.heap.size,k*7+4,none⟩=some (.int .u64 0):=gz 4 (by omega)
   have g5:wr.cell? ⟨w.heap.size,k*7+5,none⟩=some (.int .i64 0):=gz 5 (by omega)
   have g6:wr.cell? ⟨w.heap.size,k*7+6,none⟩=some (.int .i64 0):=gz 6 (by omega)
   have HS:Hid ((aF (l.take k) k0++List.replicate (l.length-k) gj).set k (gN k0 x)=aF (l.take (k+1)) k0++List.replicate (l.length-(k+1)) gj):=yW (sD HX.out)
   have HLN:Hid (k<(aF (l.take k) k0++List.replicate (l.length-k) gj).length):=yW (by rw [List.length_append,ah,List.length_take,List.length_replicate];omega)
   clear hG hzk gz
   generalize aF (l.take k) k0++List.replicate (l.length-k) gj=cur at *
   have hkind:x.kind=2∨x.kind≠2∧x.kind=3∨x.kind≠2∧x.kind≠3:=by omega
   rcases hkind with h2 | ⟨h2,h3⟩ | ⟨h2,h3⟩
   ·have HM:Hid (gN k0 x=⟨x.kind,x.a,x.b,x.c,x.d,wrap64 (x.x+k0),wrap64 (x.y+k0)⟩):=yW (by unfold gN;rw [if_pos h2])
    have hq2:(x.kind==2)=true:=by simpa using h2
    clear h2
    go_wp2_with fail
    go_roundw
    case rel=>
     have hp:=yP HI.out HM.out HLN.out
     rw [HS.out] at hp
     exact ⟨k+1,by omega,by go_num,yW ((tL HBW.out (yY _) _ _ _ _ _ _ _).alloc (by simp only [World.size_setCell];omega) _),by simp only [World.size_setCell,World.size_alloc];omega,yW (hp.later ((za _ _).alloc (yY _) _))⟩
    case measure=>simp [intOf];omega
   ·have HM:Hid (gN k0 x=⟨x.kind,x.a,x.b,x.c,x.d,wrap64 (x.x+k0),x.y⟩):=yW (by unfold gN;rw [if_neg h2,if_pos h3])
    have hq2:(x.kind==2)=false:=by simpa using h2
    have hq3:(x.kind==3)=true:=by simpa using h3
    clear h2 h3
    go_wp2_with fail
    go_roundw
    case rel=>
     have hp:=yP HI.out HM.out HLN.out
     rw [HS.out] at hp
     exact ⟨k+1,by omega,by go_num,yW ((tL HBW.out (yY _) _ _ _ _ _ _ _).alloc (by simp only [World.size_setCell];omega) _),by simp only [World.size_setCell,World.size_alloc];omega,yW (hp.later ((za _ _).alloc (yY _) _))⟩
    case measure=>simp [intOf];omega
   ·have HM:Hid (gN k0 x=x):=yW (by unfold gN;rw [if_neg h2,if_neg h3])
    have hq2:(x.kind==2)=false:=by simpa using h2
    have hq3:(x.kind==3)=false:=by simpa using h3
    clear h2 h3
    go_wp2_with fail
    go_roundw
    case rel=>
     have hp:=yP HI.out HM.out HLN.out
     rw [HS.out] at hp
     exact ⟨k+1,by omega,by go_num,yW ((tL HBW.out (yY _) _ _ _ _ _ _ _).alloc (by simp only [World.size_setCell];omega) _),by simp only [World.size_setCell,World.size_alloc];omega,yW (hp.later ((za _ _).alloc (yY _) _))⟩
    case measure=>simp [intOf];omega
  ·have HE:Hid (aF (l.take k) k0++List.replicate (l.length-k) gj=aF l k0):=yW (by rw [List.take_of_length_le (by omega),show l.length-k=0 by omega];simp)
   rw [HE.out] at HI
   go_wp2_with fail
   go_ret
   have ho:=HI.out.own (R:=fk) (base:=w.heap.size) (B:=0) (mh wr 0 (aF l k0)) (yY _) (ah l k0) (by unfold maxLen;omega)
   refine ⟨⟨some ⟨w.heap.size,0,none⟩,l.length,?_,?_⟩,HBW.out⟩
   ·rw [ah];rfl
   ·rw [ah];exact ho
theorem aq {w W:World} {o:Obj} (h:w.alloc o=W):Below w.heap.size w W:=(al1 h).1
theorem kI {t:Tm} (h:af t=true):if t.kind=7 then t.n=0∧t.s.size=0∧cN t.l=true else t.l=[]:=by
 unfold af fx at h
 rw [Bool.and_eq_true] at h
 by_cases h7:t.kind=7
 ·rw [if_pos h7] at h ⊢
  have h2:=h.2
  simp only [Bool.and_eq_true,decide_eq_true_eq] at h2
  exact ⟨h2.1.1,h2.1.2,h2.2⟩
 ·rw [if_neg h7] at h ⊢
  exact fM h.2
theorem du {l:List Tm} (h:cN l=true):l.length≤16∧∀x∈l,lU x:=by
 unfold cN at h
 rw [Bool.and_eq_true,List.all_eq_true,decide_eq_true_eq] at h
 refine ⟨h.2,fun x hx=>?_⟩
 obtain ⟨i,hi,rfl⟩:=List.getElem_of_mem hx
 have:=h.1 i (List.mem_range.2 hi)
 unfold eN at this
 rw [List.getElem?_eq_getElem hi,List.getElem?_eq_getElem (show 0<l.length by omega),List.getElem?_eq_getElem (show i-1<l.length by omega)] at this
 simp only [Bool.and_eq_true] at this
 exact fM this.1.1.1
theorem am.form' {w:World} {base n:Nat} {v:Value} {xs:List Ins} (h:am fk 336 w base 0 v xs) (hn:xs.length=n):∃A c,v=.slice A n c:=by
 subst hn
 exact h.form
theorem am.rows {w:World} {base n c:Nat} {A:Option Addr} {xs:List Ins} (h:am fk 336 w base 0 (.slice A n c) xs) (hn:xs.length≤1000000):RL fk w w.heap.size xs A:=by
 obtain ⟨A3,c3,e3,r1,r2,r3⟩:=h.reads (yZ _) (by show xs.length*(8*7)≤_;omega)
 simp only [Value.slice.injEq] at e3
 obtain ⟨rfl,_,rfl⟩:=e3
 exact r3
theorem am.low {w:World} {base b0:Nat} {v:Value} {xs:List Ins} (h:am fk 336 w base 0 v xs) (hb:b0≤base):am fk 336 w b0 0 v xs:=by
 obtain ⟨cells,h,hf⟩:=h
 refine ⟨cells,⟨h.1,?_⟩,hf⟩
 rcases h.2 with h2 | ⟨g,cap,cur,hv,hg,r⟩
 ·exact .inl h2
 ·exact .inr ⟨g,cap,cur,hv,yX hb hg,r⟩
theorem am.srcn {w:World} {base n c:Nat} {A:Option Addr} {xs:List Ins} (h:am fk 336 w base 0 (.slice A n c) xs):fl fk w 0 A xs:=by
 obtain ⟨_,_,e⟩:=h.form
 simp only [Value.slice.injEq] at e
 obtain ⟨rfl,rfl,rfl⟩:=e
 exact h.src
theorem fT {w W:World} {i:Ins} {base:Nat} {o:Obj} (h:w.alloc o=W) (ho:o=.cells (jP i).toArray 336) (hb:base≤w.heap.size):am fk 336 W base 0 (.slice (some ⟨w.heap.size,0,none⟩) 1 1) [i]:=by
 subst ho
 have hB:bV W w.heap.size (jP i).toArray 336:=h▸heap_alloc_new w _
 exact hB.own (R:=fk) (xs:=[i]) (bg.one rfl) hb rfl (by unfold maxLen;omega)
theorem rU {B c1 c2:Nat} {l1 l2:List Ins} {A1 A2:Option Addr} {w:World} (h1:RL fk w B l1 A1) (h2:RL fk w B l2 A2) (hB:B≤w.heap.size) (hn1:l1.length≤100000) (hn2:l2.length≤100000) :
 Calls Tryz.prog 328 #[.slice A1 l1.length c1,.slice A2 l2.length c2] w fun e w'=>ListE w w' (gV l1 l2) e:=by
 obtain ⟨i0,hi0,hz0,hz1,hz2⟩:=info_parts od
 have H1:=yW h1
 have H2:=yW h2
 clear h1 h2
 go_enter Tryz.func328,Tryz.ntmps328
 go_wp2_with fail
 generalize hW:World.alloc _ _=w1
 obtain ⟨hb,hz⟩:=al1 hW
 have HO:=yW (fT (i:=bu 1 (l1.length+2)) hW rfl (yY _))
 have HB1:=yW hb
 clear hW hz hb
 refine (ld (B:=B) (H1.out.keep HB1.out hB) (yX hB HB1.out.size) (by omega)).mono ?_
 rintro e w2 ⟨⟨A3,c3,rfl,ho⟩,hb⟩
 rw [ah]
 have HB2:=yW (ab HB1.out hb)
 have HO2:=yW (HO.out.later hb (yZ _))
 have HS2:=yW ho.src
 clear ho hb
 go_upto_region 3 with ((
  at_builtin
  refine av (R:=fk) (e:=336) (base:=w.heap.size) (B:=0) (xs:=[bu 1 (l1.length+2)]) (ys:=aF l1 1) rfl (.tmp 12) (.tmp 14) 317 rfl (bytes:=56) Tryz.underlying317 hi0 hz0 hz1 hz2 rfl (show 0<7 by omega) cP rfl HO2.out rfl HS2.out (ah l1 1).symm (yZ _) (by rw [ah];simp only [List.length_cons,List.length_nil];omega) (by omega) (HB2.out.size) ?_
  intro v w3 hown hb
  obtain ⟨A4,c4,rfl⟩:=hown.form' (show _=l1.length+1 by simp [ah])
  have HOW:=yW hown
  have HBW:=yW hb
  clear hown hb))
 have HB3:=yW (HB2.out.trans HBW.out)
 have HJ4:=yW (And.intro (HOW.out.later (aq (w:=w3) (o:=.cells #[.int .i64 3,.int .u64 0,.int .u64 0,.int .u64 0,.int .u64 0,.int .i64 ((l1.length:Int)+2+l2.length),.int .i64 0] 336) rfl) (yZ _)) (am.src (xs:=[iA (l1.length+2+l2.length)]) (fT (w:=w3) (i:=iA (l1.length+2+l2.length)) (base:=w.heap.size) (o:=.cells #[.int .i64 3,.int .u64 0,.int .u64 0,.int .u64 0,.int .u64 0,.int .i64 ((l1.length:Int)+2+l2.length),.int .i64 0] 336) rfl rfl HB3.out.size)))
 clear HOW HBW
 go_upto_region 4 with ((
  at_builtin
  refine av (R:=fk) (e:=336) (base:=w.heap.size) (B:=0) (xs:=[bu 1 (l1.length+2)]++aF l1 1) (ys:=[iA (l1.length+2+l2.length)]) rfl (.tmp 16) (.tmp 23) 317 rfl (bytes:=56) Tryz.underlying317 hi0 hz0 hz1 hz2 rfl (show 0<7 by omega) cP rfl HJ4.out.1 rfl HJ4.out.2 rfl (yZ _) (by rw [List.length_append,ah];simp only [List.length_cons,List.length_nil];omega) (by omega) ((by rw [World.size_alloc];have:=HB3.out.size;omega)) ?_
  intro v w4 hown hb
  obtain ⟨A5,c5,rfl⟩:=hown.form' (show _=l1.length+2 by simp [ah])
  have HOW:=yW hown
  have HBW:=yW hb
  clear hown hb))
 have HB4:=yW ((HB3.out.alloc HB3.out.size (.cells #[.int .i64 3,.int .u64 0,.int .u64 0,.int .u64 0,.int .u64 0,.int .i64 ((l1.length:Int)+2+l2.length),.int .i64 0] 336)).trans HBW.out)
 have HO4:=yW HOW.out
 clear HOW HBW HJ4
 go_wp2_with fail
 refine (ld (B:=B) (H2.out.keep HB4.out hB) (yX hB HB4.out.size) (by omega)).mono ?_
 rintro e w5 ⟨⟨A6,c6,rfl,ho⟩,hb⟩
 rw [ah]
 have HB5:=yW (ab HB4.out hb)
 have HO5:=yW (HO4.out.later hb (yZ _))
 have HS5:=yW ho.srcn
 clear ho hb
 go_wp2_with ((
  at_builtin
  refine av (R:=fk) (e:=336) (base:=w.heap.size) (B:=0) (xs:=[bu 1 (l1.length+2)]++aF l1 1++[iA (l1.length+2+l2.length)]) (ys:=aF l2 (l1.length+2)) rfl (.tmp 25) (.tmp 29) 317 rfl (bytes:=56) Tryz.underlying317 hi0 hz0 hz1 hz2 rfl (show 0<7 by omega) cP rfl HO5.out rfl HS5.out (ah l2 _).symm (yZ _) (by simp only [List.length_append,ah,List.length_cons,List.length_nil];omega) (by omega) (HB5.out.size) ?_
  intro v w6 hown hb
  obtain ⟨A7,c7,rfl⟩:=hown.form' (show _=(gV l1 l2).length from rfl)
  have HOW:=yW hown
  have HBW:=yW hb
  clear hown hb))
 go_ret
 exact ⟨⟨A7,c7,rfl,HOW.out⟩,HB5.out.trans HBW.out⟩
end Go.Proofs.YtdphibjibnffeaaGreat
