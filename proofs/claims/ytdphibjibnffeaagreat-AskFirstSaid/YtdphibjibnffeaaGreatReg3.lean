/- regex.either. -/
import Derived.Test.YtdphibjibnffeaaGreatReg1
import Derived.Test.YtdphibjibnffeaaGreatOwn
import Derived.Test.YtdphibjibnffeaaGreatHeap1
import Derived.Laws.MakeOwn
import Derived.Test.YtdphibjibnffeaaGreatFixP
import Derived.Deep.Cut
import Derived.Deep.CutRange
import Derived.Deep.LoopGhost
set_option linter.unusedVariables false
set_option linter.unusedSimpArgs false
set_option maxRecDepth 100000
set_option maxHeartbeats 8000000
namespace Go.Proofs.YtdphibjibnffeaaGreat
open Go.ChangeShapes Go.WideShapes Go.ChangeAt Go.RowKit
def bv (s:ByteArray) (p:PS):Nat:=if p.e=0 then s.size-p.at_ else 0
theorem jG (s:ByteArray) (p:PS):bv s p≤s.size:=by unfold bv;split<;>omega
theorem ep (s:ByteArray) (p:PS):bH s p=decide (bv s p=0):=by
 unfold bH bv
 by_cases h:p.e=0
 ·simp [h];omega
 ·simp [h]
theorem jV {s:ByteArray} {p:PS} {e:Int} (he:e≠0):bv s (aX p e)=0:=by
 unfold aX bv
 by_cases h:p.e=0
 ·simp [h,he]
 ·simp [h]
theorem jc (p:PS) (e:Int):(aX p e).at_=p.at_:=by unfold aX;split<;>rfl
theorem kE (p:PS) (e:Int):(aX p e).deep=p.deep:=by unfold aX;split<;>rfl
theorem fail_e {p:PS} {e:Int} (he:e≠0):(aX p e).e≠0:=by unfold aX;split<;>simp_all
structure Less (s:ByteArray) (d:Nat) (p q:PS):Prop where
 rem:bv s q+d≤bv s p∨d≠0∧bv s p=0∧bv s q=0
 deep:q.deep=p.deep
 at_:p.at_≤s.size→q.at_≤s.size
 up:p.at_≤q.at_
theorem Less.refl (s:ByteArray) (p:PS):Less s 0 p p:=⟨.inl (zn _),rfl,id,zn _⟩
theorem Less.zero {s:ByteArray} {d:Nat} {p q:PS} (h:Less s d p q):Less s 0 p q:=⟨.inl (by rcases h.rem with h | ⟨_,h,k⟩<;>omega),h.deep,h.at_,h.up⟩
theorem Less.le {s:ByteArray} {d:Nat} {p q:PS} (h:Less s d p q):bv s q≤bv s p:=by rcases h.rem with h | ⟨_,h,k⟩<;>omega
theorem Less.trans {s:ByteArray} {p q r:PS} (h:Less s 0 p q) (k:Less s 0 q r):Less s 0 p r:=⟨.inl (by have:=h.le;have:=k.le;omega),k.deep.trans h.deep,fun x=>k.at_ (h.at_ x),zm h.up k.up⟩
theorem Less.one {s:ByteArray} {p q r:PS} (h:Less s 1 p q) (k:Less s 0 q r):Less s 1 p r:=⟨by have:=k.le;rcases h.rem with h | ⟨_,h,k⟩<;>omega,k.deep.trans h.deep,fun x=>k.at_ (h.at_ x),zm h.up k.up⟩
theorem Less.fail {s:ByteArray} {d:Nat} {p q:PS} {e:Int} (h:Less s d p q) (he:e≠0):Less s d p (aX q e):=
 ⟨by rw [jV he];rcases h.rem with h | ⟨_,h,k⟩<;>omega,by rw [kE,h.deep],by rw [jc];exact h.at_,by rw [jc];exact h.up⟩
theorem Less.failed {s:ByteArray} {p:PS} {e:Int} (he:e≠0):Less s 1 p (aX p e):=
 ⟨by rw [jV he];omega,by rw [kE],by rw [jc];exact id,by rw [jc];exact zn _⟩
theorem Less.stepped {s:ByteArray} {p:PS} (h:bH s p=false):Less s 1 p p.step:=by
 rw [ep] at h
 have h:bv s p≠0:=by simpa using h
 unfold bv at h
 refine ⟨.inl ?_,rfl,fun hx=>?_,by simp [PS.step]⟩
 ·unfold bv PS.step
  split at h
  ·rename_i he
   simp [he]
   omega
  ·exact absurd rfl h
 ·unfold PS.step
  split at h
  ·simp;omega
  ·exact absurd rfl h
theorem kV {s:ByteArray} {p:PS} {c:Nat} (h:isP s p c=true):bH s p=false:=by
 unfold isP at h
 rw [Bool.and_eq_true] at h
 simpa using h.1
theorem Less.byte {s:ByteArray} {p:PS} {c:Nat} (h:isP s p c=true):Less s 1 p p.step:=Less.stepped (kV h)
theorem cN (s:ByteArray) (p:PS):Less s 1 p (aC s p).2:=by
 unfold aC
 rcases Bool.eq_false_or_eq_true (bH s p) with h | h
 ·rw [if_pos h];exact Less.failed (by decide)
 ·rw [if_neg (by rw [h];simp)];exact Less.stepped h
theorem byte_lt (s:ByteArray) (k:Nat):bV s k<256:=by
 unfold bV
 rcases (bs s)[k]? with _ | b
 ·simp
 ·simp;exact b.toNat_lt
theorem qn (s:ByteArray) (p:PS):(aC s p).1<256:=by
 unfold aC
 split
 ·simp
 ·exact byte_lt _ _
theorem dU (s:ByteArray) (p:PS):Less s 1 p (aK s p).2:=by
 unfold aK
 simp only
 split
 ·exact (cN s p).one (cN s _).zero
 ·exact cN s p
theorem oD (s:ByteArray) (p:PS):(aK s p).1<256:=by
 unfold aK
 simp only
 split<;>exact qn _ _
theorem ph (s:ByteArray) (p:PS):Less s 1 p (eR s p).2:=by
 unfold eR
 simp only
 split
 ·rename_i h
  rw [Bool.and_eq_true] at h
  exact ((dU s p).one (Less.byte h.1).zero).one (dU s _).zero
 ·exact dU s p
theorem fI (s:ByteArray):∀n p i,Less s 0 p (bf s n p i).2
 | 0,p,i=>Less.refl s p
 | n+1,p,i=>by
   unfold bf
   split
   ·simp only
    refine Less.trans ?_ (fI s n _ _)
    split
    ·exact ((ph s p).fail (by decide)).zero
    ·exact (ph s p).zero
   ·exact Less.refl s p
theorem rW (s:ByteArray) (p:PS):Less s 0 p (dK s p).2:=by
 unfold dK
 simp only
 have h1:Less s 0 p (if isP s p 94=true then p.step else p):=by
  split
  ·rename_i h;exact (Less.byte h).zero
  ·exact Less.refl s p
 have h2:∀q:PS,Less s 0 p q→Less s 0 p (if isP s q 93=true then aX q 3 else q):=by
  intro q hq
  split
  ·exact hq.fail (by decide)
  ·exact hq
 exact (((h2 _ h1).trans (fI s _ _ _)).trans (cN s _).zero)
structure Made (s:ByteArray) (d:Nat) (p:PS) (r:List Ins × PS):Prop where
 less:Less s 0 p r.2
 one:bv s p≠0→bv s r.2+d≤bv s p
 len:r.1.length+2*bv s r.2≤2*bv s p
theorem af (l:List Ins) (k:Int):(aE l k).length=l.length:=by simp [aE]
theorem Less.lt {s:ByteArray} {p q:PS} (h:Less s 1 p q) (hp:bv s p≠0):bv s q+1≤bv s p:=by rcases h.rem with h | ⟨_,h,k⟩<;>omega
theorem fd (s:ByteArray):∀n,(∀p,Made s 0 p (qp s n p))∧(∀p out,Less s 0 p (jo s n p out).2∧(jo s n p out).1.length+2*bv s (jo s n p out).2≤out.length+2*bv s p)∧(∀p,bv s p≠0→Made s (if n≤1 then 0 else 1) p (eN s n p))∧(∀p,bv s p≠0→Made s (if n=0 then 0 else 1) p (fE s n p)):=by
 intro n
 induction n with
 | zero=>
   refine ⟨fun p=>⟨Less.refl s p,fun _=>by simp [qp],by simp [qp]⟩,fun p out=>⟨Less.refl s p,by simp [jo]⟩,fun p _=>⟨Less.refl s p,fun _=>by simp [eN],by simp [eN]⟩,fun p _=>⟨Less.refl s p,fun _=>by simp [fE],by simp [fE]⟩⟩
 | succ n ih=>
   obtain ⟨ihp,ihr,ihc,iha⟩:=ih
   refine ⟨fun p=>?_,fun p out=>?_,fun p hp=>?_,fun p hp=>?_⟩
   ·unfold qp
    simp only
    obtain ⟨h1,h2⟩:=ihr p []
    split
    ·rename_i hb
     have hs:=Less.byte hb
     have hne:bv s (jo s n p []).2≠0:=by
      have:=kV hb
      rw [ep] at this
      simpa using this
     have h3:=ihp (jo s n p []).2.step
     have h4:=hs.lt hne
     have h5:=h3.len
     have h6:=h3.less.le
     have h7:=h1.le
     refine ⟨(h1.trans hs.zero).trans h3.less,fun _=>by simp only;omega,?_⟩
     simp only [hI,List.length_append,af,List.length_cons,List.length_nil] at h2 ⊢
     omega
    ·refine ⟨h1,fun _=>h1.le,?_⟩
     simpa using h2
   ·unfold jo
    split
    ·rename_i hc
     have hne:bv s p≠0:=by
      rw [Bool.and_eq_true] at hc
      have:=hc.1
      rw [ep] at this
      simpa using this
     have h1:=ihc p hne
     have h2:=ihr (eN s n p).2 (out++aE (eN s n p).1 out.length)
     refine ⟨h1.less.trans h2.1,?_⟩
     have h3:=h2.2
     rw [List.length_append,af] at h3
     have h4:=h1.len
     simp only
     omega
    ·exact ⟨Less.refl s p,by simp⟩
   ·unfold eN
    simp only
    have h1:=iha p hp
    have hd:(if n+1≤1 then 0 else 1)=(if n=0 then 0 else 1):=by by_cases h:n=0<;>simp [h]
    rw [hd]
    generalize (if n=0 then 0 else 1)=dd at *
    have hb:∀c,isP s (fE s n p).2 c=true→Less s 1 (fE s n p).2 (fE s n p).2.step∧bv s (fE s n p).2.step+1≤bv s (fE s n p).2:=by
     intro c hc
     refine ⟨Less.byte hc,(Less.byte hc).lt ?_⟩
     have:=kV hc
     rw [ep] at this
     simpa using this
    have hl:=h1.len
    have ho:=h1.one hp
    split
    ·rename_i hc
     obtain ⟨h2,h3⟩:=hb _ hc
     exact ⟨h1.less.trans h2.zero,fun _=>by simp only;omega,by simp [af];omega⟩
    ·split
     ·rename_i hc
      obtain ⟨h2,h3⟩:=hb _ hc
      exact ⟨h1.less.trans h2.zero,fun _=>by simp only;omega,by simp [af];omega⟩
     ·split
      ·rename_i hc
       obtain ⟨h2,h3⟩:=hb _ hc
       exact ⟨h1.less.trans h2.zero,fun _=>by simp only;omega,by simp [af];omega⟩
      ·exact h1
   ·rw [if_neg (by omega)]
    unfold fE
    simp only
    have h1:=cN s p
    have h2:=h1.lt hp
    have leaf:∀(i:Ins) (q:PS),Less s 0 (aC s p).2 q→Made s 1 p ([i],q):=by
     intro i q hq
     have:=hq.le
     exact ⟨h1.zero.trans hq,fun _=>by simp only;omega,by simp;omega⟩
    split
    ·rename_i hc
     split
     ·have h3:=jV (s:=s) (p:=(aC s p).2) (e:=4) (by decide)
      exact ⟨(h1.fail (by decide)).zero,fun _=>by simp only;omega,by simp [h3]⟩
     ·have h3:=ihp ⟨(aC s p).2.at_,(aC s p).2.deep+1,(aC s p).2.e⟩
      generalize hq:qp s n ⟨(aC s p).2.at_,(aC s p).2.deep+1,(aC s p).2.e⟩=q at *
      have h4:=cN s q.2
      generalize hz:aC s q.2=z at *
      have hr:bv s ⟨(aC s p).2.at_,(aC s p).2.deep+1,(aC s p).2.e⟩=bv s (aC s p).2:=rfl
      have h5:=h3.less.le
      have h6:=h3.len
      have h7:=h4.le
      have hdp:q.2.deep=(aC s p).2.deep+1:=h3.less.deep
      have hdz:z.2.deep=q.2.deep:=h4.deep
      have hkey:∀f:PS,Less s 0 z.2 f→Made s 1 p (q.1,⟨f.at_,f.deep-1,f.e⟩):=by
       intro f hf
       have hrf:bv s ⟨f.at_,f.deep-1,f.e⟩=bv s f:=rfl
       have h8:=hf.le
       refine ⟨⟨.inl (by simp only;rw [hrf];omega),?_,?_,?_⟩,fun _=>by simp only;rw [hrf];omega,by simp only;rw [hrf];omega⟩
       ·have:=hf.deep;have:=h1.deep;simp only;omega
       ·exact fun hx=>hf.at_ (h4.at_ (h3.less.at_ (h1.at_ hx)))
       ·exact zm h1.up (zm h3.less.up (zm h4.up hf.up))
      refine hkey _ ?_
      split
      ·exact (Less.refl s _).fail (by decide)
      ·exact Less.refl s _
    ·split
     ·exact leaf _ _ (rW s _)
     ·split
      ·exact leaf _ _ (Less.refl s _)
      ·split
       ·exact leaf _ _ (Less.refl s _)
       ·split
        ·exact leaf _ _ (Less.refl s _)
        ·split
         ·exact leaf _ _ (cN s _).zero
         ·split
          ·exact leaf _ _ ((Less.refl s _).fail (by decide))
          ·exact leaf _ _ (Less.refl s _)
theorem iN (s:ByteArray) (n:Nat) (p:PS):Made s 0 p (qp s n p):=(fd s n).1 p
theorem ya (s:ByteArray) (n:Nat) (p:PS) (out:List Ins):Less s 0 p (jo s n p out).2∧(jo s n p out).1.length+2*bv s (jo s n p out).2≤out.length+2*bv s p:=(fd s n).2.1 p out
theorem sL (s:ByteArray) (n:Nat) (p:PS) (hp:bv s p≠0) (hn:2≤n):Made s 1 p (eN s n p):=by
 have:=(fd s n).2.2.1 p hp
 rwa [if_neg (by omega)] at this
theorem tK (s:ByteArray) (n:Nat) (p:PS) (hp:bv s p≠0) (hn:1≤n):Made s 1 p (fE s n p):=by
 have:=(fd s n).2.2.2 p hp
 rwa [if_neg (by omega)] at this
section
variable {α:Type} {R:Reader α} {e:TypeId} {w:World} {base B:Nat} {v:Value} {xs:List α} {A:Option Addr} {c:Nat}
theorem qU (b off j:Nat):(⟨b,off,none⟩:Addr).add j=⟨b,off+j,none⟩:=by
 unfold Addr.add
 split
 ·rename_i h;subst h;rfl
 ·rfl
theorem aq.src (h:aq R e w base B (.slice A xs.length c) xs):fq R w B A xs:=by
 obtain ⟨cells,h,hf⟩:=h
 rcases h.2 with ⟨h1,h2⟩ | ⟨g,cap,cur,hv,hg,hh,k1,k2,k3,k4⟩
 ·have:xs=[]:=List.eq_nil_of_length_eq_zero h2
  subst this
  refine ⟨[],bi.nil,fun _=>rfl,fun a _ j u hu=>by simp at hu⟩
 ·simp only [Value.slice.injEq] at hv
  obtain ⟨rfl,_,rfl⟩:=hv
  refine ⟨cells,hf,fun e=>(by cases e),fun a ha j u hu=>?_⟩
  simp only [Option.some.injEq] at ha
  subst ha
  rw [←k4,List.getElem?_take] at hu
  split at hu
  ·rw [qU]
   show w.cell? ⟨g,0+j,none⟩=_
   rw [cell_of_row w g _ cur e (0,0) hh,Nat.zero_add]
   simpa using hu
  ·cases hu
theorem bi.take {news:List Value} (h:bi R w B xs news) (k:Nat):bi R w B (xs.take k) (news.take (k*R.k)):=by
 refine ⟨?_,fun i hi=>?_⟩
 ·rw [List.length_take,List.length_take,h.1]
  rcases Nat.le_total k xs.length with hk | hk
  ·rw [Nat.min_eq_left hk,Nat.min_eq_left (Nat.mul_le_mul_right _ hk)]
  ·rw [Nat.min_eq_right hk,Nat.min_eq_right (Nat.mul_le_mul_right _ hk)]
 ·rw [List.length_take] at hi
  have hik:i<k:=by omega
  have h1:(i+1)*R.k≤k*R.k:=Nat.mul_le_mul_right _ hik
  rw [Nat.add_mul,Nat.one_mul] at h1
  have:=h.2 i (by omega)
  rw [List.getElem_take,List.drop_take,List.take_take,Nat.min_eq_left (by omega)]
  exact this
theorem bi.drop {news:List Value} (h:bi R w B xs news) (k:Nat):bi R w B (xs.drop k) (news.drop (k*R.k)):=by
 refine ⟨?_,fun i hi=>?_⟩
 ·rw [List.length_drop,List.length_drop,h.1,Nat.sub_mul]
 ·rw [List.length_drop] at hi
  have:=h.2 (k+i) (by omega)
  rw [List.getElem_drop,List.drop_drop]
  rw [show k*R.k+i*R.k=(k+i)*R.k by rw [Nat.add_mul]]
  exact this
theorem fq.take (h:fq R w B A xs) (k:Nat):fq R w B A (xs.take k):=by
 obtain ⟨cells,hf,h1,h2⟩:=h
 refine ⟨_,hf.take k,fun e=>(by rw [h1 e];simp),fun a ha j u hu=>?_⟩
 rw [List.getElem?_take] at hu
 split at hu
 ·exact h2 a ha j u hu
 ·cases hu
theorem fq.drop {b off:Nat} (h:fq R w B (some ⟨b,off,none⟩) xs) (k:Nat):fq R w B (some ⟨b,off+k*R.k,none⟩) (xs.drop k):=by
 obtain ⟨cells,hf,h1,h2⟩:=h
 refine ⟨_,hf.drop k,fun e=>(by cases e),fun a ha j u hu=>?_⟩
 rw [List.getElem?_drop] at hu
 simp only [Option.some.injEq] at ha
 subst ha
 have:=h2 _ rfl _ _ hu
 rw [qU] at this ⊢
 rw [Nat.add_assoc];exact this
theorem fq.none {A:Option Addr} {ys:List α} (h:ys=[]):fq R w B A ys:=by
 subst h;exact ⟨[],bi.nil,fun _=>rfl,fun a _ j u hu=>by simp at hu⟩
end
section
variable {α:Type} {c:α→α→Int} {t:α}
end
def jR (i:Ins):List Value:=[.int .i64 i.kind,.int .u64 i.a,.int .u64 i.b,.int .u64 i.c,.int .u64 i.d,.int .i64 i.x,.int .i64 i.y]
def fp:Reader Ins where
 k:=7
 rd:=fun _ _ i vs=>vs=jR i
 keep:=fun _ _ h=>h
 wide:=fun _ h=>h
 len:=fun h=>by subst h;rfl
theorem cR:dB fp:=fun {w B x vs} h u hu=>by
 obtain rfl:vs=jR x:=h
 simp only [jR,List.mem_cons,List.not_mem_nil,or_false] at hu
 rcases hu with rfl | rfl | rfl | rfl | rfl | rfl | rfl<;>rfl
theorem ol:(Tryz.prog.info? 336).map (fun i=>(i.zero,i.size,i.bytes))=some (some (.agg #[.int .i64 0,.int .u64 0,.int .u64 0,.int .u64 0,.int .u64 0,.int .i64 0,.int .i64 0]),7,56):=by kernel_rfl
def eF:List Ins→List Value
 | []=>[]
 | i::l=>jR i++eF l
theorem jE:∀l:List Ins,(eF l).length=l.length*7
 | []=>rfl
 | i::l=>by simp [eF,jE l,jR];omega
theorem kL:∀(l:List Ins) (k:Nat) (i:Ins) (j:Nat),l[k]? = some i→j<7→(eF l)[k*7+j]? = (jR i)[j]?
 | [],k,i,j,h,_=>by simp at h
 | a::l,0,i,j,h,hj=>by
   simp only [List.getElem?_cons_zero,Option.some.injEq] at h
   subst h
   rw [eF,List.getElem?_append_left (by simp [jR];omega)]
   simp
 | a::l,k+1,i,j,h,hj=>by
   rw [eF,List.getElem?_append_right (by simp [jR];omega)]
   have e:(k+1)*7+j-(jR a).length=k*7+j:=by simp [jR];omega
   rw [e]
   exact kL l k i j (by simpa using h) hj
theorem ml (w:World) (B:Nat):∀l:List Ins,bi fp w B l (eF l)
 | []=>bi.nil
 | i::l=>bi.append (xs:=[i]) (bi.one (R:=fp) rfl) (ml w B l)
theorem uL (l:List Ins) (k:Nat) (i:Ins) (hk:k<l.length) :
 (((((((eF l).set (k*7) (.int .i64 i.kind)).set (k*7+1) (.int .u64 i.a)).set (k*7+2) (.int .u64 i.b)).set (k*7+3) (.int .u64 i.c)).set (k*7+4) (.int .u64 i.d)).set (k*7+5) (.int .i64 i.x)).set (k*7+6) (.int .i64 i.y)=eF (l.set k i):=by
 induction l generalizing k with
 | nil=>simp at hk
 | cons a l ih=>
   cases k with
   | zero=>simp [eF,jR]
   | succ k=>
     have:=ih k (by simpa using hk)
     rw [List.set_cons_succ,eF,eF,←this]
     have e:∀(j:Nat) (v:Value) (m:List Value),(jR a++m).set ((k+1)*7+j) v=jR a++m.set (k*7+j) v:=by
      intro j v m
      rw [List.set_append_right _ _ (by simp [jR];omega)]
      congr 2
      simp [jR];omega
     have e0:=e 0
     simp only [Nat.add_zero] at e0
     rw [e0,e,e,e,e,e,e]
def gm:Ins:=⟨0,0,0,0,0,0,0⟩
theorem sE (n:Nat):madeCells #[.int .i64 0,.int .u64 0,.int .u64 0,.int .u64 0,.int .u64 0,.int .i64 0,.int .i64 0] (n*7)=(eF (List.replicate n gm)).toArray:=by
 apply Array.ext'
 apply List.ext_getElem?
 intro q
 by_cases hq:q<n*7
 ·have h1:(eF (List.replicate n gm))[q / 7*7+q % 7]? = (jR gm)[q % 7]?:=kL _ _ _ _ (by rw [List.getElem?_replicate,if_pos (by omega)]) (by omega)
  have e:q / 7*7+q % 7=q:=by omega
  rw [e] at h1
  rw [h1]
  have h2:q % 7=0∨q % 7=1∨q % 7=2∨q % 7=3∨q % 7=4∨q % 7=5∨q % 7=6:=by omega
  have h3:(madeCells #[.int .i64 0,.int .u64 0,.int .u64 0,.int .u64 0,.int .u64 0,.int .i64 0,.int .i64 0] (n*7)).toList[q]? = some ((#[.int .i64 0,.int .u64 0,.int .u64 0,.int .u64 0,.int .u64 0,.int .i64 0,.int .i64 0]:Array Value)[q % 7]!):=by
   have hs:q<(madeCells #[.int .i64 0,.int .u64 0,.int .u64 0,.int .u64 0,.int .u64 0,.int .i64 0,.int .i64 0] (n*7)).toList.length:=by rw [Array.length_toList,size_madeCells];exact hq
   rw [List.getElem?_eq_getElem hs]
   simp [madeCells]
  rw [h3]
  rcases h2 with h | h | h | h | h | h | h<;>(rw [h];rfl)
 ·rw [List.getElem?_eq_none (by rw [Array.length_toList,size_madeCells];omega),List.getElem?_eq_none (by show (eF _).length≤q;rw [jE];simp;omega)]
def bU (w:World) (b:Nat) (vs:Array Value) (T:TypeId):Prop:=w.heap[b]? = some (.cells vs T (0,0))
section
variable {w w':World} {b c:Nat} {vs:Array Value} {T:TypeId}
theorem bU.blk (h:bU w b vs T):Blk w b vs:=⟨T,h⟩
theorem bU.keep {B:Nat} (h:bU w b vs T) (hb:Below B w w') (hB:b<B):bU w' b vs T:=(hb.block b hB).trans h
theorem bU.later (h:bU w b vs T) (hb:Below w.heap.size w w'):bU w' b vs T:=h.keep hb h.blk.lt
theorem bU.set_ (h:bU w b vs T) (i:Nat) (u:Value):bU (w.setCell ⟨b,i,none⟩ u) b (vs.setIfInBounds i u) T:=by
 unfold bU at h ⊢
 simp [World.setCell,Array.getElem?_modify,h]
theorem bU.far (h:bU w b vs T) (hne:b≠c) (i:Nat) (u:Value):bU (w.setCell ⟨c,i,none⟩ u) b vs T:=(Below.heap_setCell w ⟨c,i,none⟩ u b hne).trans h
theorem bU.drew (h:bU w b vs T):bU w.drew b vs T:=h
theorem bU.own {α:Type} {R:Reader α} {base B n:Nat} {xs:List α} {cells:List Value} (h:bU w b cells.toArray T) (hf:bi R w B xs cells) (hb:base≤b) (hn:xs.length=n) (hlen:n≤maxLen):aq R T w base B (.slice (some ⟨b,0,none⟩) n n) xs:=by
 subst hn
 refine ⟨cells,⟨hf.1,.inr ⟨b,xs.length,cells.toArray,rfl,hb,h,zn _,hlen,?_,?_⟩⟩,hf⟩
 ·simp [hf.1]
 ·simp
  exact List.take_of_length_le (by rw [hf.1];exact zn _)
end
def ListE (w w':World) (l:List Ins) (e:Ending):Prop:=(∃A c,e=.returned (.slice A l.length c)∧aq fp 336 w' w.heap.size 0 (.slice A l.length c) l)∧Below w.heap.size w w'
theorem xF (n:Nat) (hn:n≤1000000) (w:World):(Instr.makeSlice 317 (.int .i64 (n:Int)) (.int .i64 (n:Int))).run Tryz.prog w=.ok (.slice (some ⟨w.heap.size,0,none⟩) n n) (w.alloc (.cells (eF (List.replicate n gm)).toArray 336)):=by
 obtain ⟨i0,hi0,hz0,hz1,hz2⟩:=info_parts ol
 have hr:=run_make (P:=Tryz.prog) w 317 336 i0 _ Tryz.underlying317 hi0 hz0 .i64 .i64 n n (by omega) (Int.le_refl _) (by rw [hz2];omega) (by omega)
 simp only [Int.toNat_natCast] at hr
 rw [hz1] at hr
 rw [hr,←sE]
 rfl
theorem zc {w:World} {g k:Nat} {l:List Ins} {T:TypeId} (h:bU w g (eF l).toArray T) {i:Ins} {kd a b c d x y:Int} (hi:i=⟨kd,a,b,c,d,x,y⟩) (hk:k<l.length) :
 bU (((((((w.setCell ⟨g,k*7,none⟩ (.int .i64 kd)).setCell ⟨g,k*7+1,none⟩ (.int .u64 a)).setCell ⟨g,k*7+2,none⟩ (.int .u64 b)).setCell ⟨g,k*7+3,none⟩ (.int .u64 c)).setCell ⟨g,k*7+4,none⟩ (.int .u64 d)).setCell ⟨g,k*7+5,none⟩ (.int .i64 x)).setCell ⟨g,k*7+6,none⟩ (.int .i64 y)) g (eF (l.set k i)).toArray T:=by
 have e:=uL l k ⟨kd,a,b,c,d,x,y⟩ hk
 simp only at e
 subst hi
 have:=((((((h.set_ (k*7) (.int .i64 kd)).set_ (k*7+1) (.int .u64 a)).set_ (k*7+2) (.int .u64 b)).set_ (k*7+3) (.int .u64 c)).set_ (k*7+4) (.int .u64 d)).set_ (k*7+5) (.int .i64 x)).set_ (k*7+6) (.int .i64 y)
 simp only [List.setIfInBounds_toArray] at this
 rw [e] at this
 exact this
theorem tT {w w2:World} {B g:Nat} (h:Below B w w2) (hg:B≤g) {i0 i1 i2 i3 i4 i5 i6:Nat} (v0 v1 v2 v3 v4 v5 v6:Value) :
 Below B w (((((((w2.setCell ⟨g,i0,none⟩ v0).setCell ⟨g,i1,none⟩ v1).setCell ⟨g,i2,none⟩ v2).setCell ⟨g,i3,none⟩ v3).setCell ⟨g,i4,none⟩ v4).setCell ⟨g,i5,none⟩ v5).setCell ⟨g,i6,none⟩ v6):=
 ((((((h.setCell (p:=⟨g,i0,none⟩) hg v0).setCell (p:=⟨g,i1,none⟩) hg v1).setCell (p:=⟨g,i2,none⟩) hg v2).setCell (p:=⟨g,i3,none⟩) hg v3).setCell (p:=⟨g,i4,none⟩) hg v4).setCell (p:=⟨g,i5,none⟩) hg v5).setCell (p:=⟨g,i6,none⟩) hg v6
theorem sH {l:List Ins} {k:Nat} {i:Ins} {by_:Int} (h:l[k]? = some i):((aE (l.take k) by_++List.replicate (l.length-k) gm).set k (gR by_ i))=aE (l.take (k+1)) by_++List.replicate (l.length-(k+1)) gm:=by
 obtain ⟨hk,e⟩:=List.getElem?_eq_some_iff.1 h
 have hl:(aE (l.take k) by_).length=k:=by rw [af,List.length_take];omega
 obtain ⟨m,hm⟩:∃m,l.length-k=m+1:=⟨l.length-k-1,by omega⟩
 have hm2:l.length-(k+1)=m:=by omega
 rw [hm,hm2,List.set_append_right _ _ (by omega),hl,Nat.sub_self,List.replicate_succ,List.set_cons_zero,List.take_succ_eq_append_getElem hk,e]
 simp [aE]
theorem lf {B c:Nat} {l:List Ins} {A:Option Addr} {k0:Int} {w:World} (hl:RL fp w B l A) (hB:B≤w.heap.size) (hn:l.length≤1000000) :
 Calls Tryz.prog 330 #[.slice A l.length c,.int .i64 k0] w fun e w'=>ListE w w' (aE l k0) e:=by
 have HL:=zl hl
 have HN:=zl hn
 have hmk:=fun w=>xF l.length hn w
 clear hl
 go_enter Tryz.func330,Tryz.ntmps330
 go_wp2_with fail
 generalize hW:World.alloc _ _=w1
 obtain ⟨hb,hz⟩:=al1 hW
 have bo:=zl (show bU w1 w.heap.size (eF (List.replicate l.length gm)).toArray 336 from hW▸heap_alloc_new w _)
 have HB1:=zl hb
 clear hW hz hb hmk
 go_loopw [13] (fun i wr=>∃k:Nat,k≤l.length∧i=.int .i64 k∧Hid (Below w.heap.size w wr)∧w.heap.size<wr.heap.size∧Hid (bU wr w.heap.size (eF (aE (l.take k) k0++List.replicate (l.length-k) gm)).toArray 336)) (fun i _=>l.length-(intOf i).toNat)
 case atStart=>exact ⟨0,zo _,rfl,HB1,bo.out.blk.lt,by simpa [aE] using bo⟩
 case round=>
  obtain ⟨k,hk,rfl,HBW,hsz,HI⟩:=hrel
  by_cases hlt:k<l.length
  ·have HLr:=zl (HL.out.keep HBW.out hB)
   have hBr:B≤wr.heap.size:=by omega
   obtain ⟨b_,off,rfl,hob⟩:=HLr.out.base (zp _ _) hBr (by omega)
   obtain ⟨x,vs,hx,hlen,hcell,hr⟩:=HLr.out.at_ (zp _ _) hBr hlt
   obtain rfl:vs=jR x:=hr
   have c0:wr.cell? ⟨b_,off+k*7,none⟩=some (.int .i64 x.kind):=hcell 0 _ rfl
   have c1:wr.cell? ⟨b_,off+k*7+1,none⟩=some (.int .u64 x.a):=hcell 1 _ rfl
   have c2:wr.cell? ⟨b_,off+k*7+2,none⟩=some (.int .u64 x.b):=hcell 2 _ rfl
   have c3:wr.cell? ⟨b_,off+k*7+3,none⟩=some (.int .u64 x.c):=hcell 3 _ rfl
   have c4:wr.cell? ⟨b_,off+k*7+4,none⟩=some (.int .u64 x.d):=hcell 4 _ rfl
   have c5:wr.cell? ⟨b_,off+k*7+5,none⟩=some (.int .i64 x.x):=hcell 5 _ rfl
   have c6:wr.cell? ⟨b_,off+k*7+6,none⟩=some (.int .i64 x.y):=hcell 6 _ rfl
   have HX:=zl hx
   have hG:=HI.out.blk.cell
   have fG:=HI.out.blk.free
   have hzk:(aE (l.take k) k0++List.replicate (l.length-k) gm)[k]? = some gm:=by
    have hl:(aE (l.take k) k0).length=k:=by rw [af,List.length_take];omega
    rw [List.getElem?_append_right (by omega),hl,Nat.sub_self,List.getElem?_replicate,if_pos (by omega)]
   have gz:∀j,j<7→wr.cell? ⟨w.heap.size,k*7+j,none⟩=(jR gm)[j]?:=fun j hj=>(hG (k*7+j)).trans ((List.getElem?_toArray).trans (kL _ k gm j hzk hj))
   have g0:wr.cell? ⟨w.heap.size,k*7,none⟩=some (.int .i64 0):=gz 0 (by omega)
   have g1:wr.cell? ⟨w.heap.size,k*7+1,none⟩=some (.int .u64 0):=gz 1 (by omega)
   have g2:wr.cell? ⟨w.heap.size,k*7+2,none⟩=some (.int .u64 0):=gz 2 (by omega)
   have g3:wr.cell? ⟨w.heap.size,k*7+3,none⟩=some (.int .u64 0):=gz 3 (by omega)
   have g4:wr.cell? ⟨w.heap.size,k*7+4,none⟩=some (.int .u64 0):=gz 4 (by omega)
   have g5:wr.cell? ⟨w.heap.size,k*7+5,none⟩=some (.int .i64 0):=gz 5 (by omega)
   have g6:wr.cell? ⟨w.heap.size,k*7+6,none⟩=some (.int .i64 0):=gz 6 (by omega)
   have HS:Hid ((aE (l.take k) k0++List.replicate (l.length-k) gm).set k (gR k0 x)=aE (l.take (k+1)) k0++List.replicate (l.length-(k+1)) gm):=zl (sH HX.out)
   have HLN:Hid (k<(aE (l.take k) k0++List.replicate (l.length-k) gm).length):=zl (by rw [List.length_append,af,List.length_take,List.length_replicate];omega)
   clear hG hzk gz
   generalize aE (l.take k) k0++List.replicate (l.length-k) gm=cur at *
   have hkind:x.kind=2∨x.kind≠2∧x.kind=3∨x.kind≠2∧x.kind≠3:=by omega
   rcases hkind with h2 | ⟨h2,h3⟩ | ⟨h2,h3⟩
   ·have HM:Hid (gR k0 x=⟨x.kind,x.a,x.b,x.c,x.d,wrap64 (x.x+k0),wrap64 (x.y+k0)⟩):=zl (by unfold gR;rw [if_pos h2])
    have hq2:(x.kind==2)=true:=by simpa using h2
    clear h2
    go_wp2_with fail
    go_roundw
    case rel=>
     have hp:=zc HI.out HM.out HLN.out
     rw [HS.out] at hp
     exact ⟨k+1,by omega,by go_num,zl ((tT HBW.out (zn _) _ _ _ _ _ _ _).alloc (by simp only [World.size_setCell];omega) _),by simp only [World.size_setCell,World.size_alloc];omega,zl (hp.later ((zp _ _).alloc (zn _) _))⟩
    case measure=>simp [intOf];omega
   ·have HM:Hid (gR k0 x=⟨x.kind,x.a,x.b,x.c,x.d,wrap64 (x.x+k0),x.y⟩):=zl (by unfold gR;rw [if_neg h2,if_pos h3])
    have hq2:(x.kind==2)=false:=by simpa using h2
    have hq3:(x.kind==3)=true:=by simpa using h3
    clear h2 h3
    go_wp2_with fail
    go_roundw
    case rel=>
     have hp:=zc HI.out HM.out HLN.out
     rw [HS.out] at hp
     exact ⟨k+1,by omega,by go_num,zl ((tT HBW.out (zn _) _ _ _ _ _ _ _).alloc (by simp only [World.size_setCell];omega) _),by simp only [World.size_setCell,World.size_alloc];omega,zl (hp.later ((zp _ _).alloc (zn _) _))⟩
    case measure=>simp [intOf];omega
   ·have HM:Hid (gR k0 x=x):=zl (by unfold gR;rw [if_neg h2,if_neg h3])
    have hq2:(x.kind==2)=false:=by simpa using h2
    have hq3:(x.kind==3)=false:=by simpa using h3
    clear h2 h3
    go_wp2_with fail
    go_roundw
    case rel=>
     have hp:=zc HI.out HM.out HLN.out
     rw [HS.out] at hp
     exact ⟨k+1,by omega,by go_num,zl ((tT HBW.out (zn _) _ _ _ _ _ _ _).alloc (by simp only [World.size_setCell];omega) _),by simp only [World.size_setCell,World.size_alloc];omega,zl (hp.later ((zp _ _).alloc (zn _) _))⟩
    case measure=>simp [intOf];omega
  ·have HE:Hid (aE (l.take k) k0++List.replicate (l.length-k) gm=aE l k0):=zl (by rw [List.take_of_length_le (by omega),show l.length-k=0 by omega];simp)
   rw [HE.out] at HI
   go_wp2_with fail
   go_ret
   have ho:=HI.out.own (R:=fp) (base:=w.heap.size) (B:=0) (ml wr 0 (aE l k0)) (zn _) (af l k0) (by unfold maxLen;omega)
   refine ⟨⟨some ⟨w.heap.size,0,none⟩,l.length,?_,?_⟩,HBW.out⟩
   ·rw [af];rfl
   ·rw [af];exact ho
theorem aq.form' {w:World} {base n:Nat} {v:Value} {xs:List Ins} (h:aq fp 336 w base 0 v xs) (hn:xs.length=n):∃A c,v=.slice A n c:=by
 subst hn
 exact h.form
theorem aq.rows {w:World} {base n c:Nat} {A:Option Addr} {xs:List Ins} (h:aq fp 336 w base 0 (.slice A n c) xs) (hn:xs.length≤1000000):RL fp w w.heap.size xs A:=by
 obtain ⟨A3,c3,e3,r1,r2,r3⟩:=h.reads (zo _) (by show xs.length*(8*7)≤_;omega)
 simp only [Value.slice.injEq] at e3
 obtain ⟨rfl,_,rfl⟩:=e3
 exact r3
theorem aq.low {w:World} {base b0:Nat} {v:Value} {xs:List Ins} (h:aq fp 336 w base 0 v xs) (hb:b0≤base):aq fp 336 w b0 0 v xs:=by
 obtain ⟨cells,h,hf⟩:=h
 refine ⟨cells,⟨h.1,?_⟩,hf⟩
 rcases h.2 with h2 | ⟨g,cap,cur,hv,hg,r⟩
 ·exact .inl h2
 ·exact .inr ⟨g,cap,cur,hv,zm hb hg,r⟩
theorem aq.srcn {w:World} {base n c:Nat} {A:Option Addr} {xs:List Ins} (h:aq fp 336 w base 0 (.slice A n c) xs):fq fp w 0 A xs:=by
 obtain ⟨_,_,e⟩:=h.form
 simp only [Value.slice.injEq] at e
 obtain ⟨rfl,rfl,rfl⟩:=e
 exact h.src
theorem fT {w W:World} {i:Ins} {base:Nat} {o:Obj} (h:w.alloc o=W) (ho:o=.cells (jR i).toArray 336) (hb:base≤w.heap.size):aq fp 336 W base 0 (.slice (some ⟨w.heap.size,0,none⟩) 1 1) [i]:=by
 subst ho
 have hB:bU W w.heap.size (jR i).toArray 336:=h▸heap_alloc_new w _
 exact hB.own (R:=fp) (xs:=[i]) (bi.one rfl) hb rfl (by unfold maxLen;omega)
theorem rY {B c1 c2:Nat} {l1 l2:List Ins} {A1 A2:Option Addr} {w:World} (h1:RL fp w B l1 A1) (h2:RL fp w B l2 A2) (hB:B≤w.heap.size) (hn1:l1.length≤100000) (hn2:l2.length≤100000) :
 Calls Tryz.prog 328 #[.slice A1 l1.length c1,.slice A2 l2.length c2] w fun e w'=>ListE w w' (hI l1 l2) e:=by
 obtain ⟨i0,hi0,hz0,hz1,hz2⟩:=info_parts ol
 have H1:=zl h1
 have H2:=zl h2
 clear h1 h2
 go_enter Tryz.func328,Tryz.ntmps328
 go_wp2_with fail
 generalize hW:World.alloc _ _=w1
 obtain ⟨hb,hz⟩:=al1 hW
 have HO:=zl (fT (i:=bp 1 (l1.length+2)) hW rfl (zn _))
 have HB1:=zl hb
 clear hW hz hb
 refine (lf (B:=B) (H1.out.keep HB1.out hB) (zm hB HB1.out.size) (by omega)).mono ?_
 rintro e w2 ⟨⟨A3,c3,rfl,ho⟩,hb⟩
 rw [af]
 have HB2:=zl (ab HB1.out hb)
 have HO2:=zl (HO.out.later hb (zo _))
 have HS2:=zl ho.src
 clear ho hb
 go_upto_region 3 with ((
  at_builtin
  refine av (R:=fp) (e:=336) (base:=w.heap.size) (B:=0) (xs:=[bp 1 (l1.length+2)]) (ys:=aE l1 1) rfl (.tmp 12) (.tmp 14) 317 rfl (bytes:=56) Tryz.underlying317 hi0 hz0 hz1 hz2 rfl (show 0<7 by omega) cR rfl HO2.out rfl HS2.out (af l1 1).symm (zo _) (by rw [af];simp only [List.length_cons,List.length_nil];omega) (by omega) (HB2.out.size) ?_
  intro v w3 hown hb
  obtain ⟨A4,c4,rfl⟩:=hown.form' (show _=l1.length+1 by simp [af])
  have HOW:=zl hown
  have HBW:=zl hb
  clear hown hb))
 have HB3:=zl (HB2.out.trans HBW.out)
 have HJ4:=zl (And.intro (HOW.out.later (ar (w:=w3) (o:=.cells #[.int .i64 3,.int .u64 0,.int .u64 0,.int .u64 0,.int .u64 0,.int .i64 ((l1.length:Int)+2+l2.length),.int .i64 0] 336) rfl) (zo _)) (aq.src (xs:=[iF (l1.length+2+l2.length)]) (fT (w:=w3) (i:=iF (l1.length+2+l2.length)) (base:=w.heap.size) (o:=.cells #[.int .i64 3,.int .u64 0,.int .u64 0,.int .u64 0,.int .u64 0,.int .i64 ((l1.length:Int)+2+l2.length),.int .i64 0] 336) rfl rfl HB3.out.size)))
 clear HOW HBW
 go_upto_region 4 with ((
  at_builtin
  refine av (R:=fp) (e:=336) (base:=w.heap.size) (B:=0) (xs:=[bp 1 (l1.length+2)]++aE l1 1) (ys:=[iF (l1.length+2+l2.length)]) rfl (.tmp 16) (.tmp 23) 317 rfl (bytes:=56) Tryz.underlying317 hi0 hz0 hz1 hz2 rfl (show 0<7 by omega) cR rfl HJ4.out.1 rfl HJ4.out.2 rfl (zo _) (by rw [List.length_append,af];simp only [List.length_cons,List.length_nil];omega) (by omega) ((by rw [World.size_alloc];have:=HB3.out.size;omega)) ?_
  intro v w4 hown hb
  obtain ⟨A5,c5,rfl⟩:=hown.form' (show _=l1.length+2 by simp [af])
  have HOW:=zl hown
  have HBW:=zl hb
  clear hown hb))
 have HB4:=zl ((HB3.out.alloc HB3.out.size (.cells #[.int .i64 3,.int .u64 0,.int .u64 0,.int .u64 0,.int .u64 0,.int .i64 ((l1.length:Int)+2+l2.length),.int .i64 0] 336)).trans HBW.out)
 have HO4:=zl HOW.out
 clear HOW HBW HJ4
 go_wp2_with fail
 refine (lf (B:=B) (H2.out.keep HB4.out hB) (zm hB HB4.out.size) (by omega)).mono ?_
 rintro e w5 ⟨⟨A6,c6,rfl,ho⟩,hb⟩
 rw [af]
 have HB5:=zl (ab HB4.out hb)
 have HO5:=zl (HO4.out.later hb (zo _))
 have HS5:=zl ho.srcn
 clear ho hb
 go_wp2_with ((
  at_builtin
  refine av (R:=fp) (e:=336) (base:=w.heap.size) (B:=0) (xs:=[bp 1 (l1.length+2)]++aE l1 1++[iF (l1.length+2+l2.length)]) (ys:=aE l2 (l1.length+2)) rfl (.tmp 25) (.tmp 29) 317 rfl (bytes:=56) Tryz.underlying317 hi0 hz0 hz1 hz2 rfl (show 0<7 by omega) cR rfl HO5.out rfl HS5.out (af l2 _).symm (zo _) (by simp only [List.length_append,af,List.length_cons,List.length_nil];omega) (by omega) (HB5.out.size) ?_
  intro v w6 hown hb
  obtain ⟨A7,c7,rfl⟩:=hown.form' (show _=(hI l1 l2).length from rfl)
  have HOW:=zl hown
  have HBW:=zl hb
  clear hown hb))
 go_ret
 exact ⟨⟨A7,c7,rfl,HOW.out⟩,HB5.out.trans HBW.out⟩
end Go.Proofs.YtdphibjibnffeaaGreat
