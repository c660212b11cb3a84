/- regex.either. -/
import Derived.Test.YtjpndglegpcdnaaGreatReg1
import Derived.Test.YtjpndglegpcdnaaGreatOwn
import Derived.Test.YtjpndglegpcdnaaGreatHeapLaw
import Derived.Laws.MakeOwn
import Derived.Deep.Cut
import Derived.Deep.CutRange
import Derived.Deep.LoopGhost
set_option linter.unusedVariables false
set_option linter.unusedSimpArgs false
set_option maxRecDepth 100000
set_option maxHeartbeats 8000000
namespace Go.Proofs.YtjpndglegpcdnaaGreat
open Go.ChangeShapes Go.WideShapes Go.ChangeAt Go.RowKit
theorem yA {α:Type _}{x:Array α}:x.toList.length=x.size:=Array.length_toList
def bz (s:ByteArray) (p:PS):Nat:=if p.e=0 then s.size-p.at_ else 0
theorem jA (s:ByteArray) (p:PS):bz s p≤s.size:=by unfold bz;split<;>omega
theorem ej (s:ByteArray) (p:PS):bK s p=decide (bz s p=0):=by
 unfold bK bz
 by_cases h:p.e=0
 ·simp [h];omega
 ·simp [h]
theorem jU {s:ByteArray} {p:PS} {e:Int} (he:e≠0):bz s (be p e)=0:=by
 unfold be bz
 by_cases h:p.e=0
 ·simp [h,he]
 ·simp [h]
theorem iU (p:PS) (e:Int):(be p e).at_=p.at_:=by unfold be;split<;>rfl
theorem kE (p:PS) (e:Int):(be p e).deep=p.deep:=by unfold be;split<;>rfl
theorem fail_e {p:PS} {e:Int} (he:e≠0):(be p e).e≠0:=by unfold be;split<;>simp_all
structure Less (s:ByteArray) (d:Nat) (p q:PS):Prop where
 rem:bz s q+d≤bz s p∨d≠0∧bz s p=0∧bz s q=0
 deep:q.deep=p.deep
 at_:p.at_≤s.size→q.at_≤s.size
 up:p.at_≤q.at_
theorem Less.refl (s:ByteArray) (p:PS):Less s 0 p p:=⟨.inl (yo _),rfl,id,yo _⟩
theorem Less.zero {s:ByteArray} {d:Nat} {p q:PS} (h:Less s d p q):Less s 0 p q:=⟨.inl (by rcases h.rem with h | ⟨_,h,k⟩<;>omega),h.deep,h.at_,h.up⟩
theorem Less.le {s:ByteArray} {d:Nat} {p q:PS} (h:Less s d p q):bz s q≤bz s p:=by rcases h.rem with h | ⟨_,h,k⟩<;>omega
theorem Less.trans {s:ByteArray} {p q r:PS} (h:Less s 0 p q) (k:Less s 0 q r):Less s 0 p r:=⟨.inl (by have:=h.le;have:=k.le;omega),k.deep.trans h.deep,fun x=>k.at_ (h.at_ x),yn h.up k.up⟩
theorem Less.one {s:ByteArray} {p q r:PS} (h:Less s 1 p q) (k:Less s 0 q r):Less s 1 p r:=⟨by have:=k.le;rcases h.rem with h | ⟨_,h,k⟩<;>omega,k.deep.trans h.deep,fun x=>k.at_ (h.at_ x),yn h.up k.up⟩
theorem Less.fail {s:ByteArray} {d:Nat} {p q:PS} {e:Int} (h:Less s d p q) (he:e≠0):Less s d p (be q e):=
 ⟨by rw [jU he];rcases h.rem with h | ⟨_,h,k⟩<;>omega,by rw [kE,h.deep],by rw [iU];exact h.at_,by rw [iU];exact h.up⟩
theorem Less.failed {s:ByteArray} {p:PS} {e:Int} (he:e≠0):Less s 1 p (be p e):=
 ⟨by rw [jU he];omega,by rw [kE],by rw [iU];exact id,by rw [iU];exact yo _⟩
theorem Less.stepped {s:ByteArray} {p:PS} (h:bK s p=false):Less s 1 p p.step:=by
 rw [ej] at h
 have h:bz s p≠0:=by simpa using h
 unfold bz at h
 refine ⟨.inl ?_,rfl,fun hx=>?_,by simp [PS.step]⟩
 ·unfold bz PS.step
  split at h
  ·rename_i he
   simp [he]
   omega
  ·exact absurd rfl h
 ·unfold PS.step
  split at h
  ·simp;omega
  ·exact absurd rfl h
theorem kW {s:ByteArray} {p:PS} {c:Nat} (h:isP s p c=true):bK s p=false:=by
 unfold isP at h
 rw [yx] at h
 simpa using h.1
theorem Less.byte {s:ByteArray} {p:PS} {c:Nat} (h:isP s p c=true):Less s 1 p p.step:=Less.stepped (kW h)
theorem cM (s:ByteArray) (p:PS):Less s 1 p (aE s p).2:=by
 unfold aE
 rcases Bool.eq_false_or_eq_true (bK s p) with h | h
 ·rw [if_pos h];exact Less.failed (by decide)
 ·rw [if_neg (by rw [h];simp)];exact Less.stepped h
theorem byte_lt (s:ByteArray) (k:Nat):cd s k<256:=by
 unfold cd
 rcases (bs s)[k]? with _ | b
 ·simp
 ·simp;exact b.toNat_lt
theorem qg (s:ByteArray) (p:PS):(aE s p).1<256:=by
 unfold aE
 split
 ·simp
 ·exact byte_lt _ _
theorem dQ (s:ByteArray) (p:PS):Less s 1 p (aO s p).2:=by
 unfold aO
 simp only
 split
 ·exact (cM s p).one (cM s _).zero
 ·exact cM s p
theorem oH (s:ByteArray) (p:PS):(aO s p).1<256:=by
 unfold aO
 simp only
 split<;>exact qg _ _
theorem pc (s:ByteArray) (p:PS):Less s 1 p (eJ s p).2:=by
 unfold eJ
 simp only
 split
 ·rename_i h
  rw [yx] at h
  exact ((dQ s p).one (Less.byte h.1).zero).one (dQ s _).zero
 ·exact dQ s p
theorem fx (s:ByteArray):∀n p i,Less s 0 p (bg s n p i).2
 | 0,p,i=>Less.refl s p
 | n+1,p,i=>by
   unfold bg
   split
   ·simp only
    refine Less.trans ?_ (fx s n _ _)
    split
    ·exact ((pc s p).fail (by decide)).zero
    ·exact (pc s p).zero
   ·exact Less.refl s p
theorem rM (s:ByteArray) (p:PS):Less s 0 p (dK s p).2:=by
 unfold dK
 simp only
 have h1:Less s 0 p (if isP s p 94=true then p.step else p):=by
  split
  ·rename_i h;exact (Less.byte h).zero
  ·exact Less.refl s p
 have h2:∀q:PS,Less s 0 p q→Less s 0 p (if isP s q 93=true then be q 3 else q):=by
  intro q hq
  split
  ·exact hq.fail (by decide)
  ·exact hq
 exact (((h2 _ h1).trans (fx s _ _ _)).trans (cM s _).zero)
structure Made (s:ByteArray) (d:Nat) (p:PS) (r:List Ins × PS):Prop where
 less:Less s 0 p r.2
 one:bz s p≠0→bz s r.2+d≤bz s p
 len:r.1.length+2*bz s r.2≤2*bz s p
theorem ah (l:List Ins) (k:Int):(aH l k).length=l.length:=by simp [aH]
theorem Less.lt {s:ByteArray} {p q:PS} (h:Less s 1 p q) (hp:bz s p≠0):bz s q+1≤bz s p:=by rcases h.rem with h | ⟨_,h,k⟩<;>omega
theorem eT (s:ByteArray):∀n,(∀p,Made s 0 p (qi s n p))∧(∀p out,Less s 0 p (jh s n p out).2∧(jh s n p out).1.length+2*bz s (jh s n p out).2≤out.length+2*bz s p)∧(∀p,bz s p≠0→Made s (if n≤1 then 0 else 1) p (eG s n p))∧(∀p,bz s p≠0→Made s (if n=0 then 0 else 1) p (fw s n p)):=by
 intro n
 induction n with
 | zero=>
   refine ⟨fun p=>⟨Less.refl s p,fun _=>by simp [qi],by simp [qi]⟩,fun p out=>⟨Less.refl s p,by simp [jh]⟩,fun p _=>⟨Less.refl s p,fun _=>by simp [eG],by simp [eG]⟩,fun p _=>⟨Less.refl s p,fun _=>by simp [fw],by simp [fw]⟩⟩
 | succ n ih=>
   obtain ⟨ihp,ihr,ihc,iha⟩:=ih
   refine ⟨fun p=>?_,fun p out=>?_,fun p hp=>?_,fun p hp=>?_⟩
   ·unfold qi
    simp only
    obtain ⟨h1,h2⟩:=ihr p []
    split
    ·rename_i hb
     have hs:=Less.byte hb
     have hne:bz s (jh s n p []).2≠0:=by
      have:=kW hb
      rw [ej] at this
      simpa using this
     have h3:=ihp (jh s n p []).2.step
     have h4:=hs.lt hne
     have h5:=h3.len
     have h6:=h3.less.le
     have h7:=h1.le
     refine ⟨(h1.trans hs.zero).trans h3.less,fun _=>by simp only;omega,?_⟩
     simp only [gS,yv,ah,yE,List.length_nil] at h2 ⊢
     omega
    ·refine ⟨h1,fun _=>h1.le,?_⟩
     simpa using h2
   ·unfold jh
    split
    ·rename_i hc
     have hne:bz s p≠0:=by
      rw [yx] at hc
      have:=hc.1
      rw [ej] at this
      simpa using this
     have h1:=ihc p hne
     have h2:=ihr (eG s n p).2 (out++aH (eG s n p).1 out.length)
     refine ⟨h1.less.trans h2.1,?_⟩
     have h3:=h2.2
     rw [yv,ah] at h3
     have h4:=h1.len
     simp only
     omega
    ·exact ⟨Less.refl s p,by simp⟩
   ·unfold eG
    simp only
    have h1:=iha p hp
    have hd:(if n+1≤1 then 0 else 1)=(if n=0 then 0 else 1):=by by_cases h:n=0<;>simp [h]
    rw [hd]
    generalize (if n=0 then 0 else 1)=dd at *
    have hb:∀c,isP s (fw s n p).2 c=true→Less s 1 (fw s n p).2 (fw s n p).2.step∧bz s (fw s n p).2.step+1≤bz s (fw s n p).2:=by
     intro c hc
     refine ⟨Less.byte hc,(Less.byte hc).lt ?_⟩
     have:=kW hc
     rw [ej] at this
     simpa using this
    have hl:=h1.len
    have ho:=h1.one hp
    split
    ·rename_i hc
     obtain ⟨h2,h3⟩:=hb _ hc
     exact ⟨h1.less.trans h2.zero,fun _=>by simp only;omega,by simp [ah];omega⟩
    ·split
     ·rename_i hc
      obtain ⟨h2,h3⟩:=hb _ hc
      exact ⟨h1.less.trans h2.zero,fun _=>by simp only;omega,by simp [ah];omega⟩
     ·split
      ·rename_i hc
       obtain ⟨h2,h3⟩:=hb _ hc
       exact ⟨h1.less.trans h2.zero,fun _=>by simp only;omega,by simp [ah];omega⟩
      ·exact h1
   ·rw [if_neg (by omega)]
    unfold fw
    simp only
    have h1:=cM s p
    have h2:=h1.lt hp
    have leaf:∀(i:Ins) (q:PS),Less s 0 (aE s p).2 q→Made s 1 p ([i],q):=by
     intro i q hq
     have:=hq.le
     exact ⟨h1.zero.trans hq,fun _=>by simp only;omega,by simp;omega⟩
    split
    ·rename_i hc
     split
     ·have h3:=jU (s:=s) (p:=(aE s p).2) (e:=4) (by decide)
      exact ⟨(h1.fail (by decide)).zero,fun _=>by simp only;omega,by simp [h3]⟩
     ·have h3:=ihp ⟨(aE s p).2.at_,(aE s p).2.deep+1,(aE s p).2.e⟩
      generalize hq:qi s n ⟨(aE s p).2.at_,(aE s p).2.deep+1,(aE s p).2.e⟩=q at *
      have h4:=cM s q.2
      generalize hz:aE s q.2=z at *
      have hr:bz s ⟨(aE s p).2.at_,(aE s p).2.deep+1,(aE s p).2.e⟩=bz s (aE s p).2:=rfl
      have h5:=h3.less.le
      have h6:=h3.len
      have h7:=h4.le
      have hdp:q.2.deep=(aE s p).2.deep+1:=h3.less.deep
      have hdz:z.2.deep=q.2.deep:=h4.deep
      have hkey:∀f:PS,Less s 0 z.2 f→Made s 1 p (q.1,⟨f.at_,f.deep-1,f.e⟩):=by
       intro f hf
       have hrf:bz s ⟨f.at_,f.deep-1,f.e⟩=bz s f:=rfl
       have h8:=hf.le
       refine ⟨⟨.inl (by simp only;rw [hrf];omega),?_,?_,?_⟩,fun _=>by simp only;rw [hrf];omega,by simp only;rw [hrf];omega⟩
       ·have:=hf.deep;have:=h1.deep;simp only;omega
       ·exact fun hx=>hf.at_ (h4.at_ (h3.less.at_ (h1.at_ hx)))
       ·exact yn h1.up (yn h3.less.up (yn h4.up hf.up))
      refine hkey _ ?_
      split
      ·exact (Less.refl s _).fail (by decide)
      ·exact Less.refl s _
    ·split
     ·exact leaf _ _ (rM s _)
     ·split
      ·exact leaf _ _ (Less.refl s _)
      ·split
       ·exact leaf _ _ (Less.refl s _)
       ·split
        ·exact leaf _ _ (Less.refl s _)
        ·split
         ·exact leaf _ _ (cM s _).zero
         ·split
          ·exact leaf _ _ ((Less.refl s _).fail (by decide))
          ·exact leaf _ _ (Less.refl s _)
theorem iD (s:ByteArray) (n:Nat) (p:PS):Made s 0 p (qi s n p):=(eT s n).1 p
theorem xh (s:ByteArray) (n:Nat) (p:PS) (out:List Ins):Less s 0 p (jh s n p out).2∧(jh s n p out).1.length+2*bz s (jh s n p out).2≤out.length+2*bz s p:=(eT s n).2.1 p out
theorem sx (s:ByteArray) (n:Nat) (p:PS) (hp:bz s p≠0) (hn:2≤n):Made s 1 p (eG s n p):=by
 have:=(eT s n).2.2.1 p hp
 rwa [if_neg (by omega)] at this
theorem tj (s:ByteArray) (n:Nat) (p:PS) (hp:bz s p≠0) (hn:1≤n):Made s 1 p (fw s n p):=by
 have:=(eT s n).2.2.2 p hp
 rwa [if_neg (by omega)] at this
section
variable {α:Type} {R:Reader α} {e:TypeId} {w:World} {base B:Nat} {v:Value} {xs:List α} {A:Option Addr} {c:Nat}
theorem qE (b off j:Nat):(⟨b,off,none⟩:Addr).add j=⟨b,off+j,none⟩:=by
 unfold Addr.add
 split
 ·rename_i h;subst h;rfl
 ·rfl
theorem am.src (h:am R e w base B (.slice A xs.length c) xs):gH R w B A xs:=by
 obtain ⟨cells,h,hf⟩:=h
 rcases h.2 with ⟨h1,h2⟩ | ⟨g,cap,cur,hv,hg,hh,k1,k2,k3,k4⟩
 ·have:xs=[]:=List.eq_nil_of_length_eq_zero h2
  subst this
  refine ⟨[],bA.nil,fun _=>rfl,fun a _ j u hu=>by simp at hu⟩
 ·simp only [yB] at hv
  obtain ⟨rfl,_,rfl⟩:=hv
  refine ⟨cells,hf,fun e=>(by cases e),fun a ha j u hu=>?_⟩
  simp only [yz] at ha
  subst ha
  rw [←k4,List.getElem?_take] at hu
  split at hu
  ·rw [qE]
   show w.cell? ⟨g,0+j,none⟩=_
   rw [cell_of_row w g _ cur e (0,0) hh,Nat.zero_add]
   simpa using hu
  ·cases hu
theorem bA.take {news:List Value} (h:bA R w B xs news) (k:Nat):bA R w B (xs.take k) (news.take (k*R.k)):=by
 refine ⟨?_,fun i hi=>?_⟩
 ·rw [yF,yF,h.1]
  rcases Nat.le_total k xs.length with hk | hk
  ·rw [Nat.min_eq_left hk,Nat.min_eq_left (Nat.mul_le_mul_right _ hk)]
  ·rw [Nat.min_eq_right hk,Nat.min_eq_right (Nat.mul_le_mul_right _ hk)]
 ·rw [yF] at hi
  have hik:i<k:=by omega
  have h1:(i+1)*R.k≤k*R.k:=Nat.mul_le_mul_right _ hik
  rw [Nat.add_mul,Nat.one_mul] at h1
  have:=h.2 i (by omega)
  rw [List.getElem_take,List.drop_take,List.take_take,Nat.min_eq_left (by omega)]
  exact this
theorem bA.drop {news:List Value} (h:bA R w B xs news) (k:Nat):bA R w B (xs.drop k) (news.drop (k*R.k)):=by
 refine ⟨?_,fun i hi=>?_⟩
 ·rw [List.length_drop,List.length_drop,h.1,Nat.sub_mul]
 ·rw [List.length_drop] at hi
  have:=h.2 (k+i) (by omega)
  rw [List.getElem_drop,List.drop_drop]
  rw [show k*R.k+i*R.k=(k+i)*R.k by rw [Nat.add_mul]]
  exact this
theorem gH.take (h:gH R w B A xs) (k:Nat):gH R w B A (xs.take k):=by
 obtain ⟨cells,hf,h1,h2⟩:=h
 refine ⟨_,hf.take k,fun e=>(by rw [h1 e];simp),fun a ha j u hu=>?_⟩
 rw [List.getElem?_take] at hu
 split at hu
 ·exact h2 a ha j u hu
 ·cases hu
theorem gH.drop {b off:Nat} (h:gH R w B (some ⟨b,off,none⟩) xs) (k:Nat):gH R w B (some ⟨b,off+k*R.k,none⟩) (xs.drop k):=by
 obtain ⟨cells,hf,h1,h2⟩:=h
 refine ⟨_,hf.drop k,fun e=>(by cases e),fun a ha j u hu=>?_⟩
 rw [List.getElem?_drop] at hu
 simp only [yz] at ha
 subst ha
 have:=h2 _ rfl _ _ hu
 rw [qE] at this ⊢
 rw [Nat.add_assoc];exact this
theorem gH.none {A:Option Addr} {ys:List α} (h:ys=[]):gH R w B A ys:=by
 subst h;exact ⟨[],bA.nil,fun _=>rfl,fun a _ j u hu=>by simp at hu⟩
end
section
variable {α:Type} {c:α→α→Int} {t:α}
end
def jN (i:Ins):List Value:=[.int .i64 i.kind,.int .u64 i.a,.int .u64 i.b,.int .u64 i.c,.int .u64 i.d,.int .i64 i.x,.int .i64 i.y]
def ff:Reader Ins where
 k:=7
 rd:=fun _ _ i vs=>vs=jN i
 keep:=fun _ _ h=>h
 wide:=fun _ h=>h
 len:=fun h=>by subst h;rfl
theorem cN:dz ff:=fun {w B x vs} h u hu=>by
 obtain rfl:vs=jN x:=h
 simp only [jN,List.mem_cons,List.not_mem_nil,or_false] at hu
 rcases hu with rfl | rfl | rfl | rfl | rfl | rfl | rfl<;>rfl
theorem ow:(Tryz.prog.info? 266).map (fun i=>(i.zero,i.size,i.bytes))=some (some (.agg #[.int .i64 0,.int .u64 0,.int .u64 0,.int .u64 0,.int .u64 0,.int .i64 0,.int .i64 0]),7,56):=by kernel_rfl
def eC:List Ins→List Value
 | []=>[]
 | i::l=>jN i++eC l
theorem jy:∀l:List Ins,(eC l).length=l.length*7
 | []=>rfl
 | i::l=>by simp [eC,jy l,jN];omega
theorem kM:∀(l:List Ins) (k:Nat) (i:Ins) (j:Nat),l[k]? = some i→j<7→(eC l)[k*7+j]? = (jN i)[j]?
 | [],k,i,j,h,_=>by simp at h
 | a::l,0,i,j,h,hj=>by
   simp only [yD,yz] at h
   subst h
   rw [eC,List.getElem?_append_left (by simp [jN];omega)]
   simp
 | a::l,k+1,i,j,h,hj=>by
   rw [eC,List.getElem?_append_right (by simp [jN];omega)]
   have e:(k+1)*7+j-(jN a).length=k*7+j:=by simp [jN];omega
   rw [e]
   exact kM l k i j (by simpa using h) hj
theorem ml (w:World) (B:Nat):∀l:List Ins,bA ff w B l (eC l)
 | []=>bA.nil
 | i::l=>bA.append (xs:=[i]) (bA.one (R:=ff) rfl) (ml w B l)
theorem tT (l:List Ins) (k:Nat) (i:Ins) (hk:k<l.length) :
 (((((((eC l).set (k*7) (.int .i64 i.kind)).set (k*7+1) (.int .u64 i.a)).set (k*7+2) (.int .u64 i.b)).set (k*7+3) (.int .u64 i.c)).set (k*7+4) (.int .u64 i.d)).set (k*7+5) (.int .i64 i.x)).set (k*7+6) (.int .i64 i.y)=eC (l.set k i):=by
 induction l generalizing k with
 | nil=>simp at hk
 | cons a l ih=>
   cases k with
   | zero=>simp [eC,jN]
   | succ k=>
     have:=ih k (by simpa using hk)
     rw [List.set_cons_succ,eC,eC,←this]
     have e:∀(j:Nat) (v:Value) (m:List Value),(jN a++m).set ((k+1)*7+j) v=jN a++m.set (k*7+j) v:=by
      intro j v m
      rw [List.set_append_right _ _ (by simp [jN];omega)]
      congr 2
      simp [jN];omega
     have e0:=e 0
     simp only [Nat.add_zero] at e0
     rw [e0,e,e,e,e,e,e]
def ga:Ins:=⟨0,0,0,0,0,0,0⟩
theorem sm (n:Nat):madeCells #[.int .i64 0,.int .u64 0,.int .u64 0,.int .u64 0,.int .u64 0,.int .i64 0,.int .i64 0] (n*7)=(eC (List.replicate n ga)).toArray:=by
 apply Array.ext'
 apply List.ext_getElem?
 intro q
 by_cases hq:q<n*7
 ·have h1:(eC (List.replicate n ga))[q / 7*7+q % 7]? = (jN ga)[q % 7]?:=kM _ _ _ _ (by rw [List.getElem?_replicate,if_pos (by omega)]) (by omega)
  have e:q / 7*7+q % 7=q:=by omega
  rw [e] at h1
  rw [h1]
  have h2:q % 7=0∨q % 7=1∨q % 7=2∨q % 7=3∨q % 7=4∨q % 7=5∨q % 7=6:=by omega
  have h3:(madeCells #[.int .i64 0,.int .u64 0,.int .u64 0,.int .u64 0,.int .u64 0,.int .i64 0,.int .i64 0] (n*7)).toList[q]? = some ((#[.int .i64 0,.int .u64 0,.int .u64 0,.int .u64 0,.int .u64 0,.int .i64 0,.int .i64 0]:Array Value)[q % 7]!):=by
   have hs:q<(madeCells #[.int .i64 0,.int .u64 0,.int .u64 0,.int .u64 0,.int .u64 0,.int .i64 0,.int .i64 0] (n*7)).toList.length:=by rw [yA,size_madeCells];exact hq
   rw [yy hs]
   simp [madeCells]
  rw [h3]
  rcases h2 with h | h | h | h | h | h | h<;>(rw [h];rfl)
 ·rw [List.getElem?_eq_none (by rw [yA,size_madeCells];omega),List.getElem?_eq_none (by show (eC _).length≤q;rw [jy];simp;omega)]
def bN (w:World) (b:Nat) (vs:Array Value) (T:TypeId):Prop:=w.heap[b]? = some (.cells vs T (0,0))
section
variable {w w':World} {b c:Nat} {vs:Array Value} {T:TypeId}
theorem bN.blk (h:bN w b vs T):Blk w b vs:=⟨T,h⟩
theorem bN.keep {B:Nat} (h:bN w b vs T) (hb:Below B w w') (hB:b<B):bN w' b vs T:=(hb.block b hB).trans h
theorem bN.later (h:bN w b vs T) (hb:Below w.heap.size w w'):bN w' b vs T:=h.keep hb h.blk.lt
theorem bN.set_ (h:bN w b vs T) (i:Nat) (u:Value):bN (w.setCell ⟨b,i,none⟩ u) b (vs.setIfInBounds i u) T:=by
 unfold bN at h ⊢
 simp [World.setCell,Array.getElem?_modify,h]
theorem bN.far (h:bN w b vs T) (hne:b≠c) (i:Nat) (u:Value):bN (w.setCell ⟨c,i,none⟩ u) b vs T:=(Below.heap_setCell w ⟨c,i,none⟩ u b hne).trans h
theorem bN.drew (h:bN w b vs T):bN w.drew b vs T:=h
theorem bN.own {α:Type} {R:Reader α} {base B n:Nat} {xs:List α} {cells:List Value} (h:bN w b cells.toArray T) (hf:bA R w B xs cells) (hb:base≤b) (hn:xs.length=n) (hlen:n≤maxLen):am R T w base B (.slice (some ⟨b,0,none⟩) n n) xs:=by
 subst hn
 refine ⟨cells,⟨hf.1,.inr ⟨b,xs.length,cells.toArray,rfl,hb,h,yo _,hlen,?_,?_⟩⟩,hf⟩
 ·simp [hf.1]
 ·simp
  exact List.take_of_length_le (by rw [hf.1];exact yo _)
end
def ListE (w w':World) (l:List Ins) (e:Ending):Prop:=(∃A c,e=.returned (.slice A l.length c)∧am ff 266 w' w.heap.size 0 (.slice A l.length c) l)∧Below w.heap.size w w'
theorem wN (n:Nat) (hn:n≤1000000) (w:World):(Instr.makeSlice 248 (.int .i64 (n:Int)) (.int .i64 (n:Int))).run Tryz.prog w=.ok (.slice (some ⟨w.heap.size,0,none⟩) n n) (w.alloc (.cells (eC (List.replicate n ga)).toArray 266)):=by
 obtain ⟨i0,hi0,hz0,hz1,hz2⟩:=info_parts ow
 have hr:=run_make (P:=Tryz.prog) w 248 266 i0 _ Tryz.underlying248 hi0 hz0 .i64 .i64 n n (by omega) (Int.le_refl _) (by rw [hz2];omega) (by omega)
 simp only [Int.toNat_natCast] at hr
 rw [hz1] at hr
 rw [hr,←sm]
 rfl
theorem yd {w:World} {g k:Nat} {l:List Ins} {T:TypeId} (h:bN w g (eC l).toArray T) {i:Ins} {kd a b c d x y:Int} (hi:i=⟨kd,a,b,c,d,x,y⟩) (hk:k<l.length) :
 bN (((((((w.setCell ⟨g,k*7,none⟩ (.int .i64 kd)).setCell ⟨g,k*7+1,none⟩ (.int .u64 a)).setCell ⟨g,k*7+2,none⟩ (.int .u64 b)).setCell ⟨g,k*7+3,none⟩ (.int .u64 c)).setCell ⟨g,k*7+4,none⟩ (.int .u64 d)).setCell ⟨g,k*7+5,none⟩ (.int .i64 x)).setCell ⟨g,k*7+6,none⟩ (.int .i64 y)) g (eC (l.set k i)).toArray T:=by
 have e:=tT l k ⟨kd,a,b,c,d,x,y⟩ hk
 simp only at e
 subst hi
 have:=((((((h.set_ (k*7) (.int .i64 kd)).set_ (k*7+1) (.int .u64 a)).set_ (k*7+2) (.int .u64 b)).set_ (k*7+3) (.int .u64 c)).set_ (k*7+4) (.int .u64 d)).set_ (k*7+5) (.int .i64 x)).set_ (k*7+6) (.int .i64 y)
 simp only [List.setIfInBounds_toArray] at this
 rw [e] at this
 exact this
theorem tt {w w2:World} {B g:Nat} (h:Below B w w2) (hg:B≤g) {i0 i1 i2 i3 i4 i5 i6:Nat} (v0 v1 v2 v3 v4 v5 v6:Value) :
 Below B w (((((((w2.setCell ⟨g,i0,none⟩ v0).setCell ⟨g,i1,none⟩ v1).setCell ⟨g,i2,none⟩ v2).setCell ⟨g,i3,none⟩ v3).setCell ⟨g,i4,none⟩ v4).setCell ⟨g,i5,none⟩ v5).setCell ⟨g,i6,none⟩ v6):=
 ((((((h.setCell (p:=⟨g,i0,none⟩) hg v0).setCell (p:=⟨g,i1,none⟩) hg v1).setCell (p:=⟨g,i2,none⟩) hg v2).setCell (p:=⟨g,i3,none⟩) hg v3).setCell (p:=⟨g,i4,none⟩) hg v4).setCell (p:=⟨g,i5,none⟩) hg v5).setCell (p:=⟨g,i6,none⟩) hg v6
theorem sp {l:List Ins} {k:Nat} {i:Ins} {by_:Int} (h:l[k]? = some i):((aH (l.take k) by_++List.replicate (l.length-k) ga).set k (gK by_ i))=aH (l.take (k+1)) by_++List.replicate (l.length-(k+1)) ga:=by
 obtain ⟨hk,e⟩:=List.getElem?_eq_some_iff.1 h
 have hl:(aH (l.take k) by_).length=k:=by rw [ah,yF];omega
 obtain ⟨m,hm⟩:∃m,l.length-k=m+1:=⟨l.length-k-1,by omega⟩
 have hm2:l.length-(k+1)=m:=by omega
 rw [hm,hm2,List.set_append_right _ _ (by omega),hl,Nat.sub_self,List.replicate_succ,List.set_cons_zero,List.take_succ_eq_append_getElem hk,e]
 simp [aH]
theorem lh {B c:Nat} {l:List Ins} {A:Option Addr} {k0:Int} {w:World} (hl:RL ff w B l A) (hB:B≤w.heap.size) (hn:l.length≤1000000) :
 Calls Tryz.prog 235 #[.slice A l.length c,.int .i64 k0] w fun e w'=>ListE w w' (aH l k0) e:=by
 have HL:=ym hl
 have HN:=ym hn
 have hmk:=fun w=>wN l.length hn w
 clear hl
 go_enter Tryz.func235,Tryz.ntmps235
 go_wp2_with fail
 generalize hW:World.alloc _ _=w1
 obtain ⟨hb,hz⟩:=al1 hW
 have bo:=ym (show bN w1 w.heap.size (eC (List.replicate l.length ga)).toArray 266 from hW▸heap_alloc_new w _)
 have HB1:=ym hb
 clear hW hz hb hmk
 go_loopw [13] (fun i wr=>∃k:Nat,k≤l.length∧i=.int .i64 k∧Hid (Below w.heap.size w wr)∧w.heap.size<wr.heap.size∧Hid (bN wr w.heap.size (eC (aH (l.take k) k0++List.replicate (l.length-k) ga)).toArray 266)) (fun i _=>l.length-(intOf i).toNat)
 case atStart=>exact ⟨0,yp _,rfl,HB1,bo.out.blk.lt,by simpa [aH] using bo⟩
 case round=>
  obtain ⟨k,hk,rfl,HBW,hsz,HI⟩:=hrel
  by_cases hlt:k<l.length
  ·have HLr:=ym (HL.out.keep HBW.out hB)
   have hBr:B≤wr.heap.size:=by omega
   obtain ⟨b_,off,rfl,hob⟩:=HLr.out.base (yq _ _) hBr (by omega)
   obtain ⟨x,vs,hx,hlen,hcell,hr⟩:=HLr.out.at_ (yq _ _) hBr hlt
   obtain rfl:vs=jN x:=hr
   have c0:wr.cell? ⟨b_,off+k*7,none⟩=some (.int .i64 x.kind):=hcell 0 _ rfl
   have c1:wr.cell? ⟨b_,off+k*7+1,none⟩=some (.int .u64 x.a):=hcell 1 _ rfl
   have c2:wr.cell? ⟨b_,off+k*7+2,none⟩=some (.int .u64 x.b):=hcell 2 _ rfl
   have c3:wr.cell? ⟨b_,off+k*7+3,none⟩=some (.int .u64 x.c):=hcell 3 _ rfl
   have c4:wr.cell? ⟨b_,off+k*7+4,none⟩=some (.int .u64 x.d):=hcell 4 _ rfl
   have c5:wr.cell? ⟨b_,off+k*7+5,none⟩=some (.int .i64 x.x):=hcell 5 _ rfl
   have c6:wr.cell? ⟨b_,off+k*7+6,none⟩=some (.int .i64 x.y):=hcell 6 _ rfl
   have HX:=ym hx
   have hG:=HI.out.blk.cell
   have fG:=HI.out.blk.free
   have hzk:(aH (l.take k) k0++List.replicate (l.length-k) ga)[k]? = some ga:=by
    have hl:(aH (l.take k) k0).length=k:=by rw [ah,yF];omega
    rw [List.getElem?_append_right (by omega),hl,Nat.sub_self,List.getElem?_replicate,if_pos (by omega)]
   have gz:∀j,j<7→wr.cell? ⟨w.heap.size,k*7+j,none⟩=(jN ga)[j]?:=fun j hj=>(hG (k*7+j)).trans ((List.getElem?_toArray).trans (kM _ k ga j hzk hj))
   have g0:wr.cell? ⟨w.heap.size,k*7,none⟩=some (.int .i64 0):=gz 0 (by omega)
   have g1:wr.cell? ⟨w.heap.size,k*7+1,none⟩=some (.int .u64 0):=gz 1 (by omega)
   have g2:wr.cell? ⟨w.heap.size,k*7+2,none⟩=some (.int .u64 0):=gz 2 (by omega)
   have g3:wr.cell? ⟨w.heap.size,k*7+3,none⟩=some (.int .u64 0):=gz 3 (by omega)
   have g4:wr.cell? ⟨w.heap.size,k*7+4,none⟩=some (.int .u64 0):=gz 4 (by omega)
   have g5:wr.cell? ⟨w.heap.size,k*7+5,none⟩=some (.int .i64 0):=gz 5 (by omega)
   have g6:wr.cell? ⟨w.heap.size,k*7+6,none⟩=some (.int .i64 0):=gz 6 (by omega)
   have HS:Hid ((aH (l.take k) k0++List.replicate (l.length-k) ga).set k (gK k0 x)=aH (l.take (k+1)) k0++List.replicate (l.length-(k+1)) ga):=ym (sp HX.out)
   have HLN:Hid (k<(aH (l.take k) k0++List.replicate (l.length-k) ga).length):=ym (by rw [yv,ah,yF,List.length_replicate];omega)
   clear hG hzk gz
   generalize aH (l.take k) k0++List.replicate (l.length-k) ga=cur at *
   have hkind:x.kind=2∨x.kind≠2∧x.kind=3∨x.kind≠2∧x.kind≠3:=by omega
   rcases hkind with h2 | ⟨h2,h3⟩ | ⟨h2,h3⟩
   ·have HM:Hid (gK k0 x=⟨x.kind,x.a,x.b,x.c,x.d,wrap64 (x.x+k0),wrap64 (x.y+k0)⟩):=ym (by unfold gK;rw [if_pos h2])
    have hq2:(x.kind==2)=true:=by simpa using h2
    clear h2
    go_wp2_with fail
    go_roundw
    case rel=>
     have hp:=yd HI.out HM.out HLN.out
     rw [HS.out] at hp
     exact ⟨k+1,by omega,by go_num,ym ((tt HBW.out (yo _) _ _ _ _ _ _ _).alloc (by simp only [World.size_setCell];omega) _),by simp only [World.size_setCell,World.size_alloc];omega,ym (hp.later ((yq _ _).alloc (yo _) _))⟩
    case measure=>simp [intOf];omega
   ·have HM:Hid (gK k0 x=⟨x.kind,x.a,x.b,x.c,x.d,wrap64 (x.x+k0),x.y⟩):=ym (by unfold gK;rw [if_neg h2,if_pos h3])
    have hq2:(x.kind==2)=false:=by simpa using h2
    have hq3:(x.kind==3)=true:=by simpa using h3
    clear h2 h3
    go_wp2_with fail
    go_roundw
    case rel=>
     have hp:=yd HI.out HM.out HLN.out
     rw [HS.out] at hp
     exact ⟨k+1,by omega,by go_num,ym ((tt HBW.out (yo _) _ _ _ _ _ _ _).alloc (by simp only [World.size_setCell];omega) _),by simp only [World.size_setCell,World.size_alloc];omega,ym (hp.later ((yq _ _).alloc (yo _) _))⟩
    case measure=>simp [intOf];omega
   ·have HM:Hid (gK k0 x=x):=ym (by unfold gK;rw [if_neg h2,if_neg h3])
    have hq2:(x.kind==2)=false:=by simpa using h2
    have hq3:(x.kind==3)=false:=by simpa using h3
    clear h2 h3
    go_wp2_with fail
    go_roundw
    case rel=>
     have hp:=yd HI.out HM.out HLN.out
     rw [HS.out] at hp
     exact ⟨k+1,by omega,by go_num,ym ((tt HBW.out (yo _) _ _ _ _ _ _ _).alloc (by simp only [World.size_setCell];omega) _),by simp only [World.size_setCell,World.size_alloc];omega,ym (hp.later ((yq _ _).alloc (yo _) _))⟩
    case measure=>simp [intOf];omega
  ·have HE:Hid (aH (l.take k) k0++List.replicate (l.length-k) ga=aH l k0):=ym (by rw [List.take_of_length_le (by omega),show l.length-k=0 by omega];simp)
   rw [HE.out] at HI
   go_wp2_with fail
   go_ret
   have ho:=HI.out.own (R:=ff) (base:=w.heap.size) (B:=0) (ml wr 0 (aH l k0)) (yo _) (ah l k0) (by unfold maxLen;omega)
   refine ⟨⟨some ⟨w.heap.size,0,none⟩,l.length,?_,?_⟩,HBW.out⟩
   ·rw [ah];rfl
   ·rw [ah];exact ho
theorem am.form' {w:World} {base n:Nat} {v:Value} {xs:List Ins} (h:am ff 266 w base 0 v xs) (hn:xs.length=n):∃A c,v=.slice A n c:=by
 subst hn
 exact h.form
theorem am.rows {w:World} {base n c:Nat} {A:Option Addr} {xs:List Ins} (h:am ff 266 w base 0 (.slice A n c) xs) (hn:xs.length≤1000000):RL ff w w.heap.size xs A:=by
 obtain ⟨A3,c3,e3,r1,r2,r3⟩:=h.reads (yp _) (by show xs.length*(8*7)≤_;omega)
 simp only [yB] at e3
 obtain ⟨rfl,_,rfl⟩:=e3
 exact r3
theorem am.low {w:World} {base b0:Nat} {v:Value} {xs:List Ins} (h:am ff 266 w base 0 v xs) (hb:b0≤base):am ff 266 w b0 0 v xs:=by
 obtain ⟨cells,h,hf⟩:=h
 refine ⟨cells,⟨h.1,?_⟩,hf⟩
 rcases h.2 with h2 | ⟨g,cap,cur,hv,hg,r⟩
 ·exact .inl h2
 ·exact .inr ⟨g,cap,cur,hv,yn hb hg,r⟩
theorem am.srcn {w:World} {base n c:Nat} {A:Option Addr} {xs:List Ins} (h:am ff 266 w base 0 (.slice A n c) xs):gH ff w 0 A xs:=by
 obtain ⟨_,_,e⟩:=h.form
 simp only [yB] at e
 obtain ⟨rfl,rfl,rfl⟩:=e
 exact h.src
theorem fI {w W:World} {i:Ins} {base:Nat} {o:Obj} (h:w.alloc o=W) (ho:o=.cells (jN i).toArray 266) (hb:base≤w.heap.size):am ff 266 W base 0 (.slice (some ⟨w.heap.size,0,none⟩) 1 1) [i]:=by
 subst ho
 have hB:bN W w.heap.size (jN i).toArray 266:=h▸heap_alloc_new w _
 exact hB.own (R:=ff) (xs:=[i]) (bA.one rfl) hb rfl (by unfold maxLen;omega)
theorem rP {B c1 c2:Nat} {l1 l2:List Ins} {A1 A2:Option Addr} {w:World} (h1:RL ff w B l1 A1) (h2:RL ff w B l2 A2) (hB:B≤w.heap.size) (hn1:l1.length≤100000) (hn2:l2.length≤100000) :
 Calls Tryz.prog 231 #[.slice A1 l1.length c1,.slice A2 l2.length c2] w fun e w'=>ListE w w' (gS l1 l2) e:=by
 obtain ⟨i0,hi0,hz0,hz1,hz2⟩:=info_parts ow
 have H1:=ym h1
 have H2:=ym h2
 clear h1 h2
 go_enter Tryz.func231,Tryz.ntmps231
 go_wp2_with fail
 generalize hW:World.alloc _ _=w1
 obtain ⟨hb,hz⟩:=al1 hW
 have HO:=ym (fI (i:=bu 1 (l1.length+2)) hW rfl (yo _))
 have HB1:=ym hb
 clear hW hz hb
 refine (lh (B:=B) (H1.out.keep HB1.out hB) (yn hB HB1.out.size) (by omega)).mono ?_
 rintro e w2 ⟨⟨A3,c3,rfl,ho⟩,hb⟩
 rw [ah]
 have HB2:=ym (ac HB1.out hb)
 have HO2:=ym (HO.out.later hb (yp _))
 have HS2:=ym ho.src
 clear ho hb
 go_upto_region 3 with ((
  at_builtin
  refine aq (R:=ff) (e:=266) (base:=w.heap.size) (B:=0) (xs:=[bu 1 (l1.length+2)]) (ys:=aH l1 1) rfl (.tmp 12) (.tmp 14) 248 rfl (bytes:=56) Tryz.underlying248 hi0 hz0 hz1 hz2 rfl (show 0<7 by omega) cN rfl HO2.out rfl HS2.out (ah l1 1).symm (yp _) (by rw [ah];simp only [yE,List.length_nil];omega) (by omega) (HB2.out.size) ?_
  intro v w3 hown hb
  obtain ⟨A4,c4,rfl⟩:=hown.form' (show _=l1.length+1 by simp [ah])
  have HOW:=ym hown
  have HBW:=ym hb
  clear hown hb))
 have HB3:=ym (HB2.out.trans HBW.out)
 have HJ4:=ym (And.intro (HOW.out.later (ar (w:=w3) (o:=.cells #[.int .i64 3,.int .u64 0,.int .u64 0,.int .u64 0,.int .u64 0,.int .i64 ((l1.length:Int)+2+l2.length),.int .i64 0] 266) rfl) (yp _)) (am.src (xs:=[iv (l1.length+2+l2.length)]) (fI (w:=w3) (i:=iv (l1.length+2+l2.length)) (base:=w.heap.size) (o:=.cells #[.int .i64 3,.int .u64 0,.int .u64 0,.int .u64 0,.int .u64 0,.int .i64 ((l1.length:Int)+2+l2.length),.int .i64 0] 266) rfl rfl HB3.out.size)))
 clear HOW HBW
 go_upto_region 4 with ((
  at_builtin
  refine aq (R:=ff) (e:=266) (base:=w.heap.size) (B:=0) (xs:=[bu 1 (l1.length+2)]++aH l1 1) (ys:=[iv (l1.length+2+l2.length)]) rfl (.tmp 16) (.tmp 23) 248 rfl (bytes:=56) Tryz.underlying248 hi0 hz0 hz1 hz2 rfl (show 0<7 by omega) cN rfl HJ4.out.1 rfl HJ4.out.2 rfl (yp _) (by rw [yv,ah];simp only [yE,List.length_nil];omega) (by omega) ((by rw [World.size_alloc];have:=HB3.out.size;omega)) ?_
  intro v w4 hown hb
  obtain ⟨A5,c5,rfl⟩:=hown.form' (show _=l1.length+2 by simp [ah])
  have HOW:=ym hown
  have HBW:=ym hb
  clear hown hb))
 have HB4:=ym ((HB3.out.alloc HB3.out.size (.cells #[.int .i64 3,.int .u64 0,.int .u64 0,.int .u64 0,.int .u64 0,.int .i64 ((l1.length:Int)+2+l2.length),.int .i64 0] 266)).trans HBW.out)
 have HO4:=ym HOW.out
 clear HOW HBW HJ4
 go_wp2_with fail
 refine (lh (B:=B) (H2.out.keep HB4.out hB) (yn hB HB4.out.size) (by omega)).mono ?_
 rintro e w5 ⟨⟨A6,c6,rfl,ho⟩,hb⟩
 rw [ah]
 have HB5:=ym (ac HB4.out hb)
 have HO5:=ym (HO4.out.later hb (yp _))
 have HS5:=ym ho.srcn
 clear ho hb
 go_wp2_with ((
  at_builtin
  refine aq (R:=ff) (e:=266) (base:=w.heap.size) (B:=0) (xs:=[bu 1 (l1.length+2)]++aH l1 1++[iv (l1.length+2+l2.length)]) (ys:=aH l2 (l1.length+2)) rfl (.tmp 25) (.tmp 29) 248 rfl (bytes:=56) Tryz.underlying248 hi0 hz0 hz1 hz2 rfl (show 0<7 by omega) cN rfl HO5.out rfl HS5.out (ah l2 _).symm (yp _) (by simp only [yv,ah,yE,List.length_nil];omega) (by omega) (HB5.out.size) ?_
  intro v w6 hown hb
  obtain ⟨A7,c7,rfl⟩:=hown.form' (show _=(gS l1 l2).length from rfl)
  have HOW:=ym hown
  have HBW:=ym hb
  clear hown hb))
 go_ret
 exact ⟨⟨A7,c7,rfl,HOW.out⟩,HB5.out.trans HBW.out⟩
end Go.Proofs.YtjpndglegpcdnaaGreat
