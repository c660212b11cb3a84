/- op.compares, op.add, op.Binary on numbers and texts: what each arm tells. -/
import Derived.Test.YtdphibjibnffeaaGreatFc5
import Derived.Test.YtdphibjibnffeaaGreatExpr2
import Derived.Test.YtdphibjibnffeaaGreatStkQ
import Derived.Test.YtdphibjibnffeaaGreatHeldA
import Derived.Deep.RegionLaw
import Derived.Test.YtdphibjibnffeaaGreatBSearch
set_option linter.unusedVariables false
set_option linter.unusedSimpArgs false
set_option maxRecDepth 100000
set_option maxHeartbeats 8000000
namespace Go.Proofs.YtdphibjibnffeaaGreat
open Go.ChangeShapes Go.WideShapes Go.ChangeAt Go.RowKit
def cK (p q:List UInt8 × Int):Int:=if dO p.1 q.1=0 then eG p.2 q.2 else dO p.1 q.1
theorem oB:Ord3 cK:=Ord3.andThen (kr.by fun p:List UInt8 × Int=>p.1) (gI.by fun p:List UInt8 × Int=>p.2)
def kOf (f:Fc):List UInt8 × Int:=(bs f.pr.name,(f.pr.terms.length:Int))
theorem iB (f:Fc) (name:ByteArray) (n:Int):dz f name n=cK (kOf f) (bs name,n):=by unfold dz cK kOf;rw [orL2]
theorem uQ {a b:Fc} (h:aW a b<0):cK (kOf a) (kOf b)≤0:=by
 unfold aW at h
 unfold cK kOf
 simp only [orL] at h ⊢
 split
 ·rename_i h1
  rw [if_pos h1] at h
  split at h
  ·rename_i h2;omega
  ·omega
 ·rename_i h1
  rw [if_neg h1] at h
  omega
def bK (fs:List Fc) (name:ByteArray) (n:Int):List Fc:=fs.filter (fun f=>decide (dz f name n=0))
def csA (fs:List Fc) (name:ByteArray) (n:Int) (i:Nat):Int:=match fs[i]? with | some x=>dz x name n | none=>0
section
variable {fs:List Fc} {name:ByteArray} {n:Int} {i j:Nat}
theorem iC (h:i<fs.length):csA fs name n i=dz fs[i] name n:=by unfold csA;rw [List.getElem?_eq_getElem h]
theorem zf (hs:bi fs) (hij:i≤j) (hj:j<fs.length):cK (kOf (fs[i]'(by omega))) (kOf fs[j])≤0:=by
 rcases Nat.lt_or_eq_of_le hij with h1 | rfl
 ·exact uQ (List.pairwise_iff_getElem.1 hs i j (by omega) hj h1)
 ·rw [oB.self];exact Int.le_refl _
theorem rJ (hs:bi fs) (hij:i≤j) (hj:j<fs.length) (h:csA fs name n j<0):csA fs name n i<0:=by
 rw [iC hj,iB] at h
 rw [iC (by omega),iB]
 exact oB.le_lt (zf hs hij hj) h
theorem csA_up (hs:bi fs) (hij:i≤j) (hj:j<fs.length) (h:0<csA fs name n i):0<csA fs name n j:=by
 rw [iC (by omega),iB] at h
 rw [iC hj,iB]
 have h1:=oB.anti (kOf (fs[i]'(by omega))) (bs name,n)
 have h2:=oB.anti (kOf fs[j]) (bs name,n)
 have h3:=oB.lt_le (x:=(bs name,n)) (by omega) (zf hs hij hj)
 omega
theorem pv {p q:Nat} (hs:bi fs) (hp:p=pJ fs.length (csA fs name n)) (hpq:p≤q) (hq:q≤fs.length) (h1:∀i,p≤i→i<q→csA fs name n i=0) (h2:q<fs.length→csA fs name n q≠0):(fs.drop p).take (q-p)=bK fs name n:=by
 have e:fs=fs.take p++((fs.drop p).take (q-p)++fs.drop q):=by
  have h3:fs.drop q=(fs.drop p).drop (q-p):=by rw [List.drop_drop];congr 1;omega
  rw [h3,List.take_append_drop,List.take_append_drop]
 have f1:(fs.take p).filter (fun f=>decide (dz f name n=0))=[]:=by
  rw [List.filter_eq_nil_iff]
  intro a ha
  obtain ⟨i,hi,rfl⟩:=List.getElem_of_mem ha
  rw [List.length_take] at hi
  rw [List.getElem_take]
  have:=lI (n:=fs.length) (cs:=csA fs name n) (k:=i) (by omega)
  rw [iC (by omega)] at this
  simp only [decide_eq_true_eq];omega
 have f2:((fs.drop p).take (q-p)).filter (fun f=>decide (dz f name n=0))=(fs.drop p).take (q-p):=by
  rw [List.filter_eq_self]
  intro a ha
  obtain ⟨i,hi,rfl⟩:=List.getElem_of_mem ha
  rw [List.length_take,List.length_drop] at hi
  rw [List.getElem_take,List.getElem_drop]
  have:=h1 (p+i) (by omega) (by omega)
  rw [iC (by omega)] at this
  simpa using this
 have f3:(fs.drop q).filter (fun f=>decide (dz f name n=0))=[]:=by
  rw [List.filter_eq_nil_iff]
  intro a ha
  obtain ⟨i,hi,rfl⟩:=List.getElem_of_mem ha
  rw [List.length_drop] at hi
  rw [List.getElem_drop]
  have h3:=h2 (by omega)
  have h4:¬csA fs name n q<0:=by
   intro h5
   have h6:=rJ hs hpq (show q<fs.length by omega) h5
   have h7:¬csA fs name n p<0:=by rw [hp];exact wj (by omega)
   exact h7 h6
  have h5:=csA_up hs (Nat.le_add_right q i) (show q+i<fs.length by omega) (by omega:0<csA fs name n q)
  rw [iC (by omega)] at h5
  simp only [decide_eq_true_eq];omega
 unfold bK
 conv=>rhs;rw [e]
 rw [List.filter_append,List.filter_append,f1,f2,f3,List.nil_append,List.append_nil]
end
theorem FRow.lower {base b0 d c:Nat} {w:World} {xs:List FV} {A:Option Addr} (h:FRow base d w xs A c) (hb:b0≤base):FRow b0 d w xs A c:=
 ⟨h.own.lower hb,fun x hx=>⟨(h.deep x hx).1,(h.deep x hx).2.less fun k _ hm=>hm.imp (fun h=>by omega) id⟩⟩
theorem ar.none_nil {α:Type} {R:Reader α} {e:TypeId} {w:World} {base B n c:Nat} {xs:List α} (h:ar R e w base B (.slice none n c) xs):xs=[]∧c=0:=by
 obtain ⟨cells,how,_⟩:=h
 rcases how.2 with ⟨h1,h2⟩ | ⟨g,cap,cur,hv,_⟩
 ·simp only [Value.slice.injEq,true_and] at h1
  exact ⟨List.eq_nil_of_length_eq_zero h2,h1.2⟩
 ·cases hv
theorem ar.some_row {α:Type} {R:Reader α} {e:TypeId} {w:World} {base B n c:Nat} {a:Addr} {xs:List α} (h:ar R e w base B (.slice (some a) n c) xs):∃g,a=⟨g,0,none⟩∧xs.length≤c∧c≤9223372036854775807:=by
 obtain ⟨cells,how,_⟩:=h
 rcases how.2 with ⟨h1,h2⟩ | ⟨g,cap,cur,hv,_,_,k1,k2,_⟩
 ·cases h1
 ·simp only [Value.slice.injEq,Option.some.injEq] at hv
  obtain ⟨rfl,_,rfl⟩:=hv
  exact ⟨g,rfl,k1,by unfold maxLen at k2;omega⟩
theorem wM {w:World} (d:Nat):Calls Tryz.prog 50 #[] w fun z w'=>z=.returned (.pointer (some ⟨w.heap.size,0,none⟩))∧StA (w.heap.size+1) d w' w.heap.size [] none 0∧Below w.heap.size w w':=by
 go_enter Tryz.func50,Tryz.ntmps50
 go_wp2_with fail
 generalize hW:World.alloc _ _=w1
 obtain ⟨hb1,hz⟩:=al1 hW
 have HS1:=zE (n11 hW)
 have HB1:=zE hb1
 clear hW hb1
 go_wp2_with fail
 go_ret
 exact ⟨rfl,⟨HS1.out,by omega,by omega,ar.nil _ _ _ _ _,by simp,by simp,List.Pairwise.nil⟩,HB1.out⟩
theorem rv {base d S c:Nat} {xs:List FV} {A:Option Addr} {name:ByteArray} {n:Int} {w:World} (hs:StA base d w S xs A c) (hn:xs.length≤100000) :
 Calls Tryz.prog 41 #[.pointer (some ⟨S,0,none⟩),.string name,.int .i64 n] w fun z w'=>(∃ys A' c',ys.map FV.f=bK (xs.map FV.f) name n∧z=.returned (.slice A' ys.length c')∧FRow w.heap.size d w' ys A' c')∧Below w.heap.size w w':=by
 have HS:=zE hs
 clear hs
 go_enter Tryz.func41,Tryz.ntmps41
 go_upto_region 1 with fail
 generalize hW:World.alloc _ _=w1
 obtain ⟨hb,hz⟩:=al1 hW
 have HP1:=zE (n11 hW)
 have HB1:=zE hb
 have hsz1:=hb.size
 have HS1:=zE (HS.out.later hb)
 clear hW hb
 have HRL:=zE (HS1.out.rl (by omega))
 have hlm:(xs.map FV.f).length=xs.length:=List.length_map _
 have HLM:=zE hlm
 have HOK:Hid (∀f∈xs.map FV.f,FcOk f):=zE (fun f hf=>by obtain ⟨y,hy,rfl⟩:=List.mem_map.1 hf;exact HS.out.ok y hy)
 obtain ⟨p,hp⟩:∃p,p=pJ (xs.map FV.f).length (csA (xs.map FV.f) name n):=⟨_,rfl⟩
 have HP:=zE hp
 have hpn:p≤xs.length:=by have:=wl (xs.map FV.f).length (csA (xs.map FV.f) name n);rw [hlm] at this;rw [hp,hlm];exact this
 clear hp hlm
 have k_s:=HS1.out.hd.cell
 have l_s:=HS1.out.hd.lt
 go_upto_region 4 with fail
 go_wp2_with (go_at_call 93;rw [←HLM.out];refine (sO (d:=d) (B:=w1.heap.size) (c:=c) (G:=w.heap.size) (fs:=xs.map FV.f) (name:=name) (n:=n) (A:=A) HRL.out HP1.out HOK.out (by rw [HLM.out];omega) (zG _) (csA (xs.map FV.f) name n) (fun i hi=>iC hi) (fun i j hij hj h=>rJ HS.out.sort hij hj h)).mono ?_;rintro z w2 ⟨rfl,hb⟩;rw [←HP.out,HLM.out];have HB2:=zE hb;have hsz2:=hb.size;clear k_s l_s hb)
 have hen:=zc
 generalize (decide (p<xs.length)&&decide (csA (xs.map FV.f) name n p=0))=bq
 go_loopw [10] (fun i wr=>∃q:Nat,p≤q∧q≤xs.length∧i=.int .i64 q∧Hid (∀i,p≤i→i<q→csA (xs.map FV.f) name n i=0)∧Hid (Below w2.heap.size w2 wr)) (fun i _=>xs.length-(intOf i).toNat)
 case atStart=>exact ⟨p,zG _,hpn,rfl,zE (fun i h1 h2=>absurd h2 (by omega)),zE (zI _ _)⟩
 case round=>
  obtain ⟨q,hpq,hq,rfl,HZ,HWR⟩:=hrel
  have HBr:=zE (ab (ab HB1.out HB2.out) HWR.out)
  have HSr:=zE (HS.out.later HBr.out)
  have HPr:=zE ((HP1.out.later HB2.out).later HWR.out)
  have hszr:=HWR.out.size
  have k_s:=HSr.out.hd.cell
  have l_s:=HSr.out.hd.lt
  by_cases hlt:q<xs.length
  ·obtain ⟨g,c9,e9,h1,h2,h3,h4,h5,h6,_⟩:=HSr.out.row.sh bA (by omega)
   simp only [Value.slice.injEq,true_and] at e9
   obtain ⟨rfl,rfl⟩:=e9
   obtain ⟨x,hx⟩:∃x,x=xs[q]:=⟨_,rfl⟩
   have c0:wr.cell? ⟨g,q*3,none⟩=some (.string x.f.pr.name):=by rw [hx];exact h5 q hlt 0 _ rfl
   have c1:wr.cell? ⟨g,q*3+1,none⟩=some (.slice x.a x.f.pr.terms.length x.c):=by rw [hx];exact h5 q hlt 1 _ rfl
   have c2:wr.cell? ⟨g,q*3+2,none⟩=some (.int .u32 x.f.o):=by rw [hx];exact h5 q hlt 2 _ rfl
   have HXR:Hid ((ay (d+1)).rd wr wr.heap.size x.f x.cs):=zE (by rw [hx];exact (HSr.out.deep _ (List.getElem_mem hlt)).here)
   have HXA:Hid (csA (xs.map FV.f) name n q=dz x.f name n):=zE (by rw [iC (by rw [HLM.out];exact hlt),List.getElem_map,hx])
   have hI1:(q:Int)<(xs.length:Int):=by omega
   have hI0:(0:Int)≤(q:Int):=Int.natCast_nonneg _
   clear h5 h6 hx
   go_wp2_with fail
   refine (uy (d:=d) (B:=wr.heap.size) (f:=x.f) (vf:=[_,_,_]) (name:=name) (n:=n) HXR.out HPr.out (zG _)).mono ?_
   rintro z w5 ⟨rfl,hb⟩
   have HB5:=zE (ab HWR.out hb)
   have hsz5:=hb.size
   clear c0 c1 c2 k_s l_s hb
   by_cases hz:dz x.f name n=0
   ·have hz':(dz x.f name n==0)=true:=by simpa using hz
    have HN:=zE hz
    generalize dz x.f name n=r at *
    clear hz
    go_wp2_with fail
    go_roundw
    case rel=>exact ⟨q+1,by omega,by omega,by go_num,zE (fun i h1 h2=>by
     rcases Nat.lt_or_ge i q with h | h
     ·exact HZ.out i h1 h
     ·obtain rfl:i=q:=by omega
      rw [HXA.out];exact HN.out),HB5⟩
    case measure=>simp [intOf];omega
   ·have hz':(dz x.f name n==0)=false:=by simpa using hz
    have HN:Hid (q<(xs.map FV.f).length→csA (xs.map FV.f) name n q≠0):=zE (fun _=>by rw [HXA.out];exact hz)
    generalize dz x.f name n=r at *
    clear hz HXA
    have HS5:=zE (HS.out.later (ab (ab HB1.out HB2.out) HB5.out))
    have HCUT:=zE (pv HS.out.sort HP.out hpq (by rw [HLM.out];exact hq) HZ.out HN.out)
    have HLN:Hid ((((xs.map FV.f).drop p).take (q-p)).length=q-p):=zE (by rw [List.length_take,List.length_drop,HLM.out];omega)
    have k_s:=HS5.out.hd.cell
    have l_s:=HS5.out.hd.lt
    go_upto_region 8 with fail
    have hI2:(p:Int)≤(q:Int):=by omega
    have hI3:(q:Int)≤(c:Int):=by omega
    have hI4:(0:Int)≤(p:Int):=Int.natCast_nonneg _
    go_wp2_with fail
    have HA:=fQ (d:=d) (B:=w5.heap.size) (c:=c-p) (fs:=((xs.map FV.f).drop p).take (q-p)) (A:=some ⟨g,p*3,none⟩) (w:=w5) (by have h:=(HS5.out.rl (by omega)).cut p (q-p) (by rw [HLM.out];omega);rwa [show (0+p*(ay (d+1)).k)=p*3 from by show 0+p*3=_;omega] at h) (fun f hf=>HOK.out f (List.mem_of_mem_drop (List.mem_of_mem_take hf))) (by rw [HLN.out];omega) (zG _)
    rw [HLN.out] at HA
    refine HA.mono ?_
    rintro z w6 ⟨⟨ys,A6,c6,hys,rfl,hrow⟩,hb6⟩
    have HROW:=zE hrow
    have HYS:=zE hys
    have HB6:=zE hb6
    have HYL:Hid (ys.length=q-p):=zE (by rw [←List.length_map FV.f,hys,HLN.out])
    clear hrow hys hb6 HA
    go_wp2_with fail
    go_ret
    exact ⟨⟨ys,A6,c6,by rw [HYS.out,HCUT.out],by rw [HYL.out];rfl,HROW.out.lower (ab (ab (ab HB1.out HB2.out) HB5.out) (zI _ _)).size⟩,ab (ab (ab HB1.out HB2.out) HB5.out) HB6.out⟩
  ·have HN:Hid (q<(xs.map FV.f).length→csA (xs.map FV.f) name n q≠0):=zE (fun h=>by rw [HLM.out] at h;omega)
   rcases A with _ | a
   ·obtain ⟨rfl,rfl⟩:=ar.none_nil HSr.out.row
    have hq0:q=0:=by simpa using hq
    have hp0:p=0:=by omega
    subst hq0 hp0
    have HCUT:Hid ([]=bK (([]:List FV).map FV.f) name n):=zE rfl
    clear hpq hq hlt hpn k_s HN HZ HLM hn
    have k_s:∀o:Nat,wr.cell? ⟨S,o,none⟩=(#[.slice none 0 0]:Array Value)[o]?:=HSr.out.hd.cell
    simp only [List.length_nil]
    go_wp2_with fail
    refine (fQ (d:=d) (B:=wr.heap.size) (c:=0) (fs:=[]) (A:=none) (w:=wr) (fun h=>absurd h (by simp)) (by simp) (by simp) (zG _)).mono ?_
    rintro z w6 ⟨⟨ys,A6,c6,hys,rfl,hrow⟩,hb6⟩
    have HROW:=zE hrow
    have HYS:=zE hys
    have HB6:=zE hb6
    have HYL:Hid (ys.length=0):=zE (by rw [←List.length_map FV.f,hys];rfl)
    clear hrow hys hb6
    go_wp2_with fail
    go_ret
    exact ⟨⟨ys,A6,c6,by rw [HYS.out,HCUT.out],by rw [HYL.out];rfl,HROW.out.lower HBr.out.size⟩,ab HBr.out HB6.out⟩
   ·obtain ⟨g,rfl,hg3,hg4⟩:=ar.some_row HSr.out.row
    have HB5:=HWR
    have hsz5:=hszr
    clear k_s l_s
    generalize wr=w5 at *
    have HS5:=zE (HS.out.later (ab (ab HB1.out HB2.out) HB5.out))
    have HCUT:=zE (pv HS.out.sort HP.out hpq (by rw [HLM.out];exact hq) HZ.out HN.out)
    have HLN:Hid ((((xs.map FV.f).drop p).take (q-p)).length=q-p):=zE (by rw [List.length_take,List.length_drop,HLM.out];omega)
    have k_s:=HS5.out.hd.cell
    have l_s:=HS5.out.hd.lt
    go_upto_region 8 with fail
    have hI2:(p:Int)≤(q:Int):=by omega
    have hI3:(q:Int)≤(c:Int):=by omega
    have hI4:(0:Int)≤(p:Int):=Int.natCast_nonneg _
    go_wp2_with fail
    ·have HA:=fQ (d:=d) (B:=w5.heap.size) (c:=0) (fs:=((xs.map FV.f).drop p).take (q-p)) (A:=some ⟨g,0,none⟩) (w:=w5) (fun h=>by rw [HLN.out] at h;omega) (fun f hf=>HOK.out f (List.mem_of_mem_drop (List.mem_of_mem_take hf))) (by rw [HLN.out];omega) (zG _)
     rw [HLN.out] at HA
     refine HA.mono ?_
     rintro z w6 ⟨⟨ys,A6,c6,hys,rfl,hrow⟩,hb6⟩
     have HROW:=zE hrow
     have HYS:=zE hys
     have HB6:=zE hb6
     have HYL:Hid (ys.length=q-p):=zE (by rw [←List.length_map FV.f,hys,HLN.out])
     clear hrow hys hb6 HA
     go_wp2_with fail
     go_ret
     exact ⟨⟨ys,A6,c6,by rw [HYS.out,HCUT.out],by rw [HYL.out];rfl,HROW.out.lower (ab (ab (ab HB1.out HB2.out) HB5.out) (zI _ _)).size⟩,ab (ab (ab HB1.out HB2.out) HB5.out) HB6.out⟩
    ·have HA:=fQ (d:=d) (B:=w5.heap.size) (c:=c-p) (fs:=((xs.map FV.f).drop p).take (q-p)) (A:=some ⟨g,p*3,none⟩) (w:=w5) (by have h:=(HS5.out.rl (by omega)).cut p (q-p) (by rw [HLM.out];omega);rwa [show (0+p*(ay (d+1)).k)=p*3 from by show 0+p*3=_;omega] at h) (fun f hf=>HOK.out f (List.mem_of_mem_drop (List.mem_of_mem_take hf))) (by rw [HLN.out];omega) (zG _)
     rw [HLN.out] at HA
     refine HA.mono ?_
     rintro z w6 ⟨⟨ys,A6,c6,hys,rfl,hrow⟩,hb6⟩
     have HROW:=zE hrow
     have HYS:=zE hys
     have HB6:=zE hb6
     have HYL:Hid (ys.length=q-p):=zE (by rw [←List.length_map FV.f,hys,HLN.out])
     clear hrow hys hb6 HA
     go_wp2_with fail
     go_ret
     exact ⟨⟨ys,A6,c6,by rw [HYS.out,HCUT.out],by rw [HYL.out];rfl,HROW.out.lower (ab (ab (ab HB1.out HB2.out) HB5.out) (zI _ _)).size⟩,ab (ab (ab HB1.out HB2.out) HB5.out) HB6.out⟩
def uh:SV:=⟨⟨0,0,⟨#[]⟩,[]⟩,none,0⟩
theorem StkE.push {S base D c:Nat} {bn bt:Value} {w w':World} {xs:List SV} {x:SV} {next:Int} {A A':Option Addr} {c':Nat} (h:StkE S base D bn bt w xs next A c) (hx:dl D w x) (hap:nh S A x) (hlt:∀a,x.a=some a→base≤a.block∧a.block<w.heap.size)
 (hb:Below 0 w w') (hk:∀b,b<w.heap.size→b≠S→(∀a,A=some a→a.block≠b)→w'.heap[b]? = w.heap[b]?)
 (hd:bP w' S #[bn,bt,.slice A' (xs++[x]).length c',.int .i64 next] 243) (ho:ar SvR 79 w' base 0 (.slice A' (xs++[x]).length c') (xs++[x]))
 (hf:∀b,A'=some b→(∃a,A=some a∧a.block=b.block)∨w.heap.size≤b.block):StkE S base D bn bt w' (xs++[x]) next A' c':=by
 have key:∀y,dl D w y→(∀a,y.a=some a→a.block≠S∧∀b,A=some b→a.block≠b.block)→(∀a,y.a=some a→base≤a.block∧a.block<w.heap.size)→dl D w' y∧∀a,y.a=some a→(base≤a.block∧a.block<w'.heap.size)∧a.block≠S∧∀b,A'=some b→a.block≠b.block:=by
  intro y hy hs hl
  refine ⟨hy.keep hb fun a ha=>hk _ (hl a ha).2 (hs a ha).1 fun b hb2 e=>(hs a ha).2 b hb2 e.symm,fun a ha=>⟨⟨(hl a ha).1,zJ (hl a ha).2 hb.size⟩,(hs a ha).1,fun b hb2 e=>?_⟩⟩
  rcases hf b hb2 with ⟨a2,h2,e2⟩ | h2
  ·exact (hs a ha).2 a2 h2 (e.trans e2.symm)
  ·have:=(hl a ha).2
   omega
 have hall:∀y∈xs++[x],dl D w' y∧∀a,y.a=some a→(base≤a.block∧a.block<w'.heap.size)∧a.block≠S∧∀b,A'=some b→a.block≠b.block:=by
  intro y hy
  rcases List.mem_append.1 hy with h1 | h1
  ·exact key y (h.tms y h1) (h.sep y h1) (h.lt y h1)
  ·rw [List.mem_singleton] at h1
   subst h1
   exact key y hx hap hlt
 exact ⟨hd,ho,fun y hy=>(hall y hy).1,fun y hy a ha=>((hall y hy).2 a ha).2,fun y hy a ha=>((hall y hy).2 a ha).1⟩
structure BelX (B S:Nat) (w w':World):Prop where
 os:w'.os=w.os
 tape:w'.tape=w.tape
 output:w'.output=w.output
 size:w.heap.size≤w'.heap.size
 block:∀k,k<B→k≠S→w'.heap[k]? = w.heap[k]?
section
variable {B S:Nat} {w w' w'':World}
theorem BelX.of (h:Below B w w'):BelX B S w w':=⟨h.os,h.tape,h.output,h.size,fun k hk _=>h.block k hk⟩
theorem BelX.exc (h:Exc S w w') (hb:B≤w.heap.size):BelX B S w w':=⟨h.1.os,h.1.tape,h.1.output,h.1.size,fun k hk hne=>h.2 k (zJ hk hb) hne⟩
theorem BelX.refl (B S:Nat) (w:World):BelX B S w w:=.of (.refl _ _)
theorem BelX.trans (h:BelX B S w w') (k:BelX B S w' w''):BelX B S w w'':=⟨k.os.trans h.os,k.tape.trans h.tape,k.output.trans h.output,zF h.size k.size,fun i hi hne=>(k.block i hi hne).trans (h.block i hi hne)⟩
theorem BelX.setCell (h:BelX B S w w') {p:Addr} (hp:B≤p.block) (v:Value):BelX B S w (w'.setCell p v):=h.trans (.of ((zI B w').setCell hp v))
theorem BelX.setS (h:BelX B S w w') (i:Nat) (v:Value):BelX B S w (w'.setCell ⟨S,i,none⟩ v):=
 have k:=(zI 0 w').setCell (p:=⟨S,i,none⟩) (zH _) v
 h.trans ⟨k.os,k.tape,k.output,k.size,fun b _ hne=>Below.heap_setCell w' ⟨S,i,none⟩ v b hne⟩
theorem BelX.drew (h:BelX B S w w'):BelX B S w w'.drew:=h.trans (.of (zI B w').drew)
theorem BelX.zero (h:BelX B S w w'):Below 0 w w':=⟨h.os,h.tape,h.output,h.size,fun k hk=>absurd hk (Nat.not_lt_zero _)⟩
theorem BelX.mono {B':Nat} (h:BelX B S w w') (hB:B'≤B):BelX B' S w w':=⟨h.os,h.tape,h.output,h.size,fun k hk=>h.block k (by omega)⟩
theorem BelX.low (h:BelX B S w w') (hB:B≤S):Below B w w':=⟨h.os,h.tape,h.output,h.size,fun k hk=>h.block k hk (by omega)⟩
end
theorem sm {S base D c g2 c2:Nat} {bn bt:Value} {w wA w2 wf:World} {xs:List SV} {x:SV} {next:Int} {A:Option Addr} (h:StkE S base D bn bt w xs next A c) (hx:dl D w x) (hap:nh S A x) (hlt:∀a,x.a=some a→base≤a.block∧a.block<w.heap.size) (hb:base≤w.heap.size)
 (hA:Below w.heap.size w wA) (hg:wA.grownBy w2 (Value.slice A xs.length c).ownBlock) (hf:bz wA (.slice A xs.length c) (.slice (some ⟨g2,0,none⟩) (xs.length+1) c2)) (hg2:base≤g2)
 (hfin:∀b,b≠S→b≠g2→wf.heap[b]? = w2.heap[b]?) (hbf:BelX base S w2 wf)
 (hd:bP wf S #[bn,bt,.slice (some ⟨g2,0,none⟩) (xs.length+1) c2,.int .i64 next] 243) (ho:ar SvR 79 wf base 0 (.slice (some ⟨g2,0,none⟩) (xs.length+1) c2) (xs++[x])) :
 BelX base S w wf∧∃A' c',StkE S base D bn bt wf (xs++[x]) next A' c':=by
 have hAb:∀k,(Value.slice A xs.length c).ownBlock=some k→base≤k:=by
  obtain ⟨cells,how,_⟩:=h.own
  exact fun k hk=>(how.lt k hk).1
 have hsz:=hA.size
 have hB2:Below base wA w2:=(zI base wA).grown hg (by omega) hAb
 have hB:BelX base S w wf:=(BelX.of ((hA.mono hb).trans hB2)).trans hbf
 have e1:xs.length+1=(xs++[x]).length:=by simp
 rw [e1] at hd ho
 refine ⟨hB,_,_,h.push hx hap hlt hB.zero (fun b hbl hbS2 hne=>?_) hd ho fun b hb2=>?_⟩
 ·have hnr:some b≠(Value.slice A xs.length c).ownBlock:=by
   rcases A with _ | a
   ·simp [Value.ownBlock]
   ·simp only [Value.ownBlock,ne_eq,Option.some.injEq]
    exact fun e=>hne a rfl e.symm
  have hng:b≠g2:=by
   rcases hf with hf | ⟨k,hk,hk2⟩
   ·intro e
    subst e
    exact hnr hf
   ·simp only [Value.ownBlock,Option.some.injEq] at hk
    omega
  rw [hfin b hbS2 hng,hg.block b (zJ hbl hsz) hnr,hA.block b hbl]
 ·simp only [Option.some.injEq] at hb2
  subst hb2
  rcases hf with hf | ⟨k,hk,hk2⟩
  ·rcases A with _ | a
   ·simp [Value.ownBlock] at hf
   ·simp only [Value.ownBlock,Option.some.injEq] at hf
    exact .inl ⟨a,rfl,hf.symm⟩
  ·simp only [Value.ownBlock,Option.some.injEq] at hk
   subst hk
   exact .inr (by show w.heap.size≤g2;omega)
theorem vI {w2:World} {base g2 c2:Nat} {xs:List SV} (ho:ar SvR 79 w2 base 0 (.slice (some ⟨g2,0,none⟩) (xs.length+1) c2) (xs++[uh])) (x:SV):ar SvR 79 ((((w2.setCell ⟨g2,xs.length*4,none⟩ (.int .i64 x.t.kind)).setCell ⟨g2,xs.length*4+1,none⟩ (.int .i64 x.t.n)).setCell ⟨g2,xs.length*4+2,none⟩ (.string x.t.s)).setCell ⟨g2,xs.length*4+3,none⟩ (.slice x.a x.t.l.length x.c)) base 0 (.slice (some ⟨g2,0,none⟩) (xs.length+1) c2) (xs++[x]):=by
 obtain ⟨g3,c3,e3,_,_,_,_,_,_,hp3⟩:=ho.last
 simp only [Value.slice.injEq,Option.some.injEq,Addr.mk.injEq,and_true,true_and] at e3
 obtain ⟨rfl,rfl⟩:=e3
 exact hp3 x
theorem wu {S base D c g2 c2:Nat} {bn bt:Value} {w wA w2:World} {xs:List SV} {x:SV} {next:Int} {A:Option Addr} (h:StkE S base D bn bt w xs next A c) (hx:dl D w x) (hap:nh S A x) (hlt:∀a,x.a=some a→base≤a.block∧a.block<w.heap.size) (hb:base≤w.heap.size)
 (hA:Below w.heap.size w wA) (ho:ar SvR 79 w2 base 0 (.slice (some ⟨g2,0,none⟩) (xs.length+1) c2) (xs++[uh])) (hg:wA.grownBy w2 (Value.slice A xs.length c).ownBlock) (hf:bz wA (.slice A xs.length c) (.slice (some ⟨g2,0,none⟩) (xs.length+1) c2)) (hg2:base≤g2) (hne:S≠g2) (hd:bP w2 S #[bn,bt,.slice A xs.length c,.int .i64 next] 243) :
 BelX base S w (((((w2.setCell ⟨g2,xs.length*4,none⟩ (.int .i64 x.t.kind)).setCell ⟨g2,xs.length*4+1,none⟩ (.int .i64 x.t.n)).setCell ⟨g2,xs.length*4+2,none⟩ (.string x.t.s)).setCell ⟨g2,xs.length*4+3,none⟩ (.slice x.a x.t.l.length x.c)).setCell ⟨S,2,none⟩ (.slice (some ⟨g2,0,none⟩) (xs.length+1) c2))∧∃A' c',StkE S base D bn bt (((((w2.setCell ⟨g2,xs.length*4,none⟩ (.int .i64 x.t.kind)).setCell ⟨g2,xs.length*4+1,none⟩ (.int .i64 x.t.n)).setCell ⟨g2,xs.length*4+2,none⟩ (.string x.t.s)).setCell ⟨g2,xs.length*4+3,none⟩ (.slice x.a x.t.l.length x.c)).setCell ⟨S,2,none⟩ (.slice (some ⟨g2,0,none⟩) (xs.length+1) c2)) (xs++[x]) next A' c':=by
 have d1:=hd.far hne (xs.length*4) (.int .i64 x.t.kind)
 have d2:=d1.far hne (xs.length*4+1) (.int .i64 x.t.n)
 have d3:=d2.far hne (xs.length*4+2) (.string x.t.s)
 have d4:=d3.far hne (xs.length*4+3) (.slice x.a x.t.l.length x.c)
 have b1:=(zI base w2).setCell (p:=⟨g2,xs.length*4,none⟩) hg2 (.int .i64 x.t.kind)
 have b2:=b1.setCell (p:=⟨g2,xs.length*4+1,none⟩) hg2 (.int .i64 x.t.n)
 have b3:=b2.setCell (p:=⟨g2,xs.length*4+2,none⟩) hg2 (.string x.t.s)
 have b4:=b3.setCell (p:=⟨g2,xs.length*4+3,none⟩) hg2 (.slice x.a x.t.l.length x.c)
 have b5:=(BelX.of (S:=S) b4).setS 2 (.slice (some ⟨g2,0,none⟩) (xs.length+1) c2)
 refine sm h hx hap hlt hb hA hg hf hg2 (fun b h1 h2=>?_) b5 (d4.set_ 2 (.slice (some ⟨g2,0,none⟩) (xs.length+1) c2)) ((vI ho x).farT d4 zy 2 (.slice (some ⟨g2,0,none⟩) (xs.length+1) c2))
 rw [Below.heap_setCell _ ⟨S,2,none⟩ _ b h1,Below.heap_setCell _ ⟨g2,xs.length*4+3,none⟩ _ b h2,Below.heap_setCell _ ⟨g2,xs.length*4+2,none⟩ _ b h2,Below.heap_setCell _ ⟨g2,xs.length*4+1,none⟩ _ b h2,Below.heap_setCell _ ⟨g2,xs.length*4,none⟩ _ b h2]
theorem wv {S base D c g2 c2:Nat} {bn bt:Value} {w wA w2:World} {xs:List SV} {x:SV} {next:Int} {A:Option Addr} (h:StkE S base D bn bt w xs next A c) (hx:dl D w x) (hap:nh S A x) (hlt:∀a,x.a=some a→base≤a.block∧a.block<w.heap.size) (hb:base≤w.heap.size)
 (hA:Below w.heap.size w wA) (ho:ar SvR 79 w2 base 0 (.slice (some ⟨g2,0,none⟩) (xs.length+1) c2) (xs++[uh])) (hg:wA.grownBy w2 (Value.slice A xs.length c).ownBlock) (hf:bz wA (.slice A xs.length c) (.slice (some ⟨g2,0,none⟩) (xs.length+1) c2)) (hg2:base≤g2) (hne:S≠g2) (hd:bP w2 S #[bn,bt,.slice A xs.length c,.int .i64 next] 243) :
 BelX base S w (((((w2.setCell ⟨S,2,none⟩ (.slice (some ⟨g2,0,none⟩) (xs.length+1) c2)).setCell ⟨g2,xs.length*4,none⟩ (.int .i64 x.t.kind)).setCell ⟨g2,xs.length*4+1,none⟩ (.int .i64 x.t.n)).setCell ⟨g2,xs.length*4+2,none⟩ (.string x.t.s)).setCell ⟨g2,xs.length*4+3,none⟩ (.slice x.a x.t.l.length x.c))∧∃A' c',StkE S base D bn bt (((((w2.setCell ⟨S,2,none⟩ (.slice (some ⟨g2,0,none⟩) (xs.length+1) c2)).setCell ⟨g2,xs.length*4,none⟩ (.int .i64 x.t.kind)).setCell ⟨g2,xs.length*4+1,none⟩ (.int .i64 x.t.n)).setCell ⟨g2,xs.length*4+2,none⟩ (.string x.t.s)).setCell ⟨g2,xs.length*4+3,none⟩ (.slice x.a x.t.l.length x.c)) (xs++[x]) next A' c':=by
 have d0:=hd.set_ 2 (.slice (some ⟨g2,0,none⟩) (xs.length+1) c2)
 have d1:=d0.far hne (xs.length*4) (.int .i64 x.t.kind)
 have d2:=d1.far hne (xs.length*4+1) (.int .i64 x.t.n)
 have d3:=d2.far hne (xs.length*4+2) (.string x.t.s)
 have d4:=d3.far hne (xs.length*4+3) (.slice x.a x.t.l.length x.c)
 have b0:=(BelX.refl base S w2).setS 2 (.slice (some ⟨g2,0,none⟩) (xs.length+1) c2)
 have b1:=b0.setCell (p:=⟨g2,xs.length*4,none⟩) hg2 (.int .i64 x.t.kind)
 have b2:=b1.setCell (p:=⟨g2,xs.length*4+1,none⟩) hg2 (.int .i64 x.t.n)
 have b3:=b2.setCell (p:=⟨g2,xs.length*4+2,none⟩) hg2 (.string x.t.s)
 have b4:=b3.setCell (p:=⟨g2,xs.length*4+3,none⟩) hg2 (.slice x.a x.t.l.length x.c)
 refine sm h hx hap hlt hb hA hg hf hg2 (fun b h1 h2=>?_) b4 d4 (vI (ho.farT hd zy 2 (.slice (some ⟨g2,0,none⟩) (xs.length+1) c2)) x)
 rw [Below.heap_setCell _ ⟨g2,xs.length*4+3,none⟩ _ b h2,Below.heap_setCell _ ⟨g2,xs.length*4+2,none⟩ _ b h2,Below.heap_setCell _ ⟨g2,xs.length*4+1,none⟩ _ b h2,Below.heap_setCell _ ⟨g2,xs.length*4,none⟩ _ b h2,Below.heap_setCell _ ⟨S,2,none⟩ _ b h1]
theorem push_ok {S base D c:Nat} {bn bt:Value} {w:World} {xs:List SV} {x:SV} {next:Int} {A:Option Addr} (h:StkE S base D bn bt w xs next A c) (hx:dl D w x) (hap:nh S A x) (hlt:∀a,x.a=some a→base≤a.block∧a.block<w.heap.size) (hb:base≤w.heap.size) (hn:xs.length≤100000) :
 Calls Tryz.prog 245 #[.pointer (some ⟨S,0,none⟩),.agg x.cs.toArray,.int .i64 0] w fun e w'=>e=.returned (.int .i64 0)∧BelX base S w w'∧∃A' c',StkE S base D bn bt w' (xs++[x]) next A' c':=by
 obtain ⟨i0,hi0,hz0,hz1,hz2⟩:=info_parts hI
 have HS:=zE h
 have HX:=zE (And.intro hx (And.intro hap hlt))
 have hSlt:=h.hd.blk.lt
 clear h hx hap hlt
 unfold SV.cs
 go_enter Tryz.func245,Tryz.ntmps245
 go_wp2_with fail
 generalize hW:World.alloc _ _=w1
 obtain ⟨hb1,hz⟩:=al1 hW
 have BX:=zE (show bP w1 w.heap.size #[.int .i64 x.t.kind,.int .i64 x.t.n,.string x.t.s,.slice x.a x.t.l.length x.c] 79 from hW▸heap_alloc_new w _)
 have HS1:=zE (HS.out.later hb1)
 have HB1:=zE hb1
 clear hW hb1
 have s1:w1.drew.cell? ⟨S,2,none⟩=some (.slice A xs.length c):=HS1.out.hd.blk.cell 2
 have s2:w1.drew.cell? ⟨w.heap.size,0,none⟩=some (.int .i64 x.t.kind):=BX.out.blk.cell 0
 have s3:w1.drew.cell? ⟨w.heap.size,1,none⟩=some (.int .i64 x.t.n):=BX.out.blk.cell 1
 have s4:w1.drew.cell? ⟨w.heap.size,2,none⟩=some (.string x.t.s):=BX.out.blk.cell 2
 have s5:w1.drew.cell? ⟨w.heap.size,3,none⟩=some (.slice x.a x.t.l.length x.c):=BX.out.blk.cell 3
 clear s1 s2 s3 s4 s5
 have k_s:=HS1.out.hd.blk.cell
 have k_x:=BX.out.blk.cell
 have hXlt:w.heap.size<w1.heap.size:=by omega
 have hS1:S<w1.heap.size:=by omega
 have hsrc:=(Blk.src (R:=SvR) (B:=0) (x:=uh) (Blk.drew (Blk.new w1 #[.int .i64 0,.int .i64 0,.string ⟨#[]⟩,.slice none 0 0] 79)) rfl)
 rw [hz] at hsrc
 have HN:=zE (And.intro (HS1.out.own.later ((av (w:=w1) (o:=.cells #[.int .i64 0,.int .i64 0,.string ⟨#[]⟩,.slice none 0 0] 79) rfl).drew) (zH _)) hsrc)
 clear hsrc
 have hii:(xs.length:Int)<(xs.length:Int)+1:=by omega
 go_region_law (
  refine cR (R:=SvR) (e:=79) (base:=base) (xs:=xs) (ys:=[uh]) rfl (.tmp 12) (.tmp 15) 23 rfl (bytes:=56) Tryz.underlying23 hi0 hz0 hz1 hz2 rfl (show 0<4 by omega) cm rfl HN.out.1 rfl HN.out.2 rfl (by simp only [List.length_cons,List.length_nil];omega) (by omega) (by rw [World.size_drew,World.size_alloc];omega) ?_
  intro v2 w2 hown2 hg2 hf2
  have HO2:Hid (ar SvR 79 w2 base 0 v2 (xs++[uh])∧World.grownBy (w1.alloc (.cells #[.int .i64 0,.int .i64 0,.string ⟨#[]⟩,.slice none 0 0] 79)).drew w2 (Value.slice A xs.length c).ownBlock∧bz (w1.alloc (.cells #[.int .i64 0,.int .i64 0,.string ⟨#[]⟩,.slice none 0 0] 79)).drew (.slice A xs.length c) v2):=zE ⟨hown2,hg2,hf2⟩
  have bd:=((HS1.out.hd.later (av (w:=w1) (o:=.cells #[.int .i64 0,.int .i64 0,.string ⟨#[]⟩,.slice none 0 0] 79) rfl)).drew).grown hg2 (HN.out.1.ne ((HS1.out.hd.later (av (w:=w1) (o:=.cells #[.int .i64 0,.int .i64 0,.string ⟨#[]⟩,.slice none 0 0] 79) rfl)).drew) zy)
  have hne2:=hown2.ne bd zy
  have ks2:=bd.blk.cell 2
  have fs2:=bd.blk.free
  have BD:=zE bd
  obtain ⟨g2,c2,rfl,hg2lt,hg2b,hn2,hc2,hcell2,hfr2,hput2⟩:=hown2.last
  simp only [Value.ownBlock,ne_eq,Option.some.injEq] at hne2
  have hne3:S≠g2:=fun e=>hne2 e.symm
  have HP2:=zE hput2
  clear bd
  have e0:w2.cell? ⟨g2,xs.length*4,none⟩=some (.int .i64 0):=hcell2 0 _ rfl
  have e1:w2.cell? ⟨g2,xs.length*4+1,none⟩=some (.int .i64 0):=hcell2 1 _ rfl
  have e2:w2.cell? ⟨g2,xs.length*4+2,none⟩=some (.string ⟨#[]⟩):=hcell2 2 _ rfl
  have e3:w2.cell? ⟨g2,xs.length*4+3,none⟩=some (.slice none 0 0):=hcell2 3 _ rfl
  clear hown2 hg2 hf2 hput2 hcell2)
 all_goals
  go_wp2_with fail
  go_ret
  obtain ⟨hx,hap,hlt⟩:=HX.out
  have hwA:Below w.heap.size w (w1.alloc (.cells #[.int .i64 0,.int .i64 0,.string ⟨#[]⟩,.slice none 0 0] 79)).drew:=(HB1.out.alloc HB1.out.size _).drew
  refine ⟨rfl,?_⟩
  first
   | (with_reducible exact wu HS.out hx hap hlt hb hwA HO2.out.1 HO2.out.2.1 HO2.out.2.2 hg2b hne3 BD.out)
   | (with_reducible exact wv HS.out hx hap hlt hb hwA HO2.out.1 HO2.out.2.1 HO2.out.2.2 hg2b hne3 BD.out)
def zp (S base D:Nat) (bn bt:Value) (w:World) (xs:List SV) (x:SV) (next e:Int):Prop:=
 (e=0∧∃A c,StkE S base D bn bt w (xs++[x]) next A c)∨(e≠0∧∃A c,StkE S base D bn bt w xs next A c)
theorem gr {S base D c:Nat} {bn bt:Value} {w:World} {xs:List SV} {x:SV} {next e0:Int} {A:Option Addr} (h:StkE S base D bn bt w xs next A c) (hx:dl D w x) (hap:nh S A x) (hlt:∀a,x.a=some a→base≤a.block∧a.block<w.heap.size) (hb:base≤w.heap.size) (hn:xs.length≤100000) :
 Calls Tryz.prog 245 #[.pointer (some ⟨S,0,none⟩),.agg x.cs.toArray,.int .i64 e0] w fun e w'=>e=.returned (.int .i64 e0)∧BelX base S w w'∧zp S base D bn bt w' xs x next e0:=by
 by_cases he:e0=0
 ·subst he
  exact (push_ok h hx hap hlt hb hn).mono fun _ _ ⟨h1,h2,h3⟩=>⟨h1,h2,.inl ⟨rfl,h3⟩⟩
 ·have HS:=zE h
  have hq:(e0==0)=false:=by simpa using he
  have HE:=zE he
  clear h hx hap hlt he
  unfold SV.cs
  go_enter Tryz.func245,Tryz.ntmps245
  go_wp2_with fail
  go_ret
  have hb1:=av (w:=w) (o:=.cells #[.int .i64 x.t.kind,.int .i64 x.t.n,.string x.t.s,.slice x.a x.t.l.length x.c] 79) rfl
  exact ⟨rfl,.of (hb1.mono hb),.inr ⟨HE.out,A,c,HS.out.later hb1⟩⟩
abbrev bO (k n:Int) (s:ByteArray) (e:Int):Ending:=.returned (.tuple #[.agg #[.int .i64 k,.int .i64 n,.string s,.slice none 0 0],.int .i64 e])
abbrev emp:ByteArray:=⟨#[]⟩
theorem sH {code x y k n e:Int} {d d' B:Nat} {s s':ByteArray} {l l':List Tm} {vs ws:List Value} {w:World} (ha:RTm w B d ⟨2,x,s,l⟩ vs) (hb:RTm w B d' ⟨2,y,s',l'⟩ ws) (hB:B≤w.heap.size) (fa:af ⟨2,x,s,l⟩=true) (fb:af ⟨2,y,s',l'⟩=true) (hc:code=7∨code=8∨code=9∨code=10) (hr:mW code x y=(k,n,e)) :
 Calls Tryz.prog 247 #[.int .i64 code,.agg vs.toArray,.agg ws.toArray] w fun z w'=>z=bO k n emp e∧Below w.heap.size w w':=by
 obtain ⟨A,c,rfl,q1,q2,q3,q4,q5,_⟩:=ha.cells
 obtain ⟨A',c',rfl,r1,r2,r3,r4,r5,_⟩:=hb.cells
 have HA:=zE ha
 have HB_:=zE hb
 have FA:=zE fa
 have FB:=zE fb
 simp only at q2 q3 q4 q5 r2 r3 r4 r5
 clear ha hb fa fb
 have HR:=zE hr
 have HK:Hid (aJ code 2 2=true):=zE (by rcases hc with rfl | rfl | rfl | rfl<;>decide)
 clear hr
 rcases hc with rfl | rfl | rfl | rfl
 all_goals
  go_enter Tryz.func247,Tryz.ntmps247
  go_wp2_with fail
  generalize hW:World.alloc _ _=w1
  obtain ⟨hb,hz⟩:=al3 hW
  have b_a_1:=n31 hW
  have b_b_1:=n32 hW
  have b_r_1:=n33 hW
  have HB1:=zE hb
  clear hW hz hb
  refine (aj (t:=⟨2,x,s,l⟩) (vs:=[_,_,_,_]) (HA.out.below HB1.out hB) (zF hB HB1.out.size)).mono ?_
  rintro x w2 ⟨rfl,hb⟩
  have b_a_2:=b_a_1.later hb
  have b_b_2:=b_b_1.later hb
  have b_r_2:=b_r_1.later hb
  have HB2:=zE (ab HB1.out hb)
  clear b_a_1 b_b_1 b_r_1
  clear hb
  rw [FA.out]
  have k_a:=b_a_2.cell
  have k_b:=b_b_2.cell
  have k_r:=b_r_2.cell
  go_wp2_with fail
  clear k_a k_b k_r
  refine (aj (t:=⟨2,y,s',l'⟩) (vs:=[_,_,_,_]) (HB_.out.below HB2.out hB) (zF hB HB2.out.size)).mono ?_
  rintro x w3 ⟨rfl,hb⟩
  have b_a_3:=b_a_2.later hb
  have b_b_3:=b_b_2.later hb
  have b_r_3:=b_r_2.later hb
  have HB3:=zE (ab HB2.out hb)
  clear b_a_2 b_b_2 b_r_2
  clear hb
  rw [FB.out]
  have k_a:=b_a_3.cell
  have k_b:=b_b_3.cell
  have k_r:=b_r_3.cell
  go_wp2_with fail
  clear k_a k_b k_r
  refine (aX _ 2 2 _).mono ?_
  rintro x w4 ⟨rfl,hb⟩
  have b_a_4:=b_a_3.later hb
  have b_b_4:=b_b_3.later hb
  have b_r_4:=b_r_3.later hb
  have HB4:=zE (ab HB3.out hb)
  clear b_a_3 b_b_3 b_r_3
  clear hb
  rw [HK.out]
  have k_a:=b_a_4.cell
  have k_b:=b_b_4.cell
  have k_r:=b_r_4.cell
  go_wp2_with fail
  clear k_a k_b k_r
  refine (mX _ x y k n e (by omega) q5 r5 HR.out _).mono ?_
  rintro x w5 ⟨rfl,hb⟩
  have b_a_5:=b_a_4.later hb
  have b_b_5:=b_b_4.later hb
  have b_r_5:=b_r_4.later hb
  have HB5:=zE (ab HB4.out hb)
  clear b_a_4 b_b_4 b_r_4
  clear hb
  have k_a:=b_a_5.cell
  have k_b:=b_b_5.cell
  have k_r:=b_r_5.cell
  have f_r:=b_r_5.free
  go_wp2_with fail
  refine bodyPost_ret (aq rfl rfl (put4 b_r_5 HB5.out (by omega)).1 rfl) rfl ?_
  exact ⟨rfl,(put4 b_r_5 HB5.out (by omega)).2⟩
theorem bin_and {x y:Int} {d d' B:Nat} {s s':ByteArray} {l l':List Tm} {vs ws:List Value} {w:World} (ha:RTm w B d ⟨2,x,s,l⟩ vs) (hb:RTm w B d' ⟨2,y,s',l'⟩ ws) (hB:B≤w.heap.size) (fa:af ⟨2,x,s,l⟩=true) (fb:af ⟨2,y,s',l'⟩=true)  :
 Calls Tryz.prog 247 #[.int .i64 17,.agg vs.toArray,.agg ws.toArray] w fun z w'=>z=bO 2 (bits .and .i64 x y) emp 0∧Below w.heap.size w w':=by
 obtain ⟨A,c,rfl,q1,q2,q3,q4,q5,_⟩:=ha.cells
 obtain ⟨A',c',rfl,r1,r2,r3,r4,r5,_⟩:=hb.cells
 have HA:=zE ha
 have HB_:=zE hb
 have FA:=zE fa
 have FB:=zE fb
 simp only at q2 q3 q4 q5 r2 r3 r4 r5
 clear ha hb fa fb
 have HK:Hid (aJ 17 2 2=true):=zE (by decide)
 go_enter Tryz.func247,Tryz.ntmps247
 go_wp2_with fail
 generalize hW:World.alloc _ _=w1
 obtain ⟨hb,hz⟩:=al3 hW
 have b_a_1:=n31 hW
 have b_b_1:=n32 hW
 have b_r_1:=n33 hW
 have HB1:=zE hb
 clear hW hz hb
 refine (aj (t:=⟨2,x,s,l⟩) (vs:=[_,_,_,_]) (HA.out.below HB1.out hB) (zF hB HB1.out.size)).mono ?_
 rintro x w2 ⟨rfl,hb⟩
 have b_a_2:=b_a_1.later hb
 have b_b_2:=b_b_1.later hb
 have b_r_2:=b_r_1.later hb
 have HB2:=zE (ab HB1.out hb)
 clear b_a_1 b_b_1 b_r_1
 clear hb
 rw [FA.out]
 have k_a:=b_a_2.cell
 have k_b:=b_b_2.cell
 have k_r:=b_r_2.cell
 go_wp2_with fail
 clear k_a k_b k_r
 refine (aj (t:=⟨2,y,s',l'⟩) (vs:=[_,_,_,_]) (HB_.out.below HB2.out hB) (zF hB HB2.out.size)).mono ?_
 rintro x w3 ⟨rfl,hb⟩
 have b_a_3:=b_a_2.later hb
 have b_b_3:=b_b_2.later hb
 have b_r_3:=b_r_2.later hb
 have HB3:=zE (ab HB2.out hb)
 clear b_a_2 b_b_2 b_r_2
 clear hb
 rw [FB.out]
 have k_a:=b_a_3.cell
 have k_b:=b_b_3.cell
 have k_r:=b_r_3.cell
 go_wp2_with fail
 clear k_a k_b k_r
 refine (aX 17 2 2 _).mono ?_
 rintro x w4 ⟨rfl,hb⟩
 have b_a_4:=b_a_3.later hb
 have b_b_4:=b_b_3.later hb
 have b_r_4:=b_r_3.later hb
 have HB4:=zE (ab HB3.out hb)
 clear b_a_3 b_b_3 b_r_3
 clear hb
 rw [HK.out]
 have k_a:=b_a_4.cell
 have k_b:=b_b_4.cell
 have k_r:=b_r_4.cell
 go_wp2_with fail
 clear k_a k_b k_r
 refine (bB _ _).mono ?_
 rintro x w5 ⟨rfl,hb⟩
 have b_a_5:=b_a_4.later hb
 have b_b_5:=b_b_4.later hb
 have b_r_5:=b_r_4.later hb
 have HB5:=zE (ab HB4.out hb)
 clear b_a_4 b_b_4 b_r_4
 clear hb
 have k_a:=b_a_5.cell
 have k_b:=b_b_5.cell
 have k_r:=b_r_5.cell
 have f_r:=b_r_5.free
 go_wp2_with fail
 refine bodyPost_ret (aq rfl rfl (put4 b_r_5 HB5.out (by omega)).1 rfl) rfl ?_
 exact ⟨rfl,(put4 b_r_5 HB5.out (by omega)).2⟩
theorem bin_or {x y:Int} {d d' B:Nat} {s s':ByteArray} {l l':List Tm} {vs ws:List Value} {w:World} (ha:RTm w B d ⟨2,x,s,l⟩ vs) (hb:RTm w B d' ⟨2,y,s',l'⟩ ws) (hB:B≤w.heap.size) (fa:af ⟨2,x,s,l⟩=true) (fb:af ⟨2,y,s',l'⟩=true)  :
 Calls Tryz.prog 247 #[.int .i64 18,.agg vs.toArray,.agg ws.toArray] w fun z w'=>z=bO 2 (bits .or .i64 x y) emp 0∧Below w.heap.size w w':=by
 obtain ⟨A,c,rfl,q1,q2,q3,q4,q5,_⟩:=ha.cells
 obtain ⟨A',c',rfl,r1,r2,r3,r4,r5,_⟩:=hb.cells
 have HA:=zE ha
 have HB_:=zE hb
 have FA:=zE fa
 have FB:=zE fb
 simp only at q2 q3 q4 q5 r2 r3 r4 r5
 clear ha hb fa fb
 have HK:Hid (aJ 18 2 2=true):=zE (by decide)
 go_enter Tryz.func247,Tryz.ntmps247
 go_wp2_with fail
 generalize hW:World.alloc _ _=w1
 obtain ⟨hb,hz⟩:=al3 hW
 have b_a_1:=n31 hW
 have b_b_1:=n32 hW
 have b_r_1:=n33 hW
 have HB1:=zE hb
 clear hW hz hb
 refine (aj (t:=⟨2,x,s,l⟩) (vs:=[_,_,_,_]) (HA.out.below HB1.out hB) (zF hB HB1.out.size)).mono ?_
 rintro x w2 ⟨rfl,hb⟩
 have b_a_2:=b_a_1.later hb
 have b_b_2:=b_b_1.later hb
 have b_r_2:=b_r_1.later hb
 have HB2:=zE (ab HB1.out hb)
 clear b_a_1 b_b_1 b_r_1
 clear hb
 rw [FA.out]
 have k_a:=b_a_2.cell
 have k_b:=b_b_2.cell
 have k_r:=b_r_2.cell
 go_wp2_with fail
 clear k_a k_b k_r
 refine (aj (t:=⟨2,y,s',l'⟩) (vs:=[_,_,_,_]) (HB_.out.below HB2.out hB) (zF hB HB2.out.size)).mono ?_
 rintro x w3 ⟨rfl,hb⟩
 have b_a_3:=b_a_2.later hb
 have b_b_3:=b_b_2.later hb
 have b_r_3:=b_r_2.later hb
 have HB3:=zE (ab HB2.out hb)
 clear b_a_2 b_b_2 b_r_2
 clear hb
 rw [FB.out]
 have k_a:=b_a_3.cell
 have k_b:=b_b_3.cell
 have k_r:=b_r_3.cell
 go_wp2_with fail
 clear k_a k_b k_r
 refine (aX 18 2 2 _).mono ?_
 rintro x w4 ⟨rfl,hb⟩
 have b_a_4:=b_a_3.later hb
 have b_b_4:=b_b_3.later hb
 have b_r_4:=b_r_3.later hb
 have HB4:=zE (ab HB3.out hb)
 clear b_a_3 b_b_3 b_r_3
 clear hb
 rw [HK.out]
 have k_a:=b_a_4.cell
 have k_b:=b_b_4.cell
 have k_r:=b_r_4.cell
 go_wp2_with fail
 clear k_a k_b k_r
 refine (bB _ _).mono ?_
 rintro x w5 ⟨rfl,hb⟩
 have b_a_5:=b_a_4.later hb
 have b_b_5:=b_b_4.later hb
 have b_r_5:=b_r_4.later hb
 have HB5:=zE (ab HB4.out hb)
 clear b_a_4 b_b_4 b_r_4
 clear hb
 have k_a:=b_a_5.cell
 have k_b:=b_b_5.cell
 have k_r:=b_r_5.cell
 have f_r:=b_r_5.free
 go_wp2_with fail
 refine bodyPost_ret (aq rfl rfl (put4 b_r_5 HB5.out (by omega)).1 rfl) rfl ?_
 exact ⟨rfl,(put4 b_r_5 HB5.out (by omega)).2⟩
theorem bin_xor {x y:Int} {d d' B:Nat} {s s':ByteArray} {l l':List Tm} {vs ws:List Value} {w:World} (ha:RTm w B d ⟨2,x,s,l⟩ vs) (hb:RTm w B d' ⟨2,y,s',l'⟩ ws) (hB:B≤w.heap.size) (fa:af ⟨2,x,s,l⟩=true) (fb:af ⟨2,y,s',l'⟩=true)  :
 Calls Tryz.prog 247 #[.int .i64 19,.agg vs.toArray,.agg ws.toArray] w fun z w'=>z=bO 2 (bits .xor .i64 x y) emp 0∧Below w.heap.size w w':=by
 obtain ⟨A,c,rfl,q1,q2,q3,q4,q5,_⟩:=ha.cells
 obtain ⟨A',c',rfl,r1,r2,r3,r4,r5,_⟩:=hb.cells
 have HA:=zE ha
 have HB_:=zE hb
 have FA:=zE fa
 have FB:=zE fb
 simp only at q2 q3 q4 q5 r2 r3 r4 r5
 clear ha hb fa fb
 have HK:Hid (aJ 19 2 2=true):=zE (by decide)
 go_enter Tryz.func247,Tryz.ntmps247
 go_wp2_with fail
 generalize hW:World.alloc _ _=w1
 obtain ⟨hb,hz⟩:=al3 hW
 have b_a_1:=n31 hW
 have b_b_1:=n32 hW
 have b_r_1:=n33 hW
 have HB1:=zE hb
 clear hW hz hb
 refine (aj (t:=⟨2,x,s,l⟩) (vs:=[_,_,_,_]) (HA.out.below HB1.out hB) (zF hB HB1.out.size)).mono ?_
 rintro x w2 ⟨rfl,hb⟩
 have b_a_2:=b_a_1.later hb
 have b_b_2:=b_b_1.later hb
 have b_r_2:=b_r_1.later hb
 have HB2:=zE (ab HB1.out hb)
 clear b_a_1 b_b_1 b_r_1
 clear hb
 rw [FA.out]
 have k_a:=b_a_2.cell
 have k_b:=b_b_2.cell
 have k_r:=b_r_2.cell
 go_wp2_with fail
 clear k_a k_b k_r
 refine (aj (t:=⟨2,y,s',l'⟩) (vs:=[_,_,_,_]) (HB_.out.below HB2.out hB) (zF hB HB2.out.size)).mono ?_
 rintro x w3 ⟨rfl,hb⟩
 have b_a_3:=b_a_2.later hb
 have b_b_3:=b_b_2.later hb
 have b_r_3:=b_r_2.later hb
 have HB3:=zE (ab HB2.out hb)
 clear b_a_2 b_b_2 b_r_2
 clear hb
 rw [FB.out]
 have k_a:=b_a_3.cell
 have k_b:=b_b_3.cell
 have k_r:=b_r_3.cell
 go_wp2_with fail
 clear k_a k_b k_r
 refine (aX 19 2 2 _).mono ?_
 rintro x w4 ⟨rfl,hb⟩
 have b_a_4:=b_a_3.later hb
 have b_b_4:=b_b_3.later hb
 have b_r_4:=b_r_3.later hb
 have HB4:=zE (ab HB3.out hb)
 clear b_a_3 b_b_3 b_r_3
 clear hb
 rw [HK.out]
 have k_a:=b_a_4.cell
 have k_b:=b_b_4.cell
 have k_r:=b_r_4.cell
 go_wp2_with fail
 clear k_a k_b k_r
 refine (bB _ _).mono ?_
 rintro x w5 ⟨rfl,hb⟩
 have b_a_5:=b_a_4.later hb
 have b_b_5:=b_b_4.later hb
 have b_r_5:=b_r_4.later hb
 have HB5:=zE (ab HB4.out hb)
 clear b_a_4 b_b_4 b_r_4
 clear hb
 have k_a:=b_a_5.cell
 have k_b:=b_b_5.cell
 have k_r:=b_r_5.cell
 have f_r:=b_r_5.free
 go_wp2_with fail
 refine bodyPost_ret (aq rfl rfl (put4 b_r_5 HB5.out (by omega)).1 rfl) rfl ?_
 exact ⟨rfl,(put4 b_r_5 HB5.out (by omega)).2⟩
end Go.Proofs.YtdphibjibnffeaaGreat
