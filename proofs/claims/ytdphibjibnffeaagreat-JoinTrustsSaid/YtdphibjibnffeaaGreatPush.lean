/- expr.stack.push. -/
import Derived.Test.YtdphibjibnffeaaGreatNames
import Derived.Test.YtdphibjibnffeaaGreatExpr2
import Derived.Test.YtdphibjibnffeaaGreatFresh
import Derived.Test.YtdphibjibnffeaaGreatHeldA
import Derived.Deep.RegionLaw
set_option linter.unusedVariables false
set_option linter.unusedSimpArgs false
set_option maxRecDepth 100000
set_option maxHeartbeats 8000000
namespace Go.Proofs.YtdphibjibnffeaaGreat
open Go.ChangeShapes Go.WideShapes Go.ChangeAt Go.RowKit
def cK (p q:List UInt8 × Int):Int:=if cW p.1 q.1=0 then cJ p.2 q.2 else cW p.1 q.1
theorem nA:Ord3 cK:=Ord3.andThen (jt.by fun p:List UInt8 × Int=>p.1) (fQ.by fun p:List UInt8 × Int=>p.2)
def kOf (f:Fc):List UInt8 × Int:=(bs f.pr.name,(f.pr.terms.length:Int))
theorem hJ (f:Fc) (name:ByteArray) (n:Int):dv f name n=cK (kOf f) (bs name,n):=by unfold dv cK kOf;rw [orL2]
theorem td {a b:Fc} (h:aW a b<0):cK (kOf a) (kOf b)≤0:=by
 unfold aW at h
 unfold cK kOf
 simp only [orL] at h ⊢
 split
 ·rename_i h1
  rw [if_pos h1] at h
  split at h
  ·rename_i h2;omega
  ·omega
 ·rename_i h1
  rw [if_neg h1] at h
  omega
def bv (fs:List Fc) (name:ByteArray) (n:Int):List Fc:=fs.filter (fun f=>decide (dv f name n=0))
def csA (fs:List Fc) (name:ByteArray) (n:Int) (i:Nat):Int:=match fs[i]? with | some x=>dv x name n | none=>0
section
variable {fs:List Fc} {name:ByteArray} {n:Int} {i j:Nat}
theorem gP (h:i<fs.length):csA fs name n i=dv fs[i] name n:=by unfold csA;rw [List.getElem?_eq_getElem h]
theorem wB (hs:bM fs) (hij:i≤j) (hj:j<fs.length):cK (kOf (fs[i]'(by omega))) (kOf fs[j])≤0:=by
 rcases Nat.lt_or_eq_of_le hij with h1 | rfl
 ·exact td (List.pairwise_iff_getElem.1 hs i j (by omega) hj h1)
 ·rw [nA.self];exact Int.le_refl _
theorem qq (hs:bM fs) (hij:i≤j) (hj:j<fs.length) (h:csA fs name n j<0):csA fs name n i<0:=by
 rw [gP hj,hJ] at h
 rw [gP (by omega),hJ]
 exact nA.le_lt (wB hs hij hj) h
theorem csA_up (hs:bM fs) (hij:i≤j) (hj:j<fs.length) (h:0<csA fs name n i):0<csA fs name n j:=by
 rw [gP (by omega),hJ] at h
 rw [gP hj,hJ]
 have h1:=nA.anti (kOf (fs[i]'(by omega))) (bs name,n)
 have h2:=nA.anti (kOf fs[j]) (bs name,n)
 have h3:=nA.lt_le (x:=(bs name,n)) (by omega) (wB hs hij hj)
 omega
theorem nP {p q:Nat} (hs:bM fs) (hp:p=nL fs.length (csA fs name n)) (hpq:p≤q) (hq:q≤fs.length) (h1:∀i,p≤i→i<q→csA fs name n i=0) (h2:q<fs.length→csA fs name n q≠0):(fs.drop p).take (q-p)=bv fs name n:=by
 have e:fs=fs.take p++((fs.drop p).take (q-p)++fs.drop q):=by
  have h3:fs.drop q=(fs.drop p).drop (q-p):=by rw [List.drop_drop];congr 1;omega
  rw [h3,List.take_append_drop,List.take_append_drop]
 have f1:(fs.take p).filter (fun f=>decide (dv f name n=0))=[]:=by
  rw [List.filter_eq_nil_iff]
  intro a ha
  obtain ⟨i,hi,rfl⟩:=List.getElem_of_mem ha
  rw [List.length_take] at hi
  rw [List.getElem_take]
  have:=kr (n:=fs.length) (cs:=csA fs name n) (k:=i) (by omega)
  rw [gP (by omega)] at this
  simp only [decide_eq_true_eq];omega
 have f2:((fs.drop p).take (q-p)).filter (fun f=>decide (dv f name n=0))=(fs.drop p).take (q-p):=by
  rw [List.filter_eq_self]
  intro a ha
  obtain ⟨i,hi,rfl⟩:=List.getElem_of_mem ha
  rw [List.length_take,List.length_drop] at hi
  rw [List.getElem_take,List.getElem_drop]
  have:=h1 (p+i) (by omega) (by omega)
  rw [gP (by omega)] at this
  simpa using this
 have f3:(fs.drop q).filter (fun f=>decide (dv f name n=0))=[]:=by
  rw [List.filter_eq_nil_iff]
  intro a ha
  obtain ⟨i,hi,rfl⟩:=List.getElem_of_mem ha
  rw [List.length_drop] at hi
  rw [List.getElem_drop]
  have h3:=h2 (by omega)
  have h4:¬csA fs name n q<0:=by
   intro h5
   have h6:=qq hs hpq (show q<fs.length by omega) h5
   have h7:¬csA fs name n p<0:=by rw [hp];exact tV (by omega)
   exact h7 h6
  have h5:=csA_up hs (Nat.le_add_right q i) (show q+i<fs.length by omega) (by omega:0<csA fs name n q)
  rw [gP (by omega)] at h5
  simp only [decide_eq_true_eq];omega
 unfold bv
 conv=>rhs;rw [e]
 rw [List.filter_append,List.filter_append,f1,f2,f3,List.nil_append,List.append_nil]
end
theorem FRow.lower {base b0 d c:Nat} {w:World} {xs:List FV} {A:Option Addr} (h:FRow base d w xs A c) (hb:b0≤base):FRow b0 d w xs A c:=
 ⟨h.own.lower hb,fun x hx=>⟨(h.deep x hx).1,(h.deep x hx).2.less fun k _ hm=>hm.imp (fun h=>by omega) id⟩⟩
theorem aq.none_nil {α:Type} {R:Reader α} {e:TypeId} {w:World} {base B n c:Nat} {xs:List α} (h:aq R e w base B (.slice none n c) xs):xs=[]∧c=0:=by
 obtain ⟨cells,how,_⟩:=h
 rcases how.2 with ⟨h1,h2⟩ | ⟨g,cap,cur,hv,_⟩
 ·simp only [Value.slice.injEq,true_and] at h1
  exact ⟨List.eq_nil_of_length_eq_zero h2,h1.2⟩
 ·cases hv
theorem aq.some_row {α:Type} {R:Reader α} {e:TypeId} {w:World} {base B n c:Nat} {a:Addr} {xs:List α} (h:aq R e w base B (.slice (some a) n c) xs):∃g,a=⟨g,0,none⟩∧xs.length≤c∧c≤9223372036854775807:=by
 obtain ⟨cells,how,_⟩:=h
 rcases how.2 with ⟨h1,h2⟩ | ⟨g,cap,cur,hv,_,_,k1,k2,_⟩
 ·cases h1
 ·simp only [Value.slice.injEq,Option.some.injEq] at hv
  obtain ⟨rfl,_,rfl⟩:=hv
  exact ⟨g,rfl,k1,by unfold maxLen at k2;omega⟩
theorem sN {w:World} (d:Nat):Calls Tryz.prog 50 #[] w fun z w'=>z=.returned (.pointer (some ⟨w.heap.size,0,none⟩))∧StA (w.heap.size+1) d w' w.heap.size [] none 0∧Below w.heap.size w w':=by
 go_enter Tryz.func50,Tryz.ntmps50
 go_wp2_with fail
 generalize hW:World.alloc _ _=w1
 obtain ⟨hb1,hz⟩:=al1 hW
 have HS1:=Lib.hid (n11 hW)
 have HB1:=Lib.hid hb1
 clear hW hb1
 go_wp2_with fail
 go_ret
 exact ⟨rfl,⟨HS1.out,by omega,by omega,aq.nil _ _ _ _ _,by simp,by simp,List.Pairwise.nil⟩,HB1.out⟩
theorem pq {base d S c:Nat} {xs:List FV} {A:Option Addr} {name:ByteArray} {n:Int} {w:World} (hs:StA base d w S xs A c) (hn:xs.length≤100000) :
 Calls Tryz.prog 41 #[.pointer (some ⟨S,0,none⟩),.string name,.int .i64 n] w fun z w'=>(∃ys A' c',ys.map FV.f=bv (xs.map FV.f) name n∧z=.returned (.slice A' ys.length c')∧FRow w.heap.size d w' ys A' c')∧Below w.heap.size w w':=by
 have HS:=Lib.hid hs
 clear hs
 go_enter Tryz.func41,Tryz.ntmps41
 go_upto_region 1 with fail
 generalize hW:World.alloc _ _=w1
 obtain ⟨hb,hz⟩:=al1 hW
 have HP1:=Lib.hid (n11 hW)
 have HB1:=Lib.hid hb
 have hsz1:=hb.size
 have HS1:=Lib.hid (HS.out.later hb)
 clear hW hb
 have HRL:=Lib.hid (HS1.out.rl (by omega))
 have hlm:(xs.map FV.f).length=xs.length:=List.length_map _
 have HLM:=Lib.hid hlm
 have HOK:Hid (∀f∈xs.map FV.f,FcOk f):=Lib.hid (fun f hf=>by obtain ⟨y,hy,rfl⟩:=List.mem_map.1 hf;exact HS.out.ok y hy)
 obtain ⟨p,hp⟩:∃p,p=nL (xs.map FV.f).length (csA (xs.map FV.f) name n):=⟨_,rfl⟩
 have HP:=Lib.hid hp
 have hpn:p≤xs.length:=by have:=tQ (xs.map FV.f).length (csA (xs.map FV.f) name n);rw [hlm] at this;rw [hp,hlm];exact this
 clear hp hlm
 have k_s:=HS1.out.hd.cell
 have l_s:=HS1.out.hd.lt
 go_upto_region 4 with fail
 go_wp2_with (go_at_call 93;rw [←HLM.out];refine (qO (d:=d) (B:=w1.heap.size) (c:=c) (G:=w.heap.size) (fs:=xs.map FV.f) (name:=name) (n:=n) (A:=A) HRL.out HP1.out HOK.out (by rw [HLM.out];omega) (Nat.le_refl _) (csA (xs.map FV.f) name n) (fun i hi=>gP hi) (fun i j hij hj h=>qq HS.out.sort hij hj h)).mono ?_;rintro z w2 ⟨rfl,hb⟩;rw [←HP.out,HLM.out];have HB2:=Lib.hid hb;have hsz2:=hb.size;clear k_s l_s hb)
 have hen:=wI
 generalize (decide (p<xs.length)&&decide (csA (xs.map FV.f) name n p=0))=bq
 go_loopw [10] (fun i wr=>∃q:Nat,p≤q∧q≤xs.length∧i=.int .i64 q∧Hid (∀i,p≤i→i<q→csA (xs.map FV.f) name n i=0)∧Hid (Below w2.heap.size w2 wr)) (fun i _=>xs.length-(intOf i).toNat)
 case atStart=>exact ⟨p,Nat.le_refl _,hpn,rfl,Lib.hid (fun i h1 h2=>absurd h2 (by omega)),Lib.hid (Below.refl _ _)⟩
 case round=>
  obtain ⟨q,hpq,hq,rfl,HZ,HWR⟩:=hrel
  have HBr:=Lib.hid (ae (ae HB1.out HB2.out) HWR.out)
  have HSr:=Lib.hid (HS.out.later HBr.out)
  have HPr:=Lib.hid ((HP1.out.later HB2.out).later HWR.out)
  have hszr:=HWR.out.size
  have k_s:=HSr.out.hd.cell
  have l_s:=HSr.out.hd.lt
  by_cases hlt:q<xs.length
  ·obtain ⟨g,c9,e9,h1,h2,h3,h4,h5,h6,_⟩:=HSr.out.row.sh bF (by omega)
   simp only [Value.slice.injEq,true_and] at e9
   obtain ⟨rfl,rfl⟩:=e9
   obtain ⟨x,hx⟩:∃x,x=xs[q]:=⟨_,rfl⟩
   have c0:wr.cell? ⟨g,q*3,none⟩=some (.string x.f.pr.name):=by rw [hx];exact h5 q hlt 0 _ rfl
   have c1:wr.cell? ⟨g,q*3+1,none⟩=some (.slice x.a x.f.pr.terms.length x.c):=by rw [hx];exact h5 q hlt 1 _ rfl
   have c2:wr.cell? ⟨g,q*3+2,none⟩=some (.int .u32 x.f.o):=by rw [hx];exact h5 q hlt 2 _ rfl
   have HXR:Hid ((aB (d+1)).rd wr wr.heap.size x.f x.cs):=Lib.hid (by rw [hx];exact (HSr.out.deep _ (List.getElem_mem hlt)).here)
   have HXA:Hid (csA (xs.map FV.f) name n q=dv x.f name n):=Lib.hid (by rw [gP (by rw [HLM.out];exact hlt),List.getElem_map,hx])
   have hI1:(q:Int)<(xs.length:Int):=by omega
   have hI0:(0:Int)≤(q:Int):=Int.natCast_nonneg _
   clear h5 h6 hx
   go_wp2_with fail
   refine (sX (d:=d) (B:=wr.heap.size) (f:=x.f) (vf:=[_,_,_]) (name:=name) (n:=n) HXR.out HPr.out (Nat.le_refl _)).mono ?_
   rintro z w5 ⟨rfl,hb⟩
   have HB5:=Lib.hid (ae HWR.out hb)
   have hsz5:=hb.size
   clear c0 c1 c2 k_s l_s hb
   by_cases hz:dv x.f name n=0
   ·have hz':(dv x.f name n==0)=true:=by simpa using hz
    have HN:=Lib.hid hz
    generalize dv x.f name n=r at *
    clear hz
    go_wp2_with fail
    go_roundw
    case rel=>exact ⟨q+1,by omega,by omega,by go_num,Lib.hid (fun i h1 h2=>by
     rcases Nat.lt_or_ge i q with h | h
     ·exact HZ.out i h1 h
     ·obtain rfl:i=q:=by omega
      rw [HXA.out];exact HN.out),HB5⟩
    case measure=>simp [intOf];omega
   ·have hz':(dv x.f name n==0)=false:=by simpa using hz
    have HN:Hid (q<(xs.map FV.f).length→csA (xs.map FV.f) name n q≠0):=Lib.hid (fun _=>by rw [HXA.out];exact hz)
    generalize dv x.f name n=r at *
    clear hz HXA
    have HS5:=Lib.hid (HS.out.later (ae (ae HB1.out HB2.out) HB5.out))
    have HCUT:=Lib.hid (nP HS.out.sort HP.out hpq (by rw [HLM.out];exact hq) HZ.out HN.out)
    have HLN:Hid ((((xs.map FV.f).drop p).take (q-p)).length=q-p):=Lib.hid (by rw [List.length_take,List.length_drop,HLM.out];omega)
    have k_s:=HS5.out.hd.cell
    have l_s:=HS5.out.hd.lt
    go_upto_region 8 with fail
    have hI2:(p:Int)≤(q:Int):=by omega
    have hI3:(q:Int)≤(c:Int):=by omega
    have hI4:(0:Int)≤(p:Int):=Int.natCast_nonneg _
    go_wp2_with fail
    have HA:=gQ (d:=d) (B:=w5.heap.size) (c:=c-p) (fs:=((xs.map FV.f).drop p).take (q-p)) (A:=some ⟨g,p*3,none⟩) (w:=w5) (by have h:=(HS5.out.rl (by omega)).cut p (q-p) (by rw [HLM.out];omega);rwa [show (0+p*(aB (d+1)).k)=p*3 from by show 0+p*3=_;omega] at h) (fun f hf=>HOK.out f (List.mem_of_mem_drop (List.mem_of_mem_take hf))) (by rw [HLN.out];omega) (Nat.le_refl _)
    rw [HLN.out] at HA
    refine HA.mono ?_
    rintro z w6 ⟨⟨ys,A6,c6,hys,rfl,hrow⟩,hb6⟩
    have HROW:=Lib.hid hrow
    have HYS:=Lib.hid hys
    have HB6:=Lib.hid hb6
    have HYL:Hid (ys.length=q-p):=Lib.hid (by rw [←List.length_map FV.f,hys,HLN.out])
    clear hrow hys hb6 HA
    go_wp2_with fail
    go_ret
    exact ⟨⟨ys,A6,c6,by rw [HYS.out,HCUT.out],by rw [HYL.out];rfl,HROW.out.lower (ae (ae (ae HB1.out HB2.out) HB5.out) (Below.refl _ _)).size⟩,ae (ae (ae HB1.out HB2.out) HB5.out) HB6.out⟩
  ·have HN:Hid (q<(xs.map FV.f).length→csA (xs.map FV.f) name n q≠0):=Lib.hid (fun h=>by rw [HLM.out] at h;omega)
   rcases A with _ | a
   ·obtain ⟨rfl,rfl⟩:=aq.none_nil HSr.out.row
    have hq0:q=0:=by simpa using hq
    have hp0:p=0:=by omega
    subst hq0 hp0
    have HCUT:Hid ([]=bv (([]:List FV).map FV.f) name n):=Lib.hid rfl
    clear hpq hq hlt hpn k_s HN HZ HLM hn
    have k_s:∀o:Nat,wr.cell? ⟨S,o,none⟩=(#[.slice none 0 0]:Array Value)[o]?:=HSr.out.hd.cell
    simp only [List.length_nil]
    go_wp2_with fail
    refine (gQ (d:=d) (B:=wr.heap.size) (c:=0) (fs:=[]) (A:=none) (w:=wr) (fun h=>absurd h (by simp)) (by simp) (by simp) (Nat.le_refl _)).mono ?_
    rintro z w6 ⟨⟨ys,A6,c6,hys,rfl,hrow⟩,hb6⟩
    have HROW:=Lib.hid hrow
    have HYS:=Lib.hid hys
    have HB6:=Lib.hid hb6
    have HYL:Hid (ys.length=0):=Lib.hid (by rw [←List.length_map FV.f,hys];rfl)
    clear hrow hys hb6
    go_wp2_with fail
    go_ret
    exact ⟨⟨ys,A6,c6,by rw [HYS.out,HCUT.out],by rw [HYL.out];rfl,HROW.out.lower HBr.out.size⟩,ae HBr.out HB6.out⟩
   ·obtain ⟨g,rfl,hg3,hg4⟩:=aq.some_row HSr.out.row
    have HB5:=HWR
    have hsz5:=hszr
    clear k_s l_s
    generalize wr=w5 at *
    have HS5:=Lib.hid (HS.out.later (ae (ae HB1.out HB2.out) HB5.out))
    have HCUT:=Lib.hid (nP HS.out.sort HP.out hpq (by rw [HLM.out];exact hq) HZ.out HN.out)
    have HLN:Hid ((((xs.map FV.f).drop p).take (q-p)).length=q-p):=Lib.hid (by rw [List.length_take,List.length_drop,HLM.out];omega)
    have k_s:=HS5.out.hd.cell
    have l_s:=HS5.out.hd.lt
    go_upto_region 8 with fail
    have hI2:(p:Int)≤(q:Int):=by omega
    have hI3:(q:Int)≤(c:Int):=by omega
    have hI4:(0:Int)≤(p:Int):=Int.natCast_nonneg _
    go_wp2_with fail
    ·have HA:=gQ (d:=d) (B:=w5.heap.size) (c:=0) (fs:=((xs.map FV.f).drop p).take (q-p)) (A:=some ⟨g,0,none⟩) (w:=w5) (fun h=>by rw [HLN.out] at h;omega) (fun f hf=>HOK.out f (List.mem_of_mem_drop (List.mem_of_mem_take hf))) (by rw [HLN.out];omega) (Nat.le_refl _)
     rw [HLN.out] at HA
     refine HA.mono ?_
     rintro z w6 ⟨⟨ys,A6,c6,hys,rfl,hrow⟩,hb6⟩
     have HROW:=Lib.hid hrow
     have HYS:=Lib.hid hys
     have HB6:=Lib.hid hb6
     have HYL:Hid (ys.length=q-p):=Lib.hid (by rw [←List.length_map FV.f,hys,HLN.out])
     clear hrow hys hb6 HA
     go_wp2_with fail
     go_ret
     exact ⟨⟨ys,A6,c6,by rw [HYS.out,HCUT.out],by rw [HYL.out];rfl,HROW.out.lower (ae (ae (ae HB1.out HB2.out) HB5.out) (Below.refl _ _)).size⟩,ae (ae (ae HB1.out HB2.out) HB5.out) HB6.out⟩
    ·have HA:=gQ (d:=d) (B:=w5.heap.size) (c:=c-p) (fs:=((xs.map FV.f).drop p).take (q-p)) (A:=some ⟨g,p*3,none⟩) (w:=w5) (by have h:=(HS5.out.rl (by omega)).cut p (q-p) (by rw [HLM.out];omega);rwa [show (0+p*(aB (d+1)).k)=p*3 from by show 0+p*3=_;omega] at h) (fun f hf=>HOK.out f (List.mem_of_mem_drop (List.mem_of_mem_take hf))) (by rw [HLN.out];omega) (Nat.le_refl _)
     rw [HLN.out] at HA
     refine HA.mono ?_
     rintro z w6 ⟨⟨ys,A6,c6,hys,rfl,hrow⟩,hb6⟩
     have HROW:=Lib.hid hrow
     have HYS:=Lib.hid hys
     have HB6:=Lib.hid hb6
     have HYL:Hid (ys.length=q-p):=Lib.hid (by rw [←List.length_map FV.f,hys,HLN.out])
     clear hrow hys hb6 HA
     go_wp2_with fail
     go_ret
     exact ⟨⟨ys,A6,c6,by rw [HYS.out,HCUT.out],by rw [HYL.out];rfl,HROW.out.lower (ae (ae (ae HB1.out HB2.out) HB5.out) (Below.refl _ _)).size⟩,ae (ae (ae HB1.out HB2.out) HB5.out) HB6.out⟩
def qL:SV:=⟨⟨0,0,⟨#[]⟩,[]⟩,none,0⟩
theorem StkE.push {S base D c:Nat} {bn bt:Value} {w w':World} {xs:List SV} {x:SV} {next:Int} {A A':Option Addr} {c':Nat} (h:StkE S base D bn bt w xs next A c) (hx:cZ D w x) (hap:mf S A x) (hlt:∀a,x.a=some a→base≤a.block∧a.block<w.heap.size)
 (hb:Below 0 w w') (hk:∀b,b<w.heap.size→b≠S→(∀a,A=some a→a.block≠b)→w'.heap[b]? = w.heap[b]?)
 (hd:bR w' S #[bn,bt,.slice A' (xs++[x]).length c',.int .i64 next] 243) (ho:aq SvR 79 w' base 0 (.slice A' (xs++[x]).length c') (xs++[x]))
 (hf:∀b,A'=some b→(∃a,A=some a∧a.block=b.block)∨w.heap.size≤b.block):StkE S base D bn bt w' (xs++[x]) next A' c':=by
 have key:∀y,cZ D w y→(∀a,y.a=some a→a.block≠S∧∀b,A=some b→a.block≠b.block)→(∀a,y.a=some a→base≤a.block∧a.block<w.heap.size)→cZ D w' y∧∀a,y.a=some a→(base≤a.block∧a.block<w'.heap.size)∧a.block≠S∧∀b,A'=some b→a.block≠b.block:=by
  intro y hy hs hl
  refine ⟨hy.keep hb fun a ha=>hk _ (hl a ha).2 (hs a ha).1 fun b hb2 e=>(hs a ha).2 b hb2 e.symm,fun a ha=>⟨⟨(hl a ha).1,Nat.lt_of_lt_of_le (hl a ha).2 hb.size⟩,(hs a ha).1,fun b hb2 e=>?_⟩⟩
  rcases hf b hb2 with ⟨a2,h2,e2⟩ | h2
  ·exact (hs a ha).2 a2 h2 (e.trans e2.symm)
  ·have:=(hl a ha).2
   omega
 have hall:∀y∈xs++[x],cZ D w' y∧∀a,y.a=some a→(base≤a.block∧a.block<w'.heap.size)∧a.block≠S∧∀b,A'=some b→a.block≠b.block:=by
  intro y hy
  rcases List.mem_append.1 hy with h1 | h1
  ·exact key y (h.tms y h1) (h.sep y h1) (h.lt y h1)
  ·rw [List.mem_singleton] at h1
   subst h1
   exact key y hx hap hlt
 exact ⟨hd,ho,fun y hy=>(hall y hy).1,fun y hy a ha=>((hall y hy).2 a ha).2,fun y hy a ha=>((hall y hy).2 a ha).1⟩
structure BelX (B S:Nat) (w w':World):Prop where
 os:w'.os=w.os
 tape:w'.tape=w.tape
 output:w'.output=w.output
 size:w.heap.size≤w'.heap.size
 block:∀k,k<B→k≠S→w'.heap[k]? = w.heap[k]?
section
variable {B S:Nat} {w w' w'':World}
theorem BelX.of (h:Below B w w'):BelX B S w w':=⟨h.os,h.tape,h.output,h.size,fun k hk _=>h.block k hk⟩
theorem BelX.exc (h:Exc S w w') (hb:B≤w.heap.size):BelX B S w w':=⟨h.1.os,h.1.tape,h.1.output,h.1.size,fun k hk hne=>h.2 k (Nat.lt_of_lt_of_le hk hb) hne⟩
theorem BelX.refl (B S:Nat) (w:World):BelX B S w w:=.of (.refl _ _)
theorem BelX.trans (h:BelX B S w w') (k:BelX B S w' w''):BelX B S w w'':=⟨k.os.trans h.os,k.tape.trans h.tape,k.output.trans h.output,Nat.le_trans h.size k.size,fun i hi hne=>(k.block i hi hne).trans (h.block i hi hne)⟩
theorem BelX.setCell (h:BelX B S w w') {p:Addr} (hp:B≤p.block) (v:Value):BelX B S w (w'.setCell p v):=h.trans (.of ((Below.refl B w').setCell hp v))
theorem BelX.setS (h:BelX B S w w') (i:Nat) (v:Value):BelX B S w (w'.setCell ⟨S,i,none⟩ v):=
 have k:=(Below.refl 0 w').setCell (p:=⟨S,i,none⟩) (Nat.zero_le _) v
 h.trans ⟨k.os,k.tape,k.output,k.size,fun b _ hne=>Below.heap_setCell w' ⟨S,i,none⟩ v b hne⟩
theorem BelX.drew (h:BelX B S w w'):BelX B S w w'.drew:=h.trans (.of (Below.refl B w').drew)
theorem BelX.zero (h:BelX B S w w'):Below 0 w w':=⟨h.os,h.tape,h.output,h.size,fun k hk=>absurd hk (Nat.not_lt_zero _)⟩
theorem BelX.mono {B':Nat} (h:BelX B S w w') (hB:B'≤B):BelX B' S w w':=⟨h.os,h.tape,h.output,h.size,fun k hk=>h.block k (by omega)⟩
theorem BelX.low (h:BelX B S w w') (hB:B≤S):Below B w w':=⟨h.os,h.tape,h.output,h.size,fun k hk=>h.block k hk (by omega)⟩
end
theorem qn {S base D c g2 c2:Nat} {bn bt:Value} {w wA w2 wf:World} {xs:List SV} {x:SV} {next:Int} {A:Option Addr} (h:StkE S base D bn bt w xs next A c) (hx:cZ D w x) (hap:mf S A x) (hlt:∀a,x.a=some a→base≤a.block∧a.block<w.heap.size) (hb:base≤w.heap.size)
 (hA:Below w.heap.size w wA) (hg:wA.grownBy w2 (Value.slice A xs.length c).ownBlock) (hf:bz wA (.slice A xs.length c) (.slice (some ⟨g2,0,none⟩) (xs.length+1) c2)) (hg2:base≤g2)
 (hfin:∀b,b≠S→b≠g2→wf.heap[b]? = w2.heap[b]?) (hbf:BelX base S w2 wf)
 (hd:bR wf S #[bn,bt,.slice (some ⟨g2,0,none⟩) (xs.length+1) c2,.int .i64 next] 243) (ho:aq SvR 79 wf base 0 (.slice (some ⟨g2,0,none⟩) (xs.length+1) c2) (xs++[x])) :
 BelX base S w wf∧∃A' c',StkE S base D bn bt wf (xs++[x]) next A' c':=by
 have hAb:∀k,(Value.slice A xs.length c).ownBlock=some k→base≤k:=by
  obtain ⟨cells,how,_⟩:=h.own
  exact fun k hk=>(how.lt k hk).1
 have hsz:=hA.size
 have hB2:Below base wA w2:=(Below.refl base wA).grown hg (by omega) hAb
 have hB:BelX base S w wf:=(BelX.of ((hA.mono hb).trans hB2)).trans hbf
 have e1:xs.length+1=(xs++[x]).length:=by simp
 rw [e1] at hd ho
 refine ⟨hB,_,_,h.push hx hap hlt hB.zero (fun b hbl hbS2 hne=>?_) hd ho fun b hb2=>?_⟩
 ·have hnr:some b≠(Value.slice A xs.length c).ownBlock:=by
   rcases A with _ | a
   ·simp [Value.ownBlock]
   ·simp only [Value.ownBlock,ne_eq,Option.some.injEq]
    exact fun e=>hne a rfl e.symm
  have hng:b≠g2:=by
   rcases hf with hf | ⟨k,hk,hk2⟩
   ·intro e
    subst e
    exact hnr hf
   ·simp only [Value.ownBlock,Option.some.injEq] at hk
    omega
  rw [hfin b hbS2 hng,hg.block b (Nat.lt_of_lt_of_le hbl hsz) hnr,hA.block b hbl]
 ·simp only [Option.some.injEq] at hb2
  subst hb2
  rcases hf with hf | ⟨k,hk,hk2⟩
  ·rcases A with _ | a
   ·simp [Value.ownBlock] at hf
   ·simp only [Value.ownBlock,Option.some.injEq] at hf
    exact .inl ⟨a,rfl,hf.symm⟩
  ·simp only [Value.ownBlock,Option.some.injEq] at hk
   subst hk
   exact .inr (by show w.heap.size≤g2;omega)
theorem tM {w2:World} {base g2 c2:Nat} {xs:List SV} (ho:aq SvR 79 w2 base 0 (.slice (some ⟨g2,0,none⟩) (xs.length+1) c2) (xs++[qL])) (x:SV):aq SvR 79 ((((w2.setCell ⟨g2,xs.length*4,none⟩ (.int .i64 x.t.kind)).setCell ⟨g2,xs.length*4+1,none⟩ (.int .i64 x.t.n)).setCell ⟨g2,xs.length*4+2,none⟩ (.string x.t.s)).setCell ⟨g2,xs.length*4+3,none⟩ (.slice x.a x.t.l.length x.c)) base 0 (.slice (some ⟨g2,0,none⟩) (xs.length+1) c2) (xs++[x]):=by
 obtain ⟨g3,c3,e3,_,_,_,_,_,_,hp3⟩:=ho.last
 simp only [Value.slice.injEq,Option.some.injEq,Addr.mk.injEq,and_true,true_and] at e3
 obtain ⟨rfl,rfl⟩:=e3
 exact hp3 x
theorem tj {S base D c g2 c2:Nat} {bn bt:Value} {w wA w2:World} {xs:List SV} {x:SV} {next:Int} {A:Option Addr} (h:StkE S base D bn bt w xs next A c) (hx:cZ D w x) (hap:mf S A x) (hlt:∀a,x.a=some a→base≤a.block∧a.block<w.heap.size) (hb:base≤w.heap.size)
 (hA:Below w.heap.size w wA) (ho:aq SvR 79 w2 base 0 (.slice (some ⟨g2,0,none⟩) (xs.length+1) c2) (xs++[qL])) (hg:wA.grownBy w2 (Value.slice A xs.length c).ownBlock) (hf:bz wA (.slice A xs.length c) (.slice (some ⟨g2,0,none⟩) (xs.length+1) c2)) (hg2:base≤g2) (hne:S≠g2) (hd:bR w2 S #[bn,bt,.slice A xs.length c,.int .i64 next] 243) :
 BelX base S w (((((w2.setCell ⟨g2,xs.length*4,none⟩ (.int .i64 x.t.kind)).setCell ⟨g2,xs.length*4+1,none⟩ (.int .i64 x.t.n)).setCell ⟨g2,xs.length*4+2,none⟩ (.string x.t.s)).setCell ⟨g2,xs.length*4+3,none⟩ (.slice x.a x.t.l.length x.c)).setCell ⟨S,2,none⟩ (.slice (some ⟨g2,0,none⟩) (xs.length+1) c2))∧∃A' c',StkE S base D bn bt (((((w2.setCell ⟨g2,xs.length*4,none⟩ (.int .i64 x.t.kind)).setCell ⟨g2,xs.length*4+1,none⟩ (.int .i64 x.t.n)).setCell ⟨g2,xs.length*4+2,none⟩ (.string x.t.s)).setCell ⟨g2,xs.length*4+3,none⟩ (.slice x.a x.t.l.length x.c)).setCell ⟨S,2,none⟩ (.slice (some ⟨g2,0,none⟩) (xs.length+1) c2)) (xs++[x]) next A' c':=by
 have d1:=hd.far hne (xs.length*4) (.int .i64 x.t.kind)
 have d2:=d1.far hne (xs.length*4+1) (.int .i64 x.t.n)
 have d3:=d2.far hne (xs.length*4+2) (.string x.t.s)
 have d4:=d3.far hne (xs.length*4+3) (.slice x.a x.t.l.length x.c)
 have b1:=(Below.refl base w2).setCell (p:=⟨g2,xs.length*4,none⟩) hg2 (.int .i64 x.t.kind)
 have b2:=b1.setCell (p:=⟨g2,xs.length*4+1,none⟩) hg2 (.int .i64 x.t.n)
 have b3:=b2.setCell (p:=⟨g2,xs.length*4+2,none⟩) hg2 (.string x.t.s)
 have b4:=b3.setCell (p:=⟨g2,xs.length*4+3,none⟩) hg2 (.slice x.a x.t.l.length x.c)
 have b5:=(BelX.of (S:=S) b4).setS 2 (.slice (some ⟨g2,0,none⟩) (xs.length+1) c2)
 refine qn h hx hap hlt hb hA hg hf hg2 (fun b h1 h2=>?_) b5 (d4.set_ 2 (.slice (some ⟨g2,0,none⟩) (xs.length+1) c2)) ((tM ho x).farT d4 wW 2 (.slice (some ⟨g2,0,none⟩) (xs.length+1) c2))
 rw [Below.heap_setCell _ ⟨S,2,none⟩ _ b h1,Below.heap_setCell _ ⟨g2,xs.length*4+3,none⟩ _ b h2,Below.heap_setCell _ ⟨g2,xs.length*4+2,none⟩ _ b h2,Below.heap_setCell _ ⟨g2,xs.length*4+1,none⟩ _ b h2,Below.heap_setCell _ ⟨g2,xs.length*4,none⟩ _ b h2]
theorem sI {S base D c g2 c2:Nat} {bn bt:Value} {w wA w2:World} {xs:List SV} {x:SV} {next:Int} {A:Option Addr} (h:StkE S base D bn bt w xs next A c) (hx:cZ D w x) (hap:mf S A x) (hlt:∀a,x.a=some a→base≤a.block∧a.block<w.heap.size) (hb:base≤w.heap.size)
 (hA:Below w.heap.size w wA) (ho:aq SvR 79 w2 base 0 (.slice (some ⟨g2,0,none⟩) (xs.length+1) c2) (xs++[qL])) (hg:wA.grownBy w2 (Value.slice A xs.length c).ownBlock) (hf:bz wA (.slice A xs.length c) (.slice (some ⟨g2,0,none⟩) (xs.length+1) c2)) (hg2:base≤g2) (hne:S≠g2) (hd:bR w2 S #[bn,bt,.slice A xs.length c,.int .i64 next] 243) :
 BelX base S w (((((w2.setCell ⟨S,2,none⟩ (.slice (some ⟨g2,0,none⟩) (xs.length+1) c2)).setCell ⟨g2,xs.length*4,none⟩ (.int .i64 x.t.kind)).setCell ⟨g2,xs.length*4+1,none⟩ (.int .i64 x.t.n)).setCell ⟨g2,xs.length*4+2,none⟩ (.string x.t.s)).setCell ⟨g2,xs.length*4+3,none⟩ (.slice x.a x.t.l.length x.c))∧∃A' c',StkE S base D bn bt (((((w2.setCell ⟨S,2,none⟩ (.slice (some ⟨g2,0,none⟩) (xs.length+1) c2)).setCell ⟨g2,xs.length*4,none⟩ (.int .i64 x.t.kind)).setCell ⟨g2,xs.length*4+1,none⟩ (.int .i64 x.t.n)).setCell ⟨g2,xs.length*4+2,none⟩ (.string x.t.s)).setCell ⟨g2,xs.length*4+3,none⟩ (.slice x.a x.t.l.length x.c)) (xs++[x]) next A' c':=by
 have d0:=hd.set_ 2 (.slice (some ⟨g2,0,none⟩) (xs.length+1) c2)
 have d1:=d0.far hne (xs.length*4) (.int .i64 x.t.kind)
 have d2:=d1.far hne (xs.length*4+1) (.int .i64 x.t.n)
 have d3:=d2.far hne (xs.length*4+2) (.string x.t.s)
 have d4:=d3.far hne (xs.length*4+3) (.slice x.a x.t.l.length x.c)
 have b0:=(BelX.refl base S w2).setS 2 (.slice (some ⟨g2,0,none⟩) (xs.length+1) c2)
 have b1:=b0.setCell (p:=⟨g2,xs.length*4,none⟩) hg2 (.int .i64 x.t.kind)
 have b2:=b1.setCell (p:=⟨g2,xs.length*4+1,none⟩) hg2 (.int .i64 x.t.n)
 have b3:=b2.setCell (p:=⟨g2,xs.length*4+2,none⟩) hg2 (.string x.t.s)
 have b4:=b3.setCell (p:=⟨g2,xs.length*4+3,none⟩) hg2 (.slice x.a x.t.l.length x.c)
 refine qn h hx hap hlt hb hA hg hf hg2 (fun b h1 h2=>?_) b4 d4 (tM (ho.farT hd wW 2 (.slice (some ⟨g2,0,none⟩) (xs.length+1) c2)) x)
 rw [Below.heap_setCell _ ⟨g2,xs.length*4+3,none⟩ _ b h2,Below.heap_setCell _ ⟨g2,xs.length*4+2,none⟩ _ b h2,Below.heap_setCell _ ⟨g2,xs.length*4+1,none⟩ _ b h2,Below.heap_setCell _ ⟨g2,xs.length*4,none⟩ _ b h2,Below.heap_setCell _ ⟨S,2,none⟩ _ b h1]
theorem push_ok {S base D c:Nat} {bn bt:Value} {w:World} {xs:List SV} {x:SV} {next:Int} {A:Option Addr} (h:StkE S base D bn bt w xs next A c) (hx:cZ D w x) (hap:mf S A x) (hlt:∀a,x.a=some a→base≤a.block∧a.block<w.heap.size) (hb:base≤w.heap.size) (hn:xs.length≤100000) :
 Calls Tryz.prog 245 #[.pointer (some ⟨S,0,none⟩),.agg x.cs.toArray,.int .i64 0] w fun e w'=>e=.returned (.int .i64 0)∧BelX base S w w'∧∃A' c',StkE S base D bn bt w' (xs++[x]) next A' c':=by
 obtain ⟨i0,hi0,hz0,hz1,hz2⟩:=info_parts il
 have HS:=Lib.hid h
 have HX:=Lib.hid (And.intro hx (And.intro hap hlt))
 have hSlt:=h.hd.blk.lt
 clear h hx hap hlt
 unfold SV.cs
 go_enter Tryz.func245,Tryz.ntmps245
 go_wp2_with fail
 generalize hW:World.alloc _ _=w1
 obtain ⟨hb1,hz⟩:=al1 hW
 have BX:=Lib.hid (show bR w1 w.heap.size #[.int .i64 x.t.kind,.int .i64 x.t.n,.string x.t.s,.slice x.a x.t.l.length x.c] 79 from hW▸heap_alloc_new w _)
 have HS1:=Lib.hid (HS.out.later hb1)
 have HB1:=Lib.hid hb1
 clear hW hb1
 have s1:w1.drew.cell? ⟨S,2,none⟩=some (.slice A xs.length c):=HS1.out.hd.blk.cell 2
 have s2:w1.drew.cell? ⟨w.heap.size,0,none⟩=some (.int .i64 x.t.kind):=BX.out.blk.cell 0
 have s3:w1.drew.cell? ⟨w.heap.size,1,none⟩=some (.int .i64 x.t.n):=BX.out.blk.cell 1
 have s4:w1.drew.cell? ⟨w.heap.size,2,none⟩=some (.string x.t.s):=BX.out.blk.cell 2
 have s5:w1.drew.cell? ⟨w.heap.size,3,none⟩=some (.slice x.a x.t.l.length x.c):=BX.out.blk.cell 3
 clear s1 s2 s3 s4 s5
 have k_s:=HS1.out.hd.blk.cell
 have k_x:=BX.out.blk.cell
 have hXlt:w.heap.size<w1.heap.size:=by omega
 have hS1:S<w1.heap.size:=by omega
 have hsrc:=(Blk.src (R:=SvR) (B:=0) (x:=qL) (Blk.drew (Blk.new w1 #[.int .i64 0,.int .i64 0,.string ⟨#[]⟩,.slice none 0 0] 79)) rfl)
 rw [hz] at hsrc
 have HN:=Lib.hid (And.intro (HS1.out.own.later ((aw (w:=w1) (o:=.cells #[.int .i64 0,.int .i64 0,.string ⟨#[]⟩,.slice none 0 0] 79) rfl).drew) (Nat.zero_le _)) hsrc)
 clear hsrc
 have hii:(xs.length:Int)<(xs.length:Int)+1:=by omega
 go_region_law (
  refine eP (R:=SvR) (e:=79) (base:=base) (xs:=xs) (ys:=[qL]) rfl (.tmp 12) (.tmp 15) 23 rfl (bytes:=56) Tryz.underlying23 hi0 hz0 hz1 hz2 rfl (show 0<4 by omega) dm rfl HN.out.1 rfl HN.out.2 rfl (by simp only [List.length_cons,List.length_nil];omega) (by omega) (by rw [World.size_drew,World.size_alloc];omega) ?_
  intro v2 w2 hown2 hg2 hf2
  have HO2:Hid (aq SvR 79 w2 base 0 v2 (xs++[qL])∧World.grownBy (w1.alloc (.cells #[.int .i64 0,.int .i64 0,.string ⟨#[]⟩,.slice none 0 0] 79)).drew w2 (Value.slice A xs.length c).ownBlock∧bz (w1.alloc (.cells #[.int .i64 0,.int .i64 0,.string ⟨#[]⟩,.slice none 0 0] 79)).drew (.slice A xs.length c) v2):=Lib.hid ⟨hown2,hg2,hf2⟩
  have bd:=((HS1.out.hd.later (aw (w:=w1) (o:=.cells #[.int .i64 0,.int .i64 0,.string ⟨#[]⟩,.slice none 0 0] 79) rfl)).drew).grown hg2 (HN.out.1.ne ((HS1.out.hd.later (aw (w:=w1) (o:=.cells #[.int .i64 0,.int .i64 0,.string ⟨#[]⟩,.slice none 0 0] 79) rfl)).drew) wW)
  have hne2:=hown2.ne bd wW
  have ks2:=bd.blk.cell 2
  have fs2:=bd.blk.free
  have BD:=Lib.hid bd
  obtain ⟨g2,c2,rfl,hg2lt,hg2b,hn2,hc2,hcell2,hfr2,hput2⟩:=hown2.last
  simp only [Value.ownBlock,ne_eq,Option.some.injEq] at hne2
  have hne3:S≠g2:=fun e=>hne2 e.symm
  have HP2:=Lib.hid hput2
  clear bd
  have e0:w2.cell? ⟨g2,xs.length*4,none⟩=some (.int .i64 0):=hcell2 0 _ rfl
  have e1:w2.cell? ⟨g2,xs.length*4+1,none⟩=some (.int .i64 0):=hcell2 1 _ rfl
  have e2:w2.cell? ⟨g2,xs.length*4+2,none⟩=some (.string ⟨#[]⟩):=hcell2 2 _ rfl
  have e3:w2.cell? ⟨g2,xs.length*4+3,none⟩=some (.slice none 0 0):=hcell2 3 _ rfl
  clear hown2 hg2 hf2 hput2 hcell2)
 all_goals
  go_wp2_with fail
  go_ret
  obtain ⟨hx,hap,hlt⟩:=HX.out
  have hwA:Below w.heap.size w (w1.alloc (.cells #[.int .i64 0,.int .i64 0,.string ⟨#[]⟩,.slice none 0 0] 79)).drew:=(HB1.out.alloc HB1.out.size _).drew
  refine ⟨rfl,?_⟩
  first
   | (with_reducible exact tj HS.out hx hap hlt hb hwA HO2.out.1 HO2.out.2.1 HO2.out.2.2 hg2b hne3 BD.out)
   | (with_reducible exact sI HS.out hx hap hlt hb hwA HO2.out.1 HO2.out.2.1 HO2.out.2.2 hg2b hne3 BD.out)
def wT (S base D:Nat) (bn bt:Value) (w:World) (xs:List SV) (x:SV) (next e:Int):Prop:=
 (e=0∧∃A c,StkE S base D bn bt w (xs++[x]) next A c)∨(e≠0∧∃A c,StkE S base D bn bt w xs next A c)
theorem fJ {S base D c:Nat} {bn bt:Value} {w:World} {xs:List SV} {x:SV} {next e0:Int} {A:Option Addr} (h:StkE S base D bn bt w xs next A c) (hx:cZ D w x) (hap:mf S A x) (hlt:∀a,x.a=some a→base≤a.block∧a.block<w.heap.size) (hb:base≤w.heap.size) (hn:xs.length≤100000) :
 Calls Tryz.prog 245 #[.pointer (some ⟨S,0,none⟩),.agg x.cs.toArray,.int .i64 e0] w fun e w'=>e=.returned (.int .i64 e0)∧BelX base S w w'∧wT S base D bn bt w' xs x next e0:=by
 by_cases he:e0=0
 ·subst he
  exact (push_ok h hx hap hlt hb hn).mono fun _ _ ⟨h1,h2,h3⟩=>⟨h1,h2,.inl ⟨rfl,h3⟩⟩
 ·have HS:=Lib.hid h
  have hq:(e0==0)=false:=by simpa using he
  have HE:=Lib.hid he
  clear h hx hap hlt he
  unfold SV.cs
  go_enter Tryz.func245,Tryz.ntmps245
  go_wp2_with fail
  go_ret
  have hb1:=aw (w:=w) (o:=.cells #[.int .i64 x.t.kind,.int .i64 x.t.n,.string x.t.s,.slice x.a x.t.l.length x.c] 79) rfl
  exact ⟨rfl,.of (hb1.mono hb),.inr ⟨HE.out,A,c,HS.out.later hb1⟩⟩
end Go.Proofs.YtdphibjibnffeaaGreat
