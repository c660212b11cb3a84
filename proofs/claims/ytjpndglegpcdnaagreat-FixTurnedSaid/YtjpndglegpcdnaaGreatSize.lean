/- viaticumlaw7.size, Size; viaticumlaw14.Weight: they tell some number. -/
import Derived.Test.YtjpndglegpcdnaaGreatRs1
import Derived.Test.YtjpndglegpcdnaaGreatFc1
import Derived.Test.YtjpndglegpcdnaaGreatSingle
import Derived.Test.YtjpndglegpcdnaaGreatFc6
import Derived.Test.YtjpndglegpcdnaaGreatApp
import Derived.Test.YtjpndglegpcdnaaGreatFx2
import Derived.Test.YtjpndglegpcdnaaGreatRule4
import Derived.Deep.Slices
import Derived.Deep.Fields
import Derived.ChangeSame
import Derived.SizedLaws
import Derived.Below
set_option linter.unusedVariables false
set_option linter.unusedSimpArgs false
set_option maxRecDepth 100000
set_option maxHeartbeats 8000000
namespace Go.Proofs.YtjpndglegpcdnaaGreat
open Go.ChangeShapes Go.WideShapes Go.ChangeAt Go.RowKit
section
variable {a b:Fc}
theorem vn (h:(a.pr.name.toList==b.pr.name.toList)=false):(if Op.bytesLess a.pr.name.toList b.pr.name.toList=true then -1 else 1)=aE a b:=by
 rw [dJ,decide_eq_false_iff_not] at h
 unfold aE
 have h1:=qE h
 have h2:de (bs a.pr.name) (bs b.pr.name)≠0:=by rw [h1];split<;>omega
 simp only [orL]
 rw [if_neg h2,h1]
 by_cases h3:bs a.pr.name<bs b.pr.name
 ·rw [if_pos ((iS _ _).2 h3),if_pos h3]
 ·rw [if_neg (by rw [iS];exact h3),if_neg h3]
theorem vq (h:(a.pr.name.toList==b.pr.name.toList)=true):aE a b=orL [cT a.pr.terms.length b.pr.terms.length,bL (aY 3) a.pr.terms b.pr.terms,cT a.o b.o]:=by
 rw [dJ,Am] at h
 unfold aE
 rw [orL,h,oR,if_pos rfl]
theorem zt {x y:Int} (h:x≠y):(if decide (x<y)=true then -1 else 1)=cT x y:=by
 unfold cT
 by_cases h1:x<y
 ·simp [h1]
 ·have h2:y<x:=by omega
  simp [h1,h2]
theorem zp (h:(a.pr.name.toList==b.pr.name.toList)=true) (hn:(a.pr.terms.length:Int)≠b.pr.terms.length):(if decide ((a.pr.terms.length:Int)<b.pr.terms.length)=true then -1 else 1)=aE a b:=by
 have h1:¬cT (a.pr.terms.length:Int) b.pr.terms.length=0:=fun e=>hn (dS.1 e)
 rw [vq h,orL,if_neg h1,zt hn]
theorem fc_tms (h:(a.pr.name.toList==b.pr.name.toList)=true) (hn:a.pr.terms.length=b.pr.terms.length):aE a b=orL [bL (aY 3) a.pr.terms b.pr.terms,cT a.o b.o]:=by
 rw [vq h,orL,hn,dR,if_pos rfl]
theorem zq (ho:a.o≠b.o) (h:aE a b=orL [0,cT a.o b.o]):(if decide (a.o<b.o)=true then -1 else 1)=aE a b:=by
 have h1:¬cT a.o b.o=0:=fun e=>ho (dS.1 e)
 rw [h,orL,if_pos rfl,orL,if_neg h1,zt ho]
end
theorem rt {d B:Nat} {a b:Fc} {va vb:List Value} {w:World} (hna:a.pr.terms.length*40≤140737488351232) (ha:(az (d+1)).rd w B a va) (hb:(az (d+1)).rd w B b vb) (hB:B≤w.heap.size) :
 Calls Tryz.prog 42 #[.agg va.toArray,.agg vb.toArray] w fun z w'=>z=.returned (.int .i64 (aE a b))∧Below w.heap.size w w':=by
 obtain ⟨A,c,rfl,hs,h1,h2,h3,hl,ho⟩:=aN ha
 obtain ⟨A',c',rfl,hs',h1',h2',h3',hl',ho'⟩:=aN hb
 have HL:=zT hl
 have HL':=zT hl'
 clear hl hl'
 go_enter Tryz.func42,Tryz.ntmps42
 go_upto_region 1 with fail
 generalize hWW:World.alloc _ _=w1
 obtain ⟨hb1,hz⟩:=al2 hWW
 have HA1:=zT (n21 hWW)
 have HA2:=zT (n22 hWW)
 have HB1:=zT hb1
 clear hWW hb1 hz
 have k_a:=HA1.out.cell
 have l_a:=HA1.out.lt
 have k_b:=HA2.out.cell
 have l_b:=HA2.out.lt
 go_region
 all_goals
  generalize hWW:World.alloc _ _=w2
  obtain ⟨hb2,hz2⟩:=al2 hWW
  have HP1:=zT (n21 hWW)
  have HP2:=zT (n22 hWW)
  generalize hD:World.drew w2=w3
  have HB3:Hid (Below w1.heap.size w1 w3):=zT (hD▸hb2.drew)
  have HD3:Hid (Below w2.heap.size w2 w3):=zT (hD▸(zX _ _).drew)
  have HQ1:=zT (HP1.out.later HD3.out)
  have HQ2:=zT (HP2.out.later HD3.out)
  have HA3:=zT (HA1.out.later HB3.out)
  have HA4:=zT (HA2.out.later HB3.out)
  clear hWW hb2 hz2 hD HP1 HP2 HD3 k_a l_a k_b l_b
  have k_p:=HQ1.out.cell
  have l_p:=HQ1.out.lt
  have k_q:=HQ2.out.cell
  have l_q:=HQ2.out.lt
  by_cases hnm:(a.pr.name.toList==b.pr.name.toList)=true
  ·by_cases hln:a.pr.terms.length=b.pr.terms.length
   ·have hln':((a.pr.terms.length:Int) !=(b.pr.terms.length:Int))=false:=by simp [hln]
    have hni:((a.pr.terms.length:Int)=(b.pr.terms.length:Int)):=by omega
    have HFC:=zT (fc_tms hnm hln)
    have HLN:=zT hln
    clear hln
    go_wp2_with fail
    refine (pR (d:=d+1) (B:=B) (HL.out.keep (HB1.out.trans (HB3.out.mono HB1.out.size)) hB) (HL'.out.keep (HB1.out.trans (HB3.out.mono HB1.out.size)) hB) (zU hB (zU HB1.out.size HB3.out.size)) hna (by have:=HLN.out;omega)).mono ?_
    rintro z w9 ⟨rfl,hb9⟩
    have HE9:Hid (Below w.heap.size w w9):=zT (HB1.out.trans ((HB3.out.trans (hb9.mono HB3.out.size)).mono HB1.out.size))
    have HA5:=zT (HA3.out.later hb9)
    have HA6:=zT (HA4.out.later hb9)
    clear hb9 k_p l_p k_q l_q
    have k_p:=HA5.out.cell
    have l_p:=HA5.out.lt
    have k_q:=HA6.out.cell
    have l_q:=HA6.out.lt
    generalize bL (aY 3) a.pr.terms b.pr.terms=n at *
    by_cases hn0:n=0
    ·subst hn0
     by_cases hoo:a.o=b.o
     ·have HV:Hid (aE a b=0):=zT (by rw [HFC.out,hoo];simp [orL,dR])
      go_wp2_with fail
      all_goals
       go_ret
       exact ⟨av HV.out.symm,HE9.out⟩
     ·by_cases hd:a.o<b.o
      ·have HV:Hid (aE a b=-1):=zT (by rw [←zq hoo HFC.out];simp [hd])
       go_wp2_with fail
       refine (cI _ _).mono ?_
       rintro e w4 ⟨rfl,rfl⟩
       go_wp2_with fail
       all_goals
        go_ret
        exact ⟨av HV.out.symm,HE9.out⟩
      ·have HV:Hid (aE a b=1):=zT (by rw [←zq hoo HFC.out];simp [hd])
       go_wp2_with fail
       refine (cI _ _).mono ?_
       rintro e w4 ⟨rfl,rfl⟩
       go_wp2_with fail
       all_goals
        go_ret
        exact ⟨av HV.out.symm,HE9.out⟩
    ·have hn1:(n !=0)=true:=by simpa using hn0
     have HV:Hid (aE a b=n):=zT (by rw [HFC.out,orL,if_neg hn0])
     go_wp2_with fail
     all_goals
      go_ret
      exact ⟨av HV.out.symm,HE9.out⟩
   ·by_cases hd:(a.pr.terms.length:Int)<(b.pr.terms.length:Int)
    ·have HV:Hid (aE a b=-1):=zT (by rw [←zp hnm (by omega)];simp [hd])
     go_wp2_with fail
     refine (cI _ _).mono ?_
     rintro e w4 ⟨rfl,rfl⟩
     go_wp2_with fail
     all_goals
      go_ret
      exact ⟨av HV.out.symm,HB1.out.trans (HB3.out.mono HB1.out.size)⟩
    ·have HV:Hid (aE a b=1):=zT (by rw [←zp hnm (by omega)];simp [hd])
     go_wp2_with fail
     refine (cI _ _).mono ?_
     rintro e w4 ⟨rfl,rfl⟩
     go_wp2_with fail
     all_goals
      go_ret
      exact ⟨av HV.out.symm,HB1.out.trans (HB3.out.mono HB1.out.size)⟩
  ·have hnm':(a.pr.name.toList==b.pr.name.toList)=false:=by rw [Bool.not_eq_true] at hnm;exact hnm
   by_cases hd:Op.bytesLess a.pr.name.toList b.pr.name.toList=true
   ·have HV:Hid (aE a b=-1):=zT (by rw [←vn hnm'];simp [hd])
    go_wp2_with fail
    refine (cI _ _).mono ?_
    rintro e w4 ⟨rfl,rfl⟩
    go_wp2_with fail
    all_goals
     go_ret
     exact ⟨av HV.out.symm,HB1.out.trans (HB3.out.mono HB1.out.size)⟩
   ·have HV:Hid (aE a b=1):=zT (by rw [←vn hnm'];simp [hd])
    go_wp2_with fail
    refine (cI _ _).mono ?_
    rintro e w4 ⟨rfl,rfl⟩
    go_wp2_with fail
    all_goals
     go_ret
     exact ⟨av HV.out.symm,HB1.out.trans (HB3.out.mono HB1.out.size)⟩
structure DSt (base d B:Nat) (w:World) (M:Nat) (xs:List FV) (A:Option Addr) (c:Nat):Prop where
 hd:Blk w M #[.slice A xs.length c]
 lt:M<base
 bw:base≤w.heap.size
 row:aq FvR 33 w base 0 (.slice A xs.length c) xs
 ok:∀x∈xs,FcOk x.f
 deep:∀x∈xs,(az (d+1)).rd w B x.f x.cs
 sort:bG (xs.map FV.f)
 hB:B≤M
section
variable {base d B M c:Nat} {w w':World} {xs:List FV} {A:Option Addr} {K:Nat→Prop}
theorem DSt.agree (h:DSt base d B w M xs A c) (ha:al K w w') (hK:∀k,K k→k<w.heap.size→B≤k∧¬StM M (.slice A xs.length c) k):DSt base d B w' M xs A c:=by
 have hs:=h.hd.lt
 have hBw:B≤w.heap.size:=by have:=h.hB;omega
 have hb:Below B w w':=ha.below (fun k hk hm=>by have:=h.hB;have:=(hK k hm (by omega)).1;omega) hBw
 exact ⟨ha.blk h.hd (fun hm=>(hK M hm hs).2 (.inl rfl)),h.lt,zU h.bw ha.size,h.row.agree ha (fun k hk hm=>(hK k hm (h.row.lt k hk).2).2 (.inr hk)),h.ok,fun x hx=>(az (d+1)).keep hb (zV _) (h.deep x hx),h.sort,h.hB⟩
theorem DSt.later (h:DSt base d B w M xs A c) (hb:Below w.heap.size w w'):DSt base d B w' M xs A c:=h.agree (K:=fun _=>False) (al.of_below hb) (fun _ h=>h.elim)
theorem DSt.rl (h:DSt base d B w M xs A c) (hn:xs.length≤1000000):RL (az (d+1)) w w.heap.size (xs.map FV.f) A:=by
 obtain ⟨A3,c3,e3,h1,h2,r3⟩:=h.row.reads (zW _) (by show xs.length*(8*3)≤_;omega)
 simp only [Ak] at e3
 obtain ⟨rfl,_,rfl⟩:=e3
 have hBw:B≤w.heap.size:=by have:=h.hB;have:=h.hd.lt;omega
 intro h0
 rw [Ad] at h0
 obtain ⟨b,off,e,hb,hc⟩:=r3 h0
 refine ⟨b,off,e,hb,fun i hi=>?_⟩
 rw [Ad] at hi
 obtain ⟨vs,hl,⟨x,hx,hr⟩,hv⟩:=hc i hi
 obtain rfl:vs=x.cs:=hr
 exact ⟨x.cs,hl,⟨x.f,by rw [List.getElem?_map,hx];rfl,(az (d+1)).wide hBw (h.deep x (List.mem_of_getElem? hx))⟩,hv⟩
end
def DAddE (base d B M:Nat) (w w':World) (xs:List FV) (A:Option Addr) (c:Nat) (f:Fc) (z:Ending):Prop:=
 ∃xs' A' c',z=.returned (.bool (oE (xs.map FV.f) f))∧xs'.map FV.f=fp (xs.map FV.f) f∧DSt base d B w' M xs' A' c'∧al (fun k=>k=M) w w'∧bv w (.slice A xs.length c) (.slice A' xs'.length c')
theorem DAddE.no {base d B M c:Nat} {w w':World} {xs:List FV} {A:Option Addr} {f:Fc} (h:DSt base d B w M xs A c) (hb:Below w.heap.size w w') (hn:oE (xs.map FV.f) f=false):DAddE base d B M w w' xs A c f (.returned (.bool false)):=
 ⟨xs,A,c,by rw [hn],by unfold fp;rw [hn];rfl,h.later hb,(al.of_below (M:=fun _=>False) hb).mono (fun _ _ h=>h.elim),.inl rfl⟩
theorem RTm.deep {w:World} {B:Nat}:∀{d:Nat} {t:Tm} {vs:List Value},RTm w B d t vs→RTm w B (d+1) t vs
 | 0,_,_,h=>h.elim
 | d+1,t,vs,⟨A,c,e,h1,h2,h3,h4,h5,h6⟩=>⟨A,c,e,h1,h2,h3,h4,h5,h6.mono fun i vs _ ⟨x,hx,hr⟩=>⟨x,hx,RTm.deep hr⟩⟩
theorem RTm.deeper {w:World} {B:Nat} {d D:Nat} {t:Tm} {vs:List Value} (hd:d≤D) (h:RTm w B d t vs):RTm w B D t vs:=by
 induction D with
 | zero=> have:d=0:=by omega
          subst this;exact h
 | succ D ih=>
   by_cases he:d=D+1
   ·subst he;exact h
   ·exact RTm.deep (ih (by omega))
theorem ll {α:Type}:∀(n:Nat) (P:Nat→α→Prop),(∀i,i<n→∃a,P i a)→∃xs:List α,xs.length=n∧∀i,i<n→∃a,xs[i]? = some a∧P i a
 | 0,_,_=>⟨[],rfl,fun _ h=>by omega⟩
 | n+1,P,h=>by
   obtain ⟨xs,hl,hx⟩:=ll n P (fun i hi=>h i (by omega))
   obtain ⟨a,ha⟩:=h n (by omega)
   refine ⟨xs++[a],by simp [hl],fun i hi=>?_⟩
   by_cases hin:i<n
   ·obtain ⟨b,hb,hp⟩:=hx i hin
    exact ⟨b,by rw [List.getElem?_append_left (by omega)];exact hb,hp⟩
   ·have:i=n:=by omega
    subst this
    exact ⟨a,by rw [List.getElem?_append_right (by omega)];simp [hl],ha⟩
def Ok {H:Type} (P:Program) (t:TypeId) (d:DataW H):Prop:=∀n∈d.weights P t,n≤reachBytes
section
variable {H:Type} {enc:TypeId × Value→H} {P:Program} {w:World} {base:Nat} {held:Bool}
theorem bh {t:TypeId} {fs:Array Field} {fuel:Nat} {cs:List Value} {x:DataW H × List MemPlace} (ht:P.underlying t=some (.struct fs)) (h:DataW.trod enc P w base (fun _=>true) held fuel t cs=some x) (ho:Ok P t x.1) :
 cs.length=P.cellsOf t∧∃n,fuel=n+1∧∀(j:Nat) (f:Field) (ty:TypeId) (off C:Nat),fs[j]? = some f→f.type=ty→f.offset=off→P.cellsOf ty=C→∃y,DataW.trod enc P w base (fun _=>true) held n ty ((cs.drop off).take C)=some y∧Ok P ty y.1:=by
 obtain ⟨xs,n,hn,hx,hc,hl,hf⟩:=DataW.trod_struct ht h
 refine ⟨hc,n,hn,fun j f ty off C hj h1 h2 h3=>?_⟩
 subst h1 h2 h3
 have hjl:j<fs.size:=(Array.getElem?_eq_some_iff.1 hj).1
 have hys:xs[j]? = some (xs[j]'(by omega)):=Ah (by omega)
 refine ⟨_,(hf j f hj).trans hys,fun m hm=>ho m ?_⟩
 rw [hx]
 simp only [DataW.weights,ht]
 refine DataW.weights_mem_each (j:=j) (t:=f.type) (d:=(xs[j]'(by omega)).1) ?_ ?_ m hm
 ·rw [List.getElem?_map,Array.getElem?_toList,hj];rfl
 ·rw [List.getElem?_map,hys];rfl
theorem hU {e:TypeId}:∀{l:List (DataW H)} {d:DataW H},d∈l→∀n∈d.weights P e,n∈DataW.weightsAll P e l
 | a::l,d,hd,n,hn=>by
   simp only [DataW.weightsAll,List.mem_append]
   rcases List.mem_cons.1 hd with rfl | hd
   ·exact .inl hn
   ·exact .inr (hU hd n hn)
theorem open_int {t:TypeId} {fuel:Nat} {cs:List Value} {x:DataW H × List MemPlace} (ht:P.underlying t=some (.int .i64)) (h:DataW.trod enc P w base (fun _=>true) held fuel t cs=some x):∃n,cs=[.int .i64 n]∧I64 n:=by
 obtain ⟨n,hcs,_,hwf⟩:=DataW.trod_int ht h
 refine ⟨n,hcs,?_⟩
 simp only [Lit.wf] at hwf
 unfold I64
 revert hwf
 have e1:IntKind.i64.signed=true:=rfl
 have e2:IntKind.i64.bits=64:=rfl
 simp [IntKind.min,IntKind.max,e1,e2]
theorem ir {t:TypeId} {fuel:Nat} {cs:List Value} {x:DataW H × List MemPlace} (ht:P.underlying t=some .string) (h:DataW.trod enc P w base (fun _=>true) held fuel t cs=some x) (ho:Ok P t x.1):∃s:ByteArray,cs=[.string s]∧s.size≤140737488351232:=by
 obtain ⟨s,hcs,hx,_⟩:=DataW.trod_string ht h
 refine ⟨s,hcs,?_⟩
 have:=ho s.data.toList.length (by rw [hx];simp [DataW.weights])
 simpa [reachBytes] using this
theorem gh {α:Type} (R:Reader α) {D:Nat} {t e:TypeId} {fuel:Nat} {cs:List Value} {x:DataW H × List MemPlace} (ht:P.underlying t=some (.slice e)) (hC:P.cellsOf e=R.k) (hk:0<R.k) {B:Nat} (hb1:P.bytesOf e=B)
 (h:DataW.trod enc P w base (fun _=>true) held fuel t cs=some x) (ho:Ok P t x.1) (hD:fuel≤D+1)
 (hel:∀n,n≤D→∀cs x,DataW.trod enc P w base (fun _=>true) held n e cs=some x→Ok P e x.1→∃a,R.rd w w.heap.size a cs) :
 ∃(xs:List α) (A:Option Addr) (c:Nat),cs=[.slice A xs.length c]∧xs.length≤c∧c*B≤140737488351232∧RL R w w.heap.size xs A:=by
 rcases DataW.trod_slice ht h with ⟨hcs,_⟩ | ⟨a,len,cap,elems,rest,n,hn,hcs,hx,_,hl,_,hlen,hat,hsp,_⟩
 ·exact ⟨[],none,0,hcs,by simp,by simp,fun h0=>by simp at h0⟩
 have hrl:=(hsp rfl).1
 have hcap:cap*P.bytesOf e≤reachBytes:=by
  have:=ho ((elems.length+rest.length)*P.bytesOf e) (by rw [hx];simp [DataW.weights,ht])
  have e1:elems.length+rest.length=cap:=by omega
  rwa [e1] at this
 have hcapk:cap*B≤140737488351232:=by rw [hb1] at hcap;exact hcap
 have hE:∀i,i<len→∃a':α,∃cs',w.cells? base (a.add (i*P.cellsOf e)) (P.cellsOf e)=some cs'∧R.rd w w.heap.size a' cs':=by
  intro i hi
  have h1:=hat i hi
  have hg:elems[i]? = some (elems[i]'(by omega)):=Ah (by omega)
  rw [hg] at h1
  cases hc:w.cells? base (a.add (i*P.cellsOf e)) (P.cellsOf e) with
  | none=>rw [hc] at h1;simp at h1
  | some cs'=>
    rw [hc] at h1
    simp only [Option.bind_some] at h1
    obtain ⟨a',ha'⟩:=hel n (by omega) cs' _ h1 (fun m hm=>ho m (by
     rw [hx]
     simp only [DataW.weights,ht,List.mem_cons,List.mem_append]
     exact .inr (.inl (hU (List.mem_map.2 ⟨_,List.getElem_mem (by omega),rfl⟩) m hm))))
    exact ⟨a',cs',rfl,ha'⟩
 obtain ⟨xs,hxl,hxs⟩:=ll len _ hE
 refine ⟨xs,some a,cap,by rw [hcs,hxl],by omega,hcapk,fun h0=>?_⟩
 rw [hxl] at h0
 obtain ⟨a0,_,cs0,hc0,hr0⟩:=hxs 0 h0
 obtain ⟨_,hcl0,hat0⟩:=World.cells?_some hc0
 have hcell0:=hat0 0 (by omega)
 have e0:cs0[0]? = some (cs0[0]'(by omega)):=Ah (by omega)
 rw [e0] at hcell0
 have hsz:a.block<w.heap.size:=by
  have:=block_lt_of_cell hcell0
  simpa [Addr.add] using this
 have hspot:a.spot=none:=by simpa [Addr.add] using World.cell?_spot hcell0
 obtain ⟨b,off,spot⟩:=a
 dsimp only at hspot hsz
 subst hspot
 refine ⟨b,off,rfl,hsz,fun i hi=>?_⟩
 rw [hxl] at hi
 obtain ⟨ai,hai,csi,hci,hri⟩:=hxs i hi
 obtain ⟨_,hcl,hati⟩:=World.cells?_some hci
 refine ⟨csi,by omega,⟨ai,hai,hri⟩,fun j v hj=>?_⟩
 have hjl:j<csi.length:=(List.getElem?_eq_some_iff.1 hj).1
 have:=hati j (by omega)
 rw [hj] at this
 rw [←this,hC]
 congr 1
 simp only [Addr.add]
 split<;>split<;>simp_all<;>omega
theorem iV {α:Type} (R:Reader α) {D:Nat} {t e:TypeId} {fuel:Nat} {cs:List Value} {x:DataW H × List MemPlace} (ht:P.underlying t=some (.slice e)) (hC:P.cellsOf e=R.k) (hk:0<R.k) {B:Nat} (hb0:8*R.k≤B) (hb1:P.bytesOf e=B)
 (h:DataW.trod enc P w base (fun _=>true) held fuel t cs=some x) (ho:Ok P t x.1) (hD:fuel≤D+1)
 (hel:∀n,n≤D→∀cs x,DataW.trod enc P w base (fun _=>true) held n e cs=some x→Ok P e x.1→∃a,R.rd w w.heap.size a cs) :
 ∃xs v,cs=[v]∧RSl R w w.heap.size xs v:=by
 obtain ⟨xs,A,c,e1,h1,h2,h3⟩:=gh R ht hC hk hb1 h ho hD hel
 exact ⟨xs,_,e1,A,c,rfl,h1,⟨zU (Nat.mul_le_mul h1 hb0) h2,by
  have:=Nat.le_mul_of_pos_right c (show 0<B by omega)
  omega⟩,h3⟩
theorem dt:Tryz.prog.cellsOf 3=1:=by kernel_rfl
theorem qC:Tryz.prog.cellsOf 2=1:=by kernel_rfl
theorem fH:Tryz.prog.cellsOf 9=1:=by kernel_rfl
theorem ie:Tryz.prog.cellsOf 24=1:=by kernel_rfl
theorem qB:Tryz.prog.cellsOf 54=1:=by kernel_rfl
theorem qA:Tryz.prog.cellsOf 55=1:=by kernel_rfl
theorem uQ:Tryz.prog.cellsOf 100=1:=by kernel_rfl
theorem oL:Tryz.prog.cellsOf 56=1:=by kernel_rfl
theorem eI:Tryz.prog.cellsOf 29=4:=by kernel_rfl
theorem dK:Tryz.prog.cellsOf 26=2:=by kernel_rfl
theorem rN:Tryz.prog.cellsOf 104=7:=by kernel_rfl
theorem mN:Tryz.prog.cellsOf 102=1:=by kernel_rfl
theorem kZ:Tryz.prog.cellsOf 166=2:=by kernel_rfl
theorem mO:Tryz.prog.cellsOf 58=5:=by kernel_rfl
theorem ou:∀(n:Nat) (cs:List Value) (x:DataW H × List MemPlace),DataW.trod enc Tryz.prog w base (fun _=>true) held n 29 cs=some x→Ok Tryz.prog 29 x.1→∃t,RTm w w.heap.size n t cs
 | 0,cs,x,h,_=>by simp [DataW.trod] at h
 | n+1,cs,x,h,ho=>by
   obtain ⟨hc,n',hn,hf⟩:=bh (Tryz.underlying29) h ho
   have hn':n'=n:=by omega
   subst hn'
   have hc4:cs.length=4:=hc.trans eI
   match cs,hc4 with
   | [c0,c1,c2,c3],_=>
     obtain ⟨_,h0,_⟩:=hf 0 _ _ _ _ rfl rfl rfl dt
     obtain ⟨_,h1,_⟩:=hf 1 _ _ _ _ rfl rfl rfl qC
     obtain ⟨_,h2,o2⟩:=hf 2 _ _ _ _ rfl rfl rfl fH
     obtain ⟨_,h3,o3⟩:=hf 3 _ _ _ _ rfl rfl rfl ie
     obtain ⟨k0,e0,i0⟩:=open_int (Tryz.underlying3) h0
     obtain ⟨k1,e1,i1⟩:=open_int (Tryz.underlying2) h1
     obtain ⟨s2,e2,i2⟩:=ir (Tryz.underlying9) h2 o2
     obtain ⟨xs,A,c,e3,g1,g2,hrl⟩:=gh (TmR n') (D:=n') (B:=56) (Tryz.underlying24) eI (by simp [TmR]) (by kernel_rfl) h3 o3 (by omega) (fun m hm cs x hx ho=>by
      obtain ⟨t,ht⟩:=ou m cs x hx ho
      exact ⟨t,RTm.deeper hm ht⟩)
     replace e0:[c0]=_:=e0
     replace e1:[c1]=_:=e1
     replace e2:[c2]=_:=e2
     replace e3:[c3]=_:=e3
     simp only [List.cons.injEq,and_true] at e0 e1 e2 e3
     subst e0 e1 e2 e3
     exact ⟨⟨k0,k1,s2,xs⟩,A,c,rfl,g1,(show xs.length*40≤140737488351232∧c≤9223372036854775807 from ⟨by omega,by omega⟩),i2,i0,i1,hrl⟩
theorem uf {n D:Nat} {cs:List Value} {x:DataW H × List MemPlace} (h:DataW.trod enc Tryz.prog w base (fun _=>true) held n 24 cs=some x) (ho:Ok Tryz.prog 24 x.1) (hD:n≤D):∃ts v,cs=[v]∧RSl (TmR D) w w.heap.size ts v:=
 iV (TmR D) (D:=D) (B:=56) (Tryz.underlying24) eI (by simp [TmR]) (by simp [TmR]) (by kernel_rfl) h ho (by omega) (fun m hm cs x hx ho=>by
  obtain ⟨t,ht⟩:=ou m cs x hx ho
  exact ⟨t,RTm.deeper hm ht⟩)
theorem lT {n D:Nat} {cs:List Value} {x:DataW H × List MemPlace} (h:DataW.trod enc Tryz.prog w base (fun _=>true) held n 26 cs=some x) (ho:Ok Tryz.prog 26 x.1) (hD:n≤D):∃p,(PrR D).rd w w.heap.size p cs:=by
 obtain ⟨hc,n',hn,hf⟩:=bh (Tryz.underlying26) h ho
 have hcl:=hc.trans dK
 match cs,hcl with
 | [c0,c1],_=>
   obtain ⟨_,h0,o0⟩:=hf 0 _ _ _ _ rfl rfl rfl fH
   obtain ⟨_,h1,o1⟩:=hf 1 _ _ _ _ rfl rfl rfl ie
   obtain ⟨s0,e0,i0⟩:=ir (Tryz.underlying9) h0 o0
   obtain ⟨xs,v,e1,g1⟩:=uf (D:=D) h1 o1 (by omega)
   replace e0:[c0]=_:=e0
   replace e1:[c1]=_:=e1
   simp only [List.cons.injEq,and_true] at e0 e1
   subst e0 e1
   exact ⟨⟨s0,xs⟩,_,rfl,i0,g1⟩
theorem tN {n D:Nat} {cs:List Value} {x:DataW H × List MemPlace} (h:DataW.trod enc Tryz.prog w base (fun _=>true) held n 54 cs=some x) (ho:Ok Tryz.prog 54 x.1) (hD:n≤D):∃ts v,cs=[v]∧RSl (PrR D) w w.heap.size ts v:=
 iV (PrR D) (D:=D) (B:=40) (Tryz.underlying54) dK (by simp [PrR]) (by simp [PrR]) (by kernel_rfl) h ho (by omega) (fun m hm cs x hx ho=>lT hx ho hm)
theorem op_open {n D:Nat} {cs:List Value} {x:DataW H × List MemPlace} (h:DataW.trod enc Tryz.prog w base (fun _=>true) held n 104 cs=some x) (ho:Ok Tryz.prog 104 x.1) (hD:n≤D):∃o,(OpR D).rd w w.heap.size o cs:=by
 obtain ⟨hc,n',hn,hf⟩:=bh (Tryz.underlying104) h ho
 have hcl:=hc.trans rN
 match cs,hcl with
 | [c0,c1,c2,c3,c4,c5,c6],_=>
   obtain ⟨_,h0,_⟩:=hf 0 _ _ _ _ rfl rfl rfl dt
   obtain ⟨_,h1,o1⟩:=hf 1 _ _ _ _ rfl rfl rfl eI
   obtain ⟨_,h2,_⟩:=hf 2 _ _ _ _ rfl rfl rfl dt
   obtain ⟨_,h3,_⟩:=hf 3 _ _ _ _ rfl rfl rfl dt
   obtain ⟨k0,e0,i0⟩:=open_int (Tryz.underlying3) h0
   obtain ⟨k2,e2,i2⟩:=open_int (Tryz.underlying3) h2
   obtain ⟨k3,e3,i3⟩:=open_int (Tryz.underlying3) h3
   obtain ⟨t,ht⟩:=ou _ _ _ h1 o1
   replace e0:[c0]=_:=e0
   replace e2:[c5]=_:=e2
   replace e3:[c6]=_:=e3
   replace ht:RTm w w.heap.size n' t [c1,c2,c3,c4]:=ht
   simp only [List.cons.injEq,and_true] at e0 e2 e3
   subst e0 e2 e3
   exact ⟨⟨k0,t,k2,k3⟩,_,rfl,i0,i2,i3,RTm.deeper (by omega) ht⟩
theorem yA {n D:Nat} {cs:List Value} {x:DataW H × List MemPlace} (h:DataW.trod enc Tryz.prog w base (fun _=>true) held n 100 cs=some x) (ho:Ok Tryz.prog 100 x.1) (hD:n≤D):∃ts v,cs=[v]∧RSl (OpR D) w w.heap.size ts v:=
 iV (OpR D) (D:=D) (B:=80) (Tryz.underlying100) rN (by simp [OpR]) (by simp [OpR]) (by kernel_rfl) h ho (by omega) (fun m hm cs x hx ho=>op_open hx ho hm)
theorem vk {n D:Nat} {cs:List Value} {x:DataW H × List MemPlace} (h:DataW.trod enc Tryz.prog w base (fun _=>true) held n 102 cs=some x) (ho:Ok Tryz.prog 102 x.1) (hD:n≤D):∃o,(ExR D).rd w w.heap.size o cs:=by
 obtain ⟨hc,n',hn,hf⟩:=bh (Tryz.underlying102) h ho
 have hcl:=hc.trans mN
 match cs,hcl with
 | [c0],_=>
   obtain ⟨_,h0,o0⟩:=hf 0 _ _ _ _ rfl rfl rfl uQ
   obtain ⟨xs,v,e0,g⟩:=yA (D:=D) h0 o0 (by omega)
   exact ⟨xs,v,e0,g⟩
theorem tf {n D:Nat} {cs:List Value} {x:DataW H × List MemPlace} (h:DataW.trod enc Tryz.prog w base (fun _=>true) held n 55 cs=some x) (ho:Ok Tryz.prog 55 x.1) (hD:n≤D):∃ts v,cs=[v]∧RSl (ExR D) w w.heap.size ts v:=
 iV (ExR D) (D:=D) (B:=24) (Tryz.underlying55) mN (by simp [ExR]) (by simp [ExR]) (by kernel_rfl) h ho (by omega) (fun m hm cs x hx ho=>vk hx ho hm)
theorem tX {n:Nat} {cs:List Value} {x:DataW H × List MemPlace} (h:DataW.trod enc Tryz.prog w base (fun _=>true) held n 166 cs=some x) (ho:Ok Tryz.prog 166 x.1):∃o,ScR.rd w w.heap.size o cs:=by
 obtain ⟨hc,n',hn,hf⟩:=bh (Tryz.underlying166) h ho
 have hcl:=hc.trans kZ
 match cs,hcl with
 | [c0,c1],_=>
   obtain ⟨_,h0,_⟩:=hf 0 _ _ _ _ rfl rfl rfl dt
   obtain ⟨_,h1,o1⟩:=hf 1 _ _ _ _ rfl rfl rfl fH
   obtain ⟨k0,e0,i0⟩:=open_int (Tryz.underlying3) h0
   obtain ⟨s1,e1,i1⟩:=ir (Tryz.underlying9) h1 o1
   replace e0:[c0]=_:=e0
   replace e1:[c1]=_:=e1
   simp only [List.cons.injEq,and_true] at e0 e1
   subst e0 e1
   exact ⟨⟨k0,s1⟩,rfl,i0,i1⟩
theorem rz {n:Nat} {cs:List Value} {x:DataW H × List MemPlace} (h:DataW.trod enc Tryz.prog w base (fun _=>true) held n 56 cs=some x) (ho:Ok Tryz.prog 56 x.1):∃ts v,cs=[v]∧RSl ScR w w.heap.size ts v:=
 iV ScR (D:=n) (B:=24) (Tryz.underlying56) kZ (by simp [ScR]) (by simp [ScR]) (by kernel_rfl) h ho (by omega) (fun m hm cs x hx ho=>tX hx ho)
theorem wV {n D:Nat} {cs:List Value} {x:DataW H × List MemPlace} (h:DataW.trod enc Tryz.prog w base (fun _=>true) held n 58 cs=some x) (ho:Ok Tryz.prog 58 x.1) (hD:n≤D):∃r,(RuR D).rd w w.heap.size r cs:=by
 obtain ⟨hc,n',hn,hf⟩:=bh (Tryz.underlying58) h ho
 have hcl:=hc.trans mO
 match cs,hcl with
 | [c0,c1,c2,c3,c4],_=>
   obtain ⟨_,h0,o0⟩:=hf 0 _ _ _ _ rfl rfl rfl dK
   obtain ⟨_,h1,o1⟩:=hf 1 _ _ _ _ rfl rfl rfl qB
   obtain ⟨_,h2,o2⟩:=hf 2 _ _ _ _ rfl rfl rfl qA
   obtain ⟨_,h3,o3⟩:=hf 3 _ _ _ _ rfl rfl rfl oL
   obtain ⟨p,hp⟩:=lT (D:=D) h0 o0 (by omega)
   obtain ⟨b,v1,e1,g1⟩:=tN (D:=D) h1 o1 (by omega)
   obtain ⟨es,v2,e2,g2⟩:=tf (D:=D) h2 o2 (by omega)
   obtain ⟨ss,v3,e3,g3⟩:=rz h3 o3
   replace hp:(PrR D).rd w w.heap.size p [c0,c1]:=hp
   obtain ⟨v0,e0,gs,g0⟩:=hp
   replace e1:[c2]=_:=e1
   replace e2:[c3]=_:=e2
   replace e3:[c4]=_:=e3
   simp only [List.cons.injEq,and_true] at e0 e1 e2 e3
   obtain ⟨rfl,rfl⟩:=e0
   subst e1 e2 e3
   exact ⟨⟨p,b,es,ss⟩,_,_,_,_,rfl,gs,g0,g1,g2,g3⟩
end
theorem yO:∀(dp:Nat),dp≤6→∀(d B:Nat) (ts:List Tm) (A:Option Addr) (c:Nat) (n0:Int) (w:World),RL (TmR d) w B ts A→B≤w.heap.size→ts.length≤140737488351232→0≤n0→n0<100 →
 Calls Tryz.prog 72 #[.slice A ts.length c,.int .i64 n0,.int .i64 (dp:Int)] w fun e w'=>(∃m:Int,e=.returned (.int .i64 m)∧0≤m∧m≤100)∧Below w.heap.size w w':=by
 intro dp
 induction dp with
 | zero=>
   intro _ d B ts A c n0 w hl hB hn h0 h1
   have hdp0:¬(((0:Nat):Int) > 0):=by omega
   go_enter Tryz.func72,Tryz.ntmps72
   go_wp2_with fail
   go_loopw [1,11] (fun v i wr=>∃(k:Nat) (n:Int),k≤ts.length∧i=.int .i64 k∧v=.int .i64 n∧0≤n∧n<100∧Below w.heap.size w wr) (fun _ i _=>ts.length-(intOf i).toNat)
   case atStart=>exact ⟨0,n0,zW _,rfl,rfl,h0,h1,zX _ _⟩
   case round=>
    obtain ⟨k,n,hk,rfl,rfl,hn0,hn1,hbw⟩:=hrel
    by_cases hlt:k<ts.length
    ·obtain ⟨b,off,rfl,hb⟩:=hl.base hbw hB (by omega)
     obtain ⟨t,vs,hx,hlen,hcell,hr⟩:=hl.at0 hbw hB hlt
     obtain ⟨Ax,cx,rfl,g1,g2,g3,g4,g5,hrl⟩:=RTm.cells hr
     have c0:wr.cell? ⟨b,off+k*4,none⟩=some (.int .i64 t.kind):=hcell 0 _ rfl
     have c1:wr.cell? ⟨b,off+k*4+1,none⟩=some (.int .i64 t.n):=hcell 1 _ rfl
     have c2:wr.cell? ⟨b,off+k*4+2,none⟩=some (.string t.s):=hcell 2 _ rfl
     have c3:wr.cell? ⟨b,off+k*4+3,none⟩=some (.slice Ax t.l.length cx):=hcell 3 _ rfl
     have hszr:=hbw.size
     have HB:=zT (fun o:Obj=>hbw.alloc hszr o)
     clear hcell hlen hx hr
     go_wp2_with fail
     ·go_ret
      exact ⟨⟨100,rfl,by omega,by omega⟩,HB.out _⟩
     ·go_roundw
      case rel=>exact ⟨k+1,_,by omega,by go_num,rfl,by omega,by omega,HB.out _⟩
      case measure=>simp [intOf];omega
     ·go_ret
      exact ⟨⟨100,rfl,by omega,by omega⟩,HB.out _⟩
    ·go_wp2_with fail
     go_ret
     exact ⟨⟨n,rfl,hn0,by omega⟩,hbw⟩
 | succ dp ih=>
   intro hdp d B ts A c n0 w hl hB hn h0 h1
   have IH:=zT (ih (by omega))
   clear ih
   have hdp0:((dp+1:Nat):Int) > 0:=by omega
   have hdp1:(((dp+1:Nat):Int)==0)=false:=by simp;omega
   have hdp2:((dp+1:Nat):Int)-1=(dp:Int):=by omega
   have hdp3:((dp+1:Nat):Int)≤6:=by omega
   have HDP:=zT hdp2
   generalize hD:((dp+1:Nat):Int)=D at *
   clear hD hdp2
   go_enter Tryz.func72,Tryz.ntmps72
   go_wp2_with fail
   go_loopw [1,11] (fun v i wr=>∃(k:Nat) (n:Int),k≤ts.length∧i=.int .i64 k∧v=.int .i64 n∧0≤n∧n<100∧Below w.heap.size w wr) (fun _ i _=>ts.length-(intOf i).toNat)
   case atStart=>exact ⟨0,n0,zW _,rfl,rfl,h0,h1,zX _ _⟩
   case round=>
    obtain ⟨k,n,hk,rfl,rfl,hn0,hn1,hbw⟩:=hrel
    by_cases hlt:k<ts.length
    ·obtain ⟨b,off,rfl,hb⟩:=hl.base hbw hB (by omega)
     obtain ⟨t,vs,hx,hlen,hcell,hr⟩:=hl.at0 hbw hB hlt
     obtain ⟨Ax,cx,rfl,g1,g2,g3,g4,g5,hrl⟩:=RTm.cells hr
     have c0:wr.cell? ⟨b,off+k*4,none⟩=some (.int .i64 t.kind):=hcell 0 _ rfl
     have c1:wr.cell? ⟨b,off+k*4+1,none⟩=some (.int .i64 t.n):=hcell 1 _ rfl
     have c2:wr.cell? ⟨b,off+k*4+2,none⟩=some (.string t.s):=hcell 2 _ rfl
     have c3:wr.cell? ⟨b,off+k*4+3,none⟩=some (.slice Ax t.l.length cx):=hcell 3 _ rfl
     have hszr:=hbw.size
     have HB:=zT (fun o:Obj=>hbw.alloc hszr o)
     clear hcell hlen hx hr
     go_wp2_with fail
     ·rw [HDP.out]
      refine (IH.out (d-1) B t.l Ax cx _ _ ((jk.rl hrl).keep (HB.out _) hB) (zU hB (HB.out _).size) (by omega) (by omega) (by omega)).mono ?_
      rintro e w1 ⟨⟨m,rfl,hm0,hm1⟩,hb1⟩
      have HB1:=zT ((HB.out _).trans (hb1.mono (HB.out _).size))
      clear hb1
      go_wp2_with fail
      ·go_roundw
       case rel=>exact ⟨k+1,m,by omega,by go_num,rfl,by omega,by omega,HB1.out⟩
       case measure=>simp [intOf];omega
      ·go_ret
       exact ⟨⟨100,rfl,by omega,by omega⟩,HB1.out⟩
     ·go_ret
      exact ⟨⟨100,rfl,by omega,by omega⟩,HB.out _⟩
    ·go_wp2_with fail
     go_ret
     exact ⟨⟨n,rfl,hn0,by omega⟩,hbw⟩
theorem ib {d B:Nat} {t:Tm} {vs:List Value} {w:World} (hr:RTm w B d t vs) (hB:B≤w.heap.size) :
 Calls Tryz.prog 52 #[.agg vs.toArray] w fun e w'=>(∃m:Int,e=.returned (.int .i64 m)∧0≤m∧m≤100)∧Below w.heap.size w w':=by
 have HR:=zT hr
 obtain ⟨Ax,cx,rfl,g1,g2,g3,g4,g5,hrl⟩:=RTm.cells hr
 have HB:=zT (fun o:Obj=>(zX w.heap.size w).alloc (zV _) o)
 clear hr hrl
 go_enter Tryz.func52,Tryz.ntmps52
 go_wp2_with fail
 have HW:=zT ((HB.out (.cells #[.int .i64 t.kind,.int .i64 t.n,.string t.s,.slice Ax t.l.length cx] 29)).trans ((zX (w.alloc (.cells #[.int .i64 t.kind,.int .i64 t.n,.string t.s,.slice Ax t.l.length cx] 29)).heap.size (w.alloc (.cells #[.int .i64 t.kind,.int .i64 t.n,.string t.s,.slice Ax t.l.length cx] 29))).alloc (zV _) (.cells #[.int .i64 t.kind,.int .i64 t.n,.string t.s,.slice Ax t.l.length cx] 29) |>.mono (HB.out (.cells #[.int .i64 t.kind,.int .i64 t.n,.string t.s,.slice Ax t.l.length cx] 29)).size))
 have y0:((w.alloc (.cells #[.int .i64 t.kind,.int .i64 t.n,.string t.s,.slice Ax t.l.length cx] 29)).alloc (.cells #[.int .i64 t.kind,.int .i64 t.n,.string t.s,.slice Ax t.l.length cx] 29)).cell? ⟨w.heap.size+1,0,none⟩=some (.int .i64 t.kind):=by go_simp
 have y1:((w.alloc (.cells #[.int .i64 t.kind,.int .i64 t.n,.string t.s,.slice Ax t.l.length cx] 29)).alloc (.cells #[.int .i64 t.kind,.int .i64 t.n,.string t.s,.slice Ax t.l.length cx] 29)).cell? ⟨w.heap.size+1,1,none⟩=some (.int .i64 t.n):=by go_simp
 have y2:((w.alloc (.cells #[.int .i64 t.kind,.int .i64 t.n,.string t.s,.slice Ax t.l.length cx] 29)).alloc (.cells #[.int .i64 t.kind,.int .i64 t.n,.string t.s,.slice Ax t.l.length cx] 29)).cell? ⟨w.heap.size+1,2,none⟩=some (.string t.s):=by go_simp
 have y3:((w.alloc (.cells #[.int .i64 t.kind,.int .i64 t.n,.string t.s,.slice Ax t.l.length cx] 29)).alloc (.cells #[.int .i64 t.kind,.int .i64 t.n,.string t.s,.slice Ax t.l.length cx] 29)).cell? ⟨w.heap.size+1,3,none⟩=some (.slice Ax t.l.length cx):=by go_simp
 have ysz:w.heap.size+1<((w.alloc (.cells #[.int .i64 t.kind,.int .i64 t.n,.string t.s,.slice Ax t.l.length cx] 29)).alloc (.cells #[.int .i64 t.kind,.int .i64 t.n,.string t.s,.slice Ax t.l.length cx] 29)).heap.size:=by go_simp
 generalize ((w.alloc (.cells #[.int .i64 t.kind,.int .i64 t.n,.string t.s,.slice Ax t.l.length cx] 29)).alloc (.cells #[.int .i64 t.kind,.int .i64 t.n,.string t.s,.slice Ax t.l.length cx] 29))=W at *
 have hl:RL (TmR d) W W.heap.size [t] (some ⟨w.heap.size+1,0,none⟩):=RL.one (x:=t) ysz ((TmR d).wide (zU hB HW.out.size) ((TmR d).keep HW.out hB HR.out)) (fun j v hv=>by
  rcases j with _ | _ | _ | _ | j
  ·simp only [Av,Ai] at hv;rw [←hv];exact y0
  ·simp only [List.getElem?_cons_succ,Av,Ai] at hv;rw [←hv];exact y1
  ·simp only [List.getElem?_cons_succ,Av,Ai] at hv;rw [←hv];exact y2
  ·simp only [List.getElem?_cons_succ,Av,Ai] at hv;rw [←hv];exact y3
  ·simp at hv)
 refine (yO 6 (by omega) d _ [t] _ 1 0 W hl (zV _) (by simp) (by omega) (by omega)).mono ?_
 rintro e w1 ⟨⟨m,rfl,hm0,hm1⟩,hb1⟩
 have HB1:=zT (HW.out.trans (hb1.mono HW.out.size))
 clear hb1
 go_wp2_with fail
 go_ret
 exact ⟨⟨m,rfl,hm0,hm1⟩,HB1.out⟩
theorem nr {d B:Nat} {r:Ru} {vs:List Value} {w:World} (hr:(RuR d).rd w B r vs) (hB:B≤w.heap.size) :
 Calls Tryz.prog 32 #[.agg vs.toArray] w fun x w'=>(∃m:Int,x=.returned (.int .i64 m)∧0≤m∧m≤400)∧Below w.heap.size w w':=by
 obtain ⟨_,_,_,_,rfl,hs,⟨A0,c0,rfl,h01,h02,hl0⟩,⟨A1,c1,rfl,h11,h12,hl1⟩,⟨A2,c2,rfl,h21,h22,hl2⟩,⟨A3,c3,rfl,h31,h32,hl3⟩⟩:=hr
 simp only [PrR,ExR,ScR,TmR] at h02 h12 h22 h32
 have HB:=zT (fun o:Obj=>(zX w.heap.size w).alloc (zV _) o)
 have HL1:=zT hl1
 have HL2:=zT hl2
 clear hl1 hl2 hl3
 go_enter Tryz.func32,Tryz.ntmps32
 go_wp2_with fail
 have HW:=zT (HB.out (.cells #[.string r.head.name,.slice A0 r.head.terms.length c0,.slice A1 r.body.length c1,.slice A2 r.exprs.length c2,.slice A3 r.scopes.length c3] 58))
 have x2:(w.alloc (.cells #[.string r.head.name,.slice A0 r.head.terms.length c0,.slice A1 r.body.length c1,.slice A2 r.exprs.length c2,.slice A3 r.scopes.length c3] 58)).cell? ⟨w.heap.size,2,none⟩=some (.slice A1 r.body.length c1):=by go_simp
 have x3:(w.alloc (.cells #[.string r.head.name,.slice A0 r.head.terms.length c0,.slice A1 r.body.length c1,.slice A2 r.exprs.length c2,.slice A3 r.scopes.length c3] 58)).cell? ⟨w.heap.size,3,none⟩=some (.slice A2 r.exprs.length c2):=by go_simp
 have xsz:w.heap.size<(w.alloc (.cells #[.string r.head.name,.slice A0 r.head.terms.length c0,.slice A1 r.body.length c1,.slice A2 r.exprs.length c2,.slice A3 r.scopes.length c3] 58)).heap.size:=by go_simp
 generalize (w.alloc (.cells #[.string r.head.name,.slice A0 r.head.terms.length c0,.slice A1 r.body.length c1,.slice A2 r.exprs.length c2,.slice A3 r.scopes.length c3] 58))=W at *
 have hl0':=hl0.keep HW.out hB
 have hBW:=zU hB HW.out.size
 have HLW1:=zT (HL1.out.keep HW.out hB)
 have HLW2:=zT (HL2.out.keep HW.out hB)
 clear hl0 HL1 HL2 HB
 go_loopw [3,26] (fun v i wr=>∃(k:Nat) (n:Int),k≤r.head.terms.length∧i=.int .i64 k∧v=.int .i64 n∧0≤n∧n≤140737488351232+101*k∧Below W.heap.size W wr) (fun _ i _=>r.head.terms.length-(intOf i).toNat)
 case atStart=>exact ⟨0,_,zW _,rfl,rfl,by omega,by omega,zX _ _⟩
 case round=>
  obtain ⟨k,n,hk,rfl,rfl,hn0,hn1,hbw⟩:=hrel
  by_cases hlt:k<r.head.terms.length
  ·obtain ⟨b,off,rfl,hb⟩:=hl0'.base hbw hBW (by omega)
   obtain ⟨t,vs,hx,hlen,hcell,hr⟩:=hl0'.at_ hbw hBW hlt
   obtain ⟨Ax,cx,rfl,g1,g2,g3,g4,g5,hrl⟩:=RTm.cells hr
   have c0:wr.cell? ⟨b,off+k*4,none⟩=some (.int .i64 t.kind):=hcell 0 _ rfl
   have c1:wr.cell? ⟨b,off+k*4+1,none⟩=some (.int .i64 t.n):=hcell 1 _ rfl
   have c2:wr.cell? ⟨b,off+k*4+2,none⟩=some (.string t.s):=hcell 2 _ rfl
   have c3:wr.cell? ⟨b,off+k*4+3,none⟩=some (.slice Ax t.l.length cx):=hcell 3 _ rfl
   have hszr:=hbw.size
   have HB:=zT (fun o:Obj=>hbw.alloc hszr o)
   have HB0:=zT (fun o:Obj=>(zX wr.heap.size wr).alloc (zV _) o)
   have HR:=zT hr
   clear hcell hlen hx hr
   go_wp2_with fail
   refine (ib (d:=d) (B:=B) (t:=t) (vs:=[_,_,_,_]) ((TmR d).keep (HB0.out _) (zU hBW hszr) HR.out) (zU hBW (HB.out _).size)).mono ?_
   rintro e w1 ⟨⟨m,rfl,hm0,hm1⟩,hb1⟩
   have HB1:=zT ((HB.out _).trans (hb1.mono (HB.out _).size))
   clear hb1
   go_wp2_with fail
   go_roundw
   case rel=>exact ⟨k+1,_,by omega,by go_num,rfl,by omega,by omega,HB1.out⟩
   case measure=>simp [intOf];omega
  ·clear hl0'
   have hn2:n≤140737488351232+101*(r.head.terms.length:Int):=by omega
   have z2:wr.cell? ⟨w.heap.size,2,none⟩=some (.slice A1 r.body.length c1):=(jq hbw _ _ xsz).trans x2
   clear hn1
   go_wp2_with fail
   clear z2 hk hlt
   go_loopw [3,38] (fun v i wr=>∃(k:Nat) (n:Int),k≤r.body.length∧i=.int .i64 k∧v=.int .i64 n∧0≤n∧n≤150737488351232+101*(r.head.terms.length:Int)+k∧Below W.heap.size W wr) (fun _ i _=>r.body.length-(intOf i).toNat)
   case atStart=>exact ⟨0,_,zW _,rfl,rfl,hn0,by omega,hbw⟩
   case round=>
    clear hbw hn0 hn2
    obtain ⟨k,n,hk,rfl,rfl,hn0,hn1,hbw⟩:=hrel
    by_cases hlt:k<r.body.length
    ·obtain ⟨b,off,rfl,hb⟩:=HLW1.out.base hbw hBW (by omega)
     obtain ⟨p,vs,hx,hlen,hcell,hr⟩:=HLW1.out.at0 hbw hBW hlt
     obtain ⟨_,rfl,hs,A',c',rfl,hc1,hc2,hl'⟩:=hr
     simp only [TmR] at hc2
     have c0:wr.cell? ⟨b,off+k*2,none⟩=some (.string p.name):=hcell 0 _ rfl
     have c1:wr.cell? ⟨b,off+k*2+1,none⟩=some (.slice A' p.terms.length c'):=hcell 1 _ rfl
     have hszr:=hbw.size
     have HB:=zT (fun o:Obj=>hbw.alloc hszr o)
     clear hcell hlen hx
     go_wp2_with fail
     have hn3:n+(1+(p.terms.length:Int))≤150737488351232+101*(r.head.terms.length:Int)+k+(1+(p.terms.length:Int)):=by omega
     have hbw2:Below W.heap.size W (wr.alloc (.cells #[.string p.name,.slice A' p.terms.length c'] 26)):=HB.out _
     generalize (wr.alloc (.cells #[.string p.name,.slice A' p.terms.length c'] 26))=W2 at *
     go_loopw [3,51] (fun v i wr2=>∃(j:Nat) (n2:Int),j≤p.terms.length∧i=.int .i64 j∧v=.int .i64 n2∧0≤n2∧((j=0∧n2=n+(1+(p.terms.length:Int)))∨n2≤400)∧Below W.heap.size W wr2) (fun _ i _=>p.terms.length-(intOf i).toNat)
     case atStart=>exact ⟨0,_,zW _,rfl,rfl,by omega,.inl ⟨rfl,rfl⟩,hbw2⟩
     case round=>
      clear hbw2 hbw hszr c0 c1 HB
      obtain ⟨j,n2,hj,rfl,rfl,hn20,hn21,hbw⟩:=hrel
      by_cases hlt2:j<p.terms.length
      ·obtain ⟨b',off',rfl,hb'⟩:=hl'.base hbw hBW (by omega)
       obtain ⟨t,vs,hx,hlen,hcell,hr⟩:=hl'.at_ hbw hBW hlt2
       obtain ⟨Ax,cx,rfl,g1,g2,g3,g4,g5,hrl⟩:=RTm.cells hr
       have c0:wr.cell? ⟨b',off'+j*4,none⟩=some (.int .i64 t.kind):=hcell 0 _ rfl
       have c1:wr.cell? ⟨b',off'+j*4+1,none⟩=some (.int .i64 t.n):=hcell 1 _ rfl
       have c2:wr.cell? ⟨b',off'+j*4+2,none⟩=some (.string t.s):=hcell 2 _ rfl
       have c3:wr.cell? ⟨b',off'+j*4+3,none⟩=some (.slice Ax t.l.length cx):=hcell 3 _ rfl
       have hszr:=hbw.size
       have HB:=zT (fun o:Obj=>hbw.alloc hszr o)
       have HB0:=zT (fun o:Obj=>(zX wr.heap.size wr).alloc (zV _) o)
       have HR:=zT hr
       clear hcell hlen hx hr
       go_wp2_with fail
       refine (ib (d:=d) (B:=B) (t:=t) (vs:=[_,_,_,_]) ((TmR d).keep (HB0.out _) (zU hBW hszr) HR.out) (zU hBW (HB.out _).size)).mono ?_
       rintro e w1 ⟨⟨m,rfl,hm0,hm1⟩,hb1⟩
       have HB1:=zT ((HB.out _).trans (hb1.mono (HB.out _).size))
       clear hb1
       go_wp2_with fail
       ·go_ret
        exact ⟨⟨_,rfl,by omega,by omega⟩,HW.out.trans (HB1.out.mono HW.out.size)⟩
       ·go_roundw
        case rel=>exact ⟨j+1,_,by omega,by go_num,rfl,by omega,.inr (by omega),HB1.out⟩
        case measure=>simp [intOf];omega
      ·go_wp2_with fail
       go_roundw
       case rel=>exact ⟨k+1,n2,by omega,by go_num,rfl,by omega,by omega,hbw⟩
       case measure=>simp [intOf];omega
    ·have z3:wr.cell? ⟨w.heap.size,3,none⟩=some (.slice A2 r.exprs.length c2):=(jq hbw _ _ xsz).trans x3
     have hn2:n≤160737488351232+101*(r.head.terms.length:Int):=by omega
     clear hn1
     go_wp2_with fail
     clear z3 hk hlt
     go_loopw [3,66] (fun v i wr=>∃(k:Nat) (n:Int),k≤r.exprs.length∧i=.int .i64 k∧v=.int .i64 n∧0≤n∧n≤160737488351232+101*(r.head.terms.length:Int)+k∧Below W.heap.size W wr) (fun _ i _=>r.exprs.length-(intOf i).toNat)
     case atStart=>exact ⟨0,_,zW _,rfl,rfl,hn0,by omega,hbw⟩
     case round=>
      clear hbw hn0 hn2
      obtain ⟨k,n,hk,rfl,rfl,hn0,hn1,hbw⟩:=hrel
      by_cases hlt:k<r.exprs.length
      ·obtain ⟨b,off,rfl,hb⟩:=HLW2.out.base hbw hBW (by omega)
       obtain ⟨p,vs,hx,hlen,hcell,hr⟩:=HLW2.out.at0 hbw hBW hlt
       obtain ⟨_,rfl,A',c',rfl,hc1,hc2,hl'⟩:=hr
       simp only [OpR] at hc2
       have c0:wr.cell? ⟨b,off+k*1,none⟩=some (.slice A' p.length c'):=hcell 0 _ rfl
       rw [Nat.mul_one] at c0
       have hszr:=hbw.size
       have HB:=zT (fun o:Obj=>hbw.alloc hszr o)
       clear hcell hlen hx
       go_wp2_with fail
       have hn3:n+(1+(p.length:Int))≤160737488351232+101*(r.head.terms.length:Int)+k+(1+(p.length:Int)):=by omega
       have hbw2:Below W.heap.size W (wr.alloc (.cells #[.slice A' p.length c'] 102)):=HB.out _
       generalize (wr.alloc (.cells #[.slice A' p.length c'] 102))=W2 at *
       go_loopw [3,79] (fun v i wr2=>∃(j:Nat) (n2:Int),j≤p.length∧i=.int .i64 j∧v=.int .i64 n2∧0≤n2∧((j=0∧n2=n+(1+(p.length:Int)))∨n2≤400)∧Below W.heap.size W wr2) (fun _ i _=>p.length-(intOf i).toNat)
       case atStart=>exact ⟨0,_,zW _,rfl,rfl,by omega,.inl ⟨rfl,rfl⟩,hbw2⟩
       case round=>
        clear hbw2 hbw hszr c0 HB
        obtain ⟨j,n2,hj,rfl,rfl,hn20,hn21,hbw⟩:=hrel
        by_cases hlt2:j<p.length
        ·obtain ⟨b',off',rfl,hb'⟩:=hl'.base hbw hBW (by omega)
         obtain ⟨o,vs,hx,hlen,hcell,hr⟩:=hl'.at_ hbw hBW hlt2
         obtain ⟨ts,rfl,i1,i2,i3,ht⟩:=hr
         have hr:=ht
         obtain ⟨Ax,cx,rfl,g1,g2,g3,g4,g5,hrl⟩:=RTm.cells ht
         have c0:wr.cell? ⟨b',off'+j*7,none⟩=some (.int .i64 o.kind):=hcell 0 _ rfl
         have c1:wr.cell? ⟨b',off'+j*7+1,none⟩=some (.int .i64 o.term.kind):=hcell 1 _ rfl
         have c2:wr.cell? ⟨b',off'+j*7+2,none⟩=some (.int .i64 o.term.n):=hcell 2 _ rfl
         have c3:wr.cell? ⟨b',off'+j*7+3,none⟩=some (.string o.term.s):=hcell 3 _ rfl
         have c4:wr.cell? ⟨b',off'+j*7+4,none⟩=some (.slice Ax o.term.l.length cx):=hcell 4 _ rfl
         have c5:wr.cell? ⟨b',off'+j*7+5,none⟩=some (.int .i64 o.code):=hcell 5 _ rfl
         have c6:wr.cell? ⟨b',off'+j*7+6,none⟩=some (.int .i64 o.skip):=hcell 6 _ rfl
         have hszr:=hbw.size
         have HB:=zT (fun o:Obj=>hbw.alloc hszr o)
         have HB0:=zT (fun o:Obj=>(zX wr.heap.size wr).alloc (zV _) o)
         have HR:=zT hr
         clear hcell hlen hx hr
         go_wp2_with fail
         refine (ib (d:=d) (B:=B) (t:=o.term) (vs:=[_,_,_,_]) ((TmR d).keep (HB0.out _) (zU hBW hszr) HR.out) (zU hBW (HB.out _).size)).mono ?_
         rintro e w1 ⟨⟨m,rfl,hm0,hm1⟩,hb1⟩
         have HB1:=zT ((HB.out _).trans (hb1.mono (HB.out _).size))
         clear hb1
         go_wp2_with fail
         ·go_ret
          exact ⟨⟨_,rfl,by omega,by omega⟩,HW.out.trans (HB1.out.mono HW.out.size)⟩
         ·go_roundw
          case rel=>exact ⟨j+1,_,by omega,by go_num,rfl,by omega,.inr (by omega),HB1.out⟩
          case measure=>simp [intOf];omega
        ·go_wp2_with fail
         go_roundw
         case rel=>exact ⟨k+1,n2,by omega,by go_num,rfl,by omega,by omega,hbw⟩
         case measure=>simp [intOf];omega
      ·go_wp2_with fail
       go_ret
       exact ⟨⟨_,rfl,by omega,by omega⟩,HW.out.trans (hbw.mono HW.out.size)⟩
end Go.Proofs.YtjpndglegpcdnaaGreat
