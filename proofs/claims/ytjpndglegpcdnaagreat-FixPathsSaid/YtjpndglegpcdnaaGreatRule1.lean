/- rule.MayPred, MayFact, MayScope. -/
import Derived.Test.YtjpndglegpcdnaaGreatHeldA
import Derived.Test.YtjpndglegpcdnaaGreatTerm5
import Derived.Test.YtjpndglegpcdnaaGreatOwn
import Derived.Deep.CutRange
set_option linter.unusedVariables false
set_option linter.unusedSimpArgs false
set_option maxRecDepth 100000
set_option maxHeartbeats 8000000
namespace Go.Proofs.YtjpndglegpcdnaaGreat
open Go.ChangeShapes Go.WideShapes Go.ChangeAt Go.RowKit
structure Fc where
 pr:Pr
 o:Int
def U32 (n:Int):Prop:=0≤n∧n<4294967296
def aC (d:Nat):Reader Fc where
 k:=3
 rd:=fun w B f vs=>∃v,vs=[.string f.pr.name,v,.int .u32 f.o]∧(PrR d).rd w B f.pr [.string f.pr.name,v]∧U32 f.o
 keep:=fun hw hB ⟨v,e,h,ho⟩=>⟨v,e,(PrR _).keep hw hB h,ho⟩
 wide:=fun hB ⟨v,e,h,ho⟩=>⟨v,e,(PrR _).wide hB h,ho⟩
 len:=fun ⟨_,e,_⟩=>by rw [e];rfl
theorem bh {d B:Nat} {w:World} {f:Fc} {vs:List Value} (h:(aC d).rd w B f vs):∃A c,vs=[.string f.pr.name,.slice A f.pr.terms.length c,.int .u32 f.o]∧f.pr.name.size≤140737488351232∧f.pr.terms.length≤c∧f.pr.terms.length*32≤140737488351232∧c≤9223372036854775807∧RL (TmR d) w B f.pr.terms A∧U32 f.o:=by
 obtain ⟨v,rfl,⟨v',e,hs,A,c,rfl,h1,h2,hl⟩,ho⟩:=h
 simp only [List.cons.injEq,and_true,true_and] at e
 subst e
 exact ⟨A,c,rfl,hs,h1,by have:=h2.1;simpa [TmR] using this,h2.2,hl,ho⟩
def orL:List Int→Int
 | []=>0
 | x::xs=>if x=0 then orL xs else x
theorem rj {xs:List Int}:∀{k:Nat},(∀i (hi:i<xs.length),i<k→xs[i]=0)→k≤xs.length→orL xs=orL (xs.drop k):=by
 intro k
 induction xs generalizing k with
 | nil=>intro _ _;simp
 | cons x xs ih=>
   intro h hk
   cases k with
   | zero=>rfl
   | succ k=>
     have h0:x=0:=h 0 (by simp) (by omega)
     rw [orL,if_pos h0,List.drop_succ_cons]
     exact ih (fun i hi hik=>by have:=h (i+1) (by simpa using hi) (by omega);simpa using this) (by simpa using hk)
theorem iB (xs:List Int) (b:Nat) (w:World) (h:∀i (hi:i<xs.length),w.cell? ⟨b,i,none⟩=some (.int .i64 xs[i])) (hn:xs.length≤1000) :
 Calls Tryz.prog 27 #[.slice (some ⟨b,0,none⟩) xs.length xs.length] w fun e w'=>e=.returned (.int .i64 (orL xs))∧w=w':=by
 have H:=ym h
 clear h
 go_enter Tryz.func27,Tryz.ntmps27
 go_wp2_with fail
 go_loop [8] (fun i=>∃k:Nat,k≤xs.length∧i=.int .i64 k∧Hid (∀i (hi:i<xs.length),i<k→xs[i]=0)) (fun i=>xs.length-(intOf i).toNat)
 case atStart=>exact ⟨0,yp _,rfl,ym fun i _ h=>absurd h (by omega)⟩
 case round=>
  obtain ⟨k,hk,rfl,HZ⟩:=hrel
  by_cases hlt:k<xs.length
  ·have c0:=H.out k hlt
   have HE:Hid (orL xs=if xs[k]=0 then orL (xs.drop (k+1)) else xs[k]):=ym (by
    rw [rj HZ.out hk,List.drop_eq_getElem_cons hlt,orL])
   have HX:Hid (∃x,x=xs[k]):=ym ⟨_,rfl⟩
   have HZ2:Hid (xs[k]=0→∀i (hi:i<xs.length),i<k+1→xs[i]=0):=ym (fun h0 i hi hik=>by
    rcases Nat.lt_or_ge i k with h1 | h1
    ·exact HZ.out i hi h1
    ·obtain rfl:i=k:=by omega
     exact h0)
   generalize xs[k]=x at *
   by_cases hz:(x !=0)=true
   ·go_wp2_with fail
    go_ret
    exact ⟨az (by rw [HE.out,if_neg (by simpa using hz)]),rfl⟩
   ·have hz:(x !=0)=false:=by simpa using hz
    go_wp2_with fail
    go_round
    case rel=>exact ⟨k+1,by omega,by go_num,ym (HZ2.out (by simpa using hz))⟩
    case measure=>simp [intOf];omega
  ·have HE:Hid (orL xs=0):=ym (by rw [rj HZ.out hk,List.drop_eq_nil_of_le (by omega)];rfl)
   go_wp2_with fail
   go_ret
   exact ⟨az HE.out.symm,rfl⟩
theorem iT (x y:Int) (w:World) :
 Calls Tryz.prog 56 #[.int .u32 x,.int .u32 y] w fun e w'=>e=.returned (.int .i64 (eA x y))∧w=w':=by
 go_enter Tryz.func56,Tryz.ntmps56
 go_wp2
 all_goals go_ret
 all_goals refine ⟨az ?_,rfl⟩
 all_goals (simp [eA];try omega)
def aS (a b:Fc):Int:=orL [dE (bs a.pr.name) (bs b.pr.name),eA a.pr.terms.length b.pr.terms.length,dG (cH 3) a.pr.terms b.pr.terms,eA a.o b.o]
theorem gU:∀args (w:World),(callFunc 55 args).run Tryz.prog w=.ok (.enter 55 args) w:=ent Tryz.func55 (by kernel_rfl) rfl
theorem cI {d e B:Nat} {a b:Fc} {va vb:List Value} {w:World} (ha:(aC d).rd w B a va) (hb:(aC e).rd w B b vb) (hna:a.pr.terms.length*40≤140737488351232) (hnb:b.pr.terms.length*40≤140737488351232) (hB:B≤w.heap.size) :
 Calls Tryz.prog 35 #[.agg va.toArray,.agg vb.toArray] w fun z w'=>z=.returned (.int .i64 (aS a b))∧Below w.heap.size w w':=by
 obtain ⟨A,c,rfl,hs,h1,h2,h3,hl,ho⟩:=bh ha
 obtain ⟨A',c',rfl,hs',h1',h2',h3',hl',ho'⟩:=bh hb
 have HLA:=ym hl
 have HLB:=ym hl'
 clear ha hb hl hl' ho ho'
 go_enter Tryz.func35,Tryz.ntmps35
 go_upto_region 1 with fail
 generalize hW:World.alloc _ _=w1
 obtain ⟨hb,hz⟩:=al2 hW
 have HA1:=ym (n21 hW)
 have HB1:=ym (n22 hW)
 have HU1:=ym hb
 clear hW hb
 have hsz:=HU1.out.size
 have hB1:B≤w1.heap.size:=yn hB hsz
 have HSL:Hid (∀{w':World},Below w1.heap.size w1 w'→(w'.cell? ⟨w.heap.size,0,none⟩=some (.string a.pr.name)∧w'.cell? ⟨w.heap.size,1,none⟩=some (.slice A a.pr.terms.length c)∧w'.cell? ⟨w.heap.size,2,none⟩=some (.int .u32 a.o)∧w'.cell? ⟨w.heap.size+1,0,none⟩=some (.string b.pr.name)∧w'.cell? ⟨w.heap.size+1,1,none⟩=some (.slice A' b.pr.terms.length c')∧w'.cell? ⟨w.heap.size+1,2,none⟩=some (.int .u32 b.o))):=ym (fun hb=>⟨(HA1.out.later hb).cell 0,(HA1.out.later hb).cell 1,(HA1.out.later hb).cell 2,(HB1.out.later hb).cell 0,(HB1.out.later hb).cell 1,(HB1.out.later hb).cell 2⟩)
 refine aN (fun w'=>w'.cell? ⟨w.heap.size,0,none⟩=some (.string a.pr.name)∧w'.cell? ⟨w.heap.size,1,none⟩=some (.slice A a.pr.terms.length c)∧w'.cell? ⟨w.heap.size,2,none⟩=some (.int .u32 a.o)∧w'.cell? ⟨w.heap.size+1,0,none⟩=some (.string b.pr.name)∧w'.cell? ⟨w.heap.size+1,1,none⟩=some (.slice A' b.pr.terms.length c')∧w'.cell? ⟨w.heap.size+1,2,none⟩=some (.int .u32 b.o)) (by kernel_rfl) (HSL.out (yq _ _).drew) ?_
 refine ab 0 ?_
 refine ab 1 ?_
 refine ab 2 ?_
 refine ab 3 ?_
 refine ab 4 ?_
 refine ab 5 ?_
 refine ab 7 ?_
 refine ab 8 ?_
 refine ab 9 ?_
 refine ab 10 ?_
 refine ab 11 ?_
 refine ab 12 ?_
 refine ab 13 ?_
 refine ab 14 ?_
 refine ab 16 ?_
 refine ab 17 ?_
 refine ab 18 ?_
 refine ab 19 ?_
 refine ab 20 ?_
 refine ab 21 ?_
 refine ab 23 ?_
 refine ab 24 ?_
 refine ab 25 ?_
 refine ab 26 ?_
 generalize hD:World.drew w1=w2
 have HU:Hid (Below w1.heap.size w1 w2):=ym (hD▸(yq w1.heap.size w1).drew)
 clear hD
 refine au (rs:=[6]) (by kernel_rfl) rfl ?_
 refine aj.cons rfl (fun K hK=>?_) aj.nil
 go_simp
 refine (cW _ _ _).mono ?_
 rintro e w' ⟨rfl,rfl⟩
 refine hK.out _ _ (HSL.out HU.out) ?_
 clear hK
 refine au (rs:=[15]) (by kernel_rfl) rfl ?_
 refine aj.cons rfl (fun K hK=>?_) aj.nil
 go_simp
 refine (dF _ _ _).mono ?_
 rintro e w' ⟨rfl,rfl⟩
 refine hK.out _ _ (HSL.out HU.out) ?_
 clear hK
 refine au (rs:=[22]) (by kernel_rfl) rfl ?_
 refine aj.cons rfl (fun K hK=>?_) aj.nil
 go_simp
 refine (dO 55 #[] (cH 3) d e a.pr.terms b.pr.terms A A' c c' B w2 gU (HLA.out.keep (HU1.out.trans (HU.out.mono hsz)) hB) (HLB.out.keep (HU1.out.trans (HU.out.mono hsz)) hB) (yn hB1 HU.out.size) (by omega) (by omega) (fun x y vs ws w9 hb9 hx hy=>cX d e x y vs ws B w9 hx hy (yn (yn hB1 HU.out.size) hb9.size))).mono ?_
 rintro z w3 ⟨rfl,hb3⟩
 have HU3:Hid (Below w1.heap.size w1 w3):=ym (HU.out.trans (hb3.mono HU.out.size))
 clear hb3
 refine hK.out _ _ (HSL.out HU3.out) ?_
 clear hK
 refine au (rs:=[27]) (by kernel_rfl) rfl ?_
 refine aj.cons rfl (fun K hK=>?_) aj.nil
 go_simp
 refine (iT _ _ _).mono ?_
 rintro e w' ⟨rfl,rfl⟩
 refine hK.out _ _ (HSL.out HU3.out) ?_
 clear hK
 refine au (rs:=[28]) (by kernel_rfl) rfl ?_
 refine aj.cons rfl (fun K hK=>?_) aj.nil
 go_simp
 generalize hW:World.alloc _ _=w4
 obtain ⟨hb4,hz4⟩:=al1 hW
 have HL4:=ym (n11 hW)
 have HU4:Hid (Below w1.heap.size w1 w4):=ym (HU3.out.trans (hb4.mono HU3.out.size))
 clear hW hb4
 refine hK.out _ _ (HSL.out HU4.out) ?_
 clear hK
 refine au (rs:=[29]) (by kernel_rfl) rfl ?_
 refine aj.cons rfl (fun K hK=>?_) aj.nil
 go_simp
 refine (iB [dE (bs a.pr.name) (bs b.pr.name),eA a.pr.terms.length b.pr.terms.length,dG (cH 3) a.pr.terms b.pr.terms,eA a.o b.o] w3.heap.size w4 (fun i hi=>by
  rw [HL4.out.cell i]
  match i,hi with
  | 0,_=>rfl
  | 1,_=>rfl
  | 2,_=>rfl
  | 3,_=>rfl) (by simp)).mono ?_
 rintro e w' ⟨rfl,rfl⟩
 refine hK.out _ _ (HSL.out HU4.out) ?_
 clear hK
 refine ab 30 ?_
 refine bY (by kernel_rfl) ?_
 go_wp2_with fail
 go_ret
 exact ⟨az rfl,HU1.out.trans (HU4.out.mono hsz)⟩
theorem gY  (F:FuncId) (cap:Array Value) (p:ByteArray→Bool) (xs:List ByteArray) (A:Option Addr) (c B:Nat) (w:World)
 (hF:∀args (w:World),(callFunc F args).run Tryz.prog w=.ok (.enter F args) w) (hl:RL (cR) w B xs A) (hB:B≤w.heap.size) (hn:xs.length≤140737488351232)
 (ht:bS Tryz.prog (cR) yc B w F cap p) :
 Calls Tryz.prog 147 #[.slice A xs.length c,.func (.func F) #[] cap] w fun e w'=>e=.returned (.int .i64 (tY p xs))∧Below w.heap.size w w':=by
 have HT:=ym ht
 clear ht
 have hRk:(cR).k=1:=rfl
 go_enter Tryz.func147,Tryz.ntmps147
 go_wp2_with fail
 go_loopw [8] (fun i wr=>∃k:Nat,k≤xs.length∧i=.int .i64 k∧Below w.heap.size w wr∧∀i (hi:i<xs.length),i<k→p xs[i]=false) (fun i _=>xs.length-(intOf i).toNat)
 case atStart=>exact ⟨0,yp _,rfl,yq _ _,fun i hi h=>absurd h (by omega)⟩
 case round=>
  obtain ⟨k,hk,rfl,hbw,hall⟩:=hrel
  have HA:=ym hall
  clear hall
  by_cases hlt:k<xs.length
  ·obtain ⟨b,off,rfl,hb⟩:=hl.base hbw hB (by omega)
   obtain ⟨x,vs,hx,hlen,hcell,hr⟩:=hl.at_ hbw hB hlt
   rw [hRk] at hlen hcell
   obtain ⟨v0,rfl⟩:∃v0,vs=[v0]:=by
    match vs,hlen with
    | [v0],_=>exact ⟨_,rfl⟩
   have c0:wr.cell? ⟨b,off+k,none⟩=some v0:=by simpa using hcell 0 _ rfl
   have hsz:=hbw.size
   have HX:=ym hx
   clear hcell hlen hx
   go_wp2_with fail
   refine (HT.out x [v0] _ hbw hr).mono ?_
   rintro e w1 ⟨rfl,hb1⟩
   have hbw1:=ym (hbw.trans (hb1.mono hsz))
   clear hb1
   have hxe:xs[k]=x:=(List.getElem?_eq_some_iff.1 HX.out).2
   have HXE:=ym hxe
   clear hxe
   by_cases hp:p x=true
   ·go_wp2_with fail
    go_ret
    exact ⟨az (fF hlt (by rw [HXE.out];exact hp) (fun i hi=>HA.out i (by omega) hi)).symm,hbw1.out⟩
   ·have hp:p x=false:=by simpa using hp
    go_wp2_with fail
    go_roundw
    case rel=>exact ⟨k+1,by omega,by go_num,hbw1.out,fun i hi h=>by
     rcases Nat.lt_or_ge i k with h1 | h1
     ·exact HA.out i hi h1
     ·obtain rfl:i=k:=by omega
      rw [HXE.out];exact hp⟩
    case measure=>simp [intOf];omega
  ·go_wp2_with fail
   go_ret
   exact ⟨az (fE (fun i hi=>HA.out i hi (by omega))).symm,hbw⟩
theorem fm  (F:FuncId) (cap:Array Value) (p:ByteArray→Bool) (xs:List ByteArray) (A:Option Addr) (c B:Nat) (w:World)
 (hF:∀args (w:World),(callFunc F args).run Tryz.prog w=.ok (.enter F args) w) (hl:RL (cR) w B xs A) (hB:B≤w.heap.size) (hn:xs.length≤140737488351232)
 (ht:bS Tryz.prog (cR) yc B w F cap p) :
 Calls Tryz.prog 115 #[.slice A xs.length c,.func (.func F) #[] cap] w fun e w'=>e=.returned (.bool (xs.any p))∧Below w.heap.size w w':=by
 have HT:=ym ht
 clear ht
 go_enter Tryz.func115,Tryz.ntmps115
 go_wp2_with (go_at_call 147;refine (gY  F cap p xs A c B w hF hl hB hn HT.out).mono ?_;rintro e w1 ⟨rfl,hb1⟩)
 go_ret
 exact ⟨ae (ir p xs),hb1⟩
theorem ja (d:Nat) (F:FuncId) (cap:Array Value) (p:Pr→Bool) (xs:List Pr) (A:Option Addr) (c B:Nat) (w:World)
 (hF:∀args (w:World),(callFunc F args).run Tryz.prog w=.ok (.enter F args) w) (hl:RL (PrR d) w B xs A) (hB:B≤w.heap.size) (hn:xs.length≤140737488351232)
 (ht:bS Tryz.prog (PrR d) cS B w F cap p) :
 Calls Tryz.prog 162 #[.slice A xs.length c,.func (.func F) #[] cap] w fun e w'=>e=.returned (.int .i64 (tY p xs))∧Below w.heap.size w w':=by
 have HT:=ym ht
 clear ht
 have hRk:(PrR d).k=2:=rfl
 go_enter Tryz.func162,Tryz.ntmps162
 go_wp2_with fail
 go_loopw [8] (fun i wr=>∃k:Nat,k≤xs.length∧i=.int .i64 k∧Below w.heap.size w wr∧∀i (hi:i<xs.length),i<k→p xs[i]=false) (fun i _=>xs.length-(intOf i).toNat)
 case atStart=>exact ⟨0,yp _,rfl,yq _ _,fun i hi h=>absurd h (by omega)⟩
 case round=>
  obtain ⟨k,hk,rfl,hbw,hall⟩:=hrel
  have HA:=ym hall
  clear hall
  by_cases hlt:k<xs.length
  ·obtain ⟨b,off,rfl,hb⟩:=hl.base hbw hB (by omega)
   obtain ⟨x,vs,hx,hlen,hcell,hr⟩:=hl.at_ hbw hB hlt
   rw [hRk] at hlen hcell
   obtain ⟨v0,v1,rfl⟩:∃v0 v1,vs=[v0,v1]:=by
    match vs,hlen with
    | [v0,v1],_=>exact ⟨_,_,rfl⟩
   have c0:wr.cell? ⟨b,off+k*2,none⟩=some v0:=hcell 0 _ rfl
   have c1:wr.cell? ⟨b,off+k*2+1,none⟩=some v1:=hcell 1 _ rfl
   have hsz:=hbw.size
   have HX:=ym hx
   clear hcell hlen hx
   go_wp2_with fail
   refine (HT.out x [v0,v1] _ hbw hr).mono ?_
   rintro e w1 ⟨rfl,hb1⟩
   have hbw1:=ym (hbw.trans (hb1.mono hsz))
   clear hb1
   have hxe:xs[k]=x:=(List.getElem?_eq_some_iff.1 HX.out).2
   have HXE:=ym hxe
   clear hxe
   by_cases hp:p x=true
   ·go_wp2_with fail
    go_ret
    exact ⟨az (fF hlt (by rw [HXE.out];exact hp) (fun i hi=>HA.out i (by omega) hi)).symm,hbw1.out⟩
   ·have hp:p x=false:=by simpa using hp
    go_wp2_with fail
    go_roundw
    case rel=>exact ⟨k+1,by omega,by go_num,hbw1.out,fun i hi h=>by
     rcases Nat.lt_or_ge i k with h1 | h1
     ·exact HA.out i hi h1
     ·obtain rfl:i=k:=by omega
      rw [HXE.out];exact hp⟩
    case measure=>simp [intOf];omega
  ·go_wp2_with fail
   go_ret
   exact ⟨az (fE (fun i hi=>HA.out i hi (by omega))).symm,hbw⟩
theorem gB (d:Nat) (F:FuncId) (cap:Array Value) (p:Pr→Bool) (xs:List Pr) (A:Option Addr) (c B:Nat) (w:World)
 (hF:∀args (w:World),(callFunc F args).run Tryz.prog w=.ok (.enter F args) w) (hl:RL (PrR d) w B xs A) (hB:B≤w.heap.size) (hn:xs.length≤140737488351232)
 (ht:bS Tryz.prog (PrR d) cS B w F cap p) :
 Calls Tryz.prog 140 #[.slice A xs.length c,.func (.func F) #[] cap] w fun e w'=>e=.returned (.bool (xs.any p))∧Below w.heap.size w w':=by
 have HT:=ym ht
 clear ht
 go_enter Tryz.func140,Tryz.ntmps140
 go_wp2_with (go_at_call 162;refine (ja d F cap p xs A c B w hF hl hB hn HT.out).mono ?_;rintro e w1 ⟨rfl,hb1⟩)
 go_ret
 exact ⟨ae (ir p xs),hb1⟩
theorem lR (d:Nat) (M:FuncId) (p:Pr→Bool) (B G:Nat) (w:World) (hM:∀args (w:World),(callFunc M args).run Tryz.prog w=.ok (.enter M args) w)
 (hB:B≤w.heap.size) (hG:w.cell? ⟨G,0,none⟩=some (.func (.func M) #[] #[])) (ht:bS Tryz.prog (PrR d) cS B w M #[] p) :
 bS Tryz.prog (PrR d) cS B w 141 #[.pointer (some ⟨G,0,none⟩)] (fun x=>!p x):=by
 intro x vs w1 hb hr
 have hlen:vs.length=2:=(PrR d).len hr
 obtain ⟨v0,v1,rfl⟩:∃v0 v1,vs=[v0,v1]:=by
  match vs,hlen with
  | [v0,v1],_=>exact ⟨_,_,rfl⟩
 have hGl:G<w.heap.size:=block_lt_of_cell hG
 have hG1:w1.cell? ⟨G,0,none⟩=some (.func (.func M) #[] #[]):=(hb.cell (p:=⟨G,0,none⟩) hGl).trans hG
 have hGl1:G<w1.heap.size:=by have:=hb.size;omega
 have HB:=ym (fun o:Obj=>(yq w1.heap.size w1).alloc (yo _) o)
 have HT:=ym ht
 have HR:=ym hr
 have hBw:B≤w1.heap.size:=by have:=hb.size;omega
 clear ht hr
 show Calls Tryz.prog 141 #[.agg #[v0,v1],.pointer (some ⟨G,0,none⟩)] w1 _
 go_enter Tryz.func141,Tryz.ntmps141
 go_wp2_with fail
 refine (HT.out x [v0,v1] _ (hb.trans ((HB.out _).mono hb.size)) ((PrR d).keep (HB.out _) hBw HR.out)).mono ?_
 rintro e w2 ⟨rfl,hb2⟩
 have hfin:=ym ((HB.out _).trans (hb2.mono (HB.out _).size))
 clear hb2
 go_wp2_with fail
 go_ret
 exact ⟨rfl,hfin.out⟩
theorem kI (d:Nat) (M:FuncId) (p:Pr→Bool) (most:Int) (xs:List Pr) (A:Option Addr) (c B:Nat) (w:World) (hM:∀args (w:World),(callFunc M args).run Tryz.prog w=.ok (.enter M args) w)
 (hl:RL (PrR d) w B xs A) (hB:B≤w.heap.size) (hn:xs.length≤140737488351232) (ht:bS Tryz.prog (PrR d) cS B w M #[] p) :
 Calls Tryz.prog 107 #[.slice A xs.length c,.int .i64 most,.func (.func M) #[] #[]] w fun e w'=>e=.returned (.bool (decide ((xs.length:Int)≤most)&&xs.all p))∧Below w.heap.size w w':=by
 have HB:=ym (fun o:Obj=>(yq w.heap.size w).alloc (yo _) o)
 have HT:=ym ht
 have HL:=ym hl
 clear ht hl
 by_cases hm:(xs.length:Int)≤most
 ·go_enter Tryz.func107,Tryz.ntmps107
  go_wp2_with fail
  refine (gB d 141 _ _ xs A c B _ (ent Tryz.func141 (by kernel_rfl) rfl) (HL.out.keep (HB.out _) hB) (yn hB (HB.out _).size) hn
   (lR d M p B w.heap.size _ hM (yn hB (HB.out _).size) (by go_simp) (HT.out.later (HB.out _)))).mono ?_
  rintro e w1 ⟨rfl,hb1⟩
  have hfin:=ym ((HB.out _).trans (hb1.mono (HB.out _).size))
  clear hb1
  go_wp2_with fail
  go_ret
  exact ⟨ae (by simp [hm,List.all_eq_not_any_not]),hfin.out⟩
 ·have hm':decide ((xs.length:Int)≤most)=false:=by simpa using hm
  go_enter Tryz.func107,Tryz.ntmps107
  go_wp2_with fail
  go_ret
  exact ⟨ae (by simp [hm]),HB.out _⟩
theorem iZ (d:Nat) (F:FuncId) (cap:Array Value) (p:(List OpD)→Bool) (xs:List (List OpD)) (A:Option Addr) (c B:Nat) (w:World)
 (hF:∀args (w:World),(callFunc F args).run Tryz.prog w=.ok (.enter F args) w) (hl:RL (ExR d) w B xs A) (hB:B≤w.heap.size) (hn:xs.length≤140737488351232)
 (ht:bS Tryz.prog (ExR d) cS B w F cap p) :
 Calls Tryz.prog 146 #[.slice A xs.length c,.func (.func F) #[] cap] w fun e w'=>e=.returned (.int .i64 (tY p xs))∧Below w.heap.size w w':=by
 have HT:=ym ht
 clear ht
 have hRk:(ExR d).k=1:=rfl
 go_enter Tryz.func146,Tryz.ntmps146
 go_wp2_with fail
 go_loopw [8] (fun i wr=>∃k:Nat,k≤xs.length∧i=.int .i64 k∧Below w.heap.size w wr∧∀i (hi:i<xs.length),i<k→p xs[i]=false) (fun i _=>xs.length-(intOf i).toNat)
 case atStart=>exact ⟨0,yp _,rfl,yq _ _,fun i hi h=>absurd h (by omega)⟩
 case round=>
  obtain ⟨k,hk,rfl,hbw,hall⟩:=hrel
  have HA:=ym hall
  clear hall
  by_cases hlt:k<xs.length
  ·obtain ⟨b,off,rfl,hb⟩:=hl.base hbw hB (by omega)
   obtain ⟨x,vs,hx,hlen,hcell,hr⟩:=hl.at_ hbw hB hlt
   rw [hRk] at hlen hcell
   obtain ⟨v0,rfl⟩:∃v0,vs=[v0]:=by
    match vs,hlen with
    | [v0],_=>exact ⟨_,rfl⟩
   have c0:wr.cell? ⟨b,off+k,none⟩=some v0:=by simpa using hcell 0 _ rfl
   have hsz:=hbw.size
   have HX:=ym hx
   clear hcell hlen hx
   go_wp2_with fail
   refine (HT.out x [v0] _ hbw hr).mono ?_
   rintro e w1 ⟨rfl,hb1⟩
   have hbw1:=ym (hbw.trans (hb1.mono hsz))
   clear hb1
   have hxe:xs[k]=x:=(List.getElem?_eq_some_iff.1 HX.out).2
   have HXE:=ym hxe
   clear hxe
   by_cases hp:p x=true
   ·go_wp2_with fail
    go_ret
    exact ⟨az (fF hlt (by rw [HXE.out];exact hp) (fun i hi=>HA.out i (by omega) hi)).symm,hbw1.out⟩
   ·have hp:p x=false:=by simpa using hp
    go_wp2_with fail
    go_roundw
    case rel=>exact ⟨k+1,by omega,by go_num,hbw1.out,fun i hi h=>by
     rcases Nat.lt_or_ge i k with h1 | h1
     ·exact HA.out i hi h1
     ·obtain rfl:i=k:=by omega
      rw [HXE.out];exact hp⟩
    case measure=>simp [intOf];omega
  ·go_wp2_with fail
   go_ret
   exact ⟨az (fE (fun i hi=>HA.out i hi (by omega))).symm,hbw⟩
theorem dB (d:Nat) (F:FuncId) (cap:Array Value) (p:(List OpD)→Bool) (xs:List (List OpD)) (A:Option Addr) (c B:Nat) (w:World)
 (hF:∀args (w:World),(callFunc F args).run Tryz.prog w=.ok (.enter F args) w) (hl:RL (ExR d) w B xs A) (hB:B≤w.heap.size) (hn:xs.length≤140737488351232)
 (ht:bS Tryz.prog (ExR d) cS B w F cap p) :
 Calls Tryz.prog 112 #[.slice A xs.length c,.func (.func F) #[] cap] w fun e w'=>e=.returned (.bool (xs.any p))∧Below w.heap.size w w':=by
 have HT:=ym ht
 clear ht
 go_enter Tryz.func112,Tryz.ntmps112
 go_wp2_with (go_at_call 146;refine (iZ d F cap p xs A c B w hF hl hB hn HT.out).mono ?_;rintro e w1 ⟨rfl,hb1⟩)
 go_ret
 exact ⟨ae (ir p xs),hb1⟩
theorem lQ (d:Nat) (M:FuncId) (p:(List OpD)→Bool) (B G:Nat) (w:World) (hM:∀args (w:World),(callFunc M args).run Tryz.prog w=.ok (.enter M args) w)
 (hB:B≤w.heap.size) (hG:w.cell? ⟨G,0,none⟩=some (.func (.func M) #[] #[])) (ht:bS Tryz.prog (ExR d) cS B w M #[] p) :
 bS Tryz.prog (ExR d) cS B w 142 #[.pointer (some ⟨G,0,none⟩)] (fun x=>!p x):=by
 intro x vs w1 hb hr
 have hlen:vs.length=1:=(ExR d).len hr
 obtain ⟨v0,rfl⟩:∃v0,vs=[v0]:=by
  match vs,hlen with
  | [v0],_=>exact ⟨_,rfl⟩
 have hGl:G<w.heap.size:=block_lt_of_cell hG
 have hG1:w1.cell? ⟨G,0,none⟩=some (.func (.func M) #[] #[]):=(hb.cell (p:=⟨G,0,none⟩) hGl).trans hG
 have hGl1:G<w1.heap.size:=by have:=hb.size;omega
 have HB:=ym (fun o:Obj=>(yq w1.heap.size w1).alloc (yo _) o)
 have HT:=ym ht
 have HR:=ym hr
 have hBw:B≤w1.heap.size:=by have:=hb.size;omega
 clear ht hr
 show Calls Tryz.prog 142 #[.agg #[v0],.pointer (some ⟨G,0,none⟩)] w1 _
 go_enter Tryz.func142,Tryz.ntmps142
 go_wp2_with fail
 refine (HT.out x [v0] _ (hb.trans ((HB.out _).mono hb.size)) ((ExR d).keep (HB.out _) hBw HR.out)).mono ?_
 rintro e w2 ⟨rfl,hb2⟩
 have hfin:=ym ((HB.out _).trans (hb2.mono (HB.out _).size))
 clear hb2
 go_wp2_with fail
 go_ret
 exact ⟨rfl,hfin.out⟩
theorem kF (d:Nat) (M:FuncId) (p:(List OpD)→Bool) (most:Int) (xs:List (List OpD)) (A:Option Addr) (c B:Nat) (w:World) (hM:∀args (w:World),(callFunc M args).run Tryz.prog w=.ok (.enter M args) w)
 (hl:RL (ExR d) w B xs A) (hB:B≤w.heap.size) (hn:xs.length≤140737488351232) (ht:bS Tryz.prog (ExR d) cS B w M #[] p) :
 Calls Tryz.prog 108 #[.slice A xs.length c,.int .i64 most,.func (.func M) #[] #[]] w fun e w'=>e=.returned (.bool (decide ((xs.length:Int)≤most)&&xs.all p))∧Below w.heap.size w w':=by
 have HB:=ym (fun o:Obj=>(yq w.heap.size w).alloc (yo _) o)
 have HT:=ym ht
 have HL:=ym hl
 clear ht hl
 by_cases hm:(xs.length:Int)≤most
 ·go_enter Tryz.func108,Tryz.ntmps108
  go_wp2_with fail
  refine (dB d 142 _ _ xs A c B _ (ent Tryz.func142 (by kernel_rfl) rfl) (HL.out.keep (HB.out _) hB) (yn hB (HB.out _).size) hn
   (lQ d M p B w.heap.size _ hM (yn hB (HB.out _).size) (by go_simp) (HT.out.later (HB.out _)))).mono ?_
  rintro e w1 ⟨rfl,hb1⟩
  have hfin:=ym ((HB.out _).trans (hb1.mono (HB.out _).size))
  clear hb1
  go_wp2_with fail
  go_ret
  exact ⟨ae (by simp [hm,List.all_eq_not_any_not]),hfin.out⟩
 ·have hm':decide ((xs.length:Int)≤most)=false:=by simpa using hm
  go_enter Tryz.func108,Tryz.ntmps108
  go_wp2_with fail
  go_ret
  exact ⟨ae (by simp [hm]),HB.out _⟩
theorem iu  (F:FuncId) (cap:Array Value) (p:Sc→Bool) (xs:List Sc) (A:Option Addr) (c B:Nat) (w:World)
 (hF:∀args (w:World),(callFunc F args).run Tryz.prog w=.ok (.enter F args) w) (hl:RL (ScR) w B xs A) (hB:B≤w.heap.size) (hn:xs.length≤140737488351232)
 (ht:bS Tryz.prog (ScR) cS B w F cap p) :
 Calls Tryz.prog 166 #[.slice A xs.length c,.func (.func F) #[] cap] w fun e w'=>e=.returned (.int .i64 (tY p xs))∧Below w.heap.size w w':=by
 have HT:=ym ht
 clear ht
 have hRk:(ScR).k=2:=rfl
 go_enter Tryz.func166,Tryz.ntmps166
 go_wp2_with fail
 go_loopw [8] (fun i wr=>∃k:Nat,k≤xs.length∧i=.int .i64 k∧Below w.heap.size w wr∧∀i (hi:i<xs.length),i<k→p xs[i]=false) (fun i _=>xs.length-(intOf i).toNat)
 case atStart=>exact ⟨0,yp _,rfl,yq _ _,fun i hi h=>absurd h (by omega)⟩
 case round=>
  obtain ⟨k,hk,rfl,hbw,hall⟩:=hrel
  have HA:=ym hall
  clear hall
  by_cases hlt:k<xs.length
  ·obtain ⟨b,off,rfl,hb⟩:=hl.base hbw hB (by omega)
   obtain ⟨x,vs,hx,hlen,hcell,hr⟩:=hl.at_ hbw hB hlt
   rw [hRk] at hlen hcell
   obtain ⟨v0,v1,rfl⟩:∃v0 v1,vs=[v0,v1]:=by
    match vs,hlen with
    | [v0,v1],_=>exact ⟨_,_,rfl⟩
   have c0:wr.cell? ⟨b,off+k*2,none⟩=some v0:=hcell 0 _ rfl
   have c1:wr.cell? ⟨b,off+k*2+1,none⟩=some v1:=hcell 1 _ rfl
   have hsz:=hbw.size
   have HX:=ym hx
   clear hcell hlen hx
   go_wp2_with fail
   refine (HT.out x [v0,v1] _ hbw hr).mono ?_
   rintro e w1 ⟨rfl,hb1⟩
   have hbw1:=ym (hbw.trans (hb1.mono hsz))
   clear hb1
   have hxe:xs[k]=x:=(List.getElem?_eq_some_iff.1 HX.out).2
   have HXE:=ym hxe
   clear hxe
   by_cases hp:p x=true
   ·go_wp2_with fail
    go_ret
    exact ⟨az (fF hlt (by rw [HXE.out];exact hp) (fun i hi=>HA.out i (by omega) hi)).symm,hbw1.out⟩
   ·have hp:p x=false:=by simpa using hp
    go_wp2_with fail
    go_roundw
    case rel=>exact ⟨k+1,by omega,by go_num,hbw1.out,fun i hi h=>by
     rcases Nat.lt_or_ge i k with h1 | h1
     ·exact HA.out i hi h1
     ·obtain rfl:i=k:=by omega
      rw [HXE.out];exact hp⟩
    case measure=>simp [intOf];omega
  ·go_wp2_with fail
   go_ret
   exact ⟨az (fE (fun i hi=>HA.out i hi (by omega))).symm,hbw⟩
theorem fy  (F:FuncId) (cap:Array Value) (p:Sc→Bool) (xs:List Sc) (A:Option Addr) (c B:Nat) (w:World)
 (hF:∀args (w:World),(callFunc F args).run Tryz.prog w=.ok (.enter F args) w) (hl:RL (ScR) w B xs A) (hB:B≤w.heap.size) (hn:xs.length≤140737488351232)
 (ht:bS Tryz.prog (ScR) cS B w F cap p) :
 Calls Tryz.prog 144 #[.slice A xs.length c,.func (.func F) #[] cap] w fun e w'=>e=.returned (.bool (xs.any p))∧Below w.heap.size w w':=by
 have HT:=ym ht
 clear ht
 go_enter Tryz.func144,Tryz.ntmps144
 go_wp2_with (go_at_call 166;refine (iu  F cap p xs A c B w hF hl hB hn HT.out).mono ?_;rintro e w1 ⟨rfl,hb1⟩)
 go_ret
 exact ⟨ae (ir p xs),hb1⟩
theorem kH  (M:FuncId) (p:Sc→Bool) (B G:Nat) (w:World) (hM:∀args (w:World),(callFunc M args).run Tryz.prog w=.ok (.enter M args) w)
 (hB:B≤w.heap.size) (hG:w.cell? ⟨G,0,none⟩=some (.func (.func M) #[] #[])) (ht:bS Tryz.prog (ScR) cS B w M #[] p) :
 bS Tryz.prog (ScR) cS B w 145 #[.pointer (some ⟨G,0,none⟩)] (fun x=>!p x):=by
 intro x vs w1 hb hr
 have hlen:vs.length=2:=(ScR).len hr
 obtain ⟨v0,v1,rfl⟩:∃v0 v1,vs=[v0,v1]:=by
  match vs,hlen with
  | [v0,v1],_=>exact ⟨_,_,rfl⟩
 have hGl:G<w.heap.size:=block_lt_of_cell hG
 have hG1:w1.cell? ⟨G,0,none⟩=some (.func (.func M) #[] #[]):=(hb.cell (p:=⟨G,0,none⟩) hGl).trans hG
 have hGl1:G<w1.heap.size:=by have:=hb.size;omega
 have HB:=ym (fun o:Obj=>(yq w1.heap.size w1).alloc (yo _) o)
 have HT:=ym ht
 have HR:=ym hr
 have hBw:B≤w1.heap.size:=by have:=hb.size;omega
 clear ht hr
 show Calls Tryz.prog 145 #[.agg #[v0,v1],.pointer (some ⟨G,0,none⟩)] w1 _
 go_enter Tryz.func145,Tryz.ntmps145
 go_wp2_with fail
 refine (HT.out x [v0,v1] _ (hb.trans ((HB.out _).mono hb.size)) ((ScR).keep (HB.out _) hBw HR.out)).mono ?_
 rintro e w2 ⟨rfl,hb2⟩
 have hfin:=ym ((HB.out _).trans (hb2.mono (HB.out _).size))
 clear hb2
 go_wp2_with fail
 go_ret
 exact ⟨rfl,hfin.out⟩
theorem jx  (M:FuncId) (p:Sc→Bool) (most:Int) (xs:List Sc) (A:Option Addr) (c B:Nat) (w:World) (hM:∀args (w:World),(callFunc M args).run Tryz.prog w=.ok (.enter M args) w)
 (hl:RL (ScR) w B xs A) (hB:B≤w.heap.size) (hn:xs.length≤140737488351232) (ht:bS Tryz.prog (ScR) cS B w M #[] p) :
 Calls Tryz.prog 110 #[.slice A xs.length c,.int .i64 most,.func (.func M) #[] #[]] w fun e w'=>e=.returned (.bool (decide ((xs.length:Int)≤most)&&xs.all p))∧Below w.heap.size w w':=by
 have HB:=ym (fun o:Obj=>(yq w.heap.size w).alloc (yo _) o)
 have HT:=ym ht
 have HL:=ym hl
 clear ht hl
 by_cases hm:(xs.length:Int)≤most
 ·go_enter Tryz.func110,Tryz.ntmps110
  go_wp2_with fail
  refine (fy  145 _ _ xs A c B _ (ent Tryz.func145 (by kernel_rfl) rfl) (HL.out.keep (HB.out _) hB) (yn hB (HB.out _).size) hn
   (kH  M p B w.heap.size _ hM (yn hB (HB.out _).size) (by go_simp) (HT.out.later (HB.out _)))).mono ?_
  rintro e w1 ⟨rfl,hb1⟩
  have hfin:=ym ((HB.out _).trans (hb1.mono (HB.out _).size))
  clear hb1
  go_wp2_with fail
  go_ret
  exact ⟨ae (by simp [hm,List.all_eq_not_any_not]),hfin.out⟩
 ·have hm':decide ((xs.length:Int)≤most)=false:=by simpa using hm
  go_enter Tryz.func110,Tryz.ntmps110
  go_wp2_with fail
  go_ret
  exact ⟨ae (by simp [hm]),HB.out _⟩
def aB (p:Pr):Bool:=fp (bs p.name)&&decide (bs p.name≠[116,114,117,101])&&decide (bs p.name≠[102,97,108,115,101])&&(decide (p.terms.length≤8)&&p.terms.all kc)
theorem wE (k:Nat):((k:Int)≤8)=(k≤8):=by rw [eq_iff_iff];omega
theorem jY (k:Nat):((k:Int)≤4)=(k≤4):=by rw [eq_iff_iff];omega
theorem vj {d B:Nat} {w:World} (hB:B≤w.heap.size):bS Tryz.prog (TmR d) cS B w 68 #[] kc:=fun x vs w1 hb hr=>by
 obtain ⟨A,c,rfl,_⟩:=RTm.cells hr
 exact uw (d:=d) (B:=B) hr (by have:=hb.size;omega)
theorem cZ {d:Nat} {p:Pr} {vs:List Value} {B:Nat} {w:World} (hp:(PrR d).rd w B p vs) (hB:B≤w.heap.size) :
 Calls Tryz.prog 81 #[.agg vs.toArray] w fun e w'=>e=.returned (.bool (aB p))∧Below w.heap.size w w':=by
 obtain ⟨_,rfl,hs,A,c,rfl,hc1,hc2,hl⟩:=hp
 have HB:=ym (fun o:Obj=>(yq w.heap.size w).alloc (yo _) o)
 have HL:=ym hl
 clear hl
 obtain ⟨name,terms⟩:=p
 dsimp only at *
 simp only [TmR] at hc2
 go_enter Tryz.func81,Tryz.ntmps81
 go_wp2_with (first
  | (go_at_call 44;refine (eU _ _ (by unfold maxLen;omega)).mono ?_;rintro e w' ⟨rfl,rfl⟩)
  | (go_at_call 101;refine (pP d 68 kc 8 terms A c B _ (ent Tryz.func68 (by kernel_rfl) rfl) (HL.out.keep (HB.out _) hB) (yn hB (HB.out _).size) (by omega) (vj (yn hB (HB.out _).size))).mono ?_;rintro e w1 ⟨rfl,hb1⟩))
 all_goals go_ret
 all_goals first
  | refine ⟨ae ?_,HB.out _⟩
  | refine ⟨ae ?_,(HB.out _).trans (hb1.mono (HB.out _).size)⟩
 all_goals
  try simp only [ByteArray.toList_eq] at *
  rw [Bool.eq_iff_iff]
  simp [aB,wE, *]
def gr (p:Pr):Bool:=aB p&&(decide (p.terms.length≤8)&&p.terms.all af)
def cJ (s:Sc):Bool:=((decide (s.kind=1)||decide (s.kind=2))&&decide (s.key=ByteArray.empty))||(decide (s.kind=3)&&decide (s.key.size=32))
theorem oG {s:Sc} {vs:List Value} {B:Nat} {w:World} (hp:ScR.rd w B s vs) :
 Calls Tryz.prog 111 #[.agg vs.toArray] w fun e w'=>e=.returned (.bool (cJ s))∧Below w.heap.size w w':=by
 obtain ⟨rfl,hk,hs⟩:=hp
 have HB:=ym (fun o:Obj=>(yq w.heap.size w).alloc (yo _) o)
 obtain ⟨kind,key⟩:=s
 dsimp only at *
 have hcases:kind=1∨kind=2∨kind=3∨((kind==1)=false∧(kind==2)=false∧(kind==3)=false):=by simp only [beq_eq_false_iff_ne];omega
 rcases hcases with rfl | rfl | rfl | ⟨k1,k2,k3⟩
 all_goals
  go_enter Tryz.func111,Tryz.ntmps111
  go_wp2_with fail
  all_goals go_ret
  all_goals refine ⟨ae ?_,HB.out _⟩
  all_goals
   try simp only [er,bV,beq_eq_false_iff_ne] at *
   rw [Bool.eq_iff_iff]
   simp [cJ,bV, *]
   try omega
end Go.Proofs.YtjpndglegpcdnaaGreat
