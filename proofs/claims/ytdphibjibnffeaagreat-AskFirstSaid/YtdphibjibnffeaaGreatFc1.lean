/- A fact as data; store.Compare. -/
import Derived.Test.YtdphibjibnffeaaGreatHeldA
import Derived.Test.YtdphibjibnffeaaGreatTerm5
import Derived.Test.YtdphibjibnffeaaGreatOwn
import Derived.Deep.CutRange
set_option linter.unusedVariables false
set_option linter.unusedSimpArgs false
set_option maxRecDepth 100000
set_option maxHeartbeats 8000000
namespace Go.Proofs.YtdphibjibnffeaaGreat
open Go.ChangeShapes Go.WideShapes Go.ChangeAt Go.RowKit
structure Fc where
 pr:Pr
 o:Int
def U32 (n:Int):Prop:=0≤n∧n<4294967296
def az (d:Nat):Reader Fc where
 k:=3
 rd:=fun w B f vs=>∃v,vs=[.string f.pr.name,v,.int .u32 f.o]∧(PrR d).rd w B f.pr [.string f.pr.name,v]∧U32 f.o
 keep:=fun hw hB ⟨v,e,h,ho⟩=>⟨v,e,(PrR _).keep hw hB h,ho⟩
 wide:=fun hB ⟨v,e,h,ho⟩=>⟨v,e,(PrR _).wide hB h,ho⟩
 len:=fun ⟨_,e,_⟩=>by rw [e];rfl
theorem aL {d B:Nat} {w:World} {f:Fc} {vs:List Value} (h:(az d).rd w B f vs):∃A c,vs=[.string f.pr.name,.slice A f.pr.terms.length c,.int .u32 f.o]∧f.pr.name.size≤140737488351232∧f.pr.terms.length≤c∧f.pr.terms.length*32≤140737488351232∧c≤9223372036854775807∧RL (TmR d) w B f.pr.terms A∧U32 f.o:=by
 obtain ⟨v,rfl,⟨v',e,hs,A,c,rfl,h1,h2,hl⟩,ho⟩:=h
 simp only [List.cons.injEq,and_true,true_and] at e
 subst e
 exact ⟨A,c,rfl,hs,h1,by have:=h2.1;simpa [TmR] using this,h2.2,hl,ho⟩
def orL:List Int→Int
 | []=>0
 | x::xs=>if x=0 then orL xs else x
theorem rr {xs:List Int}:∀{k:Nat},(∀i (hi:i<xs.length),i<k→xs[i]=0)→k≤xs.length→orL xs=orL (xs.drop k):=by
 intro k
 induction xs generalizing k with
 | nil=>intro _ _;simp
 | cons x xs ih=>
   intro h hk
   cases k with
   | zero=>rfl
   | succ k=>
     have h0:x=0:=h 0 (by simp) (by omega)
     rw [orL,if_pos h0,List.drop_succ_cons]
     exact ih (fun i hi hik=>by have:=h (i+1) (by simpa using hi) (by omega);simpa using this) (by simpa using hk)
theorem iL (xs:List Int) (b:Nat) (w:World) (h:∀i (hi:i<xs.length),w.cell? ⟨b,i,none⟩=some (.int .i64 xs[i])) (hn:xs.length≤1000) :
 Calls Tryz.prog 59 #[.slice (some ⟨b,0,none⟩) xs.length xs.length] w fun e w'=>e=.returned (.int .i64 (orL xs))∧w=w':=by
 have H:=zl h
 clear h
 go_enter Tryz.func59,Tryz.ntmps59
 go_wp2_with fail
 go_loop [8] (fun i=>∃k:Nat,k≤xs.length∧i=.int .i64 k∧Hid (∀i (hi:i<xs.length),i<k→xs[i]=0)) (fun i=>xs.length-(intOf i).toNat)
 case atStart=>exact ⟨0,zo _,rfl,zl fun i _ h=>absurd h (by omega)⟩
 case round=>
  obtain ⟨k,hk,rfl,HZ⟩:=hrel
  by_cases hlt:k<xs.length
  ·have c0:=H.out k hlt
   have HE:Hid (orL xs=if xs[k]=0 then orL (xs.drop (k+1)) else xs[k]):=zl (by
    rw [rr HZ.out hk,List.drop_eq_getElem_cons hlt,orL])
   have HX:Hid (∃x,x=xs[k]):=zl ⟨_,rfl⟩
   have HZ2:Hid (xs[k]=0→∀i (hi:i<xs.length),i<k+1→xs[i]=0):=zl (fun h0 i hi hik=>by
    rcases Nat.lt_or_ge i k with h1 | h1
    ·exact HZ.out i hi h1
    ·obtain rfl:i=k:=by omega
     exact h0)
   generalize xs[k]=x at *
   by_cases hz:(x !=0)=true
   ·go_wp2_with fail
    go_ret
    exact ⟨ak (by rw [HE.out,if_neg (by simpa using hz)]),rfl⟩
   ·have hz:(x !=0)=false:=by simpa using hz
    go_wp2_with fail
    go_round
    case rel=>exact ⟨k+1,by omega,by go_num,zl (HZ2.out (by simpa using hz))⟩
    case measure=>simp [intOf];omega
  ·have HE:Hid (orL xs=0):=zl (by rw [rr HZ.out hk,List.drop_eq_nil_of_le (by omega)];rfl)
   go_wp2_with fail
   go_ret
   exact ⟨ak HE.out.symm,rfl⟩
theorem jb (x y:Int) (w:World) :
 Calls Tryz.prog 63 #[.int .u32 x,.int .u32 y] w fun e w'=>e=.returned (.int .i64 (cT x y))∧w=w':=by
 go_enter Tryz.func63,Tryz.ntmps63
 go_wp2
 all_goals go_ret
 all_goals refine ⟨ak ?_,rfl⟩
 all_goals (simp [cT];try omega)
def aW (a b:Fc):Int:=orL [cX (bs a.pr.name) (bs b.pr.name),cT a.pr.terms.length b.pr.terms.length,cI (aV 3) a.pr.terms b.pr.terms,cT a.o b.o]
theorem hJ:∀args (w:World),(callFunc 62 args).run Tryz.prog w=.ok (.enter 62 args) w:=ent Tryz.func62 (by kernel_rfl) rfl
theorem fL {d e B:Nat} {a b:Fc} {va vb:List Value} {w:World} (ha:(az d).rd w B a va) (hb:(az e).rd w B b vb) (hna:a.pr.terms.length*40≤140737488351232) (hnb:b.pr.terms.length*40≤140737488351232) (hB:B≤w.heap.size) :
 Calls Tryz.prog 95 #[.agg va.toArray,.agg vb.toArray] w fun z w'=>z=.returned (.int .i64 (aW a b))∧Below w.heap.size w w':=by
 obtain ⟨A,c,rfl,hs,h1,h2,h3,hl,ho⟩:=aL ha
 obtain ⟨A',c',rfl,hs',h1',h2',h3',hl',ho'⟩:=aL hb
 have HLA:=zl hl
 have HLB:=zl hl'
 clear ha hb hl hl' ho ho'
 go_enter Tryz.func95,Tryz.ntmps95
 go_upto_region 1 with fail
 generalize hW:World.alloc _ _=w1
 obtain ⟨hb,hz⟩:=al2 hW
 have HA1:=zl (n21 hW)
 have HB1:=zl (n22 hW)
 have HU1:=zl hb
 clear hW hb
 have hsz:=HU1.out.size
 have hB1:B≤w1.heap.size:=zm hB hsz
 have HSL:Hid (∀{w':World},Below w1.heap.size w1 w'→(w'.cell? ⟨w.heap.size,0,none⟩=some (.string a.pr.name)∧w'.cell? ⟨w.heap.size,1,none⟩=some (.slice A a.pr.terms.length c)∧w'.cell? ⟨w.heap.size,2,none⟩=some (.int .u32 a.o)∧w'.cell? ⟨w.heap.size+1,0,none⟩=some (.string b.pr.name)∧w'.cell? ⟨w.heap.size+1,1,none⟩=some (.slice A' b.pr.terms.length c')∧w'.cell? ⟨w.heap.size+1,2,none⟩=some (.int .u32 b.o))):=zl (fun hb=>⟨(HA1.out.later hb).cell 0,(HA1.out.later hb).cell 1,(HA1.out.later hb).cell 2,(HB1.out.later hb).cell 0,(HB1.out.later hb).cell 1,(HB1.out.later hb).cell 2⟩)
 refine aF (fun w'=>w'.cell? ⟨w.heap.size,0,none⟩=some (.string a.pr.name)∧w'.cell? ⟨w.heap.size,1,none⟩=some (.slice A a.pr.terms.length c)∧w'.cell? ⟨w.heap.size,2,none⟩=some (.int .u32 a.o)∧w'.cell? ⟨w.heap.size+1,0,none⟩=some (.string b.pr.name)∧w'.cell? ⟨w.heap.size+1,1,none⟩=some (.slice A' b.pr.terms.length c')∧w'.cell? ⟨w.heap.size+1,2,none⟩=some (.int .u32 b.o)) (by kernel_rfl) (HSL.out (zp _ _).drew) ?_
 refine aa (i:=0) (v:=?v1_) rfl (by kernel_rfl) (by kernel_rfl) (by kernel_rfl) ?hq1_ ?hw1_ ?hy1_ ?rest1_
 case hq1_=>exact fun _ _ _ h=>h
 case hw1_=>rfl
 case hy1_=>(intro w' hS';(try dsimp only at hS');go_simp;(try with_reducible rfl))
 refine aa (i:=1) (v:=?v2_) rfl (by kernel_rfl) (by kernel_rfl) (by kernel_rfl) ?hq2_ ?hw2_ ?hy2_ ?rest2_
 case hq2_=>exact fun _ _ _ h=>h
 case hw2_=>rfl
 case hy2_=>(intro w' hS';(try dsimp only at hS');go_simp;(try with_reducible rfl))
 refine aa (i:=2) (v:=?v3_) rfl (by kernel_rfl) (by kernel_rfl) (by kernel_rfl) ?hq3_ ?hw3_ ?hy3_ ?rest3_
 case hq3_=>exact fun _ _ _ h=>h
 case hw3_=>rfl
 case hy3_=>(intro w' hS';(try dsimp only at hS');go_simp;(try with_reducible rfl))
 refine aa (i:=3) (v:=?v4_) rfl (by kernel_rfl) (by kernel_rfl) (by kernel_rfl) ?hq4_ ?hw4_ ?hy4_ ?rest4_
 case hq4_=>exact fun _ _ _ h=>h
 case hw4_=>rfl
 case hy4_=>(intro w' hS';(try dsimp only at hS');go_simp;(try with_reducible rfl))
 refine aa (i:=4) (v:=?v5_) rfl (by kernel_rfl) (by kernel_rfl) (by kernel_rfl) ?hq5_ ?hw5_ ?hy5_ ?rest5_
 case hq5_=>exact fun _ _ _ h=>h
 case hw5_=>rfl
 case hy5_=>(intro w' hS';(try dsimp only at hS');go_simp;(try with_reducible rfl))
 refine aa (i:=5) (v:=?v6_) rfl (by kernel_rfl) (by kernel_rfl) (by kernel_rfl) ?hq6_ ?hw6_ ?hy6_ ?rest6_
 case hq6_=>exact fun _ _ _ h=>h
 case hw6_=>rfl
 case hy6_=>(intro w' hS';(try dsimp only at hS');go_simp;(try with_reducible rfl))
 refine aa (i:=7) (v:=?v7_) rfl (by kernel_rfl) (by kernel_rfl) (by kernel_rfl) ?hq7_ ?hw7_ ?hy7_ ?rest7_
 case hq7_=>exact fun _ _ _ h=>h
 case hw7_=>rfl
 case hy7_=>(intro w' hS';(try dsimp only at hS');go_simp;(try with_reducible rfl))
 refine aa (i:=8) (v:=?v8_) rfl (by kernel_rfl) (by kernel_rfl) (by kernel_rfl) ?hq8_ ?hw8_ ?hy8_ ?rest8_
 case hq8_=>exact fun _ _ _ h=>h
 case hw8_=>rfl
 case hy8_=>(intro w' hS';(try dsimp only at hS');go_simp;(try with_reducible rfl))
 refine aa (i:=9) (v:=?v9_) rfl (by kernel_rfl) (by kernel_rfl) (by kernel_rfl) ?hq9_ ?hw9_ ?hy9_ ?rest9_
 case hq9_=>exact fun _ _ _ h=>h
 case hw9_=>rfl
 case hy9_=>(intro w' hS';(try dsimp only at hS');go_simp;(try with_reducible rfl))
 refine aa (i:=10) (v:=?v10_) rfl (by kernel_rfl) (by kernel_rfl) (by kernel_rfl) ?hq10_ ?hw10_ ?hy10_ ?rest10_
 case hq10_=>exact fun _ _ _ h=>h
 case hw10_=>rfl
 case hy10_=>(intro w' hS';(try dsimp only at hS');go_simp;(try with_reducible rfl))
 refine aa (i:=11) (v:=?v11_) rfl (by kernel_rfl) (by kernel_rfl) (by kernel_rfl) ?hq11_ ?hw11_ ?hy11_ ?rest11_
 case hq11_=>exact fun _ _ _ h=>h
 case hw11_=>rfl
 case hy11_=>(intro w' hS';(try dsimp only at hS');go_simp;(try with_reducible rfl))
 refine aa (i:=12) (v:=?v12_) rfl (by kernel_rfl) (by kernel_rfl) (by kernel_rfl) ?hq12_ ?hw12_ ?hy12_ ?rest12_
 case hq12_=>exact fun _ _ _ h=>h
 case hw12_=>rfl
 case hy12_=>(intro w' hS';(try dsimp only at hS');go_simp;(try with_reducible rfl))
 refine aa (i:=13) (v:=?v13_) rfl (by kernel_rfl) (by kernel_rfl) (by kernel_rfl) ?hq13_ ?hw13_ ?hy13_ ?rest13_
 case hq13_=>exact fun _ _ _ h=>h
 case hw13_=>rfl
 case hy13_=>(intro w' hS';(try dsimp only at hS');go_simp;(try with_reducible rfl))
 refine aa (i:=14) (v:=?v14_) rfl (by kernel_rfl) (by kernel_rfl) (by kernel_rfl) ?hq14_ ?hw14_ ?hy14_ ?rest14_
 case hq14_=>exact fun _ _ _ h=>h
 case hw14_=>rfl
 case hy14_=>(intro w' hS';(try dsimp only at hS');go_simp;(try with_reducible rfl))
 refine aa (i:=16) (v:=?v15_) rfl (by kernel_rfl) (by kernel_rfl) (by kernel_rfl) ?hq15_ ?hw15_ ?hy15_ ?rest15_
 case hq15_=>exact fun _ _ _ h=>h
 case hw15_=>rfl
 case hy15_=>(intro w' hS';(try dsimp only at hS');go_simp;(try with_reducible rfl))
 refine aa (i:=17) (v:=?v16_) rfl (by kernel_rfl) (by kernel_rfl) (by kernel_rfl) ?hq16_ ?hw16_ ?hy16_ ?rest16_
 case hq16_=>exact fun _ _ _ h=>h
 case hw16_=>rfl
 case hy16_=>(intro w' hS';(try dsimp only at hS');go_simp;(try with_reducible rfl))
 refine aa (i:=18) (v:=?v17_) rfl (by kernel_rfl) (by kernel_rfl) (by kernel_rfl) ?hq17_ ?hw17_ ?hy17_ ?rest17_
 case hq17_=>exact fun _ _ _ h=>h
 case hw17_=>rfl
 case hy17_=>(intro w' hS';(try dsimp only at hS');go_simp;(try with_reducible rfl))
 refine aa (i:=19) (v:=?v18_) rfl (by kernel_rfl) (by kernel_rfl) (by kernel_rfl) ?hq18_ ?hw18_ ?hy18_ ?rest18_
 case hq18_=>exact fun _ _ _ h=>h
 case hw18_=>rfl
 case hy18_=>(intro w' hS';(try dsimp only at hS');go_simp;(try with_reducible rfl))
 refine aa (i:=20) (v:=?v19_) rfl (by kernel_rfl) (by kernel_rfl) (by kernel_rfl) ?hq19_ ?hw19_ ?hy19_ ?rest19_
 case hq19_=>exact fun _ _ _ h=>h
 case hw19_=>rfl
 case hy19_=>(intro w' hS';(try dsimp only at hS');go_simp;(try with_reducible rfl))
 refine aa (i:=21) (v:=?v20_) rfl (by kernel_rfl) (by kernel_rfl) (by kernel_rfl) ?hq20_ ?hw20_ ?hy20_ ?rest20_
 case hq20_=>exact fun _ _ _ h=>h
 case hw20_=>rfl
 case hy20_=>(intro w' hS';(try dsimp only at hS');go_simp;(try with_reducible rfl))
 refine aa (i:=23) (v:=?v21_) rfl (by kernel_rfl) (by kernel_rfl) (by kernel_rfl) ?hq21_ ?hw21_ ?hy21_ ?rest21_
 case hq21_=>exact fun _ _ _ h=>h
 case hw21_=>rfl
 case hy21_=>(intro w' hS';(try dsimp only at hS');go_simp;(try with_reducible rfl))
 refine aa (i:=24) (v:=?v22_) rfl (by kernel_rfl) (by kernel_rfl) (by kernel_rfl) ?hq22_ ?hw22_ ?hy22_ ?rest22_
 case hq22_=>exact fun _ _ _ h=>h
 case hw22_=>rfl
 case hy22_=>(intro w' hS';(try dsimp only at hS');go_simp;(try with_reducible rfl))
 refine aa (i:=25) (v:=?v23_) rfl (by kernel_rfl) (by kernel_rfl) (by kernel_rfl) ?hq23_ ?hw23_ ?hy23_ ?rest23_
 case hq23_=>exact fun _ _ _ h=>h
 case hw23_=>rfl
 case hy23_=>(intro w' hS';(try dsimp only at hS');go_simp;(try with_reducible rfl))
 refine aa (i:=26) (v:=?v24_) rfl (by kernel_rfl) (by kernel_rfl) (by kernel_rfl) ?hq24_ ?hw24_ ?hy24_ ?rest24_
 case hq24_=>exact fun _ _ _ h=>h
 case hw24_=>rfl
 case hy24_=>(intro w' hS';(try dsimp only at hS');go_simp;(try with_reducible rfl))
 generalize hD:World.drew w1=w2
 have HU:Hid (Below w1.heap.size w1 w2):=zl (hD▸(zp w1.heap.size w1).drew)
 clear hD
 refine au (rs:=[6]) (by kernel_rfl) rfl ?_
 refine aj.cons rfl (fun K hK=>?_) aj.nil
 go_simp
 refine (cY _ _ _).mono ?_
 rintro e w' ⟨rfl,rfl⟩
 refine hK.out _ _ (HSL.out HU.out) ?_
 clear hK
 refine au (rs:=[15]) (by kernel_rfl) rfl ?_
 refine aj.cons rfl (fun K hK=>?_) aj.nil
 go_simp
 refine (dH _ _ _).mono ?_
 rintro e w' ⟨rfl,rfl⟩
 refine hK.out _ _ (HSL.out HU.out) ?_
 clear hK
 refine au (rs:=[22]) (by kernel_rfl) rfl ?_
 refine aj.cons rfl (fun K hK=>?_) aj.nil
 go_simp
 refine (dN 62 #[] (aV 3) d e a.pr.terms b.pr.terms A A' c c' B w2 hJ (HLA.out.keep (HU1.out.trans (HU.out.mono hsz)) hB) (HLB.out.keep (HU1.out.trans (HU.out.mono hsz)) hB) (zm hB1 HU.out.size) (by omega) (by omega) (fun x y vs ws w9 hb9 hx hy=>cZ d e x y vs ws B w9 hx hy (zm (zm hB1 HU.out.size) hb9.size))).mono ?_
 rintro z w3 ⟨rfl,hb3⟩
 have HU3:Hid (Below w1.heap.size w1 w3):=zl (HU.out.trans (hb3.mono HU.out.size))
 clear hb3
 refine hK.out _ _ (HSL.out HU3.out) ?_
 clear hK
 refine au (rs:=[27]) (by kernel_rfl) rfl ?_
 refine aj.cons rfl (fun K hK=>?_) aj.nil
 go_simp
 refine (jb _ _ _).mono ?_
 rintro e w' ⟨rfl,rfl⟩
 refine hK.out _ _ (HSL.out HU3.out) ?_
 clear hK
 refine au (rs:=[28]) (by kernel_rfl) rfl ?_
 refine aj.cons rfl (fun K hK=>?_) aj.nil
 go_simp
 generalize hW:World.alloc _ _=w4
 obtain ⟨hb4,hz4⟩:=al1 hW
 have HL4:=zl (n11 hW)
 have HU4:Hid (Below w1.heap.size w1 w4):=zl (HU3.out.trans (hb4.mono HU3.out.size))
 clear hW hb4
 refine hK.out _ _ (HSL.out HU4.out) ?_
 clear hK
 refine au (rs:=[29]) (by kernel_rfl) rfl ?_
 refine aj.cons rfl (fun K hK=>?_) aj.nil
 go_simp
 refine (iL [cX (bs a.pr.name) (bs b.pr.name),cT a.pr.terms.length b.pr.terms.length,cI (aV 3) a.pr.terms b.pr.terms,cT a.o b.o] w3.heap.size w4 (fun i hi=>by
  rw [HL4.out.cell i]
  match i,hi with
  | 0,_=>rfl
  | 1,_=>rfl
  | 2,_=>rfl
  | 3,_=>rfl) (by simp)).mono ?_
 rintro e w' ⟨rfl,rfl⟩
 refine hK.out _ _ (HSL.out HU4.out) ?_
 clear hK
 refine aa (i:=30) (v:=?v25_) rfl (by kernel_rfl) (by kernel_rfl) (by kernel_rfl) ?hq25_ ?hw25_ ?hy25_ ?rest25_
 case hq25_=>exact fun _ _ _ h=>h
 case hw25_=>rfl
 case hy25_=>(intro w' hS';(try dsimp only at hS');go_simp;(try with_reducible rfl))
 refine bG (by kernel_rfl) ?_
 go_wp2_with fail
 go_ret
 exact ⟨ak rfl,HU1.out.trans (HU4.out.mono hsz)⟩
end Go.Proofs.YtdphibjibnffeaaGreat
