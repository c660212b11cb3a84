/-
  DERIVED: THE SHELF's CONTRACTS AT THIS DUMP, IN PLAIN WORDS (tools/lay-plain.mjs out of 'TryzShelf.lean', which tools/lay-shelf.mjs wrote): THE SAME DECLARATIONS UNDER THE SAME NAMES: 'import', 'namespace', 'open', 'def', 'theorem' AND NOTHING ELSE: no command of the shelf's: FOR A HAND-IN. Each laying: the table of numbers ('.._ren') and one theorem, a field a fact of the dump's own or the kernel's comparison; each contract: ONE APPLICATION.
-/
import Derived.Test.YtdphibjibnffeaaGreatHeldA
import Derived.Test.YtdphibjibnffeaaGreatTerm5
import Derived.Test.YtdphibjibnffeaaGreatOwn
import Derived.Deep.CutRange
import Derived.Shelf.Small.Bits
import Derived.Shelf.Small.Strs
import Derived.Shelf.Small.Wraps
import Derived.Shelf.Strconv.Itoa0
import Derived.Shelf.Strings.Search1
import Derived.Shelf.Strings.Search2
import Derived.Shelf.Strings.Search3
import Derived.Shelf.LaysM
import Derived.Shelf.Strings.Shaped
import Derived.Shelf.Sort.Plain
import Derived.Shelf.Strings.Prefix
import Derived.Shelf.Bits.Mul64
import Derived.Ground.Names2Prog
import Derived.Shelf.Slices.ReverseS
import Derived.Shelf.Slices.CompactS
import Derived.Shelf.Slices.SearchI
import Derived.Shelf.Slices.Cells
import Derived.Shelf.Slices.In.SortNone
import Derived.Test.YtdphibjibnffeaaGreatProg
set_option linter.unusedVariables false
set_option linter.unusedSimpArgs false
set_option maxRecDepth 100000
set_option maxHeartbeats 8000000
namespace Go.Proofs.YtdphibjibnffeaaGreat
open Go.ChangeShapes Go.WideShapes Go.ChangeAt Go.RowKit
theorem zb {a b c:Nat}(h:a<b)(k:b≤c):a<c:=Nat.lt_of_lt_of_le h k
structure Fc where
 pr:Pr
 o:Int
def U32 (n:Int):Prop:=0≤n∧n<4294967296
def ax (d:Nat):Reader Fc where
 k:=3
 rd:=fun w B f vs=>∃v,vs=[.string f.pr.name,v,.int .u32 f.o]∧(PrR d).rd w B f.pr [.string f.pr.name,v]∧U32 f.o
 keep:=fun hw hB ⟨v,e,h,ho⟩=>⟨v,e,(PrR _).keep hw hB h,ho⟩
 wide:=fun hB ⟨v,e,h,ho⟩=>⟨v,e,(PrR _).wide hB h,ho⟩
 len:=fun ⟨_,e,_⟩=>by rw [e];rfl
theorem aI {d B:Nat} {w:World} {f:Fc} {vs:List Value} (h:(ax d).rd w B f vs):∃A c,vs=[.string f.pr.name,.slice A f.pr.terms.length c,.int .u32 f.o]∧f.pr.name.size≤140737488351232∧f.pr.terms.length≤c∧f.pr.terms.length*32≤140737488351232∧c≤9223372036854775807∧RL (TmR d) w B f.pr.terms A∧U32 f.o:=by
 obtain ⟨v,rfl,⟨v',e,hs,A,c,rfl,h1,h2,hl⟩,ho⟩:=h
 simp only [List.cons.injEq,and_true,true_and] at e
 subst e
 exact ⟨A,c,rfl,hs,h1,by have:=h2.1;simpa [TmR] using this,h2.2,hl,ho⟩
def orL:List Int→Int
 | []=>0
 | x::xs=>if x=0 then orL xs else x
theorem rm {xs:List Int}:∀{k:Nat},(∀i (hi:i<xs.length),i<k→xs[i]=0)→k≤xs.length→orL xs=orL (xs.drop k):=by
 intro k
 induction xs generalizing k with
 | nil=>intro _ _;simp
 | cons x xs ih=>
   intro h hk
   cases k with
   | zero=>rfl
   | succ k=>
     have h0:x=0:=h 0 (by simp) (by omega)
     rw [orL,if_pos h0,List.drop_succ_cons]
     exact ih (fun i hi hik=>by have:=h (i+1) (by simpa using hi) (by omega);simpa using this) (by simpa using hk)
theorem iH (xs:List Int) (b:Nat) (w:World) (h:∀i (hi:i<xs.length),w.cell? ⟨b,i,none⟩=some (.int .i64 xs[i])) (hn:xs.length≤1000) :
 Calls Tryz.prog 59 #[.slice (some ⟨b,0,none⟩) xs.length xs.length] w fun e w'=>e=.returned (.int .i64 (orL xs))∧w=w':=by
 have H:=yW h
 clear h
 go_enter Tryz.func59,Tryz.ntmps59
 go_wp2_with fail
 go_loop [8] (fun i=>∃k:Nat,k≤xs.length∧i=.int .i64 k∧Hid (∀i (hi:i<xs.length),i<k→xs[i]=0)) (fun i=>xs.length-(intOf i).toNat)
 case atStart=>exact ⟨0,yZ _,rfl,yW fun i _ h=>absurd h (by omega)⟩
 case round=>
  obtain ⟨k,hk,rfl,HZ⟩:=hrel
  by_cases hlt:k<xs.length
  ·have c0:=H.out k hlt
   have HE:Hid (orL xs=if xs[k]=0 then orL (xs.drop (k+1)) else xs[k]):=yW (by
    rw [rm HZ.out hk,List.drop_eq_getElem_cons hlt,orL])
   have HX:Hid (∃x,x=xs[k]):=yW ⟨_,rfl⟩
   have HZ2:Hid (xs[k]=0→∀i (hi:i<xs.length),i<k+1→xs[i]=0):=yW (fun h0 i hi hik=>by
    rcases Nat.lt_or_ge i k with h1 | h1
    ·exact HZ.out i hi h1
    ·obtain rfl:i=k:=by omega
     exact h0)
   generalize xs[k]=x at *
   by_cases hz:(x !=0)=true
   ·go_wp2_with fail
    go_ret
    exact ⟨ar (by rw [HE.out,if_neg (by simpa using hz)]),rfl⟩
   ·have hz:(x !=0)=false:=by simpa using hz
    go_wp2_with fail
    go_round
    case rel=>exact ⟨k+1,by omega,by go_num,yW (HZ2.out (by simpa using hz))⟩
    case measure=>simp [intOf];omega
  ·have HE:Hid (orL xs=0):=yW (by rw [rm HZ.out hk,List.drop_eq_nil_of_le (by omega)];rfl)
   go_wp2_with fail
   go_ret
   exact ⟨ar HE.out.symm,rfl⟩
theorem ja (x y:Int) (w:World) :
 Calls Tryz.prog 63 #[.int .u32 x,.int .u32 y] w fun e w'=>e=.returned (.int .i64 (cR x y))∧w=w':=by
 go_enter Tryz.func63,Tryz.ntmps63
 go_wp2
 all_goals go_ret
 all_goals refine ⟨ar ?_,rfl⟩
 all_goals (simp [cR];try omega)
def aW (a b:Fc):Int:=orL [cZ (bs a.pr.name) (bs b.pr.name),cR a.pr.terms.length b.pr.terms.length,cF (aU 3) a.pr.terms b.pr.terms,cR a.o b.o]
theorem gW:∀args (w:World),(callFunc 62 args).run Tryz.prog w=.ok (.enter 62 args) w:=ent Tryz.func62 (by kernel_rfl) rfl
theorem fJ {d e B:Nat} {a b:Fc} {va vb:List Value} {w:World} (ha:(ax d).rd w B a va) (hb:(ax e).rd w B b vb) (hna:a.pr.terms.length*40≤140737488351232) (hnb:b.pr.terms.length*40≤140737488351232) (hB:B≤w.heap.size) :
 Calls Tryz.prog 95 #[.agg va.toArray,.agg vb.toArray] w fun z w'=>z=.returned (.int .i64 (aW a b))∧Below w.heap.size w w':=by
 obtain ⟨A,c,rfl,hs,h1,h2,h3,hl,ho⟩:=aI ha
 obtain ⟨A',c',rfl,hs',h1',h2',h3',hl',ho'⟩:=aI hb
 have HLA:=yW hl
 have HLB:=yW hl'
 clear ha hb hl hl' ho ho'
 go_enter Tryz.func95,Tryz.ntmps95
 go_upto_region 1 with fail
 generalize hW:World.alloc _ _=w1
 obtain ⟨hb,hz⟩:=al2 hW
 have HA1:=yW (n21 hW)
 have HB1:=yW (n22 hW)
 have HU1:=yW hb
 clear hW hb
 have hsz:=HU1.out.size
 have hB1:B≤w1.heap.size:=yX hB hsz
 have HSL:Hid (∀{w':World},Below w1.heap.size w1 w'→(w'.cell? ⟨w.heap.size,0,none⟩=some (.string a.pr.name)∧w'.cell? ⟨w.heap.size,1,none⟩=some (.slice A a.pr.terms.length c)∧w'.cell? ⟨w.heap.size,2,none⟩=some (.int .u32 a.o)∧w'.cell? ⟨w.heap.size+1,0,none⟩=some (.string b.pr.name)∧w'.cell? ⟨w.heap.size+1,1,none⟩=some (.slice A' b.pr.terms.length c')∧w'.cell? ⟨w.heap.size+1,2,none⟩=some (.int .u32 b.o))):=yW (fun hb=>⟨(HA1.out.later hb).cell 0,(HA1.out.later hb).cell 1,(HA1.out.later hb).cell 2,(HB1.out.later hb).cell 0,(HB1.out.later hb).cell 1,(HB1.out.later hb).cell 2⟩)
 refine aG (fun w'=>w'.cell? ⟨w.heap.size,0,none⟩=some (.string a.pr.name)∧w'.cell? ⟨w.heap.size,1,none⟩=some (.slice A a.pr.terms.length c)∧w'.cell? ⟨w.heap.size,2,none⟩=some (.int .u32 a.o)∧w'.cell? ⟨w.heap.size+1,0,none⟩=some (.string b.pr.name)∧w'.cell? ⟨w.heap.size+1,1,none⟩=some (.slice A' b.pr.terms.length c')∧w'.cell? ⟨w.heap.size+1,2,none⟩=some (.int .u32 b.o)) (by kernel_rfl) (HSL.out (za _ _).drew) ?_
 refine aa (i:=0) (v:=?v1_) rfl (by kernel_rfl) (by kernel_rfl) (by kernel_rfl) ?hq1_ ?hw1_ ?hy1_ ?rest1_
 case hq1_=>exact fun _ _ _ h=>h
 case hw1_=>rfl
 case hy1_=>(intro w' hS';(try dsimp only at hS');go_simp;(try with_reducible rfl))
 refine aa (i:=1) (v:=?v2_) rfl (by kernel_rfl) (by kernel_rfl) (by kernel_rfl) ?hq2_ ?hw2_ ?hy2_ ?rest2_
 case hq2_=>exact fun _ _ _ h=>h
 case hw2_=>rfl
 case hy2_=>(intro w' hS';(try dsimp only at hS');go_simp;(try with_reducible rfl))
 refine aa (i:=2) (v:=?v3_) rfl (by kernel_rfl) (by kernel_rfl) (by kernel_rfl) ?hq3_ ?hw3_ ?hy3_ ?rest3_
 case hq3_=>exact fun _ _ _ h=>h
 case hw3_=>rfl
 case hy3_=>(intro w' hS';(try dsimp only at hS');go_simp;(try with_reducible rfl))
 refine aa (i:=3) (v:=?v4_) rfl (by kernel_rfl) (by kernel_rfl) (by kernel_rfl) ?hq4_ ?hw4_ ?hy4_ ?rest4_
 case hq4_=>exact fun _ _ _ h=>h
 case hw4_=>rfl
 case hy4_=>(intro w' hS';(try dsimp only at hS');go_simp;(try with_reducible rfl))
 refine aa (i:=4) (v:=?v5_) rfl (by kernel_rfl) (by kernel_rfl) (by kernel_rfl) ?hq5_ ?hw5_ ?hy5_ ?rest5_
 case hq5_=>exact fun _ _ _ h=>h
 case hw5_=>rfl
 case hy5_=>(intro w' hS';(try dsimp only at hS');go_simp;(try with_reducible rfl))
 refine aa (i:=5) (v:=?v6_) rfl (by kernel_rfl) (by kernel_rfl) (by kernel_rfl) ?hq6_ ?hw6_ ?hy6_ ?rest6_
 case hq6_=>exact fun _ _ _ h=>h
 case hw6_=>rfl
 case hy6_=>(intro w' hS';(try dsimp only at hS');go_simp;(try with_reducible rfl))
 refine aa (i:=7) (v:=?v7_) rfl (by kernel_rfl) (by kernel_rfl) (by kernel_rfl) ?hq7_ ?hw7_ ?hy7_ ?rest7_
 case hq7_=>exact fun _ _ _ h=>h
 case hw7_=>rfl
 case hy7_=>(intro w' hS';(try dsimp only at hS');go_simp;(try with_reducible rfl))
 refine aa (i:=8) (v:=?v8_) rfl (by kernel_rfl) (by kernel_rfl) (by kernel_rfl) ?hq8_ ?hw8_ ?hy8_ ?rest8_
 case hq8_=>exact fun _ _ _ h=>h
 case hw8_=>rfl
 case hy8_=>(intro w' hS';(try dsimp only at hS');go_simp;(try with_reducible rfl))
 refine aa (i:=9) (v:=?v9_) rfl (by kernel_rfl) (by kernel_rfl) (by kernel_rfl) ?hq9_ ?hw9_ ?hy9_ ?rest9_
 case hq9_=>exact fun _ _ _ h=>h
 case hw9_=>rfl
 case hy9_=>(intro w' hS';(try dsimp only at hS');go_simp;(try with_reducible rfl))
 refine aa (i:=10) (v:=?v10_) rfl (by kernel_rfl) (by kernel_rfl) (by kernel_rfl) ?hq10_ ?hw10_ ?hy10_ ?rest10_
 case hq10_=>exact fun _ _ _ h=>h
 case hw10_=>rfl
 case hy10_=>(intro w' hS';(try dsimp only at hS');go_simp;(try with_reducible rfl))
 refine aa (i:=11) (v:=?v11_) rfl (by kernel_rfl) (by kernel_rfl) (by kernel_rfl) ?hq11_ ?hw11_ ?hy11_ ?rest11_
 case hq11_=>exact fun _ _ _ h=>h
 case hw11_=>rfl
 case hy11_=>(intro w' hS';(try dsimp only at hS');go_simp;(try with_reducible rfl))
 refine aa (i:=12) (v:=?v12_) rfl (by kernel_rfl) (by kernel_rfl) (by kernel_rfl) ?hq12_ ?hw12_ ?hy12_ ?rest12_
 case hq12_=>exact fun _ _ _ h=>h
 case hw12_=>rfl
 case hy12_=>(intro w' hS';(try dsimp only at hS');go_simp;(try with_reducible rfl))
 refine aa (i:=13) (v:=?v13_) rfl (by kernel_rfl) (by kernel_rfl) (by kernel_rfl) ?hq13_ ?hw13_ ?hy13_ ?rest13_
 case hq13_=>exact fun _ _ _ h=>h
 case hw13_=>rfl
 case hy13_=>(intro w' hS';(try dsimp only at hS');go_simp;(try with_reducible rfl))
 refine aa (i:=14) (v:=?v14_) rfl (by kernel_rfl) (by kernel_rfl) (by kernel_rfl) ?hq14_ ?hw14_ ?hy14_ ?rest14_
 case hq14_=>exact fun _ _ _ h=>h
 case hw14_=>rfl
 case hy14_=>(intro w' hS';(try dsimp only at hS');go_simp;(try with_reducible rfl))
 refine aa (i:=16) (v:=?v15_) rfl (by kernel_rfl) (by kernel_rfl) (by kernel_rfl) ?hq15_ ?hw15_ ?hy15_ ?rest15_
 case hq15_=>exact fun _ _ _ h=>h
 case hw15_=>rfl
 case hy15_=>(intro w' hS';(try dsimp only at hS');go_simp;(try with_reducible rfl))
 refine aa (i:=17) (v:=?v16_) rfl (by kernel_rfl) (by kernel_rfl) (by kernel_rfl) ?hq16_ ?hw16_ ?hy16_ ?rest16_
 case hq16_=>exact fun _ _ _ h=>h
 case hw16_=>rfl
 case hy16_=>(intro w' hS';(try dsimp only at hS');go_simp;(try with_reducible rfl))
 refine aa (i:=18) (v:=?v17_) rfl (by kernel_rfl) (by kernel_rfl) (by kernel_rfl) ?hq17_ ?hw17_ ?hy17_ ?rest17_
 case hq17_=>exact fun _ _ _ h=>h
 case hw17_=>rfl
 case hy17_=>(intro w' hS';(try dsimp only at hS');go_simp;(try with_reducible rfl))
 refine aa (i:=19) (v:=?v18_) rfl (by kernel_rfl) (by kernel_rfl) (by kernel_rfl) ?hq18_ ?hw18_ ?hy18_ ?rest18_
 case hq18_=>exact fun _ _ _ h=>h
 case hw18_=>rfl
 case hy18_=>(intro w' hS';(try dsimp only at hS');go_simp;(try with_reducible rfl))
 refine aa (i:=20) (v:=?v19_) rfl (by kernel_rfl) (by kernel_rfl) (by kernel_rfl) ?hq19_ ?hw19_ ?hy19_ ?rest19_
 case hq19_=>exact fun _ _ _ h=>h
 case hw19_=>rfl
 case hy19_=>(intro w' hS';(try dsimp only at hS');go_simp;(try with_reducible rfl))
 refine aa (i:=21) (v:=?v20_) rfl (by kernel_rfl) (by kernel_rfl) (by kernel_rfl) ?hq20_ ?hw20_ ?hy20_ ?rest20_
 case hq20_=>exact fun _ _ _ h=>h
 case hw20_=>rfl
 case hy20_=>(intro w' hS';(try dsimp only at hS');go_simp;(try with_reducible rfl))
 refine aa (i:=23) (v:=?v21_) rfl (by kernel_rfl) (by kernel_rfl) (by kernel_rfl) ?hq21_ ?hw21_ ?hy21_ ?rest21_
 case hq21_=>exact fun _ _ _ h=>h
 case hw21_=>rfl
 case hy21_=>(intro w' hS';(try dsimp only at hS');go_simp;(try with_reducible rfl))
 refine aa (i:=24) (v:=?v22_) rfl (by kernel_rfl) (by kernel_rfl) (by kernel_rfl) ?hq22_ ?hw22_ ?hy22_ ?rest22_
 case hq22_=>exact fun _ _ _ h=>h
 case hw22_=>rfl
 case hy22_=>(intro w' hS';(try dsimp only at hS');go_simp;(try with_reducible rfl))
 refine aa (i:=25) (v:=?v23_) rfl (by kernel_rfl) (by kernel_rfl) (by kernel_rfl) ?hq23_ ?hw23_ ?hy23_ ?rest23_
 case hq23_=>exact fun _ _ _ h=>h
 case hw23_=>rfl
 case hy23_=>(intro w' hS';(try dsimp only at hS');go_simp;(try with_reducible rfl))
 refine aa (i:=26) (v:=?v24_) rfl (by kernel_rfl) (by kernel_rfl) (by kernel_rfl) ?hq24_ ?hw24_ ?hy24_ ?rest24_
 case hq24_=>exact fun _ _ _ h=>h
 case hw24_=>rfl
 case hy24_=>(intro w' hS';(try dsimp only at hS');go_simp;(try with_reducible rfl))
 generalize hD:World.drew w1=w2
 have HU:Hid (Below w1.heap.size w1 w2):=yW (hD▸(za w1.heap.size w1).drew)
 clear hD
 refine au (rs:=[6]) (by kernel_rfl) rfl ?_
 refine ak.cons rfl (fun K hK=>?_) ak.nil
 go_simp
 refine (de _ _ _).mono ?_
 rintro e w' ⟨rfl,rfl⟩
 refine hK.out _ _ (HSL.out HU.out) ?_
 clear hK
 refine au (rs:=[15]) (by kernel_rfl) rfl ?_
 refine ak.cons rfl (fun K hK=>?_) ak.nil
 go_simp
 refine (dJ _ _ _).mono ?_
 rintro e w' ⟨rfl,rfl⟩
 refine hK.out _ _ (HSL.out HU.out) ?_
 clear hK
 refine au (rs:=[22]) (by kernel_rfl) rfl ?_
 refine ak.cons rfl (fun K hK=>?_) ak.nil
 go_simp
 refine (dQ 62 #[] (aU 3) d e a.pr.terms b.pr.terms A A' c c' B w2 gW (HLA.out.keep (HU1.out.trans (HU.out.mono hsz)) hB) (HLB.out.keep (HU1.out.trans (HU.out.mono hsz)) hB) (yX hB1 HU.out.size) (by omega) (by omega) (fun x y vs ws w9 hb9 hx hy=>df d e x y vs ws B w9 hx hy (yX (yX hB1 HU.out.size) hb9.size))).mono ?_
 rintro z w3 ⟨rfl,hb3⟩
 have HU3:Hid (Below w1.heap.size w1 w3):=yW (HU.out.trans (hb3.mono HU.out.size))
 clear hb3
 refine hK.out _ _ (HSL.out HU3.out) ?_
 clear hK
 refine au (rs:=[27]) (by kernel_rfl) rfl ?_
 refine ak.cons rfl (fun K hK=>?_) ak.nil
 go_simp
 refine (ja _ _ _).mono ?_
 rintro e w' ⟨rfl,rfl⟩
 refine hK.out _ _ (HSL.out HU3.out) ?_
 clear hK
 refine au (rs:=[28]) (by kernel_rfl) rfl ?_
 refine ak.cons rfl (fun K hK=>?_) ak.nil
 go_simp
 generalize hW:World.alloc _ _=w4
 obtain ⟨hb4,hz4⟩:=al1 hW
 have HL4:=yW (n11 hW)
 have HU4:Hid (Below w1.heap.size w1 w4):=yW (HU3.out.trans (hb4.mono HU3.out.size))
 clear hW hb4
 refine hK.out _ _ (HSL.out HU4.out) ?_
 clear hK
 refine au (rs:=[29]) (by kernel_rfl) rfl ?_
 refine ak.cons rfl (fun K hK=>?_) ak.nil
 go_simp
 refine (iH [cZ (bs a.pr.name) (bs b.pr.name),cR a.pr.terms.length b.pr.terms.length,cF (aU 3) a.pr.terms b.pr.terms,cR a.o b.o] w3.heap.size w4 (fun i hi=>by
  rw [HL4.out.cell i]
  match i,hi with
  | 0,_=>rfl
  | 1,_=>rfl
  | 2,_=>rfl
  | 3,_=>rfl) (by simp)).mono ?_
 rintro e w' ⟨rfl,rfl⟩
 refine hK.out _ _ (HSL.out HU4.out) ?_
 clear hK
 refine aa (i:=30) (v:=?v25_) rfl (by kernel_rfl) (by kernel_rfl) (by kernel_rfl) ?hq25_ ?hw25_ ?hy25_ ?rest25_
 case hq25_=>exact fun _ _ _ h=>h
 case hw25_=>rfl
 case hy25_=>(intro w' hS';(try dsimp only at hS');go_simp;(try with_reducible rfl))
 refine bG (by kernel_rfl) ?_
 go_wp2_with fail
 go_ret
 exact ⟨ar rfl,HU1.out.trans (HU4.out.mono hsz)⟩
theorem ed (d:Nat):dq (TmR d):=fun h u hu=>by
 obtain ⟨_,_,rfl,_⟩:=RTm.cells h
 simp only [List.mem_cons,List.not_mem_nil,or_false] at hu
 rcases hu with rfl | rfl | rfl | rfl<;>rfl
theorem iz:(Tryz.prog.info? 79).map (fun i=>(i.zero,i.size,i.bytes))=some (some (.agg #[.int .i64 0,.int .i64 0,.string ⟨#[]⟩,.slice none 0 0]),4,56):=by kernel_rfl
def Exc (g:Nat) (w w':World):Prop:=Below g w w'∧∀b,b<w.heap.size→b≠g→w'.heap[b]? = w.heap[b]?
section
variable {g:Nat} {a b c:World}
theorem Exc.refl (g:Nat) (w:World):Exc g w w:=⟨za _ _,fun _ _ _=>rfl⟩
theorem Exc.trans (h:Exc g a b) (k:Exc g b c):Exc g a c:=
 ⟨h.1.trans k.1,fun i hi hg=>(k.2 i (zb hi h.1.size) hg).trans (h.2 i hi hg)⟩
theorem Exc.of (hg:g≤a.heap.size) (h:Below a.heap.size a b):Exc g a b:=⟨h.mono hg,fun i hi _=>h.block i hi⟩
theorem Exc.then (h:Exc g a b) (hg:g≤a.heap.size) (k:Below b.heap.size b c):Exc g a c:=h.trans (Exc.of (yX hg h.1.size) k)
theorem Exc.set (h:Exc g a b) (i:Nat) (v:Value):Exc g a (b.setCell ⟨g,i,none⟩ v):=
 ⟨h.1.setCell (p:=⟨g,i,none⟩) (yY _) v,fun k hk hg=>(Below.heap_setCell b ⟨g,i,none⟩ v k hg).trans (h.2 k hk hg)⟩
theorem Exc.drew (h:Exc g a b):Exc g a b.drew:=⟨h.1.drew,h.2⟩
theorem Exc.blk {x:Nat} {vs:Array Value} (h:Exc g a b) (hx:x≠g) (hb:Blk a x vs):Blk b x vs:=by
 have hl:=hb.lt
 obtain ⟨T,hb⟩:=hb
 exact ⟨T,(h.2 x hl hx).trans hb⟩
end
theorem am.exc {α:Type} {R:Reader α} {e:TypeId} {w w':World} {base g:Nat} {v:Value} {xs:List α} (h:am R e w base 0 v xs) (he:Exc g w w') (hg:g<base):am R e w' base 0 v xs:=by
 obtain ⟨cells,h,hf⟩:=h
 refine ⟨cells,⟨h.1,?_⟩,hf.keep (he.1.mono (yZ _)) (yY _)⟩
 rcases h.2 with h2 | ⟨g',cap,cur,hv,hg',hh,r⟩
 ·exact .inl h2
 ·refine .inr ⟨g',cap,cur,hv,hg',?_,r⟩
  have hlt:g'<w.heap.size:=by
   rcases Nat.lt_or_ge g' w.heap.size with h' | h'
   ·exact h'
   ·rw [Array.getElem?_eq_none h'] at hh;cases hh
  rw [he.2 g' hlt (by omega)];exact hh
theorem Exc.own {g base:Nat} {a b c:World} (h:Exc g a b) (k:Below base b c) (hb:a.heap.size≤base) (hg:g<base):Exc g a c:=
 ⟨h.1.trans (k.mono (by omega)),fun i hi hne=>(k.block i (by omega)).trans (h.2 i hi hne)⟩
def gL (g h:Nat) (w w':World):Prop:=Below (min g h) w w'∧∀b,b<w.heap.size→b≠g→b≠h→w'.heap[b]? = w.heap[b]?
section
variable {g h:Nat} {a b c:World}
theorem gL.refl (g h:Nat) (w:World):gL g h w w:=⟨za _ _,fun _ _ _ _=>rfl⟩
theorem gL.trans (k:gL g h a b) (l:gL g h b c):gL g h a c:=
 ⟨k.1.trans l.1,fun i hi h1 h2=>(l.2 i (zb hi k.1.size) h1 h2).trans (k.2 i hi h1 h2)⟩
theorem Exc.left (k:Exc g a b) (h:Nat):gL g h a b:=⟨k.1.mono (Nat.min_le_left _ _),fun i hi h1 _=>k.2 i hi h1⟩
theorem Exc.right (k:Exc h a b) (g:Nat):gL g h a b:=⟨k.1.mono (Nat.min_le_right _ _),fun i hi _ h2=>k.2 i hi h2⟩
theorem gL.of (hg:min g h≤a.heap.size) (k:Below a.heap.size a b):gL g h a b:=⟨k.mono hg,fun i hi _ _=>k.block i hi⟩
theorem gL.then (k:gL g h a b) (hg:min g h≤a.heap.size) (l:Below b.heap.size b c):gL g h a c:=k.trans (gL.of (yX hg k.1.size) l)
theorem gL.blk {x:Nat} {vs:Array Value} (k:gL g h a b) (h1:x≠g) (h2:x≠h) (hb:Blk a x vs):Blk b x vs:=by
 have hl:=hb.lt
 obtain ⟨T,hb⟩:=hb
 exact ⟨T,(k.2 x hl h1 h2).trans hb⟩
end
theorem am.exc2 {α:Type} {R:Reader α} {e:TypeId} {w w':World} {base B g h:Nat} {v:Value} {xs:List α} (k:am R e w base B v xs) (he:gL g h w w') (hg:g<base) (hh:h<base) (hB:B≤min g h):am R e w' base B v xs:=by
 obtain ⟨cells,k,hf⟩:=k
 refine ⟨cells,⟨k.1,?_⟩,hf.keep he.1 hB⟩
 rcases k.2 with h2 | ⟨g',cap,cur,hv,hg',hh',r⟩
 ·exact .inl h2
 ·refine .inr ⟨g',cap,cur,hv,hg',?_,r⟩
  have hlt:g'<w.heap.size:=by
   rcases Nat.lt_or_ge g' w.heap.size with h' | h'
   ·exact h'
   ·rw [Array.getElem?_eq_none h'] at hh';cases hh'
  rw [he.2 g' hlt (by omega) (by omega)];exact hh'
end Go.Proofs.YtdphibjibnffeaaGreat
namespace Go.Proofs
open Go.Shelf
def Tryz.lays125_ren:Go.Shelf.Ren:=⟨fun | 125=>117 | 128=>182 | 129=>183 | n=>n,fun | 46=>101 | 3=>3 | 51=>31 | 53=>83 | 4=>4 | 5=>5 | 9=>9 | n=>n,fun | n=>n⟩
theorem Tryz.lays125:Go.Proofs.Lays.n125 Tryz.prog Tryz.lays125_ren:={
 mixed:=by kernel_rfl
 f125:=Tryz.func117.trans (congrArg some (by kernel_rfl))
 f128:=Tryz.func182.trans (congrArg some (by kernel_rfl))
 f129:=Tryz.func183.trans (congrArg some (by kernel_rfl))
 t3:=Tryz.underlying3
 a3:=Tryz.isAgg3
 z3:=Tryz.sizeOf3
 v3:=Tryz.zeroValue3
 t4:=Tryz.underlying4
 a4:=Tryz.isAgg4
 z4:=Tryz.sizeOf4
 v4:=Tryz.zeroValue4
 t5:=Tryz.underlying5
 a5:=Tryz.isAgg5
 z5:=Tryz.sizeOf5
 v5:=Tryz.zeroValue5
 t9:=Tryz.underlying9
 a9:=Tryz.isAgg9
 z9:=Tryz.sizeOf9
 v9:=Tryz.zeroValue9
 t46:=Tryz.underlying101
 a46:=Tryz.isAgg101
 z46:=Tryz.sizeOf101
 v46:=Tryz.zeroValue101
 t51:=Tryz.underlying31
 a51:=Tryz.isAgg31
 z51:=Tryz.sizeOf31
 v51:=Tryz.zeroValue31
 t53:=Tryz.underlying83
 a53:=Tryz.isAgg83
 z53:=Tryz.sizeOf83
 v53:=Tryz.zeroValue83 }
theorem Tryz.bits_Len (x:Int) (w:World) (h0:0≤x) (h1:x≤18446744073709551615) :
 Calls Tryz.prog 117 #[.int .u64 x] w fun e w'=>e=.returned (.int .i64 (Lib.bitLen x.toNat))∧w'=w:=Any.bits_Len Tryz.lays125 x w h0 h1
def Tryz.lays137_ren:Go.Shelf.Ren:=⟨fun | 137=>336 | 217=>302 | 266=>315 | n=>n,fun | 9=>9 | 5=>5 | 3=>3 | n=>n,fun | n=>n⟩
theorem Tryz.lays137:Go.Proofs.Lays.n137 Tryz.prog Tryz.lays137_ren:={
 mixed:=by kernel_rfl
 f137:=Tryz.func336.trans (congrArg some (by kernel_rfl))
 f217:=Tryz.func302.trans (congrArg some (by kernel_rfl))
 f266:=Tryz.func315.trans (congrArg some (by kernel_rfl))
 t3:=Tryz.underlying3
 a3:=Tryz.isAgg3
 z3:=Tryz.sizeOf3
 v3:=Tryz.zeroValue3
 t5:=Tryz.underlying5
 a5:=Tryz.isAgg5
 z5:=Tryz.sizeOf5
 v5:=Tryz.zeroValue5
 t9:=Tryz.underlying9
 a9:=Tryz.isAgg9
 z9:=Tryz.sizeOf9
 v9:=Tryz.zeroValue9 }
open Go.RowKit in
theorem Tryz.strings_IndexByte (s:ByteArray) (c:Int) (w:World) :
 Calls Tryz.prog 336 #[.string s,.int .u8 c] w fun e w'=>e=.returned (.int .i64 (Lib.indexByte s.data.toList c.toNat.toUInt8))∧w'=w:=Any.strings_IndexByte Tryz.lays137 s c w
def Tryz.lays144_ren:Go.Shelf.Ren:=⟨fun | 144=>239 | 143=>271 | 219=>293 | 217=>302 | 225=>303 | 224=>304 | 267=>305 | 266=>315 | 314=>316 | n=>n,fun | 9=>9 | 4=>4 | 3=>3 | 5=>5 | 46=>101 | 146=>327 | 51=>31 | n=>n,fun | 1=>0 | n=>n⟩
theorem Tryz.lays144:Go.Proofs.Lays.n144 Tryz.prog Tryz.lays144_ren:={
 mixed:=by kernel_rfl
 f143:=Tryz.func271.trans (congrArg some (by kernel_rfl))
 f144:=Tryz.func239.trans (congrArg some (by kernel_rfl))
 f217:=Tryz.func302.trans (congrArg some (by kernel_rfl))
 f219:=Tryz.func293.trans (congrArg some (by kernel_rfl))
 f224:=Tryz.func304.trans (congrArg some (by kernel_rfl))
 f225:=Tryz.func303.trans (congrArg some (by kernel_rfl))
 f266:=Tryz.func315.trans (congrArg some (by kernel_rfl))
 f267:=Tryz.func305.trans (congrArg some (by kernel_rfl))
 f314:=Tryz.func316.trans (congrArg some (by kernel_rfl))
 t3:=Tryz.underlying3
 a3:=Tryz.isAgg3
 z3:=Tryz.sizeOf3
 v3:=Tryz.zeroValue3
 t4:=Tryz.underlying4
 a4:=Tryz.isAgg4
 z4:=Tryz.sizeOf4
 v4:=Tryz.zeroValue4
 t5:=Tryz.underlying5
 a5:=Tryz.isAgg5
 z5:=Tryz.sizeOf5
 v5:=Tryz.zeroValue5
 t9:=Tryz.underlying9
 a9:=Tryz.isAgg9
 z9:=Tryz.sizeOf9
 v9:=Tryz.zeroValue9
 t46:=Tryz.underlying101
 a46:=Tryz.isAgg101
 z46:=Tryz.sizeOf101
 v46:=Tryz.zeroValue101
 t51:=Tryz.underlying31
 a51:=Tryz.isAgg31
 z51:=Tryz.sizeOf31
 v51:=Tryz.zeroValue31
 t146:=Tryz.underlying327
 a146:=Tryz.isAgg327
 z146:=Tryz.sizeOf327
 v146:=Tryz.zeroValue327
 g1:=by kernel_rfl }
open Go.RowKit Go.Lib in
theorem Tryz.strings_Contains (s sub:ByteArray) (m:Int) (w:World) (hs:s.size<4294967281) (hm:w.cell? ⟨0,0,none⟩=some (.int .i64 m)) :
 Calls Tryz.prog 239 #[.string s,.string sub] w fun e w'=>e=.returned (.bool (Lib.contains s.data.toList sub.data.toList))∧w'=w:=Any.strings_Contains Tryz.lays144 s sub m w hs hm
def Tryz.lays190_ren:Go.Shelf.Ren:=⟨fun | 190=>168 | 125=>117 | 258=>225 | 128=>182 | 129=>183 | 302=>258 | 303=>259 | 304=>260 | 305=>261 | 306=>262 | 307=>263 | 308=>223 | 309=>264 | 310=>265 | 333=>288 | 329=>232 | 330=>233 | 334=>289 | 335=>290 | 336=>146 | 344=>301 | n=>n,fun | 31=>44 | 9=>9 | 3=>3 | 46=>101 | 0=>0 | 51=>31 | 53=>83 | 4=>4 | 183=>226 | 182=>225 | 131=>156 | 5=>5 | 218=>260 | 222=>264 | 228=>285 | 229=>286 | n=>n,fun | n=>n⟩
theorem Tryz.lays190:Go.Proofs.Lays.n190 Tryz.prog Tryz.lays190_ren:={
 mixed:=by kernel_rfl
 f125:=Tryz.func117.trans (congrArg some (by kernel_rfl))
 f128:=Tryz.func182.trans (congrArg some (by kernel_rfl))
 f129:=Tryz.func183.trans (congrArg some (by kernel_rfl))
 f190:=Tryz.func168.trans (congrArg some (by kernel_rfl))
 f258:=Tryz.func225.trans (congrArg some (by kernel_rfl))
 f302:=Tryz.func258.trans (congrArg some (by kernel_rfl))
 f303:=Tryz.func259.trans (congrArg some (by kernel_rfl))
 f304:=Tryz.func260.trans (congrArg some (by kernel_rfl))
 f305:=Tryz.func261.trans (congrArg some (by kernel_rfl))
 f306:=Tryz.func262.trans (congrArg some (by kernel_rfl))
 f307:=Tryz.func263.trans (congrArg some (by kernel_rfl))
 f308:=Tryz.func223.trans (congrArg some (by kernel_rfl))
 f309:=Tryz.func264.trans (congrArg some (by kernel_rfl))
 f310:=Tryz.func265.trans (congrArg some (by kernel_rfl))
 f329:=Tryz.func232.trans (congrArg some (by kernel_rfl))
 f330:=Tryz.func233.trans (congrArg some (by kernel_rfl))
 f333:=Tryz.func288.trans (congrArg some (by kernel_rfl))
 f334:=Tryz.func289.trans (congrArg some (by kernel_rfl))
 f335:=Tryz.func290.trans (congrArg some (by kernel_rfl))
 f336:=Tryz.func146.trans (congrArg some (by kernel_rfl))
 f344:=Tryz.func301.trans (congrArg some (by kernel_rfl))
 t0:=Tryz.underlying0
 a0:=Tryz.isAgg0
 z0:=Tryz.sizeOf0
 v0:=Tryz.zeroValue0
 t3:=Tryz.underlying3
 a3:=Tryz.isAgg3
 z3:=Tryz.sizeOf3
 v3:=Tryz.zeroValue3
 t4:=Tryz.underlying4
 a4:=Tryz.isAgg4
 z4:=Tryz.sizeOf4
 v4:=Tryz.zeroValue4
 t5:=Tryz.underlying5
 a5:=Tryz.isAgg5
 z5:=Tryz.sizeOf5
 v5:=Tryz.zeroValue5
 t9:=Tryz.underlying9
 a9:=Tryz.isAgg9
 z9:=Tryz.sizeOf9
 v9:=Tryz.zeroValue9
 t31:=Tryz.underlying44
 a31:=Tryz.isAgg44
 z31:=Tryz.sizeOf44
 v31:=Tryz.zeroValue44
 t46:=Tryz.underlying101
 a46:=Tryz.isAgg101
 z46:=Tryz.sizeOf101
 v46:=Tryz.zeroValue101
 t51:=Tryz.underlying31
 a51:=Tryz.isAgg31
 z51:=Tryz.sizeOf31
 v51:=Tryz.zeroValue31
 t53:=Tryz.underlying83
 a53:=Tryz.isAgg83
 z53:=Tryz.sizeOf83
 v53:=Tryz.zeroValue83
 t131:=Tryz.underlying156
 a131:=Tryz.isAgg156
 z131:=Tryz.sizeOf156
 v131:=Tryz.zeroValue156
 t182:=Tryz.underlying225
 a182:=Tryz.isAgg225
 z182:=Tryz.sizeOf225
 v182:=Tryz.zeroValue225
 t183:=Tryz.underlying226
 a183:=Tryz.isAgg226
 z183:=Tryz.sizeOf226
 v183:=Tryz.zeroValue226
 t218:=Tryz.underlying260
 a218:=Tryz.isAgg260
 z218:=Tryz.sizeOf260
 v218:=Tryz.zeroValue260
 t222:=Tryz.underlying264
 a222:=Tryz.isAgg264
 z222:=Tryz.sizeOf264
 v222:=Tryz.zeroValue264
 t228:=Tryz.underlying285
 a228:=Tryz.isAgg285
 z228:=Tryz.sizeOf285
 v228:=Tryz.zeroValue285
 t229:=Tryz.underlying286
 a229:=Tryz.isAgg286
 z229:=Tryz.sizeOf286
 v229:=Tryz.zeroValue286 }
open Go.Sort Go.RowKit in
theorem Tryz.slices_Sort_string (blk off cap:Nat) (ss:List (List UInt8)) (w:World) (hH:Holds encStr w blk off ss.toArray) (hblk:blk<w.heap.size) (hsz:ss.length<4611686018427387904) :
 Calls Tryz.prog 168 #[.slice (some ⟨blk,off,none⟩) ss.length cap] w fun e w'=>
  e=.returned (.tuple #[])∧∃n os,w'=grow (putRow encStr (Sort.ahead w n) blk off (ss.mergeSort fun x y=>decide (x≤y)).toArray) os:=Any.slices_Sort_string Tryz.lays190 blk off cap ss w hH hblk hsz
def Tryz.lays99_ren:Go.Shelf.Ren:=⟨fun | 99=>153 | 206=>213 | n=>n,fun | 9=>9 | 4=>4 | 3=>3 | n=>n,fun | n=>n⟩
theorem Tryz.lays99:Go.Proofs.Lays.n99 Tryz.prog Tryz.lays99_ren:={
 mixed:=by kernel_rfl
 f99:=Tryz.func153.trans (congrArg some (by kernel_rfl))
 f206:=Tryz.func213.trans (congrArg some (by kernel_rfl))
 t3:=Tryz.underlying3
 a3:=Tryz.isAgg3
 z3:=Tryz.sizeOf3
 v3:=Tryz.zeroValue3
 t4:=Tryz.underlying4
 a4:=Tryz.isAgg4
 z4:=Tryz.sizeOf4
 v4:=Tryz.zeroValue4
 t9:=Tryz.underlying9
 a9:=Tryz.isAgg9
 z9:=Tryz.sizeOf9
 v9:=Tryz.zeroValue9 }
open Go.RowKit Go.Lib in
theorem Tryz.strings_HasPrefix (s p:ByteArray) (w:World) :
 Calls Tryz.prog 153 #[.string s,.string p] w fun e w'=>e=.returned (.bool (Lib.hasPrefix s.data.toList p.data.toList))∧w'=w:=Any.strings_HasPrefix Tryz.lays99 s p w
def Tryz.lays100_ren:Go.Shelf.Ren:=⟨fun | 100=>195 | 207=>241 | n=>n,fun | 9=>9 | 4=>4 | 3=>3 | n=>n,fun | n=>n⟩
theorem Tryz.lays100:Go.Proofs.Lays.n100 Tryz.prog Tryz.lays100_ren:={
 mixed:=by kernel_rfl
 f100:=Tryz.func195.trans (congrArg some (by kernel_rfl))
 f207:=Tryz.func241.trans (congrArg some (by kernel_rfl))
 t3:=Tryz.underlying3
 a3:=Tryz.isAgg3
 z3:=Tryz.sizeOf3
 v3:=Tryz.zeroValue3
 t4:=Tryz.underlying4
 a4:=Tryz.isAgg4
 z4:=Tryz.sizeOf4
 v4:=Tryz.zeroValue4
 t9:=Tryz.underlying9
 a9:=Tryz.isAgg9
 z9:=Tryz.sizeOf9
 v9:=Tryz.zeroValue9 }
open Go.RowKit Go.Lib in
theorem Tryz.strings_HasSuffix (s p:ByteArray) (w:World) (hs:s.size≤9223372036854775807) :
 Calls Tryz.prog 195 #[.string s,.string p] w fun e w'=>e=.returned (.bool (Lib.hasSuffix s.data.toList p.data.toList))∧w'=w:=Any.strings_HasSuffix Tryz.lays100 s p w hs
def Tryz.lays264_ren:Go.Shelf.Ren:=⟨fun | 264=>308 | n=>n,fun | 53=>83 | 46=>101 | n=>n,fun | n=>n⟩
theorem Tryz.lays264:Go.Proofs.Lays.n264 Tryz.prog Tryz.lays264_ren:={
 mixed:=by kernel_rfl
 f264:=Tryz.func308.trans (congrArg some (by kernel_rfl))
 t46:=Tryz.underlying101
 a46:=Tryz.isAgg101
 z46:=Tryz.sizeOf101
 v46:=Tryz.zeroValue101
 t53:=Tryz.underlying83
 a53:=Tryz.isAgg83
 z53:=Tryz.sizeOf83
 v53:=Tryz.zeroValue83 }
open Go.RowKit Go.Lib in
theorem Tryz.bits_Mul64 (x y:Nat) (hx:x<18446744073709551616) (hy:y<18446744073709551616) (w:World) :
 Calls Tryz.prog 308 #[.int .u64 x,.int .u64 y] w fun e w'=>e=.returned (.tuple #[.int .u64 ((x*y / 18446744073709551616:Nat):Int),.int .u64 ((x*y % 18446744073709551616:Nat):Int)])∧w'=w:=Any.bits_Mul64 Tryz.lays264 x y hx hy w
def Tryz.lays194_ren:Go.Shelf.Ren:=⟨fun | 194=>169 | n=>n,fun | 31=>44 | 9=>9 | 3=>3 | 4=>4 | 0=>0 | n=>n,fun | n=>n⟩
theorem Tryz.lays194:Go.Proofs.Lays.n194 Tryz.prog Tryz.lays194_ren:={
 mixed:=by kernel_rfl
 f194:=Tryz.func169.trans (congrArg some (by kernel_rfl))
 t0:=Tryz.underlying0
 a0:=Tryz.isAgg0
 z0:=Tryz.sizeOf0
 v0:=Tryz.zeroValue0
 t3:=Tryz.underlying3
 a3:=Tryz.isAgg3
 z3:=Tryz.sizeOf3
 v3:=Tryz.zeroValue3
 t4:=Tryz.underlying4
 a4:=Tryz.isAgg4
 z4:=Tryz.sizeOf4
 v4:=Tryz.zeroValue4
 t9:=Tryz.underlying9
 a9:=Tryz.isAgg9
 z9:=Tryz.sizeOf9
 v9:=Tryz.zeroValue9
 t31:=Tryz.underlying44
 a31:=Tryz.isAgg44
 z31:=Tryz.sizeOf44
 v31:=Tryz.zeroValue44 }
open Go.RowKit Go.Lib Go.Sort in
theorem Tryz.slices_Compact_string (blk off cap:Nat) (zs:List (List UInt8)) (w:World) (hH:Holds encStr w blk off zs.toArray) (hsz:zs.length≤9223372036854775807) (hcap:zs.length≤cap) :
 Calls Tryz.prog 169 #[.slice (some ⟨blk,off,none⟩) zs.length cap] w fun e w'=>e=.returned (.slice (some ⟨blk,off,none⟩) (Lib.compact zs).length cap)∧∃q,w'=putRow encStr (Sort.ahead w q) blk off (Lib.compact zs++List.replicate (zs.length-(Lib.compact zs).length) []).toArray:=Any.slices_Compact_string Tryz.lays194 blk off cap zs w hH hsz hcap
open Go.RowKit Go.Lib Go.Sort in
theorem Tryz.slices_Compact_string_empty (a:Option Addr) (cap:Nat) (w:World) :
 Calls Tryz.prog 169 #[.slice a 0 cap] w fun e w'=>e=.returned (.slice a 0 cap)∧w'=w:=Any.slices_Compact_string_empty Tryz.lays194 a cap w
open Go.RowKit Go.Sort in
theorem Tryz.slices_Sort_string_none (p:Option Addr) (cap:Nat) (w:World) :
 Calls Tryz.prog 168 #[.slice p 0 cap] w fun e w'=>e=.returned (.tuple #[])∧w'=w:=Any.slices_Sort_string_none Tryz.lays190 p cap w
end Go.Proofs
