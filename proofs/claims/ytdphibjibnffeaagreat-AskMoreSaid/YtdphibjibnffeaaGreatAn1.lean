/- An answer as data; slices.Compare at texts; join.Compare. -/
import Derived.Shelf.SlSortCmp.WholeK
import Derived.Shelf.SlGeneric
import Derived.Ground.SlsfProg
import Derived.Test.YtdphibjibnffeaaGreatProg
import Derived.Test.YtdphibjibnffeaaGreatShelf
import Derived.Test.YtdphibjibnffeaaGreatBind
set_option linter.unusedVariables false
set_option linter.unusedSimpArgs false
set_option maxRecDepth 100000
set_option maxHeartbeats 8000000
namespace Go.Proofs
open Go.Shelf
def Tryz.sortAns_ren:Go.Shelf.Ren:=⟨fun | 6=>56 | 15=>117 | 14=>116 | 28=>182 | 29=>183 | 20=>174 | 21=>175 | 22=>176 | 23=>177 | 24=>178 | 25=>179 | 26=>180 | 27=>181 | 46=>231 | 47=>232 | 48=>233 | 49=>234 | 50=>235 | 57=>268 | n=>n,fun | 22=>40 | 24=>48 | 25=>49 | 3=>3 | 39=>101 | 0=>0 | 53=>31 | 55=>83 | 4=>4 | 46=>226 | 45=>225 | 50=>156 | 5=>5 | 9=>9 | 66=>260 | 70=>264 | 76=>285 | 77=>286 | n=>n,fun | n=>n⟩
theorem Tryz.sortAns:Go.Proofs.SlLaysF0.n6 Tryz.prog Tryz.sortAns_ren:={
 mixed:=by kernel_rfl
 f6:=⟨Tryz.f56.name,by decide,Tryz.func56.trans (congrArg some (by kernel_rfl))⟩
 f14:=⟨Tryz.f116.name,by decide,Tryz.func116.trans (congrArg some (by kernel_rfl))⟩
 f15:=Tryz.func117.trans (congrArg some (by kernel_rfl))
 f20:=⟨Tryz.f174.name,by decide,Tryz.func174.trans (congrArg some (by kernel_rfl))⟩
 f21:=⟨Tryz.f175.name,by decide,Tryz.func175.trans (congrArg some (by kernel_rfl))⟩
 f22:=⟨Tryz.f176.name,by decide,Tryz.func176.trans (congrArg some (by kernel_rfl))⟩
 f23:=⟨Tryz.f177.name,by decide,Tryz.func177.trans (congrArg some (by kernel_rfl))⟩
 f24:=⟨Tryz.f178.name,by decide,Tryz.func178.trans (congrArg some (by kernel_rfl))⟩
 f25:=⟨Tryz.f179.name,by decide,Tryz.func179.trans (congrArg some (by kernel_rfl))⟩
 f26:=⟨Tryz.f180.name,by decide,Tryz.func180.trans (congrArg some (by kernel_rfl))⟩
 f27:=⟨Tryz.f181.name,by decide,Tryz.func181.trans (congrArg some (by kernel_rfl))⟩
 f28:=Tryz.func182.trans (congrArg some (by kernel_rfl))
 f29:=Tryz.func183.trans (congrArg some (by kernel_rfl))
 f46:=⟨Tryz.f231.name,by decide,Tryz.func231.trans (congrArg some (by kernel_rfl))⟩
 f47:=Tryz.func232.trans (congrArg some (by kernel_rfl))
 f48:=Tryz.func233.trans (congrArg some (by kernel_rfl))
 f49:=⟨Tryz.f234.name,by decide,Tryz.func234.trans (congrArg some (by kernel_rfl))⟩
 f50:=⟨Tryz.f235.name,by decide,Tryz.func235.trans (congrArg some (by kernel_rfl))⟩
 f57:=⟨Tryz.f268.name,by decide,Tryz.func268.trans (congrArg some (by kernel_rfl))⟩
 t0:=Tryz.underlying0
 a0:=Tryz.isAgg0
 z0:=Tryz.sizeOf0
 v0:=Tryz.zeroValue0
 t3:=Tryz.underlying3
 a3:=Tryz.isAgg3
 z3:=Tryz.sizeOf3
 v3:=Tryz.zeroValue3
 t4:=Tryz.underlying4
 a4:=Tryz.isAgg4
 z4:=Tryz.sizeOf4
 v4:=Tryz.zeroValue4
 t5:=Tryz.underlying5
 a5:=Tryz.isAgg5
 z5:=Tryz.sizeOf5
 v5:=Tryz.zeroValue5
 t9:=Tryz.underlying9
 a9:=Tryz.isAgg9
 z9:=Tryz.sizeOf9
 v9:=Tryz.zeroValue9
 t22:=Tryz.underlying40
 a22:=Tryz.isAgg40
 z22:=Tryz.sizeOf40
 v22:=Tryz.zeroValue40
 t25:=Tryz.underlying49
 a25:=Tryz.isAgg49
 z25:=Tryz.sizeOf49
 v25:=Tryz.zeroValue49
 t39:=Tryz.underlying101
 a39:=Tryz.isAgg101
 z39:=Tryz.sizeOf101
 v39:=Tryz.zeroValue101
 t45:=Tryz.underlying225
 a45:=Tryz.isAgg225
 z45:=Tryz.sizeOf225
 v45:=Tryz.zeroValue225
 t46:=Tryz.underlying226
 a46:=Tryz.isAgg226
 z46:=Tryz.sizeOf226
 v46:=Tryz.zeroValue226
 t50:=Tryz.underlying156
 a50:=Tryz.isAgg156
 z50:=Tryz.sizeOf156
 v50:=Tryz.zeroValue156
 t53:=Tryz.underlying31
 a53:=Tryz.isAgg31
 z53:=Tryz.sizeOf31
 v53:=Tryz.zeroValue31
 t55:=Tryz.underlying83
 a55:=Tryz.isAgg83
 z55:=Tryz.sizeOf83
 v55:=Tryz.zeroValue83
 t66:=Tryz.underlying260
 a66:=Tryz.isAgg260
 z66:=Tryz.sizeOf260
 v66:=Tryz.zeroValue260
 t70:=Tryz.underlying264
 a70:=Tryz.isAgg264
 z70:=Tryz.sizeOf264
 v70:=Tryz.zeroValue264
 t76:=Tryz.underlying285
 a76:=Tryz.isAgg285
 z76:=Tryz.sizeOf285
 v76:=Tryz.zeroValue285
 t77:=Tryz.underlying286
 a77:=Tryz.isAgg286
 z77:=Tryz.sizeOf286
 v77:=Tryz.zeroValue286 }
end Go.Proofs
namespace Go.Proofs.YtdphibjibnffeaaGreat
open Go.ChangeShapes Go.WideShapes Go.ChangeAt Go.RowKit
def ez:List aS→List aS→Int
 | [],[]=>0
 | [],_::_=>-1
 | _::_,[]=>1
 | x::xs,y::ys=>if cZ x y=0 then ez xs ys else cZ x y
theorem gf (xs ys:List aS) (A A':Option Addr) (c c' B:Nat) (w:World) (hA:RL cX w B (xs.map mkS) A) (hA':RL cX w B (ys.map mkS) A') (hB:B≤w.heap.size) (hn:xs.length≤1000000) (hn':ys.length≤1000000) :
 Calls Tryz.prog 60 #[.slice A xs.length c,.slice A' ys.length c'] w fun e w'=>e=.returned (.int .i64 (ez xs ys))∧w=w':=by
 have HA:=yW hA
 have HA':=yW hA'
 clear hA hA'
 go_enter Tryz.func60,Tryz.ntmps60
 go_wp2_with fail
 go_loop [11] (fun i=>∃k:Nat,k≤xs.length∧i=.int .i64 k∧Hid (ez xs ys=ez (xs.drop k) (ys.drop k))) (fun i=>xs.length-(intOf i).toNat)
 case atStart=>exact ⟨0,yZ _,rfl,yW rfl⟩
 case round=>
  obtain ⟨k,hk,rfl,HE⟩:=hrel
  by_cases hlt:k<xs.length
  ·obtain ⟨b,off,rfl,hb,hc⟩:=lw HA.out (za _ _) hB (by omega)
   have c0:=hc k hlt
   clear hc
   have hI0:(0:Int)≤(k:Int):=Int.natCast_nonneg _
   have hI1:(k:Int)<(xs.length:Int):=by omega
   have hx':xs.drop k=xs[k]::xs.drop (k+1):=List.drop_eq_getElem_cons hlt
   by_cases hlt2:k<ys.length
   ·obtain ⟨b',off',rfl,hb',hc'⟩:=lw HA'.out (za _ _) hB (by omega)
    have c1:=hc' k hlt2
    clear hc'
    have hI2:(k:Int)<(ys.length:Int):=by omega
    have hg:decide ((k:Int)≥ys.length)=false:=by simp;omega
    have hg2:decide ((ys.length:Int)≤(k:Int))=false:=by simp;omega
    have hy':ys.drop k=ys[k]::ys.drop (k+1):=List.drop_eq_getElem_cons hlt2
    have HE2:Hid (ez xs ys=if cZ xs[k] ys[k]=0 then ez (xs.drop (k+1)) (ys.drop (k+1)) else cZ xs[k] ys[k]):=yW (by rw [HE.out,hx',hy'];rfl)
    have HCE:Hid (cZ (bs (mkS xs[k])) (bs (mkS ys[k]))=cZ xs[k] ys[k]):=yW (by rw [ju,ju])
    clear hx' hy' HE
    go_wp2_with (go_at_call 91;refine (de _ _ _).mono ?_;rintro e w' ⟨rfl,rfl⟩;rw [HCE.out];by_cases hz:cZ xs[k] ys[k]=0)
    ·have hz':(cZ xs[k] ys[k] !=0)=false:=by simpa using hz
     have HZ:=yW hz
     generalize cZ xs[k] ys[k]=r at *
     clear hz
     go_wp2_with fail
     go_round
     case rel=>exact ⟨k+1,by omega,by go_num,yW (by rw [HE2.out,if_pos HZ.out])⟩
     case measure=>simp [intOf];omega
    ·have hz':(cZ xs[k] ys[k] !=0)=true:=by simpa using hz
     have HZ:=yW hz
     generalize cZ xs[k] ys[k]=r at *
     clear hz
     go_wp2_with fail
     go_ret
     exact ⟨ar (by rw [HE2.out,if_neg HZ.out]),rfl⟩
   ·have hg:decide ((k:Int)≥ys.length)=true:=by simp;omega
    have hg2:decide ((ys.length:Int)≤(k:Int))=true:=by simp;omega
    have HE2:Hid (ez xs ys=1):=yW (by rw [HE.out,hx',List.drop_eq_nil_of_le (show ys.length≤k by omega)];rfl)
    clear hx' HE
    go_wp2_with fail
    go_ret
    exact ⟨ar HE2.out.symm,rfl⟩
  ·have hz:xs.drop k=[]:=List.drop_eq_nil_of_le (by omega)
   obtain rfl:k=xs.length:=by omega
   by_cases hlt2:xs.length<ys.length
   ·have HE2:Hid (ez xs ys=-1):=yW (by rw [HE.out,hz,List.drop_eq_getElem_cons hlt2];rfl)
    clear hz HE
    go_wp2_with fail
    go_ret
    exact ⟨ar HE2.out.symm,rfl⟩
   ·have HE2:Hid (ez xs ys=0):=yW (by rw [HE.out,hz,List.drop_eq_nil_of_le (by omega)];rfl)
    clear hz HE
    go_wp2_with fail
    go_ret
    exact ⟨ar HE2.out.symm,rfl⟩
structure Ans where
 b:Bd
 o:Int
def aM (x y:Ans):Int:=orL [ez x.b.names y.b.names,cF (aU 3) x.b.terms y.b.terms,cR x.o y.o]
def anV (x:Ans) (An:Option Addr) (cn:Nat) (At:Option Addr) (ct:Nat):List Value:=[.slice An x.b.names.length cn,.slice At x.b.terms.length ct,.int .u32 x.o]
def mC (d:Nat):Reader Ans where
 k:=3
 rd:=fun w B x vs=>∃An cn At ct,vs=anV x An cn At ct∧RL cX w B (x.b.names.map mkS) An∧RL (TmR d) w B x.b.terms At
 keep:=fun hw hB ⟨An,cn,At,ct,e,h1,h2⟩=>⟨An,cn,At,ct,e,h1.keep hw hB,h2.keep hw hB⟩
 wide:=fun hB ⟨An,cn,At,ct,e,h1,h2⟩=>⟨An,cn,At,ct,e,h1.wide hB,h2.wide hB⟩
 len:=fun ⟨_,_,_,_,e,_⟩=>by rw [e];rfl
structure AnOk (x:Ans):Prop where
 nm:x.b.names.length≤32
 tm:x.b.terms.length≤32
theorem lE {d e B:Nat} {x y:Ans} {va vb:List Value} {w:World} (ha:(mC d).rd w B x va) (hb:(mC e).rd w B y vb) (hx:AnOk x) (hy:AnOk y) (hB:B≤w.heap.size) :
 Calls Tryz.prog 19 #[.agg va.toArray,.agg vb.toArray] w fun z w'=>z=.returned (.int .i64 (aM x y))∧Below w.heap.size w w':=by
 obtain ⟨An,cn,At,ct,rfl,hn,ht⟩:=ha
 obtain ⟨An',cn',At',ct',rfl,hn',ht'⟩:=hb
 have HN:=yW hn
 have HT:=yW ht
 have HN':=yW hn'
 have HT':=yW ht'
 obtain ⟨x1,x2⟩:=hx
 obtain ⟨y1,y2⟩:=hy
 clear hn ht hn' ht'
 unfold anV
 go_enter Tryz.func19,Tryz.ntmps19
 go_upto_region 1 with fail
 generalize hW:World.alloc _ _=w1
 obtain ⟨hb,hz⟩:=al2 hW
 have HA1:=yW (n21 hW)
 have HB1:=yW (n22 hW)
 have HU1:=yW hb
 clear hW hb
 have hsz:=HU1.out.size
 have hB1:B≤w1.heap.size:=yX hB hsz
 have HSL:Hid (∀{w':World},Below w1.heap.size w1 w'→(w'.cell? ⟨w.heap.size,0,none⟩=some (.slice An x.b.names.length cn)∧w'.cell? ⟨w.heap.size,1,none⟩=some (.slice At x.b.terms.length ct)∧w'.cell? ⟨w.heap.size,2,none⟩=some (.int .u32 x.o)∧w'.cell? ⟨w.heap.size+1,0,none⟩=some (.slice An' y.b.names.length cn')∧w'.cell? ⟨w.heap.size+1,1,none⟩=some (.slice At' y.b.terms.length ct')∧w'.cell? ⟨w.heap.size+1,2,none⟩=some (.int .u32 y.o))):=yW (fun hb=>⟨(HA1.out.later hb).cell 0,(HA1.out.later hb).cell 1,(HA1.out.later hb).cell 2,(HB1.out.later hb).cell 0,(HB1.out.later hb).cell 1,(HB1.out.later hb).cell 2⟩)
 refine aG (fun w'=>w'.cell? ⟨w.heap.size,0,none⟩=some (.slice An x.b.names.length cn)∧w'.cell? ⟨w.heap.size,1,none⟩=some (.slice At x.b.terms.length ct)∧w'.cell? ⟨w.heap.size,2,none⟩=some (.int .u32 x.o)∧w'.cell? ⟨w.heap.size+1,0,none⟩=some (.slice An' y.b.names.length cn')∧w'.cell? ⟨w.heap.size+1,1,none⟩=some (.slice At' y.b.terms.length ct')∧w'.cell? ⟨w.heap.size+1,2,none⟩=some (.int .u32 y.o)) (by kernel_rfl) (HSL.out (za _ _).drew) ?_
 refine aa (i:=0) (v:=?v1_) rfl (by kernel_rfl) (by kernel_rfl) (by kernel_rfl) ?hq1_ ?hw1_ ?hy1_ ?rest1_
 case hq1_=>exact fun _ _ _ h=>h
 case hw1_=>rfl
 case hy1_=>(intro w' hS';(try dsimp only at hS');go_simp;(try with_reducible rfl))
 refine aa (i:=1) (v:=?v2_) rfl (by kernel_rfl) (by kernel_rfl) (by kernel_rfl) ?hq2_ ?hw2_ ?hy2_ ?rest2_
 case hq2_=>exact fun _ _ _ h=>h
 case hw2_=>rfl
 case hy2_=>(intro w' hS';(try dsimp only at hS');go_simp;(try with_reducible rfl))
 refine aa (i:=2) (v:=?v3_) rfl (by kernel_rfl) (by kernel_rfl) (by kernel_rfl) ?hq3_ ?hw3_ ?hy3_ ?rest3_
 case hq3_=>exact fun _ _ _ h=>h
 case hw3_=>rfl
 case hy3_=>(intro w' hS';(try dsimp only at hS');go_simp;(try with_reducible rfl))
 refine aa (i:=3) (v:=?v4_) rfl (by kernel_rfl) (by kernel_rfl) (by kernel_rfl) ?hq4_ ?hw4_ ?hy4_ ?rest4_
 case hq4_=>exact fun _ _ _ h=>h
 case hw4_=>rfl
 case hy4_=>(intro w' hS';(try dsimp only at hS');go_simp;(try with_reducible rfl))
 refine aa (i:=4) (v:=?v5_) rfl (by kernel_rfl) (by kernel_rfl) (by kernel_rfl) ?hq5_ ?hw5_ ?hy5_ ?rest5_
 case hq5_=>exact fun _ _ _ h=>h
 case hw5_=>rfl
 case hy5_=>(intro w' hS';(try dsimp only at hS');go_simp;(try with_reducible rfl))
 refine aa (i:=5) (v:=?v6_) rfl (by kernel_rfl) (by kernel_rfl) (by kernel_rfl) ?hq6_ ?hw6_ ?hy6_ ?rest6_
 case hq6_=>exact fun _ _ _ h=>h
 case hw6_=>rfl
 case hy6_=>(intro w' hS';(try dsimp only at hS');go_simp;(try with_reducible rfl))
 refine aa (i:=7) (v:=?v7_) rfl (by kernel_rfl) (by kernel_rfl) (by kernel_rfl) ?hq7_ ?hw7_ ?hy7_ ?rest7_
 case hq7_=>exact fun _ _ _ h=>h
 case hw7_=>rfl
 case hy7_=>(intro w' hS';(try dsimp only at hS');go_simp;(try with_reducible rfl))
 refine aa (i:=8) (v:=?v8_) rfl (by kernel_rfl) (by kernel_rfl) (by kernel_rfl) ?hq8_ ?hw8_ ?hy8_ ?rest8_
 case hq8_=>exact fun _ _ _ h=>h
 case hw8_=>rfl
 case hy8_=>(intro w' hS';(try dsimp only at hS');go_simp;(try with_reducible rfl))
 refine aa (i:=9) (v:=?v9_) rfl (by kernel_rfl) (by kernel_rfl) (by kernel_rfl) ?hq9_ ?hw9_ ?hy9_ ?rest9_
 case hq9_=>exact fun _ _ _ h=>h
 case hw9_=>rfl
 case hy9_=>(intro w' hS';(try dsimp only at hS');go_simp;(try with_reducible rfl))
 refine aa (i:=10) (v:=?v10_) rfl (by kernel_rfl) (by kernel_rfl) (by kernel_rfl) ?hq10_ ?hw10_ ?hy10_ ?rest10_
 case hq10_=>exact fun _ _ _ h=>h
 case hw10_=>rfl
 case hy10_=>(intro w' hS';(try dsimp only at hS');go_simp;(try with_reducible rfl))
 refine aa (i:=11) (v:=?v11_) rfl (by kernel_rfl) (by kernel_rfl) (by kernel_rfl) ?hq11_ ?hw11_ ?hy11_ ?rest11_
 case hq11_=>exact fun _ _ _ h=>h
 case hw11_=>rfl
 case hy11_=>(intro w' hS';(try dsimp only at hS');go_simp;(try with_reducible rfl))
 refine aa (i:=12) (v:=?v12_) rfl (by kernel_rfl) (by kernel_rfl) (by kernel_rfl) ?hq12_ ?hw12_ ?hy12_ ?rest12_
 case hq12_=>exact fun _ _ _ h=>h
 case hw12_=>rfl
 case hy12_=>(intro w' hS';(try dsimp only at hS');go_simp;(try with_reducible rfl))
 refine aa (i:=14) (v:=?v13_) rfl (by kernel_rfl) (by kernel_rfl) (by kernel_rfl) ?hq13_ ?hw13_ ?hy13_ ?rest13_
 case hq13_=>exact fun _ _ _ h=>h
 case hw13_=>rfl
 case hy13_=>(intro w' hS';(try dsimp only at hS');go_simp;(try with_reducible rfl))
 refine aa (i:=15) (v:=?v14_) rfl (by kernel_rfl) (by kernel_rfl) (by kernel_rfl) ?hq14_ ?hw14_ ?hy14_ ?rest14_
 case hq14_=>exact fun _ _ _ h=>h
 case hw14_=>rfl
 case hy14_=>(intro w' hS';(try dsimp only at hS');go_simp;(try with_reducible rfl))
 refine aa (i:=16) (v:=?v15_) rfl (by kernel_rfl) (by kernel_rfl) (by kernel_rfl) ?hq15_ ?hw15_ ?hy15_ ?rest15_
 case hq15_=>exact fun _ _ _ h=>h
 case hw15_=>rfl
 case hy15_=>(intro w' hS';(try dsimp only at hS');go_simp;(try with_reducible rfl))
 refine aa (i:=17) (v:=?v16_) rfl (by kernel_rfl) (by kernel_rfl) (by kernel_rfl) ?hq16_ ?hw16_ ?hy16_ ?rest16_
 case hq16_=>exact fun _ _ _ h=>h
 case hw16_=>rfl
 case hy16_=>(intro w' hS';(try dsimp only at hS');go_simp;(try with_reducible rfl))
 generalize hD:World.drew w1=w2
 have HU:Hid (Below w1.heap.size w1 w2):=yW (hD▸(za w1.heap.size w1).drew)
 clear hD
 refine au (rs:=[6]) (by kernel_rfl) rfl ?_
 refine ak.cons rfl (fun K hK=>?_) ak.nil
 go_simp
 refine (gf x.b.names y.b.names An An' cn cn' B w2 (HN.out.keep (HU1.out.trans (HU.out.mono hsz)) hB) (HN'.out.keep (HU1.out.trans (HU.out.mono hsz)) hB) (yX hB1 HU.out.size) (by omega) (by omega)).mono ?_
 rintro e w' ⟨rfl,rfl⟩
 refine hK.out _ _ (HSL.out HU.out) ?_
 clear hK
 refine au (rs:=[13]) (by kernel_rfl) rfl ?_
 refine ak.cons rfl (fun K hK=>?_) ak.nil
 go_simp
 refine (dQ 62 #[] (aU 3) d e x.b.terms y.b.terms At At' ct ct' B w2 gW (HT.out.keep (HU1.out.trans (HU.out.mono hsz)) hB) (HT'.out.keep (HU1.out.trans (HU.out.mono hsz)) hB) (yX hB1 HU.out.size) (by omega) (by omega) (fun x y vs ws w9 hb9 hx hy=>df d e x y vs ws B w9 hx hy (yX (yX hB1 HU.out.size) hb9.size))).mono ?_
 rintro z w3 ⟨rfl,hb3⟩
 have HU3:Hid (Below w1.heap.size w1 w3):=yW (HU.out.trans (hb3.mono HU.out.size))
 clear hb3
 refine hK.out _ _ (HSL.out HU3.out) ?_
 clear hK
 refine au (rs:=[18]) (by kernel_rfl) rfl ?_
 refine ak.cons rfl (fun K hK=>?_) ak.nil
 go_simp
 refine (ja _ _ _).mono ?_
 rintro e w' ⟨rfl,rfl⟩
 refine hK.out _ _ (HSL.out HU3.out) ?_
 clear hK
 refine au (rs:=[19]) (by kernel_rfl) rfl ?_
 refine ak.cons rfl (fun K hK=>?_) ak.nil
 go_simp
 generalize hW:World.alloc _ _=w4
 obtain ⟨hb4,hz4⟩:=al1 hW
 have HL4:=yW (n11 hW)
 have HU4:Hid (Below w1.heap.size w1 w4):=yW (HU3.out.trans (hb4.mono HU3.out.size))
 clear hW hb4
 refine hK.out _ _ (HSL.out HU4.out) ?_
 clear hK
 refine au (rs:=[20]) (by kernel_rfl) rfl ?_
 refine ak.cons rfl (fun K hK=>?_) ak.nil
 go_simp
 refine (iH [ez x.b.names y.b.names,cF (aU 3) x.b.terms y.b.terms,cR x.o y.o] w3.heap.size w4 (fun i hi=>by
  rw [HL4.out.cell i]
  match i,hi with
  | 0,_=>rfl
  | 1,_=>rfl
  | 2,_=>rfl) (by simp)).mono ?_
 rintro e w' ⟨rfl,rfl⟩
 refine hK.out _ _ (HSL.out HU4.out) ?_
 clear hK
 refine aa (i:=21) (v:=?v17_) rfl (by kernel_rfl) (by kernel_rfl) (by kernel_rfl) ?hq17_ ?hw17_ ?hy17_ ?rest17_
 case hq17_=>exact fun _ _ _ h=>h
 case hw17_=>rfl
 case hy17_=>(intro w' hS';(try dsimp only at hS');go_simp;(try with_reducible rfl))
 refine bG (by kernel_rfl) ?_
 go_wp2_with fail
 go_ret
 exact ⟨ar rfl,HU1.out.trans (HU4.out.mono hsz)⟩
theorem kl {d e B:Nat} {x y:Ans} {va vb:List Value} {w:World} (ha:(mC d).rd w B x va) (hb:(mC e).rd w B y vb) (hx:AnOk x) (hy:AnOk y) (hB:B≤w.heap.size) :
 Calls Tryz.prog 58 #[.agg va.toArray,.agg vb.toArray] w fun z w'=>z=.returned (.bool (aM x y==0))∧Below w.heap.size w w':=by
 have HA:=yW ha
 have HB:=yW hb
 obtain ⟨An,cn,At,ct,rfl,_,_⟩:=ha
 obtain ⟨An',cn',At',ct',rfl,_,_⟩:=hb
 unfold anV at HA HB ⊢
 go_enter Tryz.func58,Tryz.ntmps58
 go_wp2_with fail
 generalize hW:World.alloc _ _=w1
 obtain ⟨hb,hz⟩:=al2 hW
 have HU1:=yW hb
 have hsz:=hb.size
 clear hW hb
 refine (lE (d:=d) (e:=e) (B:=B) (va:=[_,_,_]) (vb:=[_,_,_]) ((mC d).keep HU1.out hB HA.out) ((mC e).keep HU1.out hB HB.out) hx hy (yX hB hsz)).mono ?_
 rintro z w2 ⟨rfl,hb⟩
 have HU2:=yW (ab HU1.out hb)
 clear hb
 go_wp2_with fail
 go_ret
 exact ⟨rfl,HU2.out⟩
end Go.Proofs.YtdphibjibnffeaaGreat
