/- Plain laws of the patterns' spec: how much is left, how long programs are, where their steps lead. -/
import Derived.Test.YtjpndglegpcdnaaGreatRule1
import Derived.Test.YtjpndglegpcdnaaGreatOp1
import Derived.Test.YtjpndglegpcdnaaGreatBind
import Derived.Test.YtjpndglegpcdnaaGreatHeapLaw
import Derived.BigQuiet
set_option linter.unusedVariables false
set_option linter.unusedSimpArgs false
set_option maxRecDepth 100000
set_option maxHeartbeats 8000000
namespace Go.Proofs.YtjpndglegpcdnaaGreat
open Go.ChangeShapes Go.WideShapes Go.ChangeAt Go.RowKit
def dH:List aZ→List aZ→Int
 | [],[]=>0
 | [],_::_=>-1
 | _::_,[]=>1
 | x::xs,y::ys=>if dh x y=0 then dH xs ys else dh x y
theorem gy (xs ys:List aZ) (A A':Option Addr) (c c' B:Nat) (w:World) (hA:RL cX w B (xs.map mkS) A) (hA':RL cX w B (ys.map mkS) A') (hB:B≤w.heap.size) (hn:xs.length≤1000000) (hn':ys.length≤1000000) :
 Calls Tryz.prog 100 #[.slice A xs.length c,.slice A' ys.length c'] w fun e w'=>e=.returned (.int .i64 (dH xs ys))∧w=w':=by
 have HA:=AE hA
 have HA':=AE hA'
 clear hA hA'
 go_enter Tryz.func100,Tryz.ntmps100
 go_wp2_with fail
 go_loop [11] (fun i=>∃k:Nat,k≤xs.length∧i=.int .i64 k∧Hid (dH xs ys=dH (xs.drop k) (ys.drop k))) (fun i=>xs.length-(intOf i).toNat)
 case atStart=>exact ⟨0,AH _,rfl,AE rfl⟩
 case round=>
  obtain ⟨k,hk,rfl,HE⟩:=hrel
  by_cases hlt:k<xs.length
  ·obtain ⟨b,off,rfl,hb,hc⟩:=mj HA.out (AI _ _) hB (by omega)
   have c0:=hc k hlt
   clear hc
   have hI0:(0:Int)≤(k:Int):=Int.natCast_nonneg _
   have hI1:(k:Int)<(xs.length:Int):=by omega
   have hx':xs.drop k=xs[k]::xs.drop (k+1):=List.drop_eq_getElem_cons hlt
   by_cases hlt2:k<ys.length
   ·obtain ⟨b',off',rfl,hb',hc'⟩:=mj HA'.out (AI _ _) hB (by omega)
    have c1:=hc' k hlt2
    clear hc'
    have hI2:(k:Int)<(ys.length:Int):=by omega
    have hg:decide ((k:Int)≥ys.length)=false:=by simp;omega
    have hg2:decide ((ys.length:Int)≤(k:Int))=false:=by simp;omega
    have hy':ys.drop k=ys[k]::ys.drop (k+1):=List.drop_eq_getElem_cons hlt2
    have HE2:Hid (dH xs ys=if dh xs[k] ys[k]=0 then dH (xs.drop (k+1)) (ys.drop (k+1)) else dh xs[k] ys[k]):=AE (by rw [HE.out,hx',hy'];rfl)
    have HCE:Hid (dh (bs (mkS xs[k])) (bs (mkS ys[k]))=dh xs[k] ys[k]):=AE (by rw [jX,jX])
    clear hx' hy' HE
    go_wp2_with (go_at_call 28;refine (di _ _ _).mono ?_;rintro e w' ⟨rfl,rfl⟩;rw [HCE.out];by_cases hz:dh xs[k] ys[k]=0)
    ·have hz':(dh xs[k] ys[k] !=0)=false:=by simpa using hz
     have HZ:=AE hz
     generalize dh xs[k] ys[k]=r at *
     clear hz
     go_wp2_with fail
     go_round
     case rel=>exact ⟨k+1,by omega,by go_num,AE (by rw [HE2.out,if_pos HZ.out])⟩
     case measure=>simp [intOf];omega
    ·have hz':(dh xs[k] ys[k] !=0)=true:=by simpa using hz
     have HZ:=AE hz
     generalize dh xs[k] ys[k]=r at *
     clear hz
     go_wp2_with fail
     go_ret
     exact ⟨av (by rw [HE2.out,if_neg HZ.out]),rfl⟩
   ·have hg:decide ((k:Int)≥ys.length)=true:=by simp;omega
    have hg2:decide ((ys.length:Int)≤(k:Int))=true:=by simp;omega
    have HE2:Hid (dH xs ys=1):=AE (by rw [HE.out,hx',List.drop_eq_nil_of_le (show ys.length≤k by omega)];rfl)
    clear hx' HE
    go_wp2_with fail
    go_ret
    exact ⟨av HE2.out.symm,rfl⟩
  ·have hz:xs.drop k=[]:=List.drop_eq_nil_of_le (by omega)
   obtain rfl:k=xs.length:=by omega
   by_cases hlt2:xs.length<ys.length
   ·have HE2:Hid (dH xs ys=-1):=AE (by rw [HE.out,hz,List.drop_eq_getElem_cons hlt2];rfl)
    clear hz HE
    go_wp2_with fail
    go_ret
    exact ⟨av HE2.out.symm,rfl⟩
   ·have HE2:Hid (dH xs ys=0):=AE (by rw [HE.out,hz,List.drop_eq_nil_of_le (by omega)];rfl)
    clear hz HE
    go_wp2_with fail
    go_ret
    exact ⟨av HE2.out.symm,rfl⟩
structure Ans where
 b:Bd
 o:Int
def aT (x y:Ans):Int:=orL [dH x.b.names y.b.names,bM (aV 3) x.b.terms y.b.terms,cW x.o y.o]
def anV (x:Ans) (An:Option Addr) (cn:Nat) (At:Option Addr) (ct:Nat):List Value:=[.slice An x.b.names.length cn,.slice At x.b.terms.length ct,.int .u32 x.o]
def nA (d:Nat):Reader Ans where
 k:=3
 rd:=fun w B x vs=>∃An cn At ct,vs=anV x An cn At ct∧RL cX w B (x.b.names.map mkS) An∧RL (TmR d) w B x.b.terms At
 keep:=fun hw hB ⟨An,cn,At,ct,e,h1,h2⟩=>⟨An,cn,At,ct,e,h1.keep hw hB,h2.keep hw hB⟩
 wide:=fun hB ⟨An,cn,At,ct,e,h1,h2⟩=>⟨An,cn,At,ct,e,h1.wide hB,h2.wide hB⟩
 len:=fun ⟨_,_,_,_,e,_⟩=>by rw [e];rfl
structure AnOk (x:Ans):Prop where
 nm:x.b.names.length≤32
 tm:x.b.terms.length≤32
theorem mz {d e B:Nat} {x y:Ans} {va vb:List Value} {w:World} (ha:(nA d).rd w B x va) (hb:(nA e).rd w B y vb) (hx:AnOk x) (hy:AnOk y) (hB:B≤w.heap.size) :
 Calls Tryz.prog 78 #[.agg va.toArray,.agg vb.toArray] w fun z w'=>z=.returned (.int .i64 (aT x y))∧Below w.heap.size w w':=by
 obtain ⟨An,cn,At,ct,rfl,hn,ht⟩:=ha
 obtain ⟨An',cn',At',ct',rfl,hn',ht'⟩:=hb
 have HN:=AE hn
 have HT:=AE ht
 have HN':=AE hn'
 have HT':=AE ht'
 obtain ⟨x1,x2⟩:=hx
 obtain ⟨y1,y2⟩:=hy
 clear hn ht hn' ht'
 unfold anV
 go_enter Tryz.func78,Tryz.ntmps78
 go_upto_region 1 with fail
 generalize hW:World.alloc _ _=w1
 obtain ⟨hb,hz⟩:=al2 hW
 have HA1:=AE (n21 hW)
 have HB1:=AE (n22 hW)
 have HU1:=AE hb
 clear hW hb
 have hsz:=HU1.out.size
 have hB1:B≤w1.heap.size:=AF hB hsz
 have HSL:Hid (∀{w':World},Below w1.heap.size w1 w'→(w'.cell? ⟨w.heap.size,0,none⟩=some (.slice An x.b.names.length cn)∧w'.cell? ⟨w.heap.size,1,none⟩=some (.slice At x.b.terms.length ct)∧w'.cell? ⟨w.heap.size,2,none⟩=some (.int .u32 x.o)∧w'.cell? ⟨w.heap.size+1,0,none⟩=some (.slice An' y.b.names.length cn')∧w'.cell? ⟨w.heap.size+1,1,none⟩=some (.slice At' y.b.terms.length ct')∧w'.cell? ⟨w.heap.size+1,2,none⟩=some (.int .u32 y.o))):=AE (fun hb=>⟨(HA1.out.later hb).cell 0,(HA1.out.later hb).cell 1,(HA1.out.later hb).cell 2,(HB1.out.later hb).cell 0,(HB1.out.later hb).cell 1,(HB1.out.later hb).cell 2⟩)
 refine aM (fun w'=>w'.cell? ⟨w.heap.size,0,none⟩=some (.slice An x.b.names.length cn)∧w'.cell? ⟨w.heap.size,1,none⟩=some (.slice At x.b.terms.length ct)∧w'.cell? ⟨w.heap.size,2,none⟩=some (.int .u32 x.o)∧w'.cell? ⟨w.heap.size+1,0,none⟩=some (.slice An' y.b.names.length cn')∧w'.cell? ⟨w.heap.size+1,1,none⟩=some (.slice At' y.b.terms.length ct')∧w'.cell? ⟨w.heap.size+1,2,none⟩=some (.int .u32 y.o)) (by kernel_rfl) (HSL.out (AI _ _).drew) ?_
 refine ab 0 ?_
 refine ab 1 ?_
 refine ab 2 ?_
 refine ab 3 ?_
 refine ab 4 ?_
 refine ab 5 ?_
 refine ab 7 ?_
 refine ab 8 ?_
 refine ab 9 ?_
 refine ab 10 ?_
 refine ab 11 ?_
 refine ab 12 ?_
 refine ab 14 ?_
 refine ab 15 ?_
 refine ab 16 ?_
 refine ab 17 ?_
 generalize hD:World.drew w1=w2
 have HU:Hid (Below w1.heap.size w1 w2):=AE (hD▸(AI w1.heap.size w1).drew)
 clear hD
 refine aw (rs:=[6]) (by kernel_rfl) rfl ?_
 refine ak.cons rfl (fun K hK=>?_) ak.nil
 go_simp
 refine (gy x.b.names y.b.names An An' cn cn' B w2 (HN.out.keep (HU1.out.trans (HU.out.mono hsz)) hB) (HN'.out.keep (HU1.out.trans (HU.out.mono hsz)) hB) (AF hB1 HU.out.size) (by omega) (by omega)).mono ?_
 rintro e w' ⟨rfl,rfl⟩
 refine hK.out _ _ (HSL.out HU.out) ?_
 clear hK
 refine aw (rs:=[13]) (by kernel_rfl) rfl ?_
 refine ak.cons rfl (fun K hK=>?_) ak.nil
 go_simp
 refine (ed 55 #[] (aV 3) d e x.b.terms y.b.terms At At' ct ct' B w2 iq (HT.out.keep (HU1.out.trans (HU.out.mono hsz)) hB) (HT'.out.keep (HU1.out.trans (HU.out.mono hsz)) hB) (AF hB1 HU.out.size) (by omega) (by omega) (fun x y vs ws w9 hb9 hx hy=>dj d e x y vs ws B w9 hx hy (AF (AF hB1 HU.out.size) hb9.size))).mono ?_
 rintro z w3 ⟨rfl,hb3⟩
 have HU3:Hid (Below w1.heap.size w1 w3):=AE (HU.out.trans (hb3.mono HU.out.size))
 clear hb3
 refine hK.out _ _ (HSL.out HU3.out) ?_
 clear hK
 refine aw (rs:=[18]) (by kernel_rfl) rfl ?_
 refine ak.cons rfl (fun K hK=>?_) ak.nil
 go_simp
 refine (jB _ _ _).mono ?_
 rintro e w' ⟨rfl,rfl⟩
 refine hK.out _ _ (HSL.out HU3.out) ?_
 clear hK
 refine aw (rs:=[19]) (by kernel_rfl) rfl ?_
 refine ak.cons rfl (fun K hK=>?_) ak.nil
 go_simp
 generalize hW:World.alloc _ _=w4
 obtain ⟨hb4,hz4⟩:=al1 hW
 have HL4:=AE (n11 hW)
 have HU4:Hid (Below w1.heap.size w1 w4):=AE (HU3.out.trans (hb4.mono HU3.out.size))
 clear hW hb4
 refine hK.out _ _ (HSL.out HU4.out) ?_
 clear hK
 refine aw (rs:=[20]) (by kernel_rfl) rfl ?_
 refine ak.cons rfl (fun K hK=>?_) ak.nil
 go_simp
 refine (jd [dH x.b.names y.b.names,bM (aV 3) x.b.terms y.b.terms,cW x.o y.o] w3.heap.size w4 (fun i hi=>by
  rw [HL4.out.cell i]
  match i,hi with
  | 0,_=>rfl
  | 1,_=>rfl
  | 2,_=>rfl) (by simp)).mono ?_
 rintro e w' ⟨rfl,rfl⟩
 refine hK.out _ _ (HSL.out HU4.out) ?_
 clear hK
 refine ab 21 ?_
 refine bN (by kernel_rfl) ?_
 go_wp2_with fail
 go_ret
 exact ⟨av rfl,HU1.out.trans (HU4.out.mono hsz)⟩
theorem kY {d e B:Nat} {x y:Ans} {va vb:List Value} {w:World} (ha:(nA d).rd w B x va) (hb:(nA e).rd w B y vb) (hx:AnOk x) (hy:AnOk y) (hB:B≤w.heap.size) :
 Calls Tryz.prog 80 #[.agg va.toArray,.agg vb.toArray] w fun z w'=>z=.returned (.bool (aT x y==0))∧Below w.heap.size w w':=by
 have HA:=AE ha
 have HB:=AE hb
 obtain ⟨An,cn,At,ct,rfl,_,_⟩:=ha
 obtain ⟨An',cn',At',ct',rfl,_,_⟩:=hb
 unfold anV at HA HB ⊢
 go_enter Tryz.func80,Tryz.ntmps80
 go_wp2_with fail
 generalize hW:World.alloc _ _=w1
 obtain ⟨hb,hz⟩:=al2 hW
 have HU1:=AE hb
 have hsz:=hb.size
 clear hW hb
 refine (mz (d:=d) (e:=e) (B:=B) (va:=[_,_,_]) (vb:=[_,_,_]) ((nA d).keep HU1.out hB HA.out) ((nA e).keep HU1.out hB HB.out) hx hy (AF hB hsz)).mono ?_
 rintro z w2 ⟨rfl,hb⟩
 have HU2:=AE (aa HU1.out hb)
 clear hb
 go_wp2_with fail
 go_ret
 exact ⟨rfl,HU2.out⟩
structure BelowD (B:Nat) (w w':World):Prop where
 b:Below B w w'
 d:w.drawn≤w'.drawn
theorem BelowD.size {B:Nat} {w w':World} (h:BelowD B w w'):w.heap.size≤w'.heap.size:=h.b.size
theorem BelowD.refl (B:Nat) (w:World):BelowD B w w:=⟨AI B w,AG _⟩
theorem BelowD.trans {B:Nat} {w v u:World} (h:BelowD B w v) (k:BelowD B v u):BelowD B w u:=⟨h.b.trans k.b,AF h.d k.d⟩
theorem BelowD.mono {B C:Nat} {w v:World} (h:BelowD B w v) (k:C≤B):BelowD C w v:=⟨h.b.mono k,h.d⟩
theorem BelowD.drew {B:Nat} {w v:World} (h:BelowD B w v):BelowD B w v.drew:=⟨h.b.drew,Nat.le_succ_of_le h.d⟩
theorem BelowD.alloc {B:Nat} {w v:World} (h:BelowD B w v) (k:B≤v.heap.size) (o:Obj):BelowD B w (v.alloc o):=⟨h.b.alloc k o,h.d⟩
theorem BelowD.cell {B:Nat} {w v:World} (h:BelowD B w v) {p:Addr} (hp:p.block<B):v.cell? p=w.cell? p:=h.b.cell hp
theorem dr1 {w W:World} {o:Obj} (h:w.alloc o=W):W.drawn=w.drawn:=by subst h;rfl
theorem dr2 {w W:World} {o p:Obj} (h:(w.alloc o).alloc p=W):W.drawn=w.drawn:=by subst h;rfl
theorem fA (F:FuncId) (cap:Array Value) (f:Tm→Tm→Int) (d e:Nat) (xs ys:List Tm) (A A':Option Addr) (c c' B:Nat) (w:World)
 (hF:∀args (w:World),(callFunc F args).run Tryz.prog w=.ok (.enter F args) w)
 (hA:jt w B d xs A) (hA':jt w B e ys A') (hB:B≤w.heap.size) (hn:xs.length*40≤140737488351232) (hn':ys.length*40≤140737488351232)
 (hf:∀(x y:Tm) (vs ws:List Value) (w1:World),BelowD w.heap.size w w1→RTm w1 B d x vs→RTm w1 B e y ws →
  Calls Tryz.prog F (#[.agg vs.toArray,.agg ws.toArray]++cap) w1 fun e w'=>e=.returned (.int .i64 (f x y))∧BelowD w1.heap.size w1 w') :
 Calls Tryz.prog 54 #[.slice A xs.length c,.slice A' ys.length c',.func (.func F) #[] cap] w fun e w'=>e=.returned (.int .i64 (bM f xs ys))∧BelowD w.heap.size w w':=by
 have HF:=AE hf
 clear hf
 go_enter Tryz.func54,Tryz.ntmps54
 go_wp2_with fail
 go_loopw [13] (fun i wr=>∃k:Nat,k≤xs.length∧i=.int .i64 k∧BelowD w.heap.size w wr∧bM f xs ys=bM f (xs.drop k) (ys.drop k)) (fun i _=>xs.length-(intOf i).toNat)
 case atStart=>exact ⟨0,AH _,rfl,BelowD.refl _ _,rfl⟩
 case round=>
  obtain ⟨k,hk,rfl,hbw,heq⟩:=hrel
  have HE:=AE heq
  clear heq
  by_cases hlt:k<xs.length
  ·obtain ⟨b,off,x,Ax,cx,rfl,hb,hx,c0,c1,c2,c3,hr⟩:=hA.elem hbw.b hB hlt
   by_cases hlt2:k<ys.length
   ·obtain ⟨b',off',y,Ay,cy,rfl,hb',hy,e0,e1,e2,e3,hr'⟩:=hA'.elem hbw.b hB hlt2
    have hsz:=hbw.size
    have hbw2:∀o o':Obj,BelowD w.heap.size w ((wr.alloc o).alloc o'):=fun o o'=>(hbw.alloc hsz _).alloc (by simp;omega) _
    have hbr2:∀o o':Obj,BelowD wr.heap.size wr ((wr.alloc o).alloc o'):=fun o o'=>((BelowD.refl _ _).alloc (AG _) _).alloc (by simp) _
    have HB:=AE hbw2
    have HR:=AE hbr2
    have hx':xs.drop k=x::xs.drop (k+1):=by
     obtain ⟨h1,h2⟩:=List.getElem?_eq_some_iff.1 hx
     rw [←h2];exact List.drop_eq_getElem_cons h1
    have hy':ys.drop k=y::ys.drop (k+1):=by
     obtain ⟨h1,h2⟩:=List.getElem?_eq_some_iff.1 hy
     rw [←h2];exact List.drop_eq_getElem_cons h1
    have HE2:Hid (bM f xs ys=if f x y=0 then bM f (xs.drop (k+1)) (ys.drop (k+1)) else f x y):=by
     have:=HE.out
     rw [hx',hy'] at this
     exact this
    clear hbw2 hbr2 hx' hy' HE
    go_wp2_with fail
    refine (HF.out x y [_,_,_,_] [_,_,_,_] _ (HB.out _ _) (hr.below (HR.out _ _).b (by omega)) (hr'.below (HR.out _ _).b (by omega))).mono ?_
    rintro e w1 ⟨rfl,hb1⟩
    have hbw1:=AE ((HB.out _ _).trans (hb1.mono (by simp;omega)))
    clear hb1
    by_cases hz:(f x y !=0)=true
    ·go_wp2_with fail
     go_ret
     exact ⟨av (by rw [HE2.out,if_neg (by simpa using hz)]),hbw1.out⟩
    ·have hz':(f x y !=0)=false:=by simpa using hz
     go_wp2_with fail
     go_roundw
     case rel=>exact ⟨k+1,by omega,by go_num,hbw1.out,by rw [HE2.out,if_pos (by simpa using hz')]⟩
     case measure=>simp [intOf];omega
   ·have hz:ys.drop k=[]:=List.drop_eq_nil_iff.2 (by omega)
    have HE2:Hid (bM f xs ys=1):=by
     have:=HE.out
     obtain ⟨h1,h2⟩:=List.getElem?_eq_some_iff.1 hx
     rw [List.drop_eq_getElem_cons h1,hz] at this
     exact this
    have hbw2:=AE (fun o:Obj=>hbw.alloc hbw.size o)
    clear HE hz
    go_wp2_with fail
    go_ret
    exact ⟨av HE2.out.symm,hbw2.out _⟩
  ·have hz:xs.drop k=[]:=List.drop_eq_nil_iff.2 (by omega)
   have HE2:=HE.out
   rw [hz] at HE2
   have HE3:=AE HE2
   clear HE HE2 hz
   by_cases hlt2:xs.length<ys.length
   ·go_wp2_with fail
    go_ret
    obtain rfl:k=xs.length:=by omega
    exact ⟨av (by rw [HE3.out,List.drop_eq_getElem_cons hlt2];rfl),hbw⟩
   ·go_wp2_with fail
    go_ret
    obtain rfl:k=xs.length:=by omega
    exact ⟨av (by rw [HE3.out,List.drop_eq_nil_iff.2 (by omega)];rfl),hbw⟩
theorem qF (w:World) (o1 o2 o3 o4:Obj):BelowD w.heap.size w ((((w.alloc o1).alloc o2).alloc o3).alloc o4).drew:=
 ((((((BelowD.refl _ _).alloc (AG _) _).alloc (by simp) _).alloc (by simp;omega) _).alloc (by simp;omega) _)).drew
theorem mC (d:Nat) (hd:d≤100) (ih:∀(da db:Nat) (a b:Tm) (vs ws:List Value) (B:Nat) (w:World),RTm w B da a vs→RTm w B db b ws→B≤w.heap.size →
 Calls Tryz.prog 73 #[.agg vs.toArray,.agg ws.toArray,.int .i64 d] w fun e w'=>e=.returned (.int .i64 (aV d a b))∧BelowD w.heap.size w w')
 (da db:Nat) (a b:Tm) (vs ws:List Value) (G B:Nat) (w:World) (hG:w.cell? ⟨G,0,none⟩=some (.int .i64 (d+1))) (ha:RTm w B da a vs) (hb:RTm w B db b ws) (hB:B≤w.heap.size) :
 Calls Tryz.prog 95 #[.agg vs.toArray,.agg ws.toArray,.pointer (some ⟨G,0,none⟩)] w fun e w'=>e=.returned (.int .i64 (aV d a b))∧BelowD w.heap.size w w':=by
 have HI:=AE ih
 clear ih
 obtain ⟨A,c,rfl,_⟩:=ha.cells
 obtain ⟨A',c',rfl,_⟩:=hb.cells
 have hGl:G<w.heap.size:=block_lt_of_cell hG
 go_enter Tryz.func95,Tryz.ntmps95
 have hbel:BelowD w.heap.size w ((w.alloc (.cells #[.int .i64 a.kind,.int .i64 a.n,.string a.s,.slice A a.l.length c] 29)).alloc (.cells #[.int .i64 b.kind,.int .i64 b.n,.string b.s,.slice A' b.l.length c'] 29)):=
  ((BelowD.refl _ _).alloc (AG _) _).alloc (by simp) _
 have HB:=AE hbel
 clear hbel
 go_wp2_with fail
 refine (HI.out da db a b [_,_,_,_] [_,_,_,_] B _ (ha.below HB.out.b hB) (hb.below HB.out.b hB) (AF hB HB.out.size)).mono ?_
 rintro e w1 ⟨rfl,hb1⟩
 have hfin:=AE (HB.out.trans (hb1.mono HB.out.size))
 clear hb1
 go_wp2_with fail
 go_ret
 exact ⟨rfl,hfin.out⟩
theorem nM (d:Nat) (hd:d≤100):∀(da db:Nat) (a b:Tm) (vs ws:List Value) (B:Nat) (w:World),RTm w B da a vs→RTm w B db b ws→B≤w.heap.size →
 Calls Tryz.prog 73 #[.agg vs.toArray,.agg ws.toArray,.int .i64 d] w fun e w'=>e=.returned (.int .i64 (aV d a b))∧BelowD w.heap.size w w':=by
 induction d with
 | zero=>
   intro da db a b vs ws B w ha hb hB
   obtain ⟨A,c,rfl,_⟩:=ha.cells
   obtain ⟨A',c',rfl,_⟩:=hb.cells
   show Calls _ _ #[_,_,.int .i64 0] _ _
   go_enter Tryz.func73,Tryz.ntmps73
   go_wp2_with fail
   refine bp 15 (by kernel_rfl) (by kernel_rfl) ?_
   simp only [List.take_succ_cons,List.take_zero,List.drop_succ_cons,List.drop_zero]
   repeat still_step
   still_call (kw (dS _ _ _))
   repeat still_step
   still_call (kw (eD _ _ _))
   repeat still_step
   still_call (kw (di _ _ _))
   refine wpStill_nil ?_
   go_wp2_with fail
   refine (je (cW a.kind b.kind) (cW a.n b.n) (dh (bs a.s) (bs b.s)) _ _ (by go_simp) (by go_simp) (by go_simp)).mono ?_
   rintro e w' ⟨rfl,rfl⟩
   by_cases hz:(iE a b !=0)=true
   all_goals (unfold iE at hz;try rw [Bool.not_eq_true] at hz)
   all_goals
    go_wp2_with fail
    go_ret
    exact ⟨rfl,qF _ _ _ _ _⟩
 | succ d ih=>
   intro da db a b vs ws B w ha hb hB
   obtain ⟨A,c,rfl,_⟩:=ha.cells
   obtain ⟨A',c',rfl,_⟩:=hb.cells
   go_enter Tryz.func73,Tryz.ntmps73
   go_wp2_with fail
   refine bp 15 (by kernel_rfl) (by kernel_rfl) ?_
   simp only [List.take_succ_cons,List.take_zero,List.drop_succ_cons,List.drop_zero]
   repeat still_step
   still_call (kw (dS _ _ _))
   repeat still_step
   still_call (kw (eD _ _ _))
   repeat still_step
   still_call (kw (di _ _ _))
   refine wpStill_nil ?_
   go_wp2_with fail
   refine (je (cW a.kind b.kind) (cW a.n b.n) (dh (bs a.s) (bs b.s)) _ _ (by go_simp) (by go_simp) (by go_simp)).mono ?_
   rintro e w' ⟨rfl,rfl⟩
   have hd0:(((d+1:Nat):Int)==0)=false:=by simp;omega
   by_cases hz:(iE a b !=0)=true
   all_goals (have HZ:=AE hz;unfold iE at hz;try rw [Bool.not_eq_true] at hz)
   ·go_wp2_with fail
    go_ret
    exact ⟨av (by rw [aV,if_neg (by simpa using HZ.out)];rfl),qF _ _ _ _ _⟩
   ·go_wp2_with fail
    obtain ⟨_,_,e1,a1,a2,a3,a4,a5,hA⟩:=ha.cells
    obtain ⟨rfl,rfl⟩:_∧_:=by simpa using e1
    obtain ⟨_,_,e2,b1,b2,b3,b4,b5,hB'⟩:=hb.cells
    obtain ⟨rfl,rfl⟩:_∧_:=by simpa using e2
    have hbel:=qF w (.cells #[.int .i64 a.kind,.int .i64 a.n,.string a.s,.slice A a.l.length c] 29) (.cells #[.int .i64 b.kind,.int .i64 b.n,.string b.s,.slice A' b.l.length c'] 29)
     (.cells #[.int .i64 (d+1)] 3) (.cells #[.int .i64 (cW a.kind b.kind),.int .i64 (cW a.n b.n),.int .i64 (dh (bs a.s) (bs b.s))] 3)
    refine (fA 95 _ (aV d) (da-1) (db-1) a.l b.l A A' c c' B _ sf (hA.below hbel.b hB) (hB'.below hbel.b hB) (AF hB hbel.size) (by omega) (by omega) ?_).mono ?_
    ·intro x y vs ws w1 hb1 hx hy
     refine (mC d (by omega) (fun da db a b vs ws B w h1 h2 h3=>ih (by omega) da db a b vs ws B w h1 h2 h3) _ _ x y vs ws _ B w1 ((hb1.cell (by simp)).trans (by go_simp)) hx hy (AF hB (AF hbel.size hb1.size)))
    ·rintro e w1 ⟨rfl,hb1⟩
     have hfin:=hbel.trans (hb1.mono hbel.size)
     clear hb1 hbel
     go_wp2_with fail
     go_ret
     exact ⟨av (by rw [aV,if_pos (by simpa using HZ.out)]),hfin⟩
theorem oZ (da db:Nat) (a b:Tm) (vs ws:List Value) (B:Nat) (w:World) (ha:RTm w B da a vs) (hb:RTm w B db b ws) (hB:B≤w.heap.size) :
 Calls Tryz.prog 55 #[.agg vs.toArray,.agg ws.toArray] w fun e w'=>e=.returned (.int .i64 (aV 3 a b))∧BelowD w.heap.size w w':=by
 obtain ⟨A,c,rfl,_⟩:=ha.cells
 obtain ⟨A',c',rfl,_⟩:=hb.cells
 have hbel:BelowD w.heap.size w ((w.alloc (.cells #[.int .i64 a.kind,.int .i64 a.n,.string a.s,.slice A a.l.length c] 29)).alloc (.cells #[.int .i64 b.kind,.int .i64 b.n,.string b.s,.slice A' b.l.length c'] 29)):=
  ((BelowD.refl _ _).alloc (AG _) _).alloc (by simp) _
 have HB:=AE hbel
 clear hbel
 go_enter Tryz.func55,Tryz.ntmps55
 go_wp2_with fail
 refine (nM 3 (by omega) da db a b [_,_,_,_] [_,_,_,_] B _ (ha.below HB.out.b hB) (hb.below HB.out.b hB) (AF hB HB.out.size)).mono ?_
 rintro e w1 ⟨rfl,hb1⟩
 have hfin:=AE (HB.out.trans (hb1.mono HB.out.size))
 clear hb1
 go_wp2_with fail
 go_ret
 exact ⟨rfl,hfin.out⟩
theorem kX {d e B:Nat} {x y:Ans} {va vb:List Value} {w:World} (ha:(nA d).rd w B x va) (hb:(nA e).rd w B y vb) (hx:AnOk x) (hy:AnOk y) (hB:B≤w.heap.size) :
 Calls Tryz.prog 78 #[.agg va.toArray,.agg vb.toArray] w fun z w'=>z=.returned (.int .i64 (aT x y))∧BelowD w.heap.size w w':=by
 obtain ⟨An,cn,At,ct,rfl,hn,ht⟩:=ha
 obtain ⟨An',cn',At',ct',rfl,hn',ht'⟩:=hb
 have HN:=AE hn
 have HT:=AE ht
 have HN':=AE hn'
 have HT':=AE ht'
 obtain ⟨x1,x2⟩:=hx
 obtain ⟨y1,y2⟩:=hy
 clear hn ht hn' ht'
 unfold anV
 go_enter Tryz.func78,Tryz.ntmps78
 go_upto_region 1 with fail
 generalize hW:World.alloc _ _=w1
 have hdr:=dr2 hW
 obtain ⟨hb,hz⟩:=al2 hW
 have HA1:=AE (n21 hW)
 have HB1:=AE (n22 hW)
 have HU1:=AE (BelowD.mk hb (Nat.le_of_eq hdr.symm))
 clear hW hb hdr
 have hsz:=HU1.out.size
 have hB1:B≤w1.heap.size:=AF hB hsz
 have HSL:Hid (∀{w':World},Below w1.heap.size w1 w'→(w'.cell? ⟨w.heap.size,0,none⟩=some (.slice An x.b.names.length cn)∧w'.cell? ⟨w.heap.size,1,none⟩=some (.slice At x.b.terms.length ct)∧w'.cell? ⟨w.heap.size,2,none⟩=some (.int .u32 x.o)∧w'.cell? ⟨w.heap.size+1,0,none⟩=some (.slice An' y.b.names.length cn')∧w'.cell? ⟨w.heap.size+1,1,none⟩=some (.slice At' y.b.terms.length ct')∧w'.cell? ⟨w.heap.size+1,2,none⟩=some (.int .u32 y.o))):=AE (fun hb=>⟨(HA1.out.later hb).cell 0,(HA1.out.later hb).cell 1,(HA1.out.later hb).cell 2,(HB1.out.later hb).cell 0,(HB1.out.later hb).cell 1,(HB1.out.later hb).cell 2⟩)
 refine aM (fun w'=>w'.cell? ⟨w.heap.size,0,none⟩=some (.slice An x.b.names.length cn)∧w'.cell? ⟨w.heap.size,1,none⟩=some (.slice At x.b.terms.length ct)∧w'.cell? ⟨w.heap.size,2,none⟩=some (.int .u32 x.o)∧w'.cell? ⟨w.heap.size+1,0,none⟩=some (.slice An' y.b.names.length cn')∧w'.cell? ⟨w.heap.size+1,1,none⟩=some (.slice At' y.b.terms.length ct')∧w'.cell? ⟨w.heap.size+1,2,none⟩=some (.int .u32 y.o)) (by kernel_rfl) (HSL.out (AI _ _).drew) ?_
 refine ab 0 ?_
 refine ab 1 ?_
 refine ab 2 ?_
 refine ab 3 ?_
 refine ab 4 ?_
 refine ab 5 ?_
 refine ab 7 ?_
 refine ab 8 ?_
 refine ab 9 ?_
 refine ab 10 ?_
 refine ab 11 ?_
 refine ab 12 ?_
 refine ab 14 ?_
 refine ab 15 ?_
 refine ab 16 ?_
 refine ab 17 ?_
 generalize hD:World.drew w1=w2
 have HU:Hid (BelowD w1.heap.size w1 w2):=AE (hD▸(BelowD.refl w1.heap.size w1).drew)
 clear hD
 refine aw (rs:=[6]) (by kernel_rfl) rfl ?_
 refine ak.cons rfl (fun K hK=>?_) ak.nil
 go_simp
 refine (gy x.b.names y.b.names An An' cn cn' B w2 (HN.out.keep (HU1.out.trans (HU.out.mono hsz)).b hB) (HN'.out.keep (HU1.out.trans (HU.out.mono hsz)).b hB) (AF hB1 HU.out.size) (by omega) (by omega)).mono ?_
 rintro e w' ⟨rfl,rfl⟩
 refine hK.out _ _ (HSL.out HU.out.b) ?_
 clear hK
 refine aw (rs:=[13]) (by kernel_rfl) rfl ?_
 refine ak.cons rfl (fun K hK=>?_) ak.nil
 go_simp
 refine (fA 55 #[] (aV 3) d e x.b.terms y.b.terms At At' ct ct' B w2 iq (HT.out.keep (HU1.out.trans (HU.out.mono hsz)).b hB) (HT'.out.keep (HU1.out.trans (HU.out.mono hsz)).b hB) (AF hB1 HU.out.size) (by omega) (by omega) (fun x y vs ws w9 hb9 hx hy=>oZ d e x y vs ws B w9 hx hy (AF (AF hB1 HU.out.size) hb9.size))).mono ?_
 rintro z w3 ⟨rfl,hb3⟩
 have HU3:Hid (BelowD w1.heap.size w1 w3):=AE (HU.out.trans (hb3.mono HU.out.size))
 clear hb3
 refine hK.out _ _ (HSL.out HU3.out.b) ?_
 clear hK
 refine aw (rs:=[18]) (by kernel_rfl) rfl ?_
 refine ak.cons rfl (fun K hK=>?_) ak.nil
 go_simp
 refine (jB _ _ _).mono ?_
 rintro e w' ⟨rfl,rfl⟩
 refine hK.out _ _ (HSL.out HU3.out.b) ?_
 clear hK
 refine aw (rs:=[19]) (by kernel_rfl) rfl ?_
 refine ak.cons rfl (fun K hK=>?_) ak.nil
 go_simp
 generalize hW:World.alloc _ _=w4
 have hb4:BelowD w3.heap.size w3 w4:=⟨(al1 hW).1,Nat.le_of_eq (dr1 hW).symm⟩
 have HL4:=AE (n11 hW)
 have HU4:Hid (BelowD w1.heap.size w1 w4):=AE (HU3.out.trans (hb4.mono HU3.out.size))
 clear hW hb4
 refine hK.out _ _ (HSL.out HU4.out.b) ?_
 clear hK
 refine aw (rs:=[20]) (by kernel_rfl) rfl ?_
 refine ak.cons rfl (fun K hK=>?_) ak.nil
 go_simp
 refine (jd [dH x.b.names y.b.names,bM (aV 3) x.b.terms y.b.terms,cW x.o y.o] w3.heap.size w4 (fun i hi=>by
  rw [HL4.out.cell i]
  match i,hi with
  | 0,_=>rfl
  | 1,_=>rfl
  | 2,_=>rfl) (by simp)).mono ?_
 rintro e w' ⟨rfl,rfl⟩
 refine hK.out _ _ (HSL.out HU4.out.b) ?_
 clear hK
 refine ab 21 ?_
 refine bN (by kernel_rfl) ?_
 go_wp2_with fail
 go_ret
 exact ⟨av rfl,HU1.out.trans (HU4.out.mono hsz)⟩
theorem tD {w w':World} (h:BelowD w.heap.size w w'):∃q os,w'=Sort.grow (w.drewN q) os:=by
 obtain ⟨p,hp⟩:=regrown_of_below h.b
 refine ⟨w'.drawn-w.drawn,p.os,?_⟩
 have hd:=h.d
 have e1:w'.drawn=p.d:=by rw [hp];rfl
 rw [hp]
 unfold Sort.grow redrawn World.drewN
 simp only [World.mk.injEq,true_and,and_true]
 show p.d=w.drawn+(p.d-w.drawn)
 omega
structure Ins where
 kind:Int
 a:Int
 b:Int
 c:Int
 d:Int
 x:Int
 y:Int
def Ins.word (i:Ins) (j:Nat):Int:=if j=0 then i.a else if j=1 then i.b else if j=2 then i.c else i.d
def Ins.put (i:Ins) (j:Nat) (v:Int):Ins:=if j=0 then { i with a:=v } else if j=1 then { i with b:=v } else if j=2 then { i with c:=v } else { i with d:=v }
def mw (i:Ins) (c:Nat):Ins:=i.put (c / 64) (bits .or .u64 (i.word (c / 64)) (IntKind.u64.wrap (1*2 ^ (c % 64))))
def ci:Ins:=⟨1,0,0,0,0,0,0⟩
def nF:Int:=18446744073709551615
def anyI:Ins:=⟨1,nF,nF,nF,nF,0,0⟩
def hU (k:Int) (i:Ins):Ins:=if i.kind=2 then { i with x:=wrap64 (i.x+k),y:=wrap64 (i.y+k) } else if i.kind=3 then { i with x:=wrap64 (i.x+k) } else i
def bD (x y:Int):Ins:=⟨2,0,0,0,0,x,y⟩
def iW (x:Int):Ins:=⟨3,0,0,0,0,x,0⟩
def qW:Ins:=⟨6,0,0,0,0,0,0⟩
def aL (l:List Ins) (k:Int):List Ins:=l.map (hU k)
def io (a b:List Ins):List Ins:=[bD 1 (a.length+2)]++aL a 1++[iW (a.length+2+b.length)]++aL b (a.length+2)
structure PS where
 at_:Nat
 deep:Nat
 e:Int
def ch (s:ByteArray) (k:Nat):Nat:=((bs s)[k]?.map UInt8.toNat).getD 0
def bP (s:ByteArray) (p:PS):Bool:=decide (p.e≠0)||decide (s.size≤p.at_)
def isP (s:ByteArray) (p:PS) (c:Nat):Bool:=!bP s p&&decide (ch s p.at_=c)
def bj (p:PS) (e:Int):PS:=if p.e=0 then { p with e:=e } else p
def PS.step (p:PS):PS:={ p with at_:=p.at_+1 }
def aI (s:ByteArray) (p:PS):Nat × PS:=if bP s p then (0,bj p 3) else (ch s p.at_,p.step)
def aR (s:ByteArray) (p:PS):Nat × PS:=
 let r:=aI s p
 if r.1=92 then aI s r.2 else r
def el (i:Ins) (f t:Nat):Ins:=(List.range (t+1-f)).foldl (fun i k=>mw i (f+k)) i
def eX (s:ByteArray) (p:PS):(Nat × Nat) × PS:=
 let r:=aR s p
 if isP s r.2 45&&(decide (r.2.at_+1<s.size)&&decide (ch s (r.2.at_+1)≠93)) then
  let q:=aR s r.2.step
  ((r.1,q.1),q.2)
 else ((r.1,r.1),r.2)
def bm (s:ByteArray):Nat→PS→Ins→Ins × PS
 | 0,p,i=>(i,p)
 | n+1,p,i=>
   if !bP s p&&!isP s p 93 then
    let r:=eX s p
    bm s n (if r.1.2<r.1.1 then bj r.2 3 else r.2) (el i r.1.1 r.1.2)
   else (i,p)
def oY (v:Int):Int:=bits .xor .u64 (if IntKind.u64.signed=true then -1 else IntKind.u64.max) v
def rZ (i:Ins):Ins:=⟨i.kind,oY i.a,oY i.b,oY i.c,oY i.d,i.x,i.y⟩
def dY (s:ByteArray) (p:PS):Ins × PS:=
 let not_:=isP s p 94
 let p1:=if not_ then p.step else p
 let p2:=if isP s p1 93 then bj p1 3 else p1
 let r:=bm s (s.size+1-p2.at_) p2 ci
 let q:=aI s r.2
 (if not_ then rZ r.1 else r.1,q.2)
def lg (c:Nat):Bool:=decide (c=41)||decide (c=42)||decide (c=43)||decide (c=63)||decide (c=124)
mutual
def rx (s:ByteArray):Nat→PS→List Ins × PS
 | 0,p=>([],p)
 | n+1,p=>
   let r:=jO s n p []
   if isP s r.2 124 then
    let q:=rx s n r.2.step
    (io r.1 q.1,q.2)
   else r
def jO (s:ByteArray):Nat→PS→List Ins→List Ins × PS
 | 0,p,out=>(out,p)
 | n+1,p,out=>
   if !bP s p&&(!isP s p 124&&!isP s p 41) then
    let r:=eT s n p
    jO s n r.2 (out++aL r.1 out.length)
   else (out,p)
def eT (s:ByteArray):Nat→PS→List Ins × PS
 | 0,p=>([],p)
 | n+1,p=>
   let r:=fO s n p
   if isP s r.2 42 then ([bD 1 (r.1.length+2)]++aL r.1 1++[iW 0],r.2.step)
   else if isP s r.2 43 then (r.1++[bD 0 (r.1.length+1)],r.2.step)
   else if isP s r.2 63 then ([bD 1 (r.1.length+1)]++aL r.1 1,r.2.step)
   else r
def fO (s:ByteArray):Nat→PS→List Ins × PS
 | 0,p=>([],p)
 | n+1,p=>
   let r:=aI s p
   if r.1=40∧r.2.e=0 then
    if r.2.deep=20 then ([],bj r.2 4)
    else
     let q:=rx s n ⟨r.2.at_,r.2.deep+1,r.2.e⟩
     let z:=aI s q.2
     let f:=if z.1≠41 then bj z.2 3 else z.2
     (q.1,⟨f.at_,f.deep-1,f.e⟩)
   else if r.1=91 then
    let q:=dY s r.2
    ([q.1],q.2)
   else if r.1=46 then ([anyI],r.2)
   else if r.1=94 then ([⟨4,0,0,0,0,0,0⟩],r.2)
   else if r.1=36 then ([⟨5,0,0,0,0,0,0⟩],r.2)
   else if r.1=92 then
    let q:=aI s r.2
    ([mw ci q.1],q.2)
   else if lg r.1 then ([ci],bj r.2 3)
   else ([mw ci r.1],r.2)
end
def fB (rem:Nat):Nat:=4*rem+4
def zN (s:ByteArray) (p:PS):PS:=if bP s p then p else bj p 3
def ec (s:ByteArray):List Ins × Int:=
 if 256<s.size then ([],4)
 else
  let r:=rx s (fB s.size) ⟨0,0,0⟩
  if (zN s r.2).e=0 then (r.1++[qW],0) else ([],(zN s r.2).e)
def psA (s:ByteArray) (p:PS):Array Value:=#[.string s,.int .i64 p.at_,.int .i64 p.deep,.int .i64 p.e]
theorem jT {n:Int} (h0:-9223372036854775808≤n) (h1:n<9223372036854775808):wrap64 n=n:=by rw [ms];split<;>omega
theorem gH {s:ByteArray} {k:Nat} (h:k<s.size):ch s k=s[k].toNat:=by
 have hl:k<(bs s).length:=by rw [iK];exact h
 unfold ch
 rw [AO hl]
 rfl
theorem vd (s:ByteArray) (k:Nat):ch s k<256:=by
 unfold ch
 rcases (bs s)[k]? with _ | b
 ·simp
 ·simp;exact b.toNat_lt
theorem du {w:World} {P:Nat} {s:ByteArray} {p:PS} (hb:Blk w P (psA s p)) (hs:s.size≤1000000) (ha:p.at_≤1000000) :
 Calls Tryz.prog 222 #[.pointer (some ⟨P,0,none⟩)] w fun e w'=>e=.returned (.bool (bP s p))∧Below w.heap.size w w':=by
 obtain ⟨at_,deep,e⟩:=p
 have hb:Blk w P #[.string s,.int .i64 at_,.int .i64 deep,.int .i64 e]:=hb
 have q_p:=hb.regrown
 simp only at ha
 rcases Bool.eq_false_or_eq_true (e !=0) with he | he
 all_goals
  go_enter Tryz.func222,Tryz.ntmps222
  go_wp2_with fail
  refine wp_region_quiet_below (by kernel_rfl) (by kernel_rfl) ?_
  repeat (go_big_quiet_step (fail))
  refine wpQuiet_nil ?_
  intro w3 hw3
  have hb1:Below w.heap.size w w3:=by obtain ⟨p,rfl⟩:=hw3;exact below_regrown _ _ _
  clear hw3 q_p
  go_wp2_with fail
  go_ret
  refine ⟨ac ?_,hb1⟩
  simp only [bne_iff_ne,ne_eq,bne_eq_false_iff_eq] at he
  simp [bP,he]
theorem cG {w:World} {P:Nat} {s:ByteArray} {p:PS} {c:Nat} (hb:Blk w P (psA s p)) (hs:s.size≤1000000) (ha:p.at_≤1000000) :
 Calls Tryz.prog 230 #[.pointer (some ⟨P,0,none⟩),.int .u8 c] w fun e w'=>e=.returned (.bool (isP s p c))∧Below w.heap.size w w':=by
 have hb0:=hb
 have HB0:=AE hb
 rcases Bool.eq_false_or_eq_true (bP s p) with he | he
 ·have HE:=AE he
  clear he
  go_enter Tryz.func230,Tryz.ntmps230
  go_wp2_with fail
  refine wp_region_quiet_below (by kernel_rfl) (by kernel_rfl) ?_
  repeat (go_big_quiet_step ((go_at_call 222;exact Calls.regrown_of (dg HE.out (du (HB0.out.later (below_regrown _ _ _)) hs ha)))))
  refine wpQuiet_nil ?_
  intro w3 hw3
  have hb1:Below w.heap.size w w3:=by obtain ⟨p,rfl⟩:=hw3;exact below_regrown _ _ _
  clear hw3
  go_wp2_with fail
  go_ret
  exact ⟨ac (by unfold isP;rw [HE.out];rfl),hb1⟩
 ·have HE:=AE he
  have hlt:p.at_<s.size:=by
   unfold bP at he
   simp only [Bool.or_eq_false_iff,decide_eq_false_iff_not] at he
   omega
  have HX:Hid (ch s p.at_=s[p.at_].toNat):=AE (gH hlt)
  obtain ⟨at_,deep,e⟩:=p
  have hb:Blk w P #[.string s,.int .i64 at_,.int .i64 deep,.int .i64 e]:=hb
  have q_p:=hb.regrown
  simp only at ha hlt HX
  clear he hb0
  go_enter Tryz.func230,Tryz.ntmps230
  go_wp2_with fail
  refine wp_region_quiet_below (by kernel_rfl) (by kernel_rfl) ?_
  repeat (go_big_quiet_step ((go_at_call 222;exact Calls.regrown_of (dg HE.out (du (HB0.out.later (below_regrown _ _ _)) hs ha)))))
  refine wpQuiet_nil ?_
  intro w3 hw3
  have hb1:Below w.heap.size w w3:=by obtain ⟨p,rfl⟩:=hw3;exact below_regrown _ _ _
  clear hw3 q_p
  go_wp2_with fail
  go_ret
  refine ⟨ac ?_,hb1⟩
  unfold isP
  rw [HE.out]
  simp only [Bool.not_false,Bool.true_and]
  rw [HX.out,Bool.eq_iff_iff]
  simp
  try omega
theorem ee {w:World} {P:Nat} {s:ByteArray} {p:PS} {n:Int} (hb:Blk w P (psA s p)) :
 Calls Tryz.prog 223 #[.pointer (some ⟨P,0,none⟩),.int .i64 n] w fun e w'=>e=.returned (.tuple #[])∧Exc P w w'∧Blk w' P (psA s (bj p n)):=by
 obtain ⟨at_,deep,e⟩:=p
 have hb:Blk w P #[.string s,.int .i64 at_,.int .i64 deep,.int .i64 e]:=hb
 have k_p:=hb.cell
 have f_p:=hb.free
 have HB:=AE hb
 clear hb
 by_cases he:e=0
 ·subst he
  go_enter Tryz.func223,Tryz.ntmps223
  go_wp2_with fail
  go_end0
  exact ⟨rfl,(Exc.refl P w).set 3 _,HB.out.set_ 3 _⟩
 ·have HE:=AE he
  go_enter Tryz.func223,Tryz.ntmps223
  go_wp2_with fail
  go_end0
  refine ⟨rfl,Exc.refl P w,?_⟩
  unfold bj
  rw [if_neg HE.out]
  exact HB.out
theorem next_le {s:ByteArray} {p:PS}:(aI s p).2.at_≤p.at_+1:=by
 unfold aI bj PS.step
 split<;>(try split)<;>simp
theorem rt {s:ByteArray} {p:PS} (h:bP s p=false):p.e=0∧p.at_<s.size:=by
 unfold bP at h
 simp only [Bool.or_eq_false_iff,decide_eq_false_iff_not,ne_eq,Classical.not_not] at h
 omega
theorem fp {w:World} {P:Nat} {s:ByteArray} {p:PS} (hb:Blk w P (psA s p)) (hs:s.size≤1000000) (ha:p.at_≤1000000) :
 Calls Tryz.prog 237 #[.pointer (some ⟨P,0,none⟩)] w fun e w'=>e=.returned (.int .u8 (aI s p).1)∧Exc P w w'∧Blk w' P (psA s (aI s p).2):=by
 have HB:=AE hb
 have hlt:=hb.lt
 clear hb
 rcases Bool.eq_false_or_eq_true (bP s p) with he | he
 ·have HN:Hid (aI s p=(0,bj p 3)):=AE (by unfold aI;rw [if_pos he])
  have HE:=AE he
  clear he
  go_enter Tryz.func237,Tryz.ntmps237
  go_wp2_with fail
  refine (du HB.out hs ha).mono ?_
  rintro x w1 ⟨rfl,hb1⟩
  rw [HE.out]
  have HB1:=AE (HB.out.later hb1)
  have HX1:=AE (Exc.of (Nat.le_of_lt hlt) hb1)
  clear hb1
  go_wp2_with fail
  refine (ee HB1.out).mono ?_
  rintro x w2 ⟨rfl,hx,hb2⟩
  have HB2:=AE hb2
  have HX2:=AE (HX1.out.trans hx)
  clear hx hb2
  go_wp2_with fail
  go_ret
  rw [HN.out]
  exact ⟨rfl,HX2.out,HB2.out⟩
 ·have HN:Hid (aI s p=(ch s p.at_,p.step)):=AE (by unfold aI;rw [if_neg (by rw [he];simp)])
  have HE:=AE he
  obtain ⟨h0,h1⟩:=rt he
  have HG:Hid (ch s p.at_=s[p.at_].toNat):=AE (gH h1)
  clear he
  go_enter Tryz.func237,Tryz.ntmps237
  go_wp2_with fail
  refine (du HB.out hs ha).mono ?_
  rintro x w1 ⟨rfl,hb1⟩
  rw [HE.out]
  have hbb:Blk w1 P (psA s p):=HB.out.later hb1
  have HX1:=AE (Exc.of (Nat.le_of_lt hlt) hb1)
  obtain ⟨at_,deep,e⟩:=p
  have hbb:Blk w1 P #[.string s,.int .i64 at_,.int .i64 deep,.int .i64 e]:=hbb
  simp only at ha h0 h1 HG HN
  subst h0
  have hw1:wrap64 ((at_:Int)+1)=(at_:Int)+1:=jT (by omega) (by omega)
  have hw2:wrap64 ((at_:Int)+1-1)=(at_:Int):=(congrArg wrap64 (by omega)).trans (jT (n:=(at_:Int)) (by omega) (by omega))
  have k_p:=hbb.cell
  have f_p:=hbb.free
  have HBB:=AE (show Blk (w1.setCell ⟨P,1,none⟩ (.int .i64 ((at_:Int)+1))) P #[.string s,.int .i64 ((at_:Int)+1),.int .i64 deep,.int .i64 0] from hbb.set_ 1 _)
  have HX2:=AE (HX1.out.set 1 (.int .i64 ((at_:Int)+1)))
  clear hb1 hbb
  go_wp2_with fail
  generalize w1.setCell _ _=w2 at *
  have q_p:=HBB.out.regrown
  refine wp_region_quiet_below (by kernel_rfl) (by kernel_rfl) ?_
  repeat (go_big_quiet_step (fail))
  refine wpQuiet_nil ?_
  intro w3 hw3
  have hb3:Below w2.heap.size w2 w3:=by obtain ⟨p,rfl⟩:=hw3;exact below_regrown _ _ _
  clear hw3 q_p
  have HX3:=AE (HX2.out.then (Nat.le_of_lt hlt) hb3)
  have HB3:=AE (HBB.out.later hb3)
  clear hb3 k_p f_p
  go_wp2_with fail
  go_ret
  rw [HN.out]
  refine ⟨?_,HX3.out,?_⟩
  ·rw [HG.out];rfl
  ·have:=HB3.out
   unfold psA PS.step
   simpa using this
theorem ni {w:World} {P:Nat} {s:ByteArray} {p:PS} (hb:Blk w P (psA s p)) (hs:s.size≤1000000) (ha:p.at_<1000000) :
 Calls Tryz.prog 242 #[.pointer (some ⟨P,0,none⟩)] w fun e w'=>e=.returned (.int .u8 (aR s p).1)∧Exc P w w'∧Blk w' P (psA s (aR s p).2):=by
 have HB:=AE hb
 clear hb
 go_enter Tryz.func242,Tryz.ntmps242
 go_wp2_with fail
 refine (fp HB.out hs (by omega)).mono ?_
 rintro x w1 ⟨rfl,hx,hb1⟩
 have HB1:=AE hb1
 have HX1:=AE hx
 have hat:=next_le (s:=s) (p:=p)
 clear hx hb1
 by_cases h92:(aI s p).1=92
 ·have HM:Hid (aR s p=aI s (aI s p).2):=AE (by unfold aR;simp only;rw [if_pos h92])
  rw [h92]
  clear h92
  go_wp2_with fail
  refine (fp HB1.out hs (by omega)).mono ?_
  rintro x w2 ⟨rfl,hx,hb2⟩
  have HB2:=AE hb2
  have HX2:=AE (HX1.out.trans hx)
  clear hx hb2
  go_wp2_with fail
  go_ret
  rw [HM.out]
  exact ⟨rfl,HX2.out,HB2.out⟩
 ·have HM:Hid (aR s p=aI s p):=AE (by unfold aR;simp only;rw [if_neg h92])
  have h92':¬((aI s p).1:Int)=92:=by omega
  clear h92
  go_wp2_with fail
  go_ret
  rw [HM.out]
  exact ⟨rfl,HX1.out,HB1.out⟩
def inA (i:Ins):Array Value:=#[.int .i64 i.kind,.int .u64 i.a,.int .u64 i.b,.int .u64 i.c,.int .u64 i.d,.int .i64 i.x,.int .i64 i.y]
theorem jF {w:World} {G:Nat} {i:Ins} {c:Nat} (hb:Blk w G (inA i)) (hc:c<256) :
 Calls Tryz.prog 240 #[.pointer (some ⟨G,0,none⟩),.int .u8 c] w fun e w'=>e=.returned (.tuple #[])∧Exc G w w'∧Blk w' G (inA (mw i c)):=by
 obtain ⟨kind,a,b,c0,d,x,y⟩:=i
 have hb:Blk w G #[.int .i64 kind,.int .u64 a,.int .u64 b,.int .u64 c0,.int .u64 d,.int .i64 x,.int .i64 y]:=hb
 have k_p:=hb.cell
 have f_p:=hb.free
 have hj:c / 64=0∨c / 64=1∨c / 64=2∨c / 64=3:=by omega
 have hr:(c:Int).tmod 64=((c % 64:Nat):Int):=rfl
 have hr2:((c % 64:Nat):Int)<64:=by omega
 have hr3:(0:Int)≤((c % 64:Nat):Int):=by omega
 rcases hj with hj | hj | hj | hj
 ·have hq:(c:Int).tdiv 64=((c / 64:Nat):Int):=rfl
  rw [hj] at hq
  go_enter Tryz.func240,Tryz.ntmps240
  go_wp2_with fail
  go_region
  go_wp2_with fail
  go_end0
  refine ⟨rfl,((Exc.refl G w).set _ _).drew,?_⟩
  have h9:=(hb.set_ 1 (.int .u64 (bits BinOp.or IntKind.u64 a (IntKind.u64.wrap (2 ^ (c % 64)))))).drew
  have e9:inA (mw ⟨kind,a,b,c0,d,x,y⟩ c)=(#[.int .i64 kind,.int .u64 a,.int .u64 b,.int .u64 c0,.int .u64 d,.int .i64 x,.int .i64 y]:Array Value).setIfInBounds 1 (.int .u64 (bits BinOp.or IntKind.u64 a (IntKind.u64.wrap (2 ^ (c % 64))))):=by
   unfold inA mw Ins.put Ins.word
   rw [hj]
   simp
  rw [e9]
  exact h9
 ·have hq:(c:Int).tdiv 64=((c / 64:Nat):Int):=rfl
  rw [hj] at hq
  go_enter Tryz.func240,Tryz.ntmps240
  go_wp2_with fail
  go_region
  go_wp2_with fail
  go_end0
  refine ⟨rfl,((Exc.refl G w).set _ _).drew,?_⟩
  have h9:=(hb.set_ 2 (.int .u64 (bits BinOp.or IntKind.u64 b (IntKind.u64.wrap (2 ^ (c % 64)))))).drew
  have e9:inA (mw ⟨kind,a,b,c0,d,x,y⟩ c)=(#[.int .i64 kind,.int .u64 a,.int .u64 b,.int .u64 c0,.int .u64 d,.int .i64 x,.int .i64 y]:Array Value).setIfInBounds 2 (.int .u64 (bits BinOp.or IntKind.u64 b (IntKind.u64.wrap (2 ^ (c % 64))))):=by
   unfold inA mw Ins.put Ins.word
   rw [hj]
   simp
  rw [e9]
  exact h9
 ·have hq:(c:Int).tdiv 64=((c / 64:Nat):Int):=rfl
  rw [hj] at hq
  go_enter Tryz.func240,Tryz.ntmps240
  go_wp2_with fail
  go_region
  go_wp2_with fail
  go_end0
  refine ⟨rfl,((Exc.refl G w).set _ _).drew,?_⟩
  have h9:=(hb.set_ 3 (.int .u64 (bits BinOp.or IntKind.u64 c0 (IntKind.u64.wrap (2 ^ (c % 64)))))).drew
  have e9:inA (mw ⟨kind,a,b,c0,d,x,y⟩ c)=(#[.int .i64 kind,.int .u64 a,.int .u64 b,.int .u64 c0,.int .u64 d,.int .i64 x,.int .i64 y]:Array Value).setIfInBounds 3 (.int .u64 (bits BinOp.or IntKind.u64 c0 (IntKind.u64.wrap (2 ^ (c % 64))))):=by
   unfold inA mw Ins.put Ins.word
   rw [hj]
   simp
  rw [e9]
  exact h9
 ·have hq:(c:Int).tdiv 64=((c / 64:Nat):Int):=rfl
  rw [hj] at hq
  go_enter Tryz.func240,Tryz.ntmps240
  go_wp2_with fail
  go_region
  go_wp2_with fail
  go_end0
  refine ⟨rfl,((Exc.refl G w).set _ _).drew,?_⟩
  have h9:=(hb.set_ 4 (.int .u64 (bits BinOp.or IntKind.u64 d (IntKind.u64.wrap (2 ^ (c % 64)))))).drew
  have e9:inA (mw ⟨kind,a,b,c0,d,x,y⟩ c)=(#[.int .i64 kind,.int .u64 a,.int .u64 b,.int .u64 c0,.int .u64 d,.int .i64 x,.int .i64 y]:Array Value).setIfInBounds 4 (.int .u64 (bits BinOp.or IntKind.u64 d (IntKind.u64.wrap (2 ^ (c % 64))))):=by
   unfold inA mw Ins.put Ins.word
   rw [hj]
   simp
  rw [e9]
  exact h9
def bF (s:ByteArray) (p:PS):Nat:=if p.e=0 then s.size-p.at_ else 0
theorem kl (s:ByteArray) (p:PS):bF s p≤s.size:=by unfold bF;split<;>omega
theorem eE (s:ByteArray) (p:PS):bP s p=decide (bF s p=0):=by
 unfold bP bF
 by_cases h:p.e=0
 ·simp [h];omega
 ·simp [h]
theorem kI {s:ByteArray} {p:PS} {e:Int} (he:e≠0):bF s (bj p e)=0:=by
 unfold bj bF
 by_cases h:p.e=0
 ·simp [h,he]
 ·simp [h]
theorem jC (p:PS) (e:Int):(bj p e).at_=p.at_:=by unfold bj;split<;>rfl
theorem lu (p:PS) (e:Int):(bj p e).deep=p.deep:=by unfold bj;split<;>rfl
theorem fail_e {p:PS} {e:Int} (he:e≠0):(bj p e).e≠0:=by unfold bj;split<;>simp_all
structure Less (s:ByteArray) (d:Nat) (p q:PS):Prop where
 rem:bF s q+d≤bF s p∨d≠0∧bF s p=0∧bF s q=0
 deep:q.deep=p.deep
 at_:p.at_≤s.size→q.at_≤s.size
 up:p.at_≤q.at_
theorem Less.refl (s:ByteArray) (p:PS):Less s 0 p p:=⟨.inl (AG _),rfl,id,AG _⟩
theorem Less.zero {s:ByteArray} {d:Nat} {p q:PS} (h:Less s d p q):Less s 0 p q:=⟨.inl (by rcases h.rem with h | ⟨_,h,k⟩<;>omega),h.deep,h.at_,h.up⟩
theorem Less.le {s:ByteArray} {d:Nat} {p q:PS} (h:Less s d p q):bF s q≤bF s p:=by rcases h.rem with h | ⟨_,h,k⟩<;>omega
theorem Less.trans {s:ByteArray} {p q r:PS} (h:Less s 0 p q) (k:Less s 0 q r):Less s 0 p r:=⟨.inl (by have:=h.le;have:=k.le;omega),k.deep.trans h.deep,fun x=>k.at_ (h.at_ x),AF h.up k.up⟩
theorem Less.one {s:ByteArray} {p q r:PS} (h:Less s 1 p q) (k:Less s 0 q r):Less s 1 p r:=⟨by have:=k.le;rcases h.rem with h | ⟨_,h,k⟩<;>omega,k.deep.trans h.deep,fun x=>k.at_ (h.at_ x),AF h.up k.up⟩
theorem Less.fail {s:ByteArray} {d:Nat} {p q:PS} {e:Int} (h:Less s d p q) (he:e≠0):Less s d p (bj q e):=
 ⟨by rw [kI he];rcases h.rem with h | ⟨_,h,k⟩<;>omega,by rw [lu,h.deep],by rw [jC];exact h.at_,by rw [jC];exact h.up⟩
theorem Less.failed {s:ByteArray} {p:PS} {e:Int} (he:e≠0):Less s 1 p (bj p e):=
 ⟨by rw [kI he];omega,by rw [lu],by rw [jC];exact id,by rw [jC];exact AG _⟩
theorem Less.stepped {s:ByteArray} {p:PS} (h:bP s p=false):Less s 1 p p.step:=by
 rw [eE] at h
 have h:bF s p≠0:=by simpa using h
 unfold bF at h
 refine ⟨.inl ?_,rfl,fun hx=>?_,by simp [PS.step]⟩
 ·unfold bF PS.step
  split at h
  ·rename_i he
   simp [he]
   omega
  ·exact absurd rfl h
 ·unfold PS.step
  split at h
  ·simp;omega
  ·exact absurd rfl h
theorem lI {s:ByteArray} {p:PS} {c:Nat} (h:isP s p c=true):bP s p=false:=by
 unfold isP at h
 rw [AN] at h
 simpa using h.1
theorem Less.byte {s:ByteArray} {p:PS} {c:Nat} (h:isP s p c=true):Less s 1 p p.step:=Less.stepped (lI h)
theorem cP (s:ByteArray) (p:PS):Less s 1 p (aI s p).2:=by
 unfold aI
 rcases Bool.eq_false_or_eq_true (bP s p) with h | h
 ·rw [if_pos h];exact Less.failed (by decide)
 ·rw [if_neg (by rw [h];simp)];exact Less.stepped h
theorem byte_lt (s:ByteArray) (k:Nat):ch s k<256:=by
 unfold ch
 rcases (bs s)[k]? with _ | b
 ·simp
 ·simp;exact b.toNat_lt
theorem rv (s:ByteArray) (p:PS):(aI s p).1<256:=by
 unfold aI
 split
 ·simp
 ·exact byte_lt _ _
theorem eh (s:ByteArray) (p:PS):Less s 1 p (aR s p).2:=by
 unfold aR
 simp only
 split
 ·exact (cP s p).one (cP s _).zero
 ·exact cP s p
theorem pH (s:ByteArray) (p:PS):(aR s p).1<256:=by
 unfold aR
 simp only
 split<;>exact rv _ _
theorem qh (s:ByteArray) (p:PS):Less s 1 p (eX s p).2:=by
 unfold eX
 simp only
 split
 ·rename_i h
  rw [AN] at h
  exact ((eh s p).one (Less.byte h.1).zero).one (eh s _).zero
 ·exact eh s p
theorem fS (s:ByteArray):∀n p i,Less s 0 p (bm s n p i).2
 | 0,p,i=>Less.refl s p
 | n+1,p,i=>by
   unfold bm
   split
   ·simp only
    refine Less.trans ?_ (fS s n _ _)
    split
    ·exact ((qh s p).fail (by decide)).zero
    ·exact (qh s p).zero
   ·exact Less.refl s p
theorem tk (s:ByteArray) (p:PS):Less s 0 p (dY s p).2:=by
 unfold dY
 simp only
 have h1:Less s 0 p (if isP s p 94=true then p.step else p):=by
  split
  ·rename_i h;exact (Less.byte h).zero
  ·exact Less.refl s p
 have h2:∀q:PS,Less s 0 p q→Less s 0 p (if isP s q 93=true then bj q 3 else q):=by
  intro q hq
  split
  ·exact hq.fail (by decide)
  ·exact hq
 exact (((h2 _ h1).trans (fS s _ _ _)).trans (cP s _).zero)
structure Made (s:ByteArray) (d:Nat) (p:PS) (r:List Ins × PS):Prop where
 less:Less s 0 p r.2
 one:bF s p≠0→bF s r.2+d≤bF s p
 len:r.1.length+2*bF s r.2≤2*bF s p
theorem ah (l:List Ins) (k:Int):(aL l k).length=l.length:=by simp [aL]
theorem Less.lt {s:ByteArray} {p q:PS} (h:Less s 1 p q) (hp:bF s p≠0):bF s q+1≤bF s p:=by rcases h.rem with h | ⟨_,h,k⟩<;>omega
theorem fk (s:ByteArray):∀n,(∀p,Made s 0 p (rx s n p))∧(∀p out,Less s 0 p (jO s n p out).2∧(jO s n p out).1.length+2*bF s (jO s n p out).2≤out.length+2*bF s p)∧(∀p,bF s p≠0→Made s (if n≤1 then 0 else 1) p (eT s n p))∧(∀p,bF s p≠0→Made s (if n=0 then 0 else 1) p (fO s n p)):=by
 intro n
 induction n with
 | zero=>
   refine ⟨fun p=>⟨Less.refl s p,fun _=>by simp [rx],by simp [rx]⟩,fun p out=>⟨Less.refl s p,by simp [jO]⟩,fun p _=>⟨Less.refl s p,fun _=>by simp [eT],by simp [eT]⟩,fun p _=>⟨Less.refl s p,fun _=>by simp [fO],by simp [fO]⟩⟩
 | succ n ih=>
   obtain ⟨ihp,ihr,ihc,iha⟩:=ih
   refine ⟨fun p=>?_,fun p out=>?_,fun p hp=>?_,fun p hp=>?_⟩
   ·unfold rx
    simp only
    obtain ⟨h1,h2⟩:=ihr p []
    split
    ·rename_i hb
     have hs:=Less.byte hb
     have hne:bF s (jO s n p []).2≠0:=by
      have:=lI hb
      rw [eE] at this
      simpa using this
     have h3:=ihp (jO s n p []).2.step
     have h4:=hs.lt hne
     have h5:=h3.len
     have h6:=h3.less.le
     have h7:=h1.le
     refine ⟨(h1.trans hs.zero).trans h3.less,fun _=>by simp only;omega,?_⟩
     simp only [io,AK,ah,AV,List.length_nil] at h2 ⊢
     omega
    ·refine ⟨h1,fun _=>h1.le,?_⟩
     simpa using h2
   ·unfold jO
    split
    ·rename_i hc
     have hne:bF s p≠0:=by
      rw [AN] at hc
      have:=hc.1
      rw [eE] at this
      simpa using this
     have h1:=ihc p hne
     have h2:=ihr (eT s n p).2 (out++aL (eT s n p).1 out.length)
     refine ⟨h1.less.trans h2.1,?_⟩
     have h3:=h2.2
     rw [AK,ah] at h3
     have h4:=h1.len
     simp only
     omega
    ·exact ⟨Less.refl s p,by simp⟩
   ·unfold eT
    simp only
    have h1:=iha p hp
    have hd:(if n+1≤1 then 0 else 1)=(if n=0 then 0 else 1):=by by_cases h:n=0<;>simp [h]
    rw [hd]
    generalize (if n=0 then 0 else 1)=dd at *
    have hb:∀c,isP s (fO s n p).2 c=true→Less s 1 (fO s n p).2 (fO s n p).2.step∧bF s (fO s n p).2.step+1≤bF s (fO s n p).2:=by
     intro c hc
     refine ⟨Less.byte hc,(Less.byte hc).lt ?_⟩
     have:=lI hc
     rw [eE] at this
     simpa using this
    have hl:=h1.len
    have ho:=h1.one hp
    split
    ·rename_i hc
     obtain ⟨h2,h3⟩:=hb _ hc
     exact ⟨h1.less.trans h2.zero,fun _=>by simp only;omega,by simp [ah];omega⟩
    ·split
     ·rename_i hc
      obtain ⟨h2,h3⟩:=hb _ hc
      exact ⟨h1.less.trans h2.zero,fun _=>by simp only;omega,by simp [ah];omega⟩
     ·split
      ·rename_i hc
       obtain ⟨h2,h3⟩:=hb _ hc
       exact ⟨h1.less.trans h2.zero,fun _=>by simp only;omega,by simp [ah];omega⟩
      ·exact h1
   ·rw [if_neg (by omega)]
    unfold fO
    simp only
    have h1:=cP s p
    have h2:=h1.lt hp
    have leaf:∀(i:Ins) (q:PS),Less s 0 (aI s p).2 q→Made s 1 p ([i],q):=by
     intro i q hq
     have:=hq.le
     exact ⟨h1.zero.trans hq,fun _=>by simp only;omega,by simp;omega⟩
    split
    ·rename_i hc
     split
     ·have h3:=kI (s:=s) (p:=(aI s p).2) (e:=4) (by decide)
      exact ⟨(h1.fail (by decide)).zero,fun _=>by simp only;omega,by simp [h3]⟩
     ·have h3:=ihp ⟨(aI s p).2.at_,(aI s p).2.deep+1,(aI s p).2.e⟩
      generalize hq:rx s n ⟨(aI s p).2.at_,(aI s p).2.deep+1,(aI s p).2.e⟩=q at *
      have h4:=cP s q.2
      generalize hz:aI s q.2=z at *
      have hr:bF s ⟨(aI s p).2.at_,(aI s p).2.deep+1,(aI s p).2.e⟩=bF s (aI s p).2:=rfl
      have h5:=h3.less.le
      have h6:=h3.len
      have h7:=h4.le
      have hdp:q.2.deep=(aI s p).2.deep+1:=h3.less.deep
      have hdz:z.2.deep=q.2.deep:=h4.deep
      have hkey:∀f:PS,Less s 0 z.2 f→Made s 1 p (q.1,⟨f.at_,f.deep-1,f.e⟩):=by
       intro f hf
       have hrf:bF s ⟨f.at_,f.deep-1,f.e⟩=bF s f:=rfl
       have h8:=hf.le
       refine ⟨⟨.inl (by simp only;rw [hrf];omega),?_,?_,?_⟩,fun _=>by simp only;rw [hrf];omega,by simp only;rw [hrf];omega⟩
       ·have:=hf.deep;have:=h1.deep;simp only;omega
       ·exact fun hx=>hf.at_ (h4.at_ (h3.less.at_ (h1.at_ hx)))
       ·exact AF h1.up (AF h3.less.up (AF h4.up hf.up))
      refine hkey _ ?_
      split
      ·exact (Less.refl s _).fail (by decide)
      ·exact Less.refl s _
    ·split
     ·exact leaf _ _ (tk s _)
     ·split
      ·exact leaf _ _ (Less.refl s _)
      ·split
       ·exact leaf _ _ (Less.refl s _)
       ·split
        ·exact leaf _ _ (Less.refl s _)
        ·split
         ·exact leaf _ _ (cP s _).zero
         ·split
          ·exact leaf _ _ ((Less.refl s _).fail (by decide))
          ·exact leaf _ _ (Less.refl s _)
theorem jf (s:ByteArray) (n:Nat) (p:PS):Made s 0 p (rx s n p):=(fk s n).1 p
theorem zh (s:ByteArray) (n:Nat) (p:PS) (out:List Ins):Less s 0 p (jO s n p out).2∧(jO s n p out).1.length+2*bF s (jO s n p out).2≤out.length+2*bF s p:=(fk s n).2.1 p out
theorem tV (s:ByteArray) (n:Nat) (p:PS) (hp:bF s p≠0) (hn:2≤n):Made s 1 p (eT s n p):=by
 have:=(fk s n).2.2.1 p hp
 rwa [if_neg (by omega)] at this
theorem uR (s:ByteArray) (n:Nat) (p:PS) (hp:bF s p≠0) (hn:1≤n):Made s 1 p (fO s n p):=by
 have:=(fk s n).2.2.2 p hp
 rwa [if_neg (by omega)] at this
end Go.Proofs.YtjpndglegpcdnaaGreat
