/- Sorting and compacting a slice of strings of the call's own; looking for a string in a sorted slice. -/
import Derived.Test.YtdphibjibnffeaaGreatFc1
import Derived.Shelf.Small.Bits
import Derived.Shelf.Small.Strs
import Derived.Shelf.Small.Wraps
import Derived.Shelf.Strconv.Itoa0
import Derived.Shelf.Strings.Search1
import Derived.Shelf.Strings.Search2
import Derived.Shelf.Strings.Search3
import Derived.Shelf.LaysM
import Derived.Shelf.Strings.Shaped
import Derived.Shelf.Sort.Plain
import Derived.Shelf.Strings.Prefix
import Derived.Shelf.Bits.Mul64
import Derived.Ground.Names2Prog
import Derived.Shelf.Slices.ReverseS
import Derived.Shelf.Slices.CompactS
import Derived.Shelf.Slices.SearchI
import Derived.Shelf.Slices.Cells
import Derived.Shelf.Slices.In.SortNone
import Derived.Test.YtdphibjibnffeaaGreatProg
import Derived.Lib.OwnBridge
set_option linter.unusedVariables false
set_option linter.unusedSimpArgs false
set_option maxRecDepth 100000
set_option maxHeartbeats 8000000
namespace Go.Proofs.YtdphibjibnffeaaGreat
open Go.ChangeShapes Go.WideShapes Go.ChangeAt Go.RowKit
theorem ip  (F:FuncId) (cap:Array Value) (p:ByteArray→Bool) (xs:List ByteArray) (A:Option Addr) (c B:Nat) (w:World)
 (hF:∀args (w:World),(callFunc F args).run Tryz.prog w=.ok (.enter F args) w) (hl:RL (cU) w B xs A) (hB:B≤w.heap.size) (hn:xs.length≤140737488351232)
 (ht:bS Tryz.prog (cU) zv B w F cap p) :
 Calls Tryz.prog 222 #[.slice A xs.length c,.func (.func F) #[] cap] w fun e w'=>e=.returned (.int .i64 (vv p xs))∧Below w.heap.size w w':=by
 have HT:=zE ht
 clear ht
 have hRk:(cU).k=1:=rfl
 go_enter Tryz.func222,Tryz.ntmps222
 go_wp2_with fail
 go_loopw [8] (fun i wr=>∃k:Nat,k≤xs.length∧i=.int .i64 k∧Below w.heap.size w wr∧∀i (hi:i<xs.length),i<k→p xs[i]=false) (fun i _=>xs.length-(intOf i).toNat)
 case atStart=>exact ⟨0,zH _,rfl,zI _ _,fun i hi h=>absurd h (by omega)⟩
 case round=>
  obtain ⟨k,hk,rfl,hbw,hall⟩:=hrel
  have HA:=zE hall
  clear hall
  by_cases hlt:k<xs.length
  ·obtain ⟨b,off,rfl,hb⟩:=hl.base hbw hB (by omega)
   obtain ⟨x,vs,hx,hlen,hcell,hr⟩:=hl.at_ hbw hB hlt
   rw [hRk] at hlen hcell
   obtain ⟨v0,rfl⟩:∃v0,vs=[v0]:=by
    match vs,hlen with
    | [v0],_=>exact ⟨_,rfl⟩
   have c0:wr.cell? ⟨b,off+k,none⟩=some v0:=by simpa using hcell 0 _ rfl
   have hsz:=hbw.size
   have HX:=zE hx
   clear hcell hlen hx
   go_wp2_with fail
   refine (HT.out x [v0] _ hbw hr).mono ?_
   rintro e w1 ⟨rfl,hb1⟩
   have hbw1:=zE (hbw.trans (hb1.mono hsz))
   clear hb1
   have hxe:xs[k]=x:=(List.getElem?_eq_some_iff.1 HX.out).2
   have HXE:=zE hxe
   clear hxe
   by_cases hp:p x=true
   ·go_wp2_with fail
    go_ret
    exact ⟨aC (fZ hlt (by rw [HXE.out];exact hp) (fun i hi=>HA.out i (by omega) hi)).symm,hbw1.out⟩
   ·have hp:p x=false:=by simpa using hp
    go_wp2_with fail
    go_roundw
    case rel=>exact ⟨k+1,by omega,by go_num,hbw1.out,fun i hi h=>by
     rcases Nat.lt_or_ge i k with h1 | h1
     ·exact HA.out i hi h1
     ·obtain rfl:i=k:=by omega
      rw [HXE.out];exact hp⟩
    case measure=>simp [intOf];omega
  ·go_wp2_with fail
   go_ret
   exact ⟨aC (fY (fun i hi=>HA.out i hi (by omega))).symm,hbw⟩
theorem fA  (F:FuncId) (cap:Array Value) (p:ByteArray→Bool) (xs:List ByteArray) (A:Option Addr) (c B:Nat) (w:World)
 (hF:∀args (w:World),(callFunc F args).run Tryz.prog w=.ok (.enter F args) w) (hl:RL (cU) w B xs A) (hB:B≤w.heap.size) (hn:xs.length≤140737488351232)
 (ht:bS Tryz.prog (cU) zv B w F cap p) :
 Calls Tryz.prog 165 #[.slice A xs.length c,.func (.func F) #[] cap] w fun e w'=>e=.returned (.bool (xs.any p))∧Below w.heap.size w w':=by
 have HT:=zE ht
 clear ht
 go_enter Tryz.func165,Tryz.ntmps165
 go_wp2_with (go_at_call 222;refine (ip  F cap p xs A c B w hF hl hB hn HT.out).mono ?_;rintro e w1 ⟨rfl,hb1⟩)
 go_ret
 exact ⟨ae (iI p xs),hb1⟩
theorem jx (d:Nat) (F:FuncId) (cap:Array Value) (p:Pr→Bool) (xs:List Pr) (A:Option Addr) (c B:Nat) (w:World)
 (hF:∀args (w:World),(callFunc F args).run Tryz.prog w=.ok (.enter F args) w) (hl:RL (PrR d) w B xs A) (hB:B≤w.heap.size) (hn:xs.length≤140737488351232)
 (ht:bS Tryz.prog (PrR d) cV B w F cap p) :
 Calls Tryz.prog 253 #[.slice A xs.length c,.func (.func F) #[] cap] w fun e w'=>e=.returned (.int .i64 (vv p xs))∧Below w.heap.size w w':=by
 have HT:=zE ht
 clear ht
 have hRk:(PrR d).k=2:=rfl
 go_enter Tryz.func253,Tryz.ntmps253
 go_wp2_with fail
 go_loopw [8] (fun i wr=>∃k:Nat,k≤xs.length∧i=.int .i64 k∧Below w.heap.size w wr∧∀i (hi:i<xs.length),i<k→p xs[i]=false) (fun i _=>xs.length-(intOf i).toNat)
 case atStart=>exact ⟨0,zH _,rfl,zI _ _,fun i hi h=>absurd h (by omega)⟩
 case round=>
  obtain ⟨k,hk,rfl,hbw,hall⟩:=hrel
  have HA:=zE hall
  clear hall
  by_cases hlt:k<xs.length
  ·obtain ⟨b,off,rfl,hb⟩:=hl.base hbw hB (by omega)
   obtain ⟨x,vs,hx,hlen,hcell,hr⟩:=hl.at_ hbw hB hlt
   rw [hRk] at hlen hcell
   obtain ⟨v0,v1,rfl⟩:∃v0 v1,vs=[v0,v1]:=by
    match vs,hlen with
    | [v0,v1],_=>exact ⟨_,_,rfl⟩
   have c0:wr.cell? ⟨b,off+k*2,none⟩=some v0:=hcell 0 _ rfl
   have c1:wr.cell? ⟨b,off+k*2+1,none⟩=some v1:=hcell 1 _ rfl
   have hsz:=hbw.size
   have HX:=zE hx
   clear hcell hlen hx
   go_wp2_with fail
   refine (HT.out x [v0,v1] _ hbw hr).mono ?_
   rintro e w1 ⟨rfl,hb1⟩
   have hbw1:=zE (hbw.trans (hb1.mono hsz))
   clear hb1
   have hxe:xs[k]=x:=(List.getElem?_eq_some_iff.1 HX.out).2
   have HXE:=zE hxe
   clear hxe
   by_cases hp:p x=true
   ·go_wp2_with fail
    go_ret
    exact ⟨aC (fZ hlt (by rw [HXE.out];exact hp) (fun i hi=>HA.out i (by omega) hi)).symm,hbw1.out⟩
   ·have hp:p x=false:=by simpa using hp
    go_wp2_with fail
    go_roundw
    case rel=>exact ⟨k+1,by omega,by go_num,hbw1.out,fun i hi h=>by
     rcases Nat.lt_or_ge i k with h1 | h1
     ·exact HA.out i hi h1
     ·obtain rfl:i=k:=by omega
      rw [HXE.out];exact hp⟩
    case measure=>simp [intOf];omega
  ·go_wp2_with fail
   go_ret
   exact ⟨aC (fY (fun i hi=>HA.out i hi (by omega))).symm,hbw⟩
theorem gS (d:Nat) (F:FuncId) (cap:Array Value) (p:Pr→Bool) (xs:List Pr) (A:Option Addr) (c B:Nat) (w:World)
 (hF:∀args (w:World),(callFunc F args).run Tryz.prog w=.ok (.enter F args) w) (hl:RL (PrR d) w B xs A) (hB:B≤w.heap.size) (hn:xs.length≤140737488351232)
 (ht:bS Tryz.prog (PrR d) cV B w F cap p) :
 Calls Tryz.prog 215 #[.slice A xs.length c,.func (.func F) #[] cap] w fun e w'=>e=.returned (.bool (xs.any p))∧Below w.heap.size w w':=by
 have HT:=zE ht
 clear ht
 go_enter Tryz.func215,Tryz.ntmps215
 go_wp2_with (go_at_call 253;refine (jx d F cap p xs A c B w hF hl hB hn HT.out).mono ?_;rintro e w1 ⟨rfl,hb1⟩)
 go_ret
 exact ⟨ae (iI p xs),hb1⟩
theorem mj (d:Nat) (M:FuncId) (p:Pr→Bool) (B G:Nat) (w:World) (hM:∀args (w:World),(callFunc M args).run Tryz.prog w=.ok (.enter M args) w)
 (hB:B≤w.heap.size) (hG:w.cell? ⟨G,0,none⟩=some (.func (.func M) #[] #[])) (ht:bS Tryz.prog (PrR d) cV B w M #[] p) :
 bS Tryz.prog (PrR d) cV B w 216 #[.pointer (some ⟨G,0,none⟩)] (fun x=>!p x):=by
 intro x vs w1 hb hr
 have hlen:vs.length=2:=(PrR d).len hr
 obtain ⟨v0,v1,rfl⟩:∃v0 v1,vs=[v0,v1]:=by
  match vs,hlen with
  | [v0,v1],_=>exact ⟨_,_,rfl⟩
 have hGl:G<w.heap.size:=block_lt_of_cell hG
 have hG1:w1.cell? ⟨G,0,none⟩=some (.func (.func M) #[] #[]):=(hb.cell (p:=⟨G,0,none⟩) hGl).trans hG
 have hGl1:G<w1.heap.size:=by have:=hb.size;omega
 have HB:=zE (fun o:Obj=>(zI w1.heap.size w1).alloc (zG _) o)
 have HT:=zE ht
 have HR:=zE hr
 have hBw:B≤w1.heap.size:=by have:=hb.size;omega
 clear ht hr
 show Calls Tryz.prog 216 #[.agg #[v0,v1],.pointer (some ⟨G,0,none⟩)] w1 _
 go_enter Tryz.func216,Tryz.ntmps216
 go_wp2_with fail
 refine (HT.out x [v0,v1] _ (hb.trans ((HB.out _).mono hb.size)) ((PrR d).keep (HB.out _) hBw HR.out)).mono ?_
 rintro e w2 ⟨rfl,hb2⟩
 have hfin:=zE ((HB.out _).trans (hb2.mono (HB.out _).size))
 clear hb2
 go_wp2_with fail
 go_ret
 exact ⟨rfl,hfin.out⟩
theorem lh (d:Nat) (M:FuncId) (p:Pr→Bool) (most:Int) (xs:List Pr) (A:Option Addr) (c B:Nat) (w:World) (hM:∀args (w:World),(callFunc M args).run Tryz.prog w=.ok (.enter M args) w)
 (hl:RL (PrR d) w B xs A) (hB:B≤w.heap.size) (hn:xs.length≤140737488351232) (ht:bS Tryz.prog (PrR d) cV B w M #[] p) :
 Calls Tryz.prog 157 #[.slice A xs.length c,.int .i64 most,.func (.func M) #[] #[]] w fun e w'=>e=.returned (.bool (decide ((xs.length:Int)≤most)&&xs.all p))∧Below w.heap.size w w':=by
 have HB:=zE (fun o:Obj=>(zI w.heap.size w).alloc (zG _) o)
 have HT:=zE ht
 have HL:=zE hl
 clear ht hl
 by_cases hm:(xs.length:Int)≤most
 ·go_enter Tryz.func157,Tryz.ntmps157
  go_wp2_with fail
  refine (gS d 216 _ _ xs A c B _ (ent Tryz.func216 (by kernel_rfl) rfl) (HL.out.keep (HB.out _) hB) (zF hB (HB.out _).size) hn
   (mj d M p B w.heap.size _ hM (zF hB (HB.out _).size) (by go_simp) (HT.out.later (HB.out _)))).mono ?_
  rintro e w1 ⟨rfl,hb1⟩
  have hfin:=zE ((HB.out _).trans (hb1.mono (HB.out _).size))
  clear hb1
  go_wp2_with fail
  go_ret
  exact ⟨ae (by simp [hm,List.all_eq_not_any_not]),hfin.out⟩
 ·have hm':decide ((xs.length:Int)≤most)=false:=by simpa using hm
  go_enter Tryz.func157,Tryz.ntmps157
  go_wp2_with fail
  go_ret
  exact ⟨ae (by simp [hm]),HB.out _⟩
theorem jw (d:Nat) (F:FuncId) (cap:Array Value) (p:(List OpD)→Bool) (xs:List (List OpD)) (A:Option Addr) (c B:Nat) (w:World)
 (hF:∀args (w:World),(callFunc F args).run Tryz.prog w=.ok (.enter F args) w) (hl:RL (ExR d) w B xs A) (hB:B≤w.heap.size) (hn:xs.length≤140737488351232)
 (ht:bS Tryz.prog (ExR d) cV B w F cap p) :
 Calls Tryz.prog 221 #[.slice A xs.length c,.func (.func F) #[] cap] w fun e w'=>e=.returned (.int .i64 (vv p xs))∧Below w.heap.size w w':=by
 have HT:=zE ht
 clear ht
 have hRk:(ExR d).k=1:=rfl
 go_enter Tryz.func221,Tryz.ntmps221
 go_wp2_with fail
 go_loopw [8] (fun i wr=>∃k:Nat,k≤xs.length∧i=.int .i64 k∧Below w.heap.size w wr∧∀i (hi:i<xs.length),i<k→p xs[i]=false) (fun i _=>xs.length-(intOf i).toNat)
 case atStart=>exact ⟨0,zH _,rfl,zI _ _,fun i hi h=>absurd h (by omega)⟩
 case round=>
  obtain ⟨k,hk,rfl,hbw,hall⟩:=hrel
  have HA:=zE hall
  clear hall
  by_cases hlt:k<xs.length
  ·obtain ⟨b,off,rfl,hb⟩:=hl.base hbw hB (by omega)
   obtain ⟨x,vs,hx,hlen,hcell,hr⟩:=hl.at_ hbw hB hlt
   rw [hRk] at hlen hcell
   obtain ⟨v0,rfl⟩:∃v0,vs=[v0]:=by
    match vs,hlen with
    | [v0],_=>exact ⟨_,rfl⟩
   have c0:wr.cell? ⟨b,off+k,none⟩=some v0:=by simpa using hcell 0 _ rfl
   have hsz:=hbw.size
   have HX:=zE hx
   clear hcell hlen hx
   go_wp2_with fail
   refine (HT.out x [v0] _ hbw hr).mono ?_
   rintro e w1 ⟨rfl,hb1⟩
   have hbw1:=zE (hbw.trans (hb1.mono hsz))
   clear hb1
   have hxe:xs[k]=x:=(List.getElem?_eq_some_iff.1 HX.out).2
   have HXE:=zE hxe
   clear hxe
   by_cases hp:p x=true
   ·go_wp2_with fail
    go_ret
    exact ⟨aC (fZ hlt (by rw [HXE.out];exact hp) (fun i hi=>HA.out i (by omega) hi)).symm,hbw1.out⟩
   ·have hp:p x=false:=by simpa using hp
    go_wp2_with fail
    go_roundw
    case rel=>exact ⟨k+1,by omega,by go_num,hbw1.out,fun i hi h=>by
     rcases Nat.lt_or_ge i k with h1 | h1
     ·exact HA.out i hi h1
     ·obtain rfl:i=k:=by omega
      rw [HXE.out];exact hp⟩
    case measure=>simp [intOf];omega
  ·go_wp2_with fail
   go_ret
   exact ⟨aC (fY (fun i hi=>HA.out i hi (by omega))).symm,hbw⟩
theorem dG (d:Nat) (F:FuncId) (cap:Array Value) (p:(List OpD)→Bool) (xs:List (List OpD)) (A:Option Addr) (c B:Nat) (w:World)
 (hF:∀args (w:World),(callFunc F args).run Tryz.prog w=.ok (.enter F args) w) (hl:RL (ExR d) w B xs A) (hB:B≤w.heap.size) (hn:xs.length≤140737488351232)
 (ht:bS Tryz.prog (ExR d) cV B w F cap p) :
 Calls Tryz.prog 162 #[.slice A xs.length c,.func (.func F) #[] cap] w fun e w'=>e=.returned (.bool (xs.any p))∧Below w.heap.size w w':=by
 have HT:=zE ht
 clear ht
 go_enter Tryz.func162,Tryz.ntmps162
 go_wp2_with (go_at_call 221;refine (jw d F cap p xs A c B w hF hl hB hn HT.out).mono ?_;rintro e w1 ⟨rfl,hb1⟩)
 go_ret
 exact ⟨ae (iI p xs),hb1⟩
theorem mi (d:Nat) (M:FuncId) (p:(List OpD)→Bool) (B G:Nat) (w:World) (hM:∀args (w:World),(callFunc M args).run Tryz.prog w=.ok (.enter M args) w)
 (hB:B≤w.heap.size) (hG:w.cell? ⟨G,0,none⟩=some (.func (.func M) #[] #[])) (ht:bS Tryz.prog (ExR d) cV B w M #[] p) :
 bS Tryz.prog (ExR d) cV B w 217 #[.pointer (some ⟨G,0,none⟩)] (fun x=>!p x):=by
 intro x vs w1 hb hr
 have hlen:vs.length=1:=(ExR d).len hr
 obtain ⟨v0,rfl⟩:∃v0,vs=[v0]:=by
  match vs,hlen with
  | [v0],_=>exact ⟨_,rfl⟩
 have hGl:G<w.heap.size:=block_lt_of_cell hG
 have hG1:w1.cell? ⟨G,0,none⟩=some (.func (.func M) #[] #[]):=(hb.cell (p:=⟨G,0,none⟩) hGl).trans hG
 have hGl1:G<w1.heap.size:=by have:=hb.size;omega
 have HB:=zE (fun o:Obj=>(zI w1.heap.size w1).alloc (zG _) o)
 have HT:=zE ht
 have HR:=zE hr
 have hBw:B≤w1.heap.size:=by have:=hb.size;omega
 clear ht hr
 show Calls Tryz.prog 217 #[.agg #[v0],.pointer (some ⟨G,0,none⟩)] w1 _
 go_enter Tryz.func217,Tryz.ntmps217
 go_wp2_with fail
 refine (HT.out x [v0] _ (hb.trans ((HB.out _).mono hb.size)) ((ExR d).keep (HB.out _) hBw HR.out)).mono ?_
 rintro e w2 ⟨rfl,hb2⟩
 have hfin:=zE ((HB.out _).trans (hb2.mono (HB.out _).size))
 clear hb2
 go_wp2_with fail
 go_ret
 exact ⟨rfl,hfin.out⟩
theorem ld (d:Nat) (M:FuncId) (p:(List OpD)→Bool) (most:Int) (xs:List (List OpD)) (A:Option Addr) (c B:Nat) (w:World) (hM:∀args (w:World),(callFunc M args).run Tryz.prog w=.ok (.enter M args) w)
 (hl:RL (ExR d) w B xs A) (hB:B≤w.heap.size) (hn:xs.length≤140737488351232) (ht:bS Tryz.prog (ExR d) cV B w M #[] p) :
 Calls Tryz.prog 158 #[.slice A xs.length c,.int .i64 most,.func (.func M) #[] #[]] w fun e w'=>e=.returned (.bool (decide ((xs.length:Int)≤most)&&xs.all p))∧Below w.heap.size w w':=by
 have HB:=zE (fun o:Obj=>(zI w.heap.size w).alloc (zG _) o)
 have HT:=zE ht
 have HL:=zE hl
 clear ht hl
 by_cases hm:(xs.length:Int)≤most
 ·go_enter Tryz.func158,Tryz.ntmps158
  go_wp2_with fail
  refine (dG d 217 _ _ xs A c B _ (ent Tryz.func217 (by kernel_rfl) rfl) (HL.out.keep (HB.out _) hB) (zF hB (HB.out _).size) hn
   (mi d M p B w.heap.size _ hM (zF hB (HB.out _).size) (by go_simp) (HT.out.later (HB.out _)))).mono ?_
  rintro e w1 ⟨rfl,hb1⟩
  have hfin:=zE ((HB.out _).trans (hb1.mono (HB.out _).size))
  clear hb1
  go_wp2_with fail
  go_ret
  exact ⟨ae (by simp [hm,List.all_eq_not_any_not]),hfin.out⟩
 ·have hm':decide ((xs.length:Int)≤most)=false:=by simpa using hm
  go_enter Tryz.func158,Tryz.ntmps158
  go_wp2_with fail
  go_ret
  exact ⟨ae (by simp [hm]),HB.out _⟩
theorem iJ  (F:FuncId) (cap:Array Value) (p:Sc→Bool) (xs:List Sc) (A:Option Addr) (c B:Nat) (w:World)
 (hF:∀args (w:World),(callFunc F args).run Tryz.prog w=.ok (.enter F args) w) (hl:RL (ScR) w B xs A) (hB:B≤w.heap.size) (hn:xs.length≤140737488351232)
 (ht:bS Tryz.prog (ScR) cV B w F cap p) :
 Calls Tryz.prog 257 #[.slice A xs.length c,.func (.func F) #[] cap] w fun e w'=>e=.returned (.int .i64 (vv p xs))∧Below w.heap.size w w':=by
 have HT:=zE ht
 clear ht
 have hRk:(ScR).k=2:=rfl
 go_enter Tryz.func257,Tryz.ntmps257
 go_wp2_with fail
 go_loopw [8] (fun i wr=>∃k:Nat,k≤xs.length∧i=.int .i64 k∧Below w.heap.size w wr∧∀i (hi:i<xs.length),i<k→p xs[i]=false) (fun i _=>xs.length-(intOf i).toNat)
 case atStart=>exact ⟨0,zH _,rfl,zI _ _,fun i hi h=>absurd h (by omega)⟩
 case round=>
  obtain ⟨k,hk,rfl,hbw,hall⟩:=hrel
  have HA:=zE hall
  clear hall
  by_cases hlt:k<xs.length
  ·obtain ⟨b,off,rfl,hb⟩:=hl.base hbw hB (by omega)
   obtain ⟨x,vs,hx,hlen,hcell,hr⟩:=hl.at_ hbw hB hlt
   rw [hRk] at hlen hcell
   obtain ⟨v0,v1,rfl⟩:∃v0 v1,vs=[v0,v1]:=by
    match vs,hlen with
    | [v0,v1],_=>exact ⟨_,_,rfl⟩
   have c0:wr.cell? ⟨b,off+k*2,none⟩=some v0:=hcell 0 _ rfl
   have c1:wr.cell? ⟨b,off+k*2+1,none⟩=some v1:=hcell 1 _ rfl
   have hsz:=hbw.size
   have HX:=zE hx
   clear hcell hlen hx
   go_wp2_with fail
   refine (HT.out x [v0,v1] _ hbw hr).mono ?_
   rintro e w1 ⟨rfl,hb1⟩
   have hbw1:=zE (hbw.trans (hb1.mono hsz))
   clear hb1
   have hxe:xs[k]=x:=(List.getElem?_eq_some_iff.1 HX.out).2
   have HXE:=zE hxe
   clear hxe
   by_cases hp:p x=true
   ·go_wp2_with fail
    go_ret
    exact ⟨aC (fZ hlt (by rw [HXE.out];exact hp) (fun i hi=>HA.out i (by omega) hi)).symm,hbw1.out⟩
   ·have hp:p x=false:=by simpa using hp
    go_wp2_with fail
    go_roundw
    case rel=>exact ⟨k+1,by omega,by go_num,hbw1.out,fun i hi h=>by
     rcases Nat.lt_or_ge i k with h1 | h1
     ·exact HA.out i hi h1
     ·obtain rfl:i=k:=by omega
      rw [HXE.out];exact hp⟩
    case measure=>simp [intOf];omega
  ·go_wp2_with fail
   go_ret
   exact ⟨aC (fY (fun i hi=>HA.out i hi (by omega))).symm,hbw⟩
theorem fO  (F:FuncId) (cap:Array Value) (p:Sc→Bool) (xs:List Sc) (A:Option Addr) (c B:Nat) (w:World)
 (hF:∀args (w:World),(callFunc F args).run Tryz.prog w=.ok (.enter F args) w) (hl:RL (ScR) w B xs A) (hB:B≤w.heap.size) (hn:xs.length≤140737488351232)
 (ht:bS Tryz.prog (ScR) cV B w F cap p) :
 Calls Tryz.prog 219 #[.slice A xs.length c,.func (.func F) #[] cap] w fun e w'=>e=.returned (.bool (xs.any p))∧Below w.heap.size w w':=by
 have HT:=zE ht
 clear ht
 go_enter Tryz.func219,Tryz.ntmps219
 go_wp2_with (go_at_call 257;refine (iJ  F cap p xs A c B w hF hl hB hn HT.out).mono ?_;rintro e w1 ⟨rfl,hb1⟩)
 go_ret
 exact ⟨ae (iI p xs),hb1⟩
theorem lg  (M:FuncId) (p:Sc→Bool) (B G:Nat) (w:World) (hM:∀args (w:World),(callFunc M args).run Tryz.prog w=.ok (.enter M args) w)
 (hB:B≤w.heap.size) (hG:w.cell? ⟨G,0,none⟩=some (.func (.func M) #[] #[])) (ht:bS Tryz.prog (ScR) cV B w M #[] p) :
 bS Tryz.prog (ScR) cV B w 220 #[.pointer (some ⟨G,0,none⟩)] (fun x=>!p x):=by
 intro x vs w1 hb hr
 have hlen:vs.length=2:=(ScR).len hr
 obtain ⟨v0,v1,rfl⟩:∃v0 v1,vs=[v0,v1]:=by
  match vs,hlen with
  | [v0,v1],_=>exact ⟨_,_,rfl⟩
 have hGl:G<w.heap.size:=block_lt_of_cell hG
 have hG1:w1.cell? ⟨G,0,none⟩=some (.func (.func M) #[] #[]):=(hb.cell (p:=⟨G,0,none⟩) hGl).trans hG
 have hGl1:G<w1.heap.size:=by have:=hb.size;omega
 have HB:=zE (fun o:Obj=>(zI w1.heap.size w1).alloc (zG _) o)
 have HT:=zE ht
 have HR:=zE hr
 have hBw:B≤w1.heap.size:=by have:=hb.size;omega
 clear ht hr
 show Calls Tryz.prog 220 #[.agg #[v0,v1],.pointer (some ⟨G,0,none⟩)] w1 _
 go_enter Tryz.func220,Tryz.ntmps220
 go_wp2_with fail
 refine (HT.out x [v0,v1] _ (hb.trans ((HB.out _).mono hb.size)) ((ScR).keep (HB.out _) hBw HR.out)).mono ?_
 rintro e w2 ⟨rfl,hb2⟩
 have hfin:=zE ((HB.out _).trans (hb2.mono (HB.out _).size))
 clear hb2
 go_wp2_with fail
 go_ret
 exact ⟨rfl,hfin.out⟩
theorem jT  (M:FuncId) (p:Sc→Bool) (most:Int) (xs:List Sc) (A:Option Addr) (c B:Nat) (w:World) (hM:∀args (w:World),(callFunc M args).run Tryz.prog w=.ok (.enter M args) w)
 (hl:RL (ScR) w B xs A) (hB:B≤w.heap.size) (hn:xs.length≤140737488351232) (ht:bS Tryz.prog (ScR) cV B w M #[] p) :
 Calls Tryz.prog 160 #[.slice A xs.length c,.int .i64 most,.func (.func M) #[] #[]] w fun e w'=>e=.returned (.bool (decide ((xs.length:Int)≤most)&&xs.all p))∧Below w.heap.size w w':=by
 have HB:=zE (fun o:Obj=>(zI w.heap.size w).alloc (zG _) o)
 have HT:=zE ht
 have HL:=zE hl
 clear ht hl
 by_cases hm:(xs.length:Int)≤most
 ·go_enter Tryz.func160,Tryz.ntmps160
  go_wp2_with fail
  refine (fO  220 _ _ xs A c B _ (ent Tryz.func220 (by kernel_rfl) rfl) (HL.out.keep (HB.out _) hB) (zF hB (HB.out _).size) hn
   (lg  M p B w.heap.size _ hM (zF hB (HB.out _).size) (by go_simp) (HT.out.later (HB.out _)))).mono ?_
  rintro e w1 ⟨rfl,hb1⟩
  have hfin:=zE ((HB.out _).trans (hb1.mono (HB.out _).size))
  clear hb1
  go_wp2_with fail
  go_ret
  exact ⟨ae (by simp [hm,List.all_eq_not_any_not]),hfin.out⟩
 ·have hm':decide ((xs.length:Int)≤most)=false:=by simpa using hm
  go_enter Tryz.func160,Tryz.ntmps160
  go_wp2_with fail
  go_ret
  exact ⟨ae (by simp [hm]),HB.out _⟩
def aE (p:Pr):Bool:=fC (bs p.name)&&decide (bs p.name≠[116,114,117,101])&&decide (bs p.name≠[102,97,108,115,101])&&(decide (p.terms.length≤8)&&p.terms.all lx)
theorem xV (k:Nat):((k:Int)≤8)=(k≤8):=by rw [eq_iff_iff];omega
theorem kx (k:Nat):((k:Int)≤4)=(k≤4):=by rw [eq_iff_iff];omega
theorem wQ {d B:Nat} {w:World} (hB:B≤w.heap.size):bS Tryz.prog (TmR d) cV B w 124 #[] lx:=fun x vs w1 hb hr=>by
 obtain ⟨A,c,rfl,_⟩:=RTm.cells hr
 exact vU (d:=d) (B:=B) hr (by have:=hb.size;omega)
theorem dg {d:Nat} {p:Pr} {vs:List Value} {B:Nat} {w:World} (hp:(PrR d).rd w B p vs) (hB:B≤w.heap.size) :
 Calls Tryz.prog 66 #[.agg vs.toArray] w fun e w'=>e=.returned (.bool (aE p))∧Below w.heap.size w w':=by
 obtain ⟨_,rfl,hs,A,c,rfl,hc1,hc2,hl⟩:=hp
 have HB:=zE (fun o:Obj=>(zI w.heap.size w).alloc (zG _) o)
 have HL:=zE hl
 clear hl
 obtain ⟨name,terms⟩:=p
 dsimp only at *
 simp only [TmR] at hc2
 go_enter Tryz.func66,Tryz.ntmps66
 go_wp2_with (first
  | (go_at_call 103;refine (fg _ _ (by unfold maxLen;omega)).mono ?_;rintro e w' ⟨rfl,rfl⟩)
  | (go_at_call 123;refine (qI d 124 lx 8 terms A c B _ (ent Tryz.func124 (by kernel_rfl) rfl) (HL.out.keep (HB.out _) hB) (zF hB (HB.out _).size) (by omega) (wQ (zF hB (HB.out _).size))).mono ?_;rintro e w1 ⟨rfl,hb1⟩))
 all_goals go_ret
 all_goals first
  | refine ⟨ae ?_,HB.out _⟩
  | refine ⟨ae ?_,(HB.out _).trans (hb1.mono (HB.out _).size)⟩
 all_goals
  try simp only [ByteArray.toList_eq] at *
  rw [Bool.eq_iff_iff]
  simp [aE,xV, *]
def gN (p:Pr):Bool:=aE p&&(decide (p.terms.length≤8)&&p.terms.all af)
def cO (s:Sc):Bool:=((decide (s.kind=1)||decide (s.kind=2))&&decide (s.key=ByteArray.empty))||(decide (s.kind=3)&&decide (s.key.size=32))
theorem pt {s:Sc} {vs:List Value} {B:Nat} {w:World} (hp:ScR.rd w B s vs) :
 Calls Tryz.prog 161 #[.agg vs.toArray] w fun e w'=>e=.returned (.bool (cO s))∧Below w.heap.size w w':=by
 obtain ⟨rfl,hk,hs⟩:=hp
 have HB:=zE (fun o:Obj=>(zI w.heap.size w).alloc (zG _) o)
 obtain ⟨kind,key⟩:=s
 dsimp only at *
 have hcases:kind=1∨kind=2∨kind=3∨((kind==1)=false∧(kind==2)=false∧(kind==3)=false):=by simp only [beq_eq_false_iff_ne];omega
 rcases hcases with rfl | rfl | rfl | ⟨k1,k2,k3⟩
 all_goals
  go_enter Tryz.func161,Tryz.ntmps161
  go_wp2_with fail
  all_goals go_ret
  all_goals refine ⟨ae ?_,HB.out _⟩
  all_goals
   try simp only [eB,bX,beq_eq_false_iff_ne] at *
   rw [Bool.eq_iff_iff]
   simp [cO,bX, *]
   try omega
end Go.Proofs.YtdphibjibnffeaaGreat
namespace Go.Proofs
open Go.Shelf
def Tryz.lays125_ren:Go.Shelf.Ren:=⟨fun | 125=>117 | 128=>182 | 129=>183 | n=>n,fun | 46=>101 | 3=>3 | 51=>31 | 53=>83 | 4=>4 | 5=>5 | 9=>9 | n=>n,fun | n=>n⟩
theorem Tryz.lays125:Go.Proofs.Lays.n125 Tryz.prog Tryz.lays125_ren:={
 mixed:=by kernel_rfl
 f125:=Tryz.func117.trans (congrArg some (by kernel_rfl))
 f128:=Tryz.func182.trans (congrArg some (by kernel_rfl))
 f129:=Tryz.func183.trans (congrArg some (by kernel_rfl))
 t3:=Tryz.underlying3
 a3:=Tryz.isAgg3
 z3:=Tryz.sizeOf3
 v3:=Tryz.zeroValue3
 t4:=Tryz.underlying4
 a4:=Tryz.isAgg4
 z4:=Tryz.sizeOf4
 v4:=Tryz.zeroValue4
 t5:=Tryz.underlying5
 a5:=Tryz.isAgg5
 z5:=Tryz.sizeOf5
 v5:=Tryz.zeroValue5
 t9:=Tryz.underlying9
 a9:=Tryz.isAgg9
 z9:=Tryz.sizeOf9
 v9:=Tryz.zeroValue9
 t46:=Tryz.underlying101
 a46:=Tryz.isAgg101
 z46:=Tryz.sizeOf101
 v46:=Tryz.zeroValue101
 t51:=Tryz.underlying31
 a51:=Tryz.isAgg31
 z51:=Tryz.sizeOf31
 v51:=Tryz.zeroValue31
 t53:=Tryz.underlying83
 a53:=Tryz.isAgg83
 z53:=Tryz.sizeOf83
 v53:=Tryz.zeroValue83 }
theorem Tryz.bits_Len (x:Int) (w:World) (h0:0≤x) (h1:x≤18446744073709551615) :
 Calls Tryz.prog 117 #[.int .u64 x] w fun e w'=>e=.returned (.int .i64 (Lib.bitLen x.toNat))∧w'=w:=Any.bits_Len Tryz.lays125 x w h0 h1
def Tryz.lays137_ren:Go.Shelf.Ren:=⟨fun | 137=>336 | 217=>302 | 266=>315 | n=>n,fun | 9=>9 | 5=>5 | 3=>3 | n=>n,fun | n=>n⟩
theorem Tryz.lays137:Go.Proofs.Lays.n137 Tryz.prog Tryz.lays137_ren:={
 mixed:=by kernel_rfl
 f137:=Tryz.func336.trans (congrArg some (by kernel_rfl))
 f217:=Tryz.func302.trans (congrArg some (by kernel_rfl))
 f266:=Tryz.func315.trans (congrArg some (by kernel_rfl))
 t3:=Tryz.underlying3
 a3:=Tryz.isAgg3
 z3:=Tryz.sizeOf3
 v3:=Tryz.zeroValue3
 t5:=Tryz.underlying5
 a5:=Tryz.isAgg5
 z5:=Tryz.sizeOf5
 v5:=Tryz.zeroValue5
 t9:=Tryz.underlying9
 a9:=Tryz.isAgg9
 z9:=Tryz.sizeOf9
 v9:=Tryz.zeroValue9 }
open Go.RowKit in
theorem Tryz.strings_IndexByte (s:ByteArray) (c:Int) (w:World) :
 Calls Tryz.prog 336 #[.string s,.int .u8 c] w fun e w'=>e=.returned (.int .i64 (Lib.indexByte s.data.toList c.toNat.toUInt8))∧w'=w:=Any.strings_IndexByte Tryz.lays137 s c w
def Tryz.lays144_ren:Go.Shelf.Ren:=⟨fun | 144=>239 | 143=>271 | 219=>293 | 217=>302 | 225=>303 | 224=>304 | 267=>305 | 266=>315 | 314=>316 | n=>n,fun | 9=>9 | 4=>4 | 3=>3 | 5=>5 | 46=>101 | 146=>327 | 51=>31 | n=>n,fun | 1=>0 | n=>n⟩
theorem Tryz.lays144:Go.Proofs.Lays.n144 Tryz.prog Tryz.lays144_ren:={
 mixed:=by kernel_rfl
 f143:=Tryz.func271.trans (congrArg some (by kernel_rfl))
 f144:=Tryz.func239.trans (congrArg some (by kernel_rfl))
 f217:=Tryz.func302.trans (congrArg some (by kernel_rfl))
 f219:=Tryz.func293.trans (congrArg some (by kernel_rfl))
 f224:=Tryz.func304.trans (congrArg some (by kernel_rfl))
 f225:=Tryz.func303.trans (congrArg some (by kernel_rfl))
 f266:=Tryz.func315.trans (congrArg some (by kernel_rfl))
 f267:=Tryz.func305.trans (congrArg some (by kernel_rfl))
 f314:=Tryz.func316.trans (congrArg some (by kernel_rfl))
 t3:=Tryz.underlying3
 a3:=Tryz.isAgg3
 z3:=Tryz.sizeOf3
 v3:=Tryz.zeroValue3
 t4:=Tryz.underlying4
 a4:=Tryz.isAgg4
 z4:=Tryz.sizeOf4
 v4:=Tryz.zeroValue4
 t5:=Tryz.underlying5
 a5:=Tryz.isAgg5
 z5:=Tryz.sizeOf5
 v5:=Tryz.zeroValue5
 t9:=Tryz.underlying9
 a9:=Tryz.isAgg9
 z9:=Tryz.sizeOf9
 v9:=Tryz.zeroValue9
 t46:=Tryz.underlying101
 a46:=Tryz.isAgg101
 z46:=Tryz.sizeOf101
 v46:=Tryz.zeroValue101
 t51:=Tryz.underlying31
 a51:=Tryz.isAgg31
 z51:=Tryz.sizeOf31
 v51:=Tryz.zeroValue31
 t146:=Tryz.underlying327
 a146:=Tryz.isAgg327
 z146:=Tryz.sizeOf327
 v146:=Tryz.zeroValue327
 g1:=by kernel_rfl }
open Go.RowKit Go.Lib in
theorem Tryz.strings_Contains (s sub:ByteArray) (m:Int) (w:World) (hs:s.size<4294967281) (hm:w.cell? ⟨0,0,none⟩=some (.int .i64 m)) :
 Calls Tryz.prog 239 #[.string s,.string sub] w fun e w'=>e=.returned (.bool (Lib.contains s.data.toList sub.data.toList))∧w'=w:=Any.strings_Contains Tryz.lays144 s sub m w hs hm
def Tryz.lays190_ren:Go.Shelf.Ren:=⟨fun | 190=>168 | 125=>117 | 258=>225 | 128=>182 | 129=>183 | 302=>258 | 303=>259 | 304=>260 | 305=>261 | 306=>262 | 307=>263 | 308=>223 | 309=>264 | 310=>265 | 333=>288 | 329=>232 | 330=>233 | 334=>289 | 335=>290 | 336=>146 | 344=>301 | n=>n,fun | 31=>44 | 9=>9 | 3=>3 | 46=>101 | 0=>0 | 51=>31 | 53=>83 | 4=>4 | 183=>226 | 182=>225 | 131=>156 | 5=>5 | 218=>260 | 222=>264 | 228=>285 | 229=>286 | n=>n,fun | n=>n⟩
theorem Tryz.lays190:Go.Proofs.Lays.n190 Tryz.prog Tryz.lays190_ren:={
 mixed:=by kernel_rfl
 f125:=Tryz.func117.trans (congrArg some (by kernel_rfl))
 f128:=Tryz.func182.trans (congrArg some (by kernel_rfl))
 f129:=Tryz.func183.trans (congrArg some (by kernel_rfl))
 f190:=Tryz.func168.trans (congrArg some (by kernel_rfl))
 f258:=Tryz.func225.trans (congrArg some (by kernel_rfl))
 f302:=Tryz.func258.trans (congrArg some (by kernel_rfl))
 f303:=Tryz.func259.trans (congrArg some (by kernel_rfl))
 f304:=Tryz.func260.trans (congrArg some (by kernel_rfl))
 f305:=Tryz.func261.trans (congrArg some (by kernel_rfl))
 f306:=Tryz.func262.trans (congrArg some (by kernel_rfl))
 f307:=Tryz.func263.trans (congrArg some (by kernel_rfl))
 f308:=Tryz.func223.trans (congrArg some (by kernel_rfl))
 f309:=Tryz.func264.trans (congrArg some (by kernel_rfl))
 f310:=Tryz.func265.trans (congrArg some (by kernel_rfl))
 f329:=Tryz.func232.trans (congrArg some (by kernel_rfl))
 f330:=Tryz.func233.trans (congrArg some (by kernel_rfl))
 f333:=Tryz.func288.trans (congrArg some (by kernel_rfl))
 f334:=Tryz.func289.trans (congrArg some (by kernel_rfl))
 f335:=Tryz.func290.trans (congrArg some (by kernel_rfl))
 f336:=Tryz.func146.trans (congrArg some (by kernel_rfl))
 f344:=Tryz.func301.trans (congrArg some (by kernel_rfl))
 t0:=Tryz.underlying0
 a0:=Tryz.isAgg0
 z0:=Tryz.sizeOf0
 v0:=Tryz.zeroValue0
 t3:=Tryz.underlying3
 a3:=Tryz.isAgg3
 z3:=Tryz.sizeOf3
 v3:=Tryz.zeroValue3
 t4:=Tryz.underlying4
 a4:=Tryz.isAgg4
 z4:=Tryz.sizeOf4
 v4:=Tryz.zeroValue4
 t5:=Tryz.underlying5
 a5:=Tryz.isAgg5
 z5:=Tryz.sizeOf5
 v5:=Tryz.zeroValue5
 t9:=Tryz.underlying9
 a9:=Tryz.isAgg9
 z9:=Tryz.sizeOf9
 v9:=Tryz.zeroValue9
 t31:=Tryz.underlying44
 a31:=Tryz.isAgg44
 z31:=Tryz.sizeOf44
 v31:=Tryz.zeroValue44
 t46:=Tryz.underlying101
 a46:=Tryz.isAgg101
 z46:=Tryz.sizeOf101
 v46:=Tryz.zeroValue101
 t51:=Tryz.underlying31
 a51:=Tryz.isAgg31
 z51:=Tryz.sizeOf31
 v51:=Tryz.zeroValue31
 t53:=Tryz.underlying83
 a53:=Tryz.isAgg83
 z53:=Tryz.sizeOf83
 v53:=Tryz.zeroValue83
 t131:=Tryz.underlying156
 a131:=Tryz.isAgg156
 z131:=Tryz.sizeOf156
 v131:=Tryz.zeroValue156
 t182:=Tryz.underlying225
 a182:=Tryz.isAgg225
 z182:=Tryz.sizeOf225
 v182:=Tryz.zeroValue225
 t183:=Tryz.underlying226
 a183:=Tryz.isAgg226
 z183:=Tryz.sizeOf226
 v183:=Tryz.zeroValue226
 t218:=Tryz.underlying260
 a218:=Tryz.isAgg260
 z218:=Tryz.sizeOf260
 v218:=Tryz.zeroValue260
 t222:=Tryz.underlying264
 a222:=Tryz.isAgg264
 z222:=Tryz.sizeOf264
 v222:=Tryz.zeroValue264
 t228:=Tryz.underlying285
 a228:=Tryz.isAgg285
 z228:=Tryz.sizeOf285
 v228:=Tryz.zeroValue285
 t229:=Tryz.underlying286
 a229:=Tryz.isAgg286
 z229:=Tryz.sizeOf286
 v229:=Tryz.zeroValue286 }
open Go.Sort Go.RowKit in
theorem Tryz.slices_Sort_string (blk off cap:Nat) (ss:List (List UInt8)) (w:World) (hH:Holds encStr w blk off ss.toArray) (hblk:blk<w.heap.size) (hsz:ss.length<4611686018427387904) :
 Calls Tryz.prog 168 #[.slice (some ⟨blk,off,none⟩) ss.length cap] w fun e w'=>
  e=.returned (.tuple #[])∧∃n os,w'=grow (putRow encStr (Sort.ahead w n) blk off (ss.mergeSort fun x y=>decide (x≤y)).toArray) os:=Any.slices_Sort_string Tryz.lays190 blk off cap ss w hH hblk hsz
def Tryz.lays99_ren:Go.Shelf.Ren:=⟨fun | 99=>153 | 206=>213 | n=>n,fun | 9=>9 | 4=>4 | 3=>3 | n=>n,fun | n=>n⟩
theorem Tryz.lays99:Go.Proofs.Lays.n99 Tryz.prog Tryz.lays99_ren:={
 mixed:=by kernel_rfl
 f99:=Tryz.func153.trans (congrArg some (by kernel_rfl))
 f206:=Tryz.func213.trans (congrArg some (by kernel_rfl))
 t3:=Tryz.underlying3
 a3:=Tryz.isAgg3
 z3:=Tryz.sizeOf3
 v3:=Tryz.zeroValue3
 t4:=Tryz.underlying4
 a4:=Tryz.isAgg4
 z4:=Tryz.sizeOf4
 v4:=Tryz.zeroValue4
 t9:=Tryz.underlying9
 a9:=Tryz.isAgg9
 z9:=Tryz.sizeOf9
 v9:=Tryz.zeroValue9 }
open Go.RowKit Go.Lib in
theorem Tryz.strings_HasPrefix (s p:ByteArray) (w:World) :
 Calls Tryz.prog 153 #[.string s,.string p] w fun e w'=>e=.returned (.bool (Lib.hasPrefix s.data.toList p.data.toList))∧w'=w:=Any.strings_HasPrefix Tryz.lays99 s p w
def Tryz.lays100_ren:Go.Shelf.Ren:=⟨fun | 100=>195 | 207=>241 | n=>n,fun | 9=>9 | 4=>4 | 3=>3 | n=>n,fun | n=>n⟩
theorem Tryz.lays100:Go.Proofs.Lays.n100 Tryz.prog Tryz.lays100_ren:={
 mixed:=by kernel_rfl
 f100:=Tryz.func195.trans (congrArg some (by kernel_rfl))
 f207:=Tryz.func241.trans (congrArg some (by kernel_rfl))
 t3:=Tryz.underlying3
 a3:=Tryz.isAgg3
 z3:=Tryz.sizeOf3
 v3:=Tryz.zeroValue3
 t4:=Tryz.underlying4
 a4:=Tryz.isAgg4
 z4:=Tryz.sizeOf4
 v4:=Tryz.zeroValue4
 t9:=Tryz.underlying9
 a9:=Tryz.isAgg9
 z9:=Tryz.sizeOf9
 v9:=Tryz.zeroValue9 }
open Go.RowKit Go.Lib in
theorem Tryz.strings_HasSuffix (s p:ByteArray) (w:World) (hs:s.size≤9223372036854775807) :
 Calls Tryz.prog 195 #[.string s,.string p] w fun e w'=>e=.returned (.bool (Lib.hasSuffix s.data.toList p.data.toList))∧w'=w:=Any.strings_HasSuffix Tryz.lays100 s p w hs
def Tryz.lays264_ren:Go.Shelf.Ren:=⟨fun | 264=>308 | n=>n,fun | 53=>83 | 46=>101 | n=>n,fun | n=>n⟩
theorem Tryz.lays264:Go.Proofs.Lays.n264 Tryz.prog Tryz.lays264_ren:={
 mixed:=by kernel_rfl
 f264:=Tryz.func308.trans (congrArg some (by kernel_rfl))
 t46:=Tryz.underlying101
 a46:=Tryz.isAgg101
 z46:=Tryz.sizeOf101
 v46:=Tryz.zeroValue101
 t53:=Tryz.underlying83
 a53:=Tryz.isAgg83
 z53:=Tryz.sizeOf83
 v53:=Tryz.zeroValue83 }
open Go.RowKit Go.Lib in
theorem Tryz.bits_Mul64 (x y:Nat) (hx:x<18446744073709551616) (hy:y<18446744073709551616) (w:World) :
 Calls Tryz.prog 308 #[.int .u64 x,.int .u64 y] w fun e w'=>e=.returned (.tuple #[.int .u64 ((x*y / 18446744073709551616:Nat):Int),.int .u64 ((x*y % 18446744073709551616:Nat):Int)])∧w'=w:=Any.bits_Mul64 Tryz.lays264 x y hx hy w
def Tryz.lays194_ren:Go.Shelf.Ren:=⟨fun | 194=>169 | n=>n,fun | 31=>44 | 9=>9 | 3=>3 | 4=>4 | 0=>0 | n=>n,fun | n=>n⟩
theorem Tryz.lays194:Go.Proofs.Lays.n194 Tryz.prog Tryz.lays194_ren:={
 mixed:=by kernel_rfl
 f194:=Tryz.func169.trans (congrArg some (by kernel_rfl))
 t0:=Tryz.underlying0
 a0:=Tryz.isAgg0
 z0:=Tryz.sizeOf0
 v0:=Tryz.zeroValue0
 t3:=Tryz.underlying3
 a3:=Tryz.isAgg3
 z3:=Tryz.sizeOf3
 v3:=Tryz.zeroValue3
 t4:=Tryz.underlying4
 a4:=Tryz.isAgg4
 z4:=Tryz.sizeOf4
 v4:=Tryz.zeroValue4
 t9:=Tryz.underlying9
 a9:=Tryz.isAgg9
 z9:=Tryz.sizeOf9
 v9:=Tryz.zeroValue9
 t31:=Tryz.underlying44
 a31:=Tryz.isAgg44
 z31:=Tryz.sizeOf44
 v31:=Tryz.zeroValue44 }
open Go.RowKit Go.Lib Go.Sort in
theorem Tryz.slices_Compact_string (blk off cap:Nat) (zs:List (List UInt8)) (w:World) (hH:Holds encStr w blk off zs.toArray) (hsz:zs.length≤9223372036854775807) (hcap:zs.length≤cap) :
 Calls Tryz.prog 169 #[.slice (some ⟨blk,off,none⟩) zs.length cap] w fun e w'=>e=.returned (.slice (some ⟨blk,off,none⟩) (Lib.compact zs).length cap)∧∃q,w'=putRow encStr (Sort.ahead w q) blk off (Lib.compact zs++List.replicate (zs.length-(Lib.compact zs).length) []).toArray:=Any.slices_Compact_string Tryz.lays194 blk off cap zs w hH hsz hcap
open Go.RowKit Go.Lib Go.Sort in
theorem Tryz.slices_Compact_string_empty (a:Option Addr) (cap:Nat) (w:World) :
 Calls Tryz.prog 169 #[.slice a 0 cap] w fun e w'=>e=.returned (.slice a 0 cap)∧w'=w:=Any.slices_Compact_string_empty Tryz.lays194 a cap w
open Go.RowKit Go.Sort in
theorem Tryz.slices_Sort_string_none (p:Option Addr) (cap:Nat) (w:World) :
 Calls Tryz.prog 168 #[.slice p 0 cap] w fun e w'=>e=.returned (.tuple #[])∧w'=w:=Any.slices_Sort_string_none Tryz.lays190 p cap w
end Go.Proofs
namespace Go.Proofs.YtdphibjibnffeaaGreat
open Go.ChangeShapes Go.WideShapes Go.ChangeAt Go.RowKit
theorem oR (s:ByteArray):encStr (bs s)=.string s:=by simp [encStr]
def mkS (l:List UInt8):ByteArray:=⟨l.toArray⟩
theorem jM (l:List UInt8):bs (mkS l)=l:=by simp [mkS,bs]
theorem mkS_bs (s:ByteArray):mkS (bs s)=s:=by cases s;simp [mkS,bs]
def jK (w:World) (base:Nat) (v:Value) (L:List (List UInt8)):Prop:=w.ownsRow base 9 1 v L.length (L.map encStr)
theorem pE {w:World} {base:Nat} {e:TypeId} {size n:Nat} {v:Value} {xs:List Value} (h:w.ownsRow base e size v n xs) (os:Array Obj):(Sort.grow w os).ownsRow base e size v n xs:=by
 refine ⟨h.1,?_⟩
 rcases h.2 with h2 | ⟨g,cap,cur,hv,hg,hh,r⟩
 ·exact .inl h2
 ·refine .inr ⟨g,cap,cur,hv,hg,?_,r⟩
  have hlt:g<w.heap.size:=by
   rcases Nat.lt_or_ge g w.heap.size with h' | h'
   ·exact h'
   ·rw [Array.getElem?_eq_none h'] at hh;cases hh
  show (w.heap++os)[g]? = _
  rw [Array.getElem?_append_left hlt]
  exact hh
theorem sG {B:Nat} {w w':World} (h:Below B w w') (hB:B≤w'.heap.size) (os:Array Obj):Below B w (Sort.grow w' os):=
 ⟨h.os,h.tape,h.output,by have:=h.size;simp [Sort.grow];omega,fun k hk=>by
  rw [←h.block k hk]
  show (w'.heap++os)[k]? = _
  rw [Array.getElem?_append_left (by omega)]⟩
def kp (L:List (List UInt8)):List (List UInt8):=L.mergeSort fun x y=>decide (x≤y)
theorem cH (L:List (List UInt8)):(kp L).length=L.length:=List.length_mergeSort _
theorem pR (w:World) (base:Nat) (v:Value) (L:List (List UInt8)) (h:jK w base v L) (hb:base≤w.heap.size) (hn:L.length≤1000000000) :
 Calls Tryz.prog 168 #[v] w fun e w'=>e=.returned (.tuple #[])∧jK w' base v (kp L)∧Below base w w':=by
 by_cases hv:v=.slice none 0 0
 ·subst hv
  have hL:L=[]:=by
   rcases h.2 with ⟨_,h2⟩ | ⟨g,cap,cur,hv,_⟩
   ·exact List.eq_nil_of_length_eq_zero h2
   ·cases hv
  subst hL
  refine (Tryz.slices_Sort_string_none none 0 w).mono fun e w' ⟨he,hw⟩=>?_
  subst hw
  exact ⟨he,by simpa [kp,jK] using h,zI _ _⟩
 ·obtain ⟨g,cap,rfl,hbg,hg,hnc,hm,hl,hH⟩:=Lib.holds_of_ownsRow h hv
  refine (Tryz.slices_Sort_string g 0 cap L w hH hg (by omega)).mono fun e w' ⟨he,n,os,hw⟩=>?_
  subst hw
  refine ⟨he,?_,sG (Lib.below_putRow (zI _ _) hbg) (by simp [Sort.ahead];omega) os⟩
  have h1:=Lib.ownsRow_putRow (q:=n) (k:=L.length) (ys:=kp L) h (cH L) (zG _)
  have h2:=pE h1 os
  unfold jK
  rw [cH]
  rw [List.take_of_length_le (by rw [cH];exact zG _)] at h2
  exact h2
theorem jO (w:World) (base:Nat) (v:Value) (L:List (List UInt8)) (h:jK w base v L) (hn:L.length≤1000000000) :
 Calls Tryz.prog 169 #[v] w fun e w'=>∃v',e=.returned v'∧jK w' base v' (Lib.compact L)∧Below base w w':=by
 by_cases hv:v=.slice none 0 0
 ·subst hv
  have hL:L=[]:=by
   rcases h.2 with ⟨_,h2⟩ | ⟨g,cap,cur,hv,_⟩
   ·exact List.eq_nil_of_length_eq_zero h2
   ·cases hv
  subst hL
  refine (Tryz.slices_Compact_string_empty none 0 w).mono fun e w' ⟨he,hw⟩=>?_
  subst hw
  exact ⟨_,he,by simpa [Lib.compact,Lib.compactUpTo,jK] using h,zI _ _⟩
 ·obtain ⟨g,cap,rfl,hbg,hg,hnc,hm,hl,hH⟩:=Lib.holds_of_ownsRow h hv
  refine (Tryz.slices_Compact_string g 0 cap L w hH (by omega) hnc).mono fun e w' ⟨he,q,hw⟩=>?_
  subst hw
  have hc:=Lib.compact_length_le L
  refine ⟨_,he,?_,Lib.below_putRow (zI _ _) hbg⟩
  have h1:=Lib.ownsRow_putRow (q:=q) (k:=(Lib.compact L).length) (ys:=Lib.compact L++List.replicate (L.length-(Lib.compact L).length) []) h (by simp;omega) hc
  rw [List.take_left'] at h1
  ·exact h1
  ·rfl
end Go.Proofs.YtdphibjibnffeaaGreat
