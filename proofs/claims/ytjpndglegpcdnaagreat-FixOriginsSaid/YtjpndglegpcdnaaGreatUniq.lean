/- Plain facts: a sorted list without doubles. -/
import Derived.Test.YtjpndglegpcdnaaGreatRead2
import Derived.Shelf.Small.Bits
import Derived.Shelf.Small.Strs
import Derived.Shelf.Small.Wraps
import Derived.Shelf.Strconv.Itoa0
import Derived.Shelf.Strings.Search1
import Derived.Shelf.Strings.Search2
import Derived.Shelf.Strings.Search3
import Derived.Shelf.LaysM
import Derived.Shelf.Strings.Shaped
import Derived.Shelf.Sort.Plain
import Derived.Shelf.Strings.Prefix
import Derived.Shelf.Bits.Mul64
import Derived.Ground.Names2Prog
import Derived.Shelf.Slices.ReverseS
import Derived.Shelf.Slices.CompactS
import Derived.Shelf.Slices.SearchI
import Derived.Shelf.Slices.Cells
import Derived.Shelf.Slices.In.SortNone
import Derived.Test.YtjpndglegpcdnaaGreatProg
import Derived.Lib.OwnBridge
set_option linter.unusedVariables false
set_option linter.unusedSimpArgs false
set_option maxRecDepth 100000
set_option maxHeartbeats 8000000
namespace Go.Proofs.YtjpndglegpcdnaaGreat
open Go.ChangeShapes Go.WideShapes Go.ChangeAt Go.RowKit
theorem zK {α:Type _}{i:Nat}{l:List α}:(List.take i l).length=min i l.length:=List.length_take
theorem ie  (F:FuncId) (cap:Array Value) (p:ByteArray→Bool) (xs:List ByteArray) (A:Option Addr) (c B:Nat) (w:World)
 (hF:∀args (w:World),(callFunc F args).run Tryz.prog w=.ok (.enter F args) w) (hl:RL (cV) w B xs A) (hB:B≤w.heap.size) (hn:xs.length≤140737488351232)
 (ht:bW Tryz.prog (cV) zk B w F cap p) :
 Calls Tryz.prog 147 #[.slice A xs.length c,.func (.func F) #[] cap] w fun e w'=>e=.returned (.int .i64 (vc p xs))∧Below w.heap.size w w':=by
 have HT:=zu ht
 clear ht
 have hRk:(cV).k=1:=rfl
 go_enter Tryz.func147,Tryz.ntmps147
 go_wp2_with fail
 go_loopw [8] (fun i wr=>∃k:Nat,k≤xs.length∧i=.int .i64 k∧Below w.heap.size w wr∧∀i (hi:i<xs.length),i<k→p xs[i]=false) (fun i _=>xs.length-(intOf i).toNat)
 case atStart=>exact ⟨0,zx _,rfl,zy _ _,fun i hi h=>absurd h (by omega)⟩
 case round=>
  obtain ⟨k,hk,rfl,hbw,hall⟩:=hrel
  have HA:=zu hall
  clear hall
  by_cases hlt:k<xs.length
  ·obtain ⟨b,off,rfl,hb⟩:=hl.base hbw hB (by omega)
   obtain ⟨x,vs,hx,hlen,hcell,hr⟩:=hl.at_ hbw hB hlt
   rw [hRk] at hlen hcell
   obtain ⟨v0,rfl⟩:∃v0,vs=[v0]:=by
    match vs,hlen with
    | [v0],_=>exact ⟨_,rfl⟩
   have c0:wr.cell? ⟨b,off+k,none⟩=some v0:=by simpa using hcell 0 _ rfl
   have hsz:=hbw.size
   have HX:=zu hx
   clear hcell hlen hx
   go_wp2_with fail
   refine (HT.out x [v0] _ hbw hr).mono ?_
   rintro e w1 ⟨rfl,hb1⟩
   have hbw1:=zu (hbw.trans (hb1.mono hsz))
   clear hb1
   have hxe:xs[k]=x:=(List.getElem?_eq_some_iff.1 HX.out).2
   have HXE:=zu hxe
   clear hxe
   by_cases hp:p x=true
   ·go_wp2_with fail
    go_ret
    exact ⟨au (fW hlt (by rw [HXE.out];exact hp) (fun i hi=>HA.out i (by omega) hi)).symm,hbw1.out⟩
   ·have hp:p x=false:=by simpa using hp
    go_wp2_with fail
    go_roundw
    case rel=>exact ⟨k+1,by omega,by go_num,hbw1.out,fun i hi h=>by
     rcases Nat.lt_or_ge i k with h1 | h1
     ·exact HA.out i hi h1
     ·obtain rfl:i=k:=by omega
      rw [HXE.out];exact hp⟩
    case measure=>simp [intOf];omega
  ·go_wp2_with fail
   go_ret
   exact ⟨au (fV (fun i hi=>HA.out i hi (by omega))).symm,hbw⟩
theorem fB  (F:FuncId) (cap:Array Value) (p:ByteArray→Bool) (xs:List ByteArray) (A:Option Addr) (c B:Nat) (w:World)
 (hF:∀args (w:World),(callFunc F args).run Tryz.prog w=.ok (.enter F args) w) (hl:RL (cV) w B xs A) (hB:B≤w.heap.size) (hn:xs.length≤140737488351232)
 (ht:bW Tryz.prog (cV) zk B w F cap p) :
 Calls Tryz.prog 115 #[.slice A xs.length c,.func (.func F) #[] cap] w fun e w'=>e=.returned (.bool (xs.any p))∧Below w.heap.size w w':=by
 have HT:=zu ht
 clear ht
 go_enter Tryz.func115,Tryz.ntmps115
 go_wp2_with (go_at_call 147;refine (ie  F cap p xs A c B w hF hl hB hn HT.out).mono ?_;rintro e w1 ⟨rfl,hb1⟩)
 go_ret
 exact ⟨ac (iE p xs),hb1⟩
theorem jp (d:Nat) (F:FuncId) (cap:Array Value) (p:Pr→Bool) (xs:List Pr) (A:Option Addr) (c B:Nat) (w:World)
 (hF:∀args (w:World),(callFunc F args).run Tryz.prog w=.ok (.enter F args) w) (hl:RL (PrR d) w B xs A) (hB:B≤w.heap.size) (hn:xs.length≤140737488351232)
 (ht:bW Tryz.prog (PrR d) cW B w F cap p) :
 Calls Tryz.prog 162 #[.slice A xs.length c,.func (.func F) #[] cap] w fun e w'=>e=.returned (.int .i64 (vc p xs))∧Below w.heap.size w w':=by
 have HT:=zu ht
 clear ht
 have hRk:(PrR d).k=2:=rfl
 go_enter Tryz.func162,Tryz.ntmps162
 go_wp2_with fail
 go_loopw [8] (fun i wr=>∃k:Nat,k≤xs.length∧i=.int .i64 k∧Below w.heap.size w wr∧∀i (hi:i<xs.length),i<k→p xs[i]=false) (fun i _=>xs.length-(intOf i).toNat)
 case atStart=>exact ⟨0,zx _,rfl,zy _ _,fun i hi h=>absurd h (by omega)⟩
 case round=>
  obtain ⟨k,hk,rfl,hbw,hall⟩:=hrel
  have HA:=zu hall
  clear hall
  by_cases hlt:k<xs.length
  ·obtain ⟨b,off,rfl,hb⟩:=hl.base hbw hB (by omega)
   obtain ⟨x,vs,hx,hlen,hcell,hr⟩:=hl.at_ hbw hB hlt
   rw [hRk] at hlen hcell
   obtain ⟨v0,v1,rfl⟩:∃v0 v1,vs=[v0,v1]:=by
    match vs,hlen with
    | [v0,v1],_=>exact ⟨_,_,rfl⟩
   have c0:wr.cell? ⟨b,off+k*2,none⟩=some v0:=hcell 0 _ rfl
   have c1:wr.cell? ⟨b,off+k*2+1,none⟩=some v1:=hcell 1 _ rfl
   have hsz:=hbw.size
   have HX:=zu hx
   clear hcell hlen hx
   go_wp2_with fail
   refine (HT.out x [v0,v1] _ hbw hr).mono ?_
   rintro e w1 ⟨rfl,hb1⟩
   have hbw1:=zu (hbw.trans (hb1.mono hsz))
   clear hb1
   have hxe:xs[k]=x:=(List.getElem?_eq_some_iff.1 HX.out).2
   have HXE:=zu hxe
   clear hxe
   by_cases hp:p x=true
   ·go_wp2_with fail
    go_ret
    exact ⟨au (fW hlt (by rw [HXE.out];exact hp) (fun i hi=>HA.out i (by omega) hi)).symm,hbw1.out⟩
   ·have hp:p x=false:=by simpa using hp
    go_wp2_with fail
    go_roundw
    case rel=>exact ⟨k+1,by omega,by go_num,hbw1.out,fun i hi h=>by
     rcases Nat.lt_or_ge i k with h1 | h1
     ·exact HA.out i hi h1
     ·obtain rfl:i=k:=by omega
      rw [HXE.out];exact hp⟩
    case measure=>simp [intOf];omega
  ·go_wp2_with fail
   go_ret
   exact ⟨au (fV (fun i hi=>HA.out i hi (by omega))).symm,hbw⟩
theorem gM (d:Nat) (F:FuncId) (cap:Array Value) (p:Pr→Bool) (xs:List Pr) (A:Option Addr) (c B:Nat) (w:World)
 (hF:∀args (w:World),(callFunc F args).run Tryz.prog w=.ok (.enter F args) w) (hl:RL (PrR d) w B xs A) (hB:B≤w.heap.size) (hn:xs.length≤140737488351232)
 (ht:bW Tryz.prog (PrR d) cW B w F cap p) :
 Calls Tryz.prog 140 #[.slice A xs.length c,.func (.func F) #[] cap] w fun e w'=>e=.returned (.bool (xs.any p))∧Below w.heap.size w w':=by
 have HT:=zu ht
 clear ht
 go_enter Tryz.func140,Tryz.ntmps140
 go_wp2_with (go_at_call 162;refine (jp d F cap p xs A c B w hF hl hB hn HT.out).mono ?_;rintro e w1 ⟨rfl,hb1⟩)
 go_ret
 exact ⟨ac (iE p xs),hb1⟩
theorem mn (d:Nat) (M:FuncId) (p:Pr→Bool) (B G:Nat) (w:World) (hM:∀args (w:World),(callFunc M args).run Tryz.prog w=.ok (.enter M args) w)
 (hB:B≤w.heap.size) (hG:w.cell? ⟨G,0,none⟩=some (.func (.func M) #[] #[])) (ht:bW Tryz.prog (PrR d) cW B w M #[] p) :
 bW Tryz.prog (PrR d) cW B w 141 #[.pointer (some ⟨G,0,none⟩)] (fun x=>!p x):=by
 intro x vs w1 hb hr
 have hlen:vs.length=2:=(PrR d).len hr
 obtain ⟨v0,v1,rfl⟩:∃v0 v1,vs=[v0,v1]:=by
  match vs,hlen with
  | [v0,v1],_=>exact ⟨_,_,rfl⟩
 have hGl:G<w.heap.size:=block_lt_of_cell hG
 have hG1:w1.cell? ⟨G,0,none⟩=some (.func (.func M) #[] #[]):=(hb.cell (p:=⟨G,0,none⟩) hGl).trans hG
 have hGl1:G<w1.heap.size:=by have:=hb.size;omega
 have HB:=zu (fun o:Obj=>(zy w1.heap.size w1).alloc (zw _) o)
 have HT:=zu ht
 have HR:=zu hr
 have hBw:B≤w1.heap.size:=by have:=hb.size;omega
 clear ht hr
 show Calls Tryz.prog 141 #[.agg #[v0,v1],.pointer (some ⟨G,0,none⟩)] w1 _
 go_enter Tryz.func141,Tryz.ntmps141
 go_wp2_with fail
 refine (HT.out x [v0,v1] _ (hb.trans ((HB.out _).mono hb.size)) ((PrR d).keep (HB.out _) hBw HR.out)).mono ?_
 rintro e w2 ⟨rfl,hb2⟩
 have hfin:=zu ((HB.out _).trans (hb2.mono (HB.out _).size))
 clear hb2
 go_wp2_with fail
 go_ret
 exact ⟨rfl,hfin.out⟩
theorem kV (d:Nat) (M:FuncId) (p:Pr→Bool) (most:Int) (xs:List Pr) (A:Option Addr) (c B:Nat) (w:World) (hM:∀args (w:World),(callFunc M args).run Tryz.prog w=.ok (.enter M args) w)
 (hl:RL (PrR d) w B xs A) (hB:B≤w.heap.size) (hn:xs.length≤140737488351232) (ht:bW Tryz.prog (PrR d) cW B w M #[] p) :
 Calls Tryz.prog 107 #[.slice A xs.length c,.int .i64 most,.func (.func M) #[] #[]] w fun e w'=>e=.returned (.bool (decide ((xs.length:Int)≤most)&&xs.all p))∧Below w.heap.size w w':=by
 have HB:=zu (fun o:Obj=>(zy w.heap.size w).alloc (zw _) o)
 have HT:=zu ht
 have HL:=zu hl
 clear ht hl
 by_cases hm:(xs.length:Int)≤most
 ·go_enter Tryz.func107,Tryz.ntmps107
  go_wp2_with fail
  refine (gM d 141 _ _ xs A c B _ (ent Tryz.func141 (by kernel_rfl) rfl) (HL.out.keep (HB.out _) hB) (zv hB (HB.out _).size) hn
   (mn d M p B w.heap.size _ hM (zv hB (HB.out _).size) (by go_simp) (HT.out.later (HB.out _)))).mono ?_
  rintro e w1 ⟨rfl,hb1⟩
  have hfin:=zu ((HB.out _).trans (hb1.mono (HB.out _).size))
  clear hb1
  go_wp2_with fail
  go_ret
  exact ⟨ac (by simp [hm,List.all_eq_not_any_not]),hfin.out⟩
 ·have hm':decide ((xs.length:Int)≤most)=false:=by simpa using hm
  go_enter Tryz.func107,Tryz.ntmps107
  go_wp2_with fail
  go_ret
  exact ⟨ac (by simp [hm]),HB.out _⟩
theorem jo (d:Nat) (F:FuncId) (cap:Array Value) (p:(List OpD)→Bool) (xs:List (List OpD)) (A:Option Addr) (c B:Nat) (w:World)
 (hF:∀args (w:World),(callFunc F args).run Tryz.prog w=.ok (.enter F args) w) (hl:RL (ExR d) w B xs A) (hB:B≤w.heap.size) (hn:xs.length≤140737488351232)
 (ht:bW Tryz.prog (ExR d) cW B w F cap p) :
 Calls Tryz.prog 146 #[.slice A xs.length c,.func (.func F) #[] cap] w fun e w'=>e=.returned (.int .i64 (vc p xs))∧Below w.heap.size w w':=by
 have HT:=zu ht
 clear ht
 have hRk:(ExR d).k=1:=rfl
 go_enter Tryz.func146,Tryz.ntmps146
 go_wp2_with fail
 go_loopw [8] (fun i wr=>∃k:Nat,k≤xs.length∧i=.int .i64 k∧Below w.heap.size w wr∧∀i (hi:i<xs.length),i<k→p xs[i]=false) (fun i _=>xs.length-(intOf i).toNat)
 case atStart=>exact ⟨0,zx _,rfl,zy _ _,fun i hi h=>absurd h (by omega)⟩
 case round=>
  obtain ⟨k,hk,rfl,hbw,hall⟩:=hrel
  have HA:=zu hall
  clear hall
  by_cases hlt:k<xs.length
  ·obtain ⟨b,off,rfl,hb⟩:=hl.base hbw hB (by omega)
   obtain ⟨x,vs,hx,hlen,hcell,hr⟩:=hl.at_ hbw hB hlt
   rw [hRk] at hlen hcell
   obtain ⟨v0,rfl⟩:∃v0,vs=[v0]:=by
    match vs,hlen with
    | [v0],_=>exact ⟨_,rfl⟩
   have c0:wr.cell? ⟨b,off+k,none⟩=some v0:=by simpa using hcell 0 _ rfl
   have hsz:=hbw.size
   have HX:=zu hx
   clear hcell hlen hx
   go_wp2_with fail
   refine (HT.out x [v0] _ hbw hr).mono ?_
   rintro e w1 ⟨rfl,hb1⟩
   have hbw1:=zu (hbw.trans (hb1.mono hsz))
   clear hb1
   have hxe:xs[k]=x:=(List.getElem?_eq_some_iff.1 HX.out).2
   have HXE:=zu hxe
   clear hxe
   by_cases hp:p x=true
   ·go_wp2_with fail
    go_ret
    exact ⟨au (fW hlt (by rw [HXE.out];exact hp) (fun i hi=>HA.out i (by omega) hi)).symm,hbw1.out⟩
   ·have hp:p x=false:=by simpa using hp
    go_wp2_with fail
    go_roundw
    case rel=>exact ⟨k+1,by omega,by go_num,hbw1.out,fun i hi h=>by
     rcases Nat.lt_or_ge i k with h1 | h1
     ·exact HA.out i hi h1
     ·obtain rfl:i=k:=by omega
      rw [HXE.out];exact hp⟩
    case measure=>simp [intOf];omega
  ·go_wp2_with fail
   go_ret
   exact ⟨au (fV (fun i hi=>HA.out i hi (by omega))).symm,hbw⟩
theorem dL (d:Nat) (F:FuncId) (cap:Array Value) (p:(List OpD)→Bool) (xs:List (List OpD)) (A:Option Addr) (c B:Nat) (w:World)
 (hF:∀args (w:World),(callFunc F args).run Tryz.prog w=.ok (.enter F args) w) (hl:RL (ExR d) w B xs A) (hB:B≤w.heap.size) (hn:xs.length≤140737488351232)
 (ht:bW Tryz.prog (ExR d) cW B w F cap p) :
 Calls Tryz.prog 112 #[.slice A xs.length c,.func (.func F) #[] cap] w fun e w'=>e=.returned (.bool (xs.any p))∧Below w.heap.size w w':=by
 have HT:=zu ht
 clear ht
 go_enter Tryz.func112,Tryz.ntmps112
 go_wp2_with (go_at_call 146;refine (jo d F cap p xs A c B w hF hl hB hn HT.out).mono ?_;rintro e w1 ⟨rfl,hb1⟩)
 go_ret
 exact ⟨ac (iE p xs),hb1⟩
theorem ml (d:Nat) (M:FuncId) (p:(List OpD)→Bool) (B G:Nat) (w:World) (hM:∀args (w:World),(callFunc M args).run Tryz.prog w=.ok (.enter M args) w)
 (hB:B≤w.heap.size) (hG:w.cell? ⟨G,0,none⟩=some (.func (.func M) #[] #[])) (ht:bW Tryz.prog (ExR d) cW B w M #[] p) :
 bW Tryz.prog (ExR d) cW B w 142 #[.pointer (some ⟨G,0,none⟩)] (fun x=>!p x):=by
 intro x vs w1 hb hr
 have hlen:vs.length=1:=(ExR d).len hr
 obtain ⟨v0,rfl⟩:∃v0,vs=[v0]:=by
  match vs,hlen with
  | [v0],_=>exact ⟨_,rfl⟩
 have hGl:G<w.heap.size:=block_lt_of_cell hG
 have hG1:w1.cell? ⟨G,0,none⟩=some (.func (.func M) #[] #[]):=(hb.cell (p:=⟨G,0,none⟩) hGl).trans hG
 have hGl1:G<w1.heap.size:=by have:=hb.size;omega
 have HB:=zu (fun o:Obj=>(zy w1.heap.size w1).alloc (zw _) o)
 have HT:=zu ht
 have HR:=zu hr
 have hBw:B≤w1.heap.size:=by have:=hb.size;omega
 clear ht hr
 show Calls Tryz.prog 142 #[.agg #[v0],.pointer (some ⟨G,0,none⟩)] w1 _
 go_enter Tryz.func142,Tryz.ntmps142
 go_wp2_with fail
 refine (HT.out x [v0] _ (hb.trans ((HB.out _).mono hb.size)) ((ExR d).keep (HB.out _) hBw HR.out)).mono ?_
 rintro e w2 ⟨rfl,hb2⟩
 have hfin:=zu ((HB.out _).trans (hb2.mono (HB.out _).size))
 clear hb2
 go_wp2_with fail
 go_ret
 exact ⟨rfl,hfin.out⟩
theorem kT (d:Nat) (M:FuncId) (p:(List OpD)→Bool) (most:Int) (xs:List (List OpD)) (A:Option Addr) (c B:Nat) (w:World) (hM:∀args (w:World),(callFunc M args).run Tryz.prog w=.ok (.enter M args) w)
 (hl:RL (ExR d) w B xs A) (hB:B≤w.heap.size) (hn:xs.length≤140737488351232) (ht:bW Tryz.prog (ExR d) cW B w M #[] p) :
 Calls Tryz.prog 108 #[.slice A xs.length c,.int .i64 most,.func (.func M) #[] #[]] w fun e w'=>e=.returned (.bool (decide ((xs.length:Int)≤most)&&xs.all p))∧Below w.heap.size w w':=by
 have HB:=zu (fun o:Obj=>(zy w.heap.size w).alloc (zw _) o)
 have HT:=zu ht
 have HL:=zu hl
 clear ht hl
 by_cases hm:(xs.length:Int)≤most
 ·go_enter Tryz.func108,Tryz.ntmps108
  go_wp2_with fail
  refine (dL d 142 _ _ xs A c B _ (ent Tryz.func142 (by kernel_rfl) rfl) (HL.out.keep (HB.out _) hB) (zv hB (HB.out _).size) hn
   (ml d M p B w.heap.size _ hM (zv hB (HB.out _).size) (by go_simp) (HT.out.later (HB.out _)))).mono ?_
  rintro e w1 ⟨rfl,hb1⟩
  have hfin:=zu ((HB.out _).trans (hb1.mono (HB.out _).size))
  clear hb1
  go_wp2_with fail
  go_ret
  exact ⟨ac (by simp [hm,List.all_eq_not_any_not]),hfin.out⟩
 ·have hm':decide ((xs.length:Int)≤most)=false:=by simpa using hm
  go_enter Tryz.func108,Tryz.ntmps108
  go_wp2_with fail
  go_ret
  exact ⟨ac (by simp [hm]),HB.out _⟩
theorem iF  (F:FuncId) (cap:Array Value) (p:Sc→Bool) (xs:List Sc) (A:Option Addr) (c B:Nat) (w:World)
 (hF:∀args (w:World),(callFunc F args).run Tryz.prog w=.ok (.enter F args) w) (hl:RL (ScR) w B xs A) (hB:B≤w.heap.size) (hn:xs.length≤140737488351232)
 (ht:bW Tryz.prog (ScR) cW B w F cap p) :
 Calls Tryz.prog 166 #[.slice A xs.length c,.func (.func F) #[] cap] w fun e w'=>e=.returned (.int .i64 (vc p xs))∧Below w.heap.size w w':=by
 have HT:=zu ht
 clear ht
 have hRk:(ScR).k=2:=rfl
 go_enter Tryz.func166,Tryz.ntmps166
 go_wp2_with fail
 go_loopw [8] (fun i wr=>∃k:Nat,k≤xs.length∧i=.int .i64 k∧Below w.heap.size w wr∧∀i (hi:i<xs.length),i<k→p xs[i]=false) (fun i _=>xs.length-(intOf i).toNat)
 case atStart=>exact ⟨0,zx _,rfl,zy _ _,fun i hi h=>absurd h (by omega)⟩
 case round=>
  obtain ⟨k,hk,rfl,hbw,hall⟩:=hrel
  have HA:=zu hall
  clear hall
  by_cases hlt:k<xs.length
  ·obtain ⟨b,off,rfl,hb⟩:=hl.base hbw hB (by omega)
   obtain ⟨x,vs,hx,hlen,hcell,hr⟩:=hl.at_ hbw hB hlt
   rw [hRk] at hlen hcell
   obtain ⟨v0,v1,rfl⟩:∃v0 v1,vs=[v0,v1]:=by
    match vs,hlen with
    | [v0,v1],_=>exact ⟨_,_,rfl⟩
   have c0:wr.cell? ⟨b,off+k*2,none⟩=some v0:=hcell 0 _ rfl
   have c1:wr.cell? ⟨b,off+k*2+1,none⟩=some v1:=hcell 1 _ rfl
   have hsz:=hbw.size
   have HX:=zu hx
   clear hcell hlen hx
   go_wp2_with fail
   refine (HT.out x [v0,v1] _ hbw hr).mono ?_
   rintro e w1 ⟨rfl,hb1⟩
   have hbw1:=zu (hbw.trans (hb1.mono hsz))
   clear hb1
   have hxe:xs[k]=x:=(List.getElem?_eq_some_iff.1 HX.out).2
   have HXE:=zu hxe
   clear hxe
   by_cases hp:p x=true
   ·go_wp2_with fail
    go_ret
    exact ⟨au (fW hlt (by rw [HXE.out];exact hp) (fun i hi=>HA.out i (by omega) hi)).symm,hbw1.out⟩
   ·have hp:p x=false:=by simpa using hp
    go_wp2_with fail
    go_roundw
    case rel=>exact ⟨k+1,by omega,by go_num,hbw1.out,fun i hi h=>by
     rcases Nat.lt_or_ge i k with h1 | h1
     ·exact HA.out i hi h1
     ·obtain rfl:i=k:=by omega
      rw [HXE.out];exact hp⟩
    case measure=>simp [intOf];omega
  ·go_wp2_with fail
   go_ret
   exact ⟨au (fV (fun i hi=>HA.out i hi (by omega))).symm,hbw⟩
theorem fM  (F:FuncId) (cap:Array Value) (p:Sc→Bool) (xs:List Sc) (A:Option Addr) (c B:Nat) (w:World)
 (hF:∀args (w:World),(callFunc F args).run Tryz.prog w=.ok (.enter F args) w) (hl:RL (ScR) w B xs A) (hB:B≤w.heap.size) (hn:xs.length≤140737488351232)
 (ht:bW Tryz.prog (ScR) cW B w F cap p) :
 Calls Tryz.prog 144 #[.slice A xs.length c,.func (.func F) #[] cap] w fun e w'=>e=.returned (.bool (xs.any p))∧Below w.heap.size w w':=by
 have HT:=zu ht
 clear ht
 go_enter Tryz.func144,Tryz.ntmps144
 go_wp2_with (go_at_call 166;refine (iF  F cap p xs A c B w hF hl hB hn HT.out).mono ?_;rintro e w1 ⟨rfl,hb1⟩)
 go_ret
 exact ⟨ac (iE p xs),hb1⟩
theorem kU  (M:FuncId) (p:Sc→Bool) (B G:Nat) (w:World) (hM:∀args (w:World),(callFunc M args).run Tryz.prog w=.ok (.enter M args) w)
 (hB:B≤w.heap.size) (hG:w.cell? ⟨G,0,none⟩=some (.func (.func M) #[] #[])) (ht:bW Tryz.prog (ScR) cW B w M #[] p) :
 bW Tryz.prog (ScR) cW B w 145 #[.pointer (some ⟨G,0,none⟩)] (fun x=>!p x):=by
 intro x vs w1 hb hr
 have hlen:vs.length=2:=(ScR).len hr
 obtain ⟨v0,v1,rfl⟩:∃v0 v1,vs=[v0,v1]:=by
  match vs,hlen with
  | [v0,v1],_=>exact ⟨_,_,rfl⟩
 have hGl:G<w.heap.size:=block_lt_of_cell hG
 have hG1:w1.cell? ⟨G,0,none⟩=some (.func (.func M) #[] #[]):=(hb.cell (p:=⟨G,0,none⟩) hGl).trans hG
 have hGl1:G<w1.heap.size:=by have:=hb.size;omega
 have HB:=zu (fun o:Obj=>(zy w1.heap.size w1).alloc (zw _) o)
 have HT:=zu ht
 have HR:=zu hr
 have hBw:B≤w1.heap.size:=by have:=hb.size;omega
 clear ht hr
 show Calls Tryz.prog 145 #[.agg #[v0,v1],.pointer (some ⟨G,0,none⟩)] w1 _
 go_enter Tryz.func145,Tryz.ntmps145
 go_wp2_with fail
 refine (HT.out x [v0,v1] _ (hb.trans ((HB.out _).mono hb.size)) ((ScR).keep (HB.out _) hBw HR.out)).mono ?_
 rintro e w2 ⟨rfl,hb2⟩
 have hfin:=zu ((HB.out _).trans (hb2.mono (HB.out _).size))
 clear hb2
 go_wp2_with fail
 go_ret
 exact ⟨rfl,hfin.out⟩
theorem jK  (M:FuncId) (p:Sc→Bool) (most:Int) (xs:List Sc) (A:Option Addr) (c B:Nat) (w:World) (hM:∀args (w:World),(callFunc M args).run Tryz.prog w=.ok (.enter M args) w)
 (hl:RL (ScR) w B xs A) (hB:B≤w.heap.size) (hn:xs.length≤140737488351232) (ht:bW Tryz.prog (ScR) cW B w M #[] p) :
 Calls Tryz.prog 110 #[.slice A xs.length c,.int .i64 most,.func (.func M) #[] #[]] w fun e w'=>e=.returned (.bool (decide ((xs.length:Int)≤most)&&xs.all p))∧Below w.heap.size w w':=by
 have HB:=zu (fun o:Obj=>(zy w.heap.size w).alloc (zw _) o)
 have HT:=zu ht
 have HL:=zu hl
 clear ht hl
 by_cases hm:(xs.length:Int)≤most
 ·go_enter Tryz.func110,Tryz.ntmps110
  go_wp2_with fail
  refine (fM  145 _ _ xs A c B _ (ent Tryz.func145 (by kernel_rfl) rfl) (HL.out.keep (HB.out _) hB) (zv hB (HB.out _).size) hn
   (kU  M p B w.heap.size _ hM (zv hB (HB.out _).size) (by go_simp) (HT.out.later (HB.out _)))).mono ?_
  rintro e w1 ⟨rfl,hb1⟩
  have hfin:=zu ((HB.out _).trans (hb1.mono (HB.out _).size))
  clear hb1
  go_wp2_with fail
  go_ret
  exact ⟨ac (by simp [hm,List.all_eq_not_any_not]),hfin.out⟩
 ·have hm':decide ((xs.length:Int)≤most)=false:=by simpa using hm
  go_enter Tryz.func110,Tryz.ntmps110
  go_wp2_with fail
  go_ret
  exact ⟨ac (by simp [hm]),HB.out _⟩
def aE (p:Pr):Bool:=dO (bs p.name)&&decide (bs p.name≠[116,114,117,101])&&decide (bs p.name≠[102,97,108,115,101])&&(decide (p.terms.length≤8)&&p.terms.all fy)
theorem xI (k:Nat):((k:Int)≤8)=(k≤8):=by rw [eq_iff_iff];omega
theorem kl (k:Nat):((k:Int)≤4)=(k≤4):=by rw [eq_iff_iff];omega
theorem wE {d B:Nat} {w:World} (hB:B≤w.heap.size):bW Tryz.prog (TmR d) cW B w 68 #[] fy:=fun x vs w1 hb hr=>by
 obtain ⟨A,c,rfl,_⟩:=RTm.cells hr
 exact vG (d:=d) (B:=B) hr (by have:=hb.size;omega)
theorem dl {d:Nat} {p:Pr} {vs:List Value} {B:Nat} {w:World} (hp:(PrR d).rd w B p vs) (hB:B≤w.heap.size) :
 Calls Tryz.prog 81 #[.agg vs.toArray] w fun e w'=>e=.returned (.bool (aE p))∧Below w.heap.size w w':=by
 obtain ⟨_,rfl,hs,A,c,rfl,hc1,hc2,hl⟩:=hp
 have HB:=zu (fun o:Obj=>(zy w.heap.size w).alloc (zw _) o)
 have HL:=zu hl
 clear hl
 obtain ⟨name,terms⟩:=p
 dsimp only at *
 simp only [TmR] at hc2
 go_enter Tryz.func81,Tryz.ntmps81
 go_wp2_with (first
  | (go_at_call 44;refine (fh _ _ (by unfold maxLen;omega)).mono ?_;rintro e w' ⟨rfl,rfl⟩)
  | (go_at_call 101;refine (qB d 68 fy 8 terms A c B _ (ent Tryz.func68 (by kernel_rfl) rfl) (HL.out.keep (HB.out _) hB) (zv hB (HB.out _).size) (by omega) (wE (zv hB (HB.out _).size))).mono ?_;rintro e w1 ⟨rfl,hb1⟩))
 all_goals go_ret
 all_goals first
  | refine ⟨ac ?_,HB.out _⟩
  | refine ⟨ac ?_,(HB.out _).trans (hb1.mono (HB.out _).size)⟩
 all_goals
  try simp only [ByteArray.toList_eq] at *
  rw [Bool.eq_iff_iff]
  simp [aE,xI, *]
def gH (p:Pr):Bool:=aE p&&(decide (p.terms.length≤8)&&p.terms.all af)
def cM (s:Sc):Bool:=((decide (s.kind=1)||decide (s.kind=2))&&decide (s.key=ByteArray.empty))||(decide (s.kind=3)&&decide (s.key.size=32))
theorem pg {s:Sc} {vs:List Value} {B:Nat} {w:World} (hp:ScR.rd w B s vs) :
 Calls Tryz.prog 111 #[.agg vs.toArray] w fun e w'=>e=.returned (.bool (cM s))∧Below w.heap.size w w':=by
 obtain ⟨rfl,hk,hs⟩:=hp
 have HB:=zu (fun o:Obj=>(zy w.heap.size w).alloc (zw _) o)
 obtain ⟨kind,key⟩:=s
 dsimp only at *
 have hcases:kind=1∨kind=2∨kind=3∨((kind==1)=false∧(kind==2)=false∧(kind==3)=false):=by simp only [beq_eq_false_iff_ne];omega
 rcases hcases with rfl | rfl | rfl | ⟨k1,k2,k3⟩
 all_goals
  go_enter Tryz.func111,Tryz.ntmps111
  go_wp2_with fail
  all_goals go_ret
  all_goals refine ⟨ac ?_,HB.out _⟩
  all_goals
   try simp only [dC,be,beq_eq_false_iff_ne] at *
   rw [Bool.eq_iff_iff]
   simp [cM,be, *]
   try omega
end Go.Proofs.YtjpndglegpcdnaaGreat
namespace Go.Proofs
open Go.Shelf
def Tryz.lays125_ren:Go.Shelf.Ren:=⟨fun | 125=>99 | 128=>135 | 129=>136 | n=>n,fun | 46=>61 | 3=>3 | 51=>31 | 53=>22 | 4=>4 | 5=>5 | 9=>9 | n=>n,fun | n=>n⟩
theorem Tryz.lays125:Go.Proofs.Lays.n125 Tryz.prog Tryz.lays125_ren:={
 mixed:=by kernel_rfl
 f125:=Tryz.func99.trans (congrArg some (by kernel_rfl))
 f128:=Tryz.func135.trans (congrArg some (by kernel_rfl))
 f129:=Tryz.func136.trans (congrArg some (by kernel_rfl))
 t3:=Tryz.underlying3
 a3:=Tryz.isAgg3
 z3:=Tryz.sizeOf3
 v3:=Tryz.zeroValue3
 t4:=Tryz.underlying4
 a4:=Tryz.isAgg4
 z4:=Tryz.sizeOf4
 v4:=Tryz.zeroValue4
 t5:=Tryz.underlying5
 a5:=Tryz.isAgg5
 z5:=Tryz.sizeOf5
 v5:=Tryz.zeroValue5
 t9:=Tryz.underlying9
 a9:=Tryz.isAgg9
 z9:=Tryz.sizeOf9
 v9:=Tryz.zeroValue9
 t46:=Tryz.underlying61
 a46:=Tryz.isAgg61
 z46:=Tryz.sizeOf61
 v46:=Tryz.zeroValue61
 t51:=Tryz.underlying31
 a51:=Tryz.isAgg31
 z51:=Tryz.sizeOf31
 v51:=Tryz.zeroValue31
 t53:=Tryz.underlying22
 a53:=Tryz.isAgg22
 z53:=Tryz.sizeOf22
 v53:=Tryz.zeroValue22 }
theorem Tryz.bits_Len (x:Int) (w:World) (h0:0≤x) (h1:x≤18446744073709551615) :
 Calls Tryz.prog 99 #[.int .u64 x] w fun e w'=>e=.returned (.int .i64 (Lib.bitLen x.toNat))∧w'=w:=Any.bits_Len Tryz.lays125 x w h0 h1
def Tryz.lays137_ren:Go.Shelf.Ren:=⟨fun | 137=>241 | 217=>225 | 266=>232 | n=>n,fun | 9=>9 | 5=>5 | 3=>3 | n=>n,fun | n=>n⟩
theorem Tryz.lays137:Go.Proofs.Lays.n137 Tryz.prog Tryz.lays137_ren:={
 mixed:=by kernel_rfl
 f137:=Tryz.func241.trans (congrArg some (by kernel_rfl))
 f217:=Tryz.func225.trans (congrArg some (by kernel_rfl))
 f266:=Tryz.func232.trans (congrArg some (by kernel_rfl))
 t3:=Tryz.underlying3
 a3:=Tryz.isAgg3
 z3:=Tryz.sizeOf3
 v3:=Tryz.zeroValue3
 t5:=Tryz.underlying5
 a5:=Tryz.isAgg5
 z5:=Tryz.sizeOf5
 v5:=Tryz.zeroValue5
 t9:=Tryz.underlying9
 a9:=Tryz.isAgg9
 z9:=Tryz.sizeOf9
 v9:=Tryz.zeroValue9 }
open Go.RowKit in
theorem Tryz.strings_IndexByte (s:ByteArray) (c:Int) (w:World) :
 Calls Tryz.prog 241 #[.string s,.int .u8 c] w fun e w'=>e=.returned (.int .i64 (Lib.indexByte s.data.toList c.toNat.toUInt8))∧w'=w:=Any.strings_IndexByte Tryz.lays137 s c w
def Tryz.lays144_ren:Go.Shelf.Ren:=⟨fun | 144=>206 | 143=>213 | 219=>220 | 217=>225 | 225=>226 | 224=>227 | 267=>228 | 266=>232 | 314=>233 | n=>n,fun | 9=>9 | 4=>4 | 3=>3 | 5=>5 | 46=>61 | 146=>271 | 51=>31 | n=>n,fun | 1=>0 | n=>n⟩
theorem Tryz.lays144:Go.Proofs.Lays.n144 Tryz.prog Tryz.lays144_ren:={
 mixed:=by kernel_rfl
 f143:=Tryz.func213.trans (congrArg some (by kernel_rfl))
 f144:=Tryz.func206.trans (congrArg some (by kernel_rfl))
 f217:=Tryz.func225.trans (congrArg some (by kernel_rfl))
 f219:=Tryz.func220.trans (congrArg some (by kernel_rfl))
 f224:=Tryz.func227.trans (congrArg some (by kernel_rfl))
 f225:=Tryz.func226.trans (congrArg some (by kernel_rfl))
 f266:=Tryz.func232.trans (congrArg some (by kernel_rfl))
 f267:=Tryz.func228.trans (congrArg some (by kernel_rfl))
 f314:=Tryz.func233.trans (congrArg some (by kernel_rfl))
 t3:=Tryz.underlying3
 a3:=Tryz.isAgg3
 z3:=Tryz.sizeOf3
 v3:=Tryz.zeroValue3
 t4:=Tryz.underlying4
 a4:=Tryz.isAgg4
 z4:=Tryz.sizeOf4
 v4:=Tryz.zeroValue4
 t5:=Tryz.underlying5
 a5:=Tryz.isAgg5
 z5:=Tryz.sizeOf5
 v5:=Tryz.zeroValue5
 t9:=Tryz.underlying9
 a9:=Tryz.isAgg9
 z9:=Tryz.sizeOf9
 v9:=Tryz.zeroValue9
 t46:=Tryz.underlying61
 a46:=Tryz.isAgg61
 z46:=Tryz.sizeOf61
 v46:=Tryz.zeroValue61
 t51:=Tryz.underlying31
 a51:=Tryz.isAgg31
 z51:=Tryz.sizeOf31
 v51:=Tryz.zeroValue31
 t146:=Tryz.underlying271
 a146:=Tryz.isAgg271
 z146:=Tryz.sizeOf271
 v146:=Tryz.zeroValue271
 g1:=by kernel_rfl }
open Go.RowKit Go.Lib in
theorem Tryz.strings_Contains (s sub:ByteArray) (m:Int) (w:World) (hs:s.size<4294967281) (hm:w.cell? ⟨0,0,none⟩=some (.int .i64 m)) :
 Calls Tryz.prog 206 #[.string s,.string sub] w fun e w'=>e=.returned (.bool (Lib.contains s.data.toList sub.data.toList))∧w'=w:=Any.strings_Contains Tryz.lays144 s sub m w hs hm
def Tryz.lays190_ren:Go.Shelf.Ren:=⟨fun | 190=>118 | 125=>99 | 258=>150 | 128=>135 | 129=>136 | 302=>167 | 303=>168 | 304=>169 | 305=>170 | 306=>171 | 307=>172 | 308=>148 | 309=>173 | 310=>174 | 333=>184 | 329=>158 | 330=>159 | 334=>185 | 335=>186 | 336=>50 | 344=>192 | n=>n,fun | 31=>112 | 9=>9 | 3=>3 | 46=>61 | 0=>0 | 51=>31 | 53=>22 | 4=>4 | 183=>184 | 182=>183 | 131=>77 | 5=>5 | 218=>202 | 222=>206 | 228=>223 | 229=>224 | n=>n,fun | n=>n⟩
theorem Tryz.lays190:Go.Proofs.Lays.n190 Tryz.prog Tryz.lays190_ren:={
 mixed:=by kernel_rfl
 f125:=Tryz.func99.trans (congrArg some (by kernel_rfl))
 f128:=Tryz.func135.trans (congrArg some (by kernel_rfl))
 f129:=Tryz.func136.trans (congrArg some (by kernel_rfl))
 f190:=Tryz.func118.trans (congrArg some (by kernel_rfl))
 f258:=Tryz.func150.trans (congrArg some (by kernel_rfl))
 f302:=Tryz.func167.trans (congrArg some (by kernel_rfl))
 f303:=Tryz.func168.trans (congrArg some (by kernel_rfl))
 f304:=Tryz.func169.trans (congrArg some (by kernel_rfl))
 f305:=Tryz.func170.trans (congrArg some (by kernel_rfl))
 f306:=Tryz.func171.trans (congrArg some (by kernel_rfl))
 f307:=Tryz.func172.trans (congrArg some (by kernel_rfl))
 f308:=Tryz.func148.trans (congrArg some (by kernel_rfl))
 f309:=Tryz.func173.trans (congrArg some (by kernel_rfl))
 f310:=Tryz.func174.trans (congrArg some (by kernel_rfl))
 f329:=Tryz.func158.trans (congrArg some (by kernel_rfl))
 f330:=Tryz.func159.trans (congrArg some (by kernel_rfl))
 f333:=Tryz.func184.trans (congrArg some (by kernel_rfl))
 f334:=Tryz.func185.trans (congrArg some (by kernel_rfl))
 f335:=Tryz.func186.trans (congrArg some (by kernel_rfl))
 f336:=Tryz.func50.trans (congrArg some (by kernel_rfl))
 f344:=Tryz.func192.trans (congrArg some (by kernel_rfl))
 t0:=Tryz.underlying0
 a0:=Tryz.isAgg0
 z0:=Tryz.sizeOf0
 v0:=Tryz.zeroValue0
 t3:=Tryz.underlying3
 a3:=Tryz.isAgg3
 z3:=Tryz.sizeOf3
 v3:=Tryz.zeroValue3
 t4:=Tryz.underlying4
 a4:=Tryz.isAgg4
 z4:=Tryz.sizeOf4
 v4:=Tryz.zeroValue4
 t5:=Tryz.underlying5
 a5:=Tryz.isAgg5
 z5:=Tryz.sizeOf5
 v5:=Tryz.zeroValue5
 t9:=Tryz.underlying9
 a9:=Tryz.isAgg9
 z9:=Tryz.sizeOf9
 v9:=Tryz.zeroValue9
 t31:=Tryz.underlying112
 a31:=Tryz.isAgg112
 z31:=Tryz.sizeOf112
 v31:=Tryz.zeroValue112
 t46:=Tryz.underlying61
 a46:=Tryz.isAgg61
 z46:=Tryz.sizeOf61
 v46:=Tryz.zeroValue61
 t51:=Tryz.underlying31
 a51:=Tryz.isAgg31
 z51:=Tryz.sizeOf31
 v51:=Tryz.zeroValue31
 t53:=Tryz.underlying22
 a53:=Tryz.isAgg22
 z53:=Tryz.sizeOf22
 v53:=Tryz.zeroValue22
 t131:=Tryz.underlying77
 a131:=Tryz.isAgg77
 z131:=Tryz.sizeOf77
 v131:=Tryz.zeroValue77
 t182:=Tryz.underlying183
 a182:=Tryz.isAgg183
 z182:=Tryz.sizeOf183
 v182:=Tryz.zeroValue183
 t183:=Tryz.underlying184
 a183:=Tryz.isAgg184
 z183:=Tryz.sizeOf184
 v183:=Tryz.zeroValue184
 t218:=Tryz.underlying202
 a218:=Tryz.isAgg202
 z218:=Tryz.sizeOf202
 v218:=Tryz.zeroValue202
 t222:=Tryz.underlying206
 a222:=Tryz.isAgg206
 z222:=Tryz.sizeOf206
 v222:=Tryz.zeroValue206
 t228:=Tryz.underlying223
 a228:=Tryz.isAgg223
 z228:=Tryz.sizeOf223
 v228:=Tryz.zeroValue223
 t229:=Tryz.underlying224
 a229:=Tryz.isAgg224
 z229:=Tryz.sizeOf224
 v229:=Tryz.zeroValue224 }
open Go.Sort Go.RowKit in
theorem Tryz.slices_Sort_string (blk off cap:Nat) (ss:List (List UInt8)) (w:World) (hH:Holds encStr w blk off ss.toArray) (hblk:blk<w.heap.size) (hsz:ss.length<4611686018427387904) :
 Calls Tryz.prog 118 #[.slice (some ⟨blk,off,none⟩) ss.length cap] w fun e w'=>
  e=.returned (.tuple #[])∧∃n os,w'=grow (putRow encStr (Sort.ahead w n) blk off (ss.mergeSort fun x y=>decide (x≤y)).toArray) os:=Any.slices_Sort_string Tryz.lays190 blk off cap ss w hH hblk hsz
def Tryz.lays99_ren:Go.Shelf.Ren:=⟨fun | 99=>66 | 206=>91 | n=>n,fun | 9=>9 | 4=>4 | 3=>3 | n=>n,fun | n=>n⟩
theorem Tryz.lays99:Go.Proofs.Lays.n99 Tryz.prog Tryz.lays99_ren:={
 mixed:=by kernel_rfl
 f99:=Tryz.func66.trans (congrArg some (by kernel_rfl))
 f206:=Tryz.func91.trans (congrArg some (by kernel_rfl))
 t3:=Tryz.underlying3
 a3:=Tryz.isAgg3
 z3:=Tryz.sizeOf3
 v3:=Tryz.zeroValue3
 t4:=Tryz.underlying4
 a4:=Tryz.isAgg4
 z4:=Tryz.sizeOf4
 v4:=Tryz.zeroValue4
 t9:=Tryz.underlying9
 a9:=Tryz.isAgg9
 z9:=Tryz.sizeOf9
 v9:=Tryz.zeroValue9 }
open Go.RowKit Go.Lib in
theorem Tryz.strings_HasPrefix (s p:ByteArray) (w:World) :
 Calls Tryz.prog 66 #[.string s,.string p] w fun e w'=>e=.returned (.bool (Lib.hasPrefix s.data.toList p.data.toList))∧w'=w:=Any.strings_HasPrefix Tryz.lays99 s p w
def Tryz.lays100_ren:Go.Shelf.Ren:=⟨fun | 100=>199 | 207=>208 | n=>n,fun | 9=>9 | 4=>4 | 3=>3 | n=>n,fun | n=>n⟩
theorem Tryz.lays100:Go.Proofs.Lays.n100 Tryz.prog Tryz.lays100_ren:={
 mixed:=by kernel_rfl
 f100:=Tryz.func199.trans (congrArg some (by kernel_rfl))
 f207:=Tryz.func208.trans (congrArg some (by kernel_rfl))
 t3:=Tryz.underlying3
 a3:=Tryz.isAgg3
 z3:=Tryz.sizeOf3
 v3:=Tryz.zeroValue3
 t4:=Tryz.underlying4
 a4:=Tryz.isAgg4
 z4:=Tryz.sizeOf4
 v4:=Tryz.zeroValue4
 t9:=Tryz.underlying9
 a9:=Tryz.isAgg9
 z9:=Tryz.sizeOf9
 v9:=Tryz.zeroValue9 }
open Go.RowKit Go.Lib in
theorem Tryz.strings_HasSuffix (s p:ByteArray) (w:World) (hs:s.size≤9223372036854775807) :
 Calls Tryz.prog 199 #[.string s,.string p] w fun e w'=>e=.returned (.bool (Lib.hasSuffix s.data.toList p.data.toList))∧w'=w:=Any.strings_HasSuffix Tryz.lays100 s p w hs
def Tryz.lays264_ren:Go.Shelf.Ren:=⟨fun | 264=>212 | n=>n,fun | 53=>22 | 46=>61 | n=>n,fun | n=>n⟩
theorem Tryz.lays264:Go.Proofs.Lays.n264 Tryz.prog Tryz.lays264_ren:={
 mixed:=by kernel_rfl
 f264:=Tryz.func212.trans (congrArg some (by kernel_rfl))
 t46:=Tryz.underlying61
 a46:=Tryz.isAgg61
 z46:=Tryz.sizeOf61
 v46:=Tryz.zeroValue61
 t53:=Tryz.underlying22
 a53:=Tryz.isAgg22
 z53:=Tryz.sizeOf22
 v53:=Tryz.zeroValue22 }
open Go.RowKit Go.Lib in
theorem Tryz.bits_Mul64 (x y:Nat) (hx:x<18446744073709551616) (hy:y<18446744073709551616) (w:World) :
 Calls Tryz.prog 212 #[.int .u64 x,.int .u64 y] w fun e w'=>e=.returned (.tuple #[.int .u64 ((x*y / 18446744073709551616:Nat):Int),.int .u64 ((x*y % 18446744073709551616:Nat):Int)])∧w'=w:=Any.bits_Mul64 Tryz.lays264 x y hx hy w
def Tryz.lays194_ren:Go.Shelf.Ren:=⟨fun | 194=>119 | n=>n,fun | 31=>112 | 9=>9 | 3=>3 | 4=>4 | 0=>0 | n=>n,fun | n=>n⟩
theorem Tryz.lays194:Go.Proofs.Lays.n194 Tryz.prog Tryz.lays194_ren:={
 mixed:=by kernel_rfl
 f194:=Tryz.func119.trans (congrArg some (by kernel_rfl))
 t0:=Tryz.underlying0
 a0:=Tryz.isAgg0
 z0:=Tryz.sizeOf0
 v0:=Tryz.zeroValue0
 t3:=Tryz.underlying3
 a3:=Tryz.isAgg3
 z3:=Tryz.sizeOf3
 v3:=Tryz.zeroValue3
 t4:=Tryz.underlying4
 a4:=Tryz.isAgg4
 z4:=Tryz.sizeOf4
 v4:=Tryz.zeroValue4
 t9:=Tryz.underlying9
 a9:=Tryz.isAgg9
 z9:=Tryz.sizeOf9
 v9:=Tryz.zeroValue9
 t31:=Tryz.underlying112
 a31:=Tryz.isAgg112
 z31:=Tryz.sizeOf112
 v31:=Tryz.zeroValue112 }
open Go.RowKit Go.Lib Go.Sort in
theorem Tryz.slices_Compact_string (blk off cap:Nat) (zs:List (List UInt8)) (w:World) (hH:Holds encStr w blk off zs.toArray) (hsz:zs.length≤9223372036854775807) (hcap:zs.length≤cap) :
 Calls Tryz.prog 119 #[.slice (some ⟨blk,off,none⟩) zs.length cap] w fun e w'=>e=.returned (.slice (some ⟨blk,off,none⟩) (Lib.compact zs).length cap)∧∃q,w'=putRow encStr (Sort.ahead w q) blk off (Lib.compact zs++List.replicate (zs.length-(Lib.compact zs).length) []).toArray:=Any.slices_Compact_string Tryz.lays194 blk off cap zs w hH hsz hcap
open Go.RowKit Go.Lib Go.Sort in
theorem Tryz.slices_Compact_string_empty (a:Option Addr) (cap:Nat) (w:World) :
 Calls Tryz.prog 119 #[.slice a 0 cap] w fun e w'=>e=.returned (.slice a 0 cap)∧w'=w:=Any.slices_Compact_string_empty Tryz.lays194 a cap w
open Go.RowKit Go.Sort in
theorem Tryz.slices_Sort_string_none (p:Option Addr) (cap:Nat) (w:World) :
 Calls Tryz.prog 118 #[.slice p 0 cap] w fun e w'=>e=.returned (.tuple #[])∧w'=w:=Any.slices_Sort_string_none Tryz.lays190 p cap w
end Go.Proofs
namespace Go.Proofs.YtjpndglegpcdnaaGreat
open Go.ChangeShapes Go.WideShapes Go.ChangeAt Go.RowKit
theorem oN (s:ByteArray):encStr (bs s)=.string s:=by simp [encStr]
def mkS (l:List UInt8):ByteArray:=⟨l.toArray⟩
theorem jE (l:List UInt8):bs (mkS l)=l:=by simp [mkS,bs]
theorem mkS_bs (s:ByteArray):mkS (bs s)=s:=by cases s;simp [mkS,bs]
def jD (w:World) (base:Nat) (v:Value) (L:List (List UInt8)):Prop:=w.ownsRow base 9 1 v L.length (L.map encStr)
theorem pp {w:World} {base:Nat} {e:TypeId} {size n:Nat} {v:Value} {xs:List Value} (h:w.ownsRow base e size v n xs) (os:Array Obj):(Sort.grow w os).ownsRow base e size v n xs:=by
 refine ⟨h.1,?_⟩
 rcases h.2 with h2 | ⟨g,cap,cur,hv,hg,hh,r⟩
 ·exact .inl h2
 ·refine .inr ⟨g,cap,cur,hv,hg,?_,r⟩
  have hlt:g<w.heap.size:=by
   rcases Nat.lt_or_ge g w.heap.size with h' | h'
   ·exact h'
   ·rw [Array.getElem?_eq_none h'] at hh;cases hh
  show (w.heap++os)[g]? = _
  rw [Array.getElem?_append_left hlt]
  exact hh
theorem sy {B:Nat} {w w':World} (h:Below B w w') (hB:B≤w'.heap.size) (os:Array Obj):Below B w (Sort.grow w' os):=
 ⟨h.os,h.tape,h.output,by have:=h.size;simp [Sort.grow];omega,fun k hk=>by
  rw [←h.block k hk]
  show (w'.heap++os)[k]? = _
  rw [Array.getElem?_append_left (by omega)]⟩
def jZ (L:List (List UInt8)):List (List UInt8):=L.mergeSort fun x y=>decide (x≤y)
theorem cH (L:List (List UInt8)):(jZ L).length=L.length:=List.length_mergeSort _
theorem pK (w:World) (base:Nat) (v:Value) (L:List (List UInt8)) (h:jD w base v L) (hb:base≤w.heap.size) (hn:L.length≤1000000000) :
 Calls Tryz.prog 118 #[v] w fun e w'=>e=.returned (.tuple #[])∧jD w' base v (jZ L)∧Below base w w':=by
 by_cases hv:v=.slice none 0 0
 ·subst hv
  have hL:L=[]:=by
   rcases h.2 with ⟨_,h2⟩ | ⟨g,cap,cur,hv,_⟩
   ·exact List.eq_nil_of_length_eq_zero h2
   ·cases hv
  subst hL
  refine (Tryz.slices_Sort_string_none none 0 w).mono fun e w' ⟨he,hw⟩=>?_
  subst hw
  exact ⟨he,by simpa [jZ,jD] using h,zy _ _⟩
 ·obtain ⟨g,cap,rfl,hbg,hg,hnc,hm,hl,hH⟩:=Lib.holds_of_ownsRow h hv
  refine (Tryz.slices_Sort_string g 0 cap L w hH hg (by omega)).mono fun e w' ⟨he,n,os,hw⟩=>?_
  subst hw
  refine ⟨he,?_,sy (Lib.below_putRow (zy _ _) hbg) (by simp [Sort.ahead];omega) os⟩
  have h1:=Lib.ownsRow_putRow (q:=n) (k:=L.length) (ys:=jZ L) h (cH L) (zw _)
  have h2:=pp h1 os
  unfold jD
  rw [cH]
  rw [List.take_of_length_le (by rw [cH];exact zw _)] at h2
  exact h2
theorem jG (w:World) (base:Nat) (v:Value) (L:List (List UInt8)) (h:jD w base v L) (hn:L.length≤1000000000) :
 Calls Tryz.prog 119 #[v] w fun e w'=>∃v',e=.returned v'∧jD w' base v' (Lib.compact L)∧Below base w w':=by
 by_cases hv:v=.slice none 0 0
 ·subst hv
  have hL:L=[]:=by
   rcases h.2 with ⟨_,h2⟩ | ⟨g,cap,cur,hv,_⟩
   ·exact List.eq_nil_of_length_eq_zero h2
   ·cases hv
  subst hL
  refine (Tryz.slices_Compact_string_empty none 0 w).mono fun e w' ⟨he,hw⟩=>?_
  subst hw
  exact ⟨_,he,by simpa [Lib.compact,Lib.compactUpTo,jD] using h,zy _ _⟩
 ·obtain ⟨g,cap,rfl,hbg,hg,hnc,hm,hl,hH⟩:=Lib.holds_of_ownsRow h hv
  refine (Tryz.slices_Compact_string g 0 cap L w hH (by omega) hnc).mono fun e w' ⟨he,q,hw⟩=>?_
  subst hw
  have hc:=Lib.compact_length_le L
  refine ⟨_,he,?_,Lib.below_putRow (zy _ _) hbg⟩
  have h1:=Lib.ownsRow_putRow (q:=q) (k:=(Lib.compact L).length) (ys:=Lib.compact L++List.replicate (L.length-(Lib.compact L).length) []) h (by simp;omega) hc
  rw [List.take_left'] at h1
  ·exact h1
  ·rfl
abbrev aY:=List UInt8
theorem vv (x y:aY):x≤y∨y≤x:=List.le_total x y
theorem vw {x y z:aY} (h:x≤y) (k:y≤z):x≤z:=List.le_trans h k
theorem qL {x y:aY} (h:x≤y) (k:x≠y):x<y:=by
 rcases List.le_iff_lt_or_eq.1 h with h | h
 ·exact h
 ·exact absurd h k
theorem qK {x y z:aY} (h:x≤y) (k:y<z):x<z:=List.lt_of_le_of_lt h k
theorem jP (L:List aY):(jZ L).Pairwise (·≤·):=by
 have:=List.pairwise_mergeSort (le:=fun x y:aY=>decide (x≤y)) (fun a b c h k=>by simp at *;exact vw h k) (fun a b=>by simpa using vv a b) L
 exact this.imp (by simp)
theorem vH (L:List aY) (x:aY):x∈jZ L↔x∈L:=List.mem_mergeSort
theorem fv (zs:List aY) (hs:zs.Pairwise (·≤·)):∀m,m≤zs.length→(∀x,x∈Lib.compactUpTo zs.toArray m↔x∈zs.take m)∧(Lib.compactUpTo zs.toArray m).Pairwise (· < ·):=by
 intro m
 induction m with
 | zero=>intro _;simp [Lib.compactUpTo]
 | succ m ih=>
   intro hm
   obtain ⟨h1,h2⟩:=ih (by omega)
   have hget:zs.toArray[m]! = zs[m]:=by simp [show m<zs.length by omega]
   rw [Lib.compactUpTo_succ]
   have htake:zs.take (m+1)=zs.take m++[zs[m]]:=by rw [List.take_succ_eq_append_getElem (by omega)]
   have hle:∀x,x∈zs.take m→x≤zs[m]:=by
    intro x hx
    obtain ⟨i,hi,rfl⟩:=List.getElem_of_mem hx
    simp only [zK] at hi
    rw [List.getElem_take]
    exact List.pairwise_iff_getElem.1 hs i m _ _ (by omega)
   by_cases hk:Lib.keeps zs.toArray m=true
   ·rw [if_pos hk,hget]
    refine ⟨fun x=>by rw [htake,List.mem_append,List.mem_append,h1],?_⟩
    rw [List.pairwise_append]
    refine ⟨h2,by simp,fun a ha b hb=>?_⟩
    obtain rfl:b=zs[m]:=by simpa using hb
    have ha':=(h1 a).1 ha
    rcases Nat.eq_zero_or_pos m with h0 | h0
    ·subst h0;simp at ha'
    ·have hprev:zs.toArray[m-1]! = zs[m-1]'(by omega):=by simp [show m-1<zs.length by omega]
     have hne:zs[m]≠zs[m-1]'(by omega):=by
      intro e
      have:=Lib.keeps_neg (d:=zs.toArray) h0 (by rw [hget,hprev,e])
      rw [this] at hk;cases hk
     have hle2:a≤zs[m-1]'(by omega):=by
      obtain ⟨i,hi,rfl⟩:=List.getElem_of_mem ha'
      simp only [zK] at hi
      rw [List.getElem_take]
      rcases Nat.lt_or_ge i (m-1) with h | h
      ·exact List.pairwise_iff_getElem.1 hs i (m-1) _ _ h
      ·obtain rfl:i=m-1:=by omega
       exact List.le_refl _
     exact qK hle2 (qL (hle _ (by rw [List.mem_take_iff_getElem];exact ⟨m-1,by omega,rfl⟩)) (Ne.symm hne))
   ·rw [if_neg hk,List.append_nil]
    refine ⟨fun x=>?_,h2⟩
    rw [htake,List.mem_append,h1]
    constructor
    ·exact .inl
    ·rintro (h | h)
     ·exact h
     ·obtain rfl:x=zs[m]:=by simpa using h
      rcases Nat.eq_zero_or_pos m with h0 | h0
      ·exact absurd (Lib.keeps_lt_one _ m (by omega)) hk
      ·have hprev:zs.toArray[m-1]! = zs[m-1]'(by omega):=by simp [show m-1<zs.length by omega]
       have he:zs[m]=zs[m-1]'(by omega):=by
        apply Classical.byContradiction
        intro hne
        exact hk (Lib.keeps_pos (by rw [hget,hprev];exact hne))
       rw [he,List.mem_take_iff_getElem]
       exact ⟨m-1,by omega,rfl⟩
def ey (L:List aY):List aY:=Lib.compact (jZ L)
theorem lu (L:List aY) (x:aY):x∈ey L↔x∈L:=by
 have:=(fv (jZ L) (jP L) (jZ L).length (zw _)).1 x
 rw [List.take_length,vH] at this
 exact this
theorem jQ (L:List aY):(ey L).Pairwise (· < ·):=(fv (jZ L) (jP L) (jZ L).length (zw _)).2
theorem eF (L:List aY):(ey L).length≤L.length:=by
 have:=Lib.compact_length_le (jZ L)
 rwa [cH] at this
end Go.Proofs.YtjpndglegpcdnaaGreat
