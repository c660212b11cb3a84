/- cmp.Less, slices.BinarySearch at strings. -/
import Derived.Shelf.Small.Bits
import Derived.Shelf.Small.Strs
import Derived.Shelf.Small.Wraps
import Derived.Shelf.Strconv.Itoa0
import Derived.Shelf.Strings.Search1
import Derived.Shelf.Strings.Search2
import Derived.Shelf.Strings.Search3
import Derived.Shelf.LaysM
import Derived.Shelf.Strings.Shaped
import Derived.Shelf.Sort.Plain
import Derived.Shelf.Strings.Prefix
import Derived.Shelf.Bits.Mul64
import Derived.Ground.Names2Prog
import Derived.Shelf.Slices.ReverseS
import Derived.Shelf.Slices.CompactS
import Derived.Shelf.Slices.SearchI
import Derived.Shelf.Slices.Cells
import Derived.Shelf.Slices.In.SortNone
import Derived.Test.YtjpndglegpcdnaaGreatProg
import Derived.Test.YtjpndglegpcdnaaGreatRule1
import Derived.Lib.OwnBridge
set_option linter.unusedVariables false
set_option linter.unusedSimpArgs false
set_option maxRecDepth 100000
set_option maxHeartbeats 8000000
namespace Go.Proofs
open Go.Shelf
def Tryz.lays125_ren:Go.Shelf.Ren:=⟨fun | 125=>99 | 128=>135 | 129=>136 | n=>n,fun | 46=>61 | 3=>3 | 51=>31 | 53=>22 | 4=>4 | 5=>5 | 9=>9 | n=>n,fun | n=>n⟩
theorem Tryz.lays125:Go.Proofs.Lays.n125 Tryz.prog Tryz.lays125_ren:={
 mixed:=by kernel_rfl
 f125:=Tryz.func99.trans (congrArg some (by kernel_rfl))
 f128:=Tryz.func135.trans (congrArg some (by kernel_rfl))
 f129:=Tryz.func136.trans (congrArg some (by kernel_rfl))
 t3:=Tryz.underlying3
 a3:=Tryz.isAgg3
 z3:=Tryz.sizeOf3
 v3:=Tryz.zeroValue3
 t4:=Tryz.underlying4
 a4:=Tryz.isAgg4
 z4:=Tryz.sizeOf4
 v4:=Tryz.zeroValue4
 t5:=Tryz.underlying5
 a5:=Tryz.isAgg5
 z5:=Tryz.sizeOf5
 v5:=Tryz.zeroValue5
 t9:=Tryz.underlying9
 a9:=Tryz.isAgg9
 z9:=Tryz.sizeOf9
 v9:=Tryz.zeroValue9
 t46:=Tryz.underlying61
 a46:=Tryz.isAgg61
 z46:=Tryz.sizeOf61
 v46:=Tryz.zeroValue61
 t51:=Tryz.underlying31
 a51:=Tryz.isAgg31
 z51:=Tryz.sizeOf31
 v51:=Tryz.zeroValue31
 t53:=Tryz.underlying22
 a53:=Tryz.isAgg22
 z53:=Tryz.sizeOf22
 v53:=Tryz.zeroValue22 }
theorem Tryz.bits_Len (x:Int) (w:World) (h0:0≤x) (h1:x≤18446744073709551615) :
 Calls Tryz.prog 99 #[.int .u64 x] w fun e w'=>e=.returned (.int .i64 (Lib.bitLen x.toNat))∧w'=w:=Any.bits_Len Tryz.lays125 x w h0 h1
def Tryz.lays137_ren:Go.Shelf.Ren:=⟨fun | 137=>241 | 217=>225 | 266=>232 | n=>n,fun | 9=>9 | 5=>5 | 3=>3 | n=>n,fun | n=>n⟩
theorem Tryz.lays137:Go.Proofs.Lays.n137 Tryz.prog Tryz.lays137_ren:={
 mixed:=by kernel_rfl
 f137:=Tryz.func241.trans (congrArg some (by kernel_rfl))
 f217:=Tryz.func225.trans (congrArg some (by kernel_rfl))
 f266:=Tryz.func232.trans (congrArg some (by kernel_rfl))
 t3:=Tryz.underlying3
 a3:=Tryz.isAgg3
 z3:=Tryz.sizeOf3
 v3:=Tryz.zeroValue3
 t5:=Tryz.underlying5
 a5:=Tryz.isAgg5
 z5:=Tryz.sizeOf5
 v5:=Tryz.zeroValue5
 t9:=Tryz.underlying9
 a9:=Tryz.isAgg9
 z9:=Tryz.sizeOf9
 v9:=Tryz.zeroValue9 }
open Go.RowKit in
theorem Tryz.strings_IndexByte (s:ByteArray) (c:Int) (w:World) :
 Calls Tryz.prog 241 #[.string s,.int .u8 c] w fun e w'=>e=.returned (.int .i64 (Lib.indexByte s.data.toList c.toNat.toUInt8))∧w'=w:=Any.strings_IndexByte Tryz.lays137 s c w
def Tryz.lays144_ren:Go.Shelf.Ren:=⟨fun | 144=>206 | 143=>213 | 219=>220 | 217=>225 | 225=>226 | 224=>227 | 267=>228 | 266=>232 | 314=>233 | n=>n,fun | 9=>9 | 4=>4 | 3=>3 | 5=>5 | 46=>61 | 146=>271 | 51=>31 | n=>n,fun | 1=>0 | n=>n⟩
theorem Tryz.lays144:Go.Proofs.Lays.n144 Tryz.prog Tryz.lays144_ren:={
 mixed:=by kernel_rfl
 f143:=Tryz.func213.trans (congrArg some (by kernel_rfl))
 f144:=Tryz.func206.trans (congrArg some (by kernel_rfl))
 f217:=Tryz.func225.trans (congrArg some (by kernel_rfl))
 f219:=Tryz.func220.trans (congrArg some (by kernel_rfl))
 f224:=Tryz.func227.trans (congrArg some (by kernel_rfl))
 f225:=Tryz.func226.trans (congrArg some (by kernel_rfl))
 f266:=Tryz.func232.trans (congrArg some (by kernel_rfl))
 f267:=Tryz.func228.trans (congrArg some (by kernel_rfl))
 f314:=Tryz.func233.trans (congrArg some (by kernel_rfl))
 t3:=Tryz.underlying3
 a3:=Tryz.isAgg3
 z3:=Tryz.sizeOf3
 v3:=Tryz.zeroValue3
 t4:=Tryz.underlying4
 a4:=Tryz.isAgg4
 z4:=Tryz.sizeOf4
 v4:=Tryz.zeroValue4
 t5:=Tryz.underlying5
 a5:=Tryz.isAgg5
 z5:=Tryz.sizeOf5
 v5:=Tryz.zeroValue5
 t9:=Tryz.underlying9
 a9:=Tryz.isAgg9
 z9:=Tryz.sizeOf9
 v9:=Tryz.zeroValue9
 t46:=Tryz.underlying61
 a46:=Tryz.isAgg61
 z46:=Tryz.sizeOf61
 v46:=Tryz.zeroValue61
 t51:=Tryz.underlying31
 a51:=Tryz.isAgg31
 z51:=Tryz.sizeOf31
 v51:=Tryz.zeroValue31
 t146:=Tryz.underlying271
 a146:=Tryz.isAgg271
 z146:=Tryz.sizeOf271
 v146:=Tryz.zeroValue271
 g1:=by kernel_rfl }
open Go.RowKit Go.Lib in
theorem Tryz.strings_Contains (s sub:ByteArray) (m:Int) (w:World) (hs:s.size<4294967281) (hm:w.cell? ⟨0,0,none⟩=some (.int .i64 m)) :
 Calls Tryz.prog 206 #[.string s,.string sub] w fun e w'=>e=.returned (.bool (Lib.contains s.data.toList sub.data.toList))∧w'=w:=Any.strings_Contains Tryz.lays144 s sub m w hs hm
def Tryz.lays190_ren:Go.Shelf.Ren:=⟨fun | 190=>118 | 125=>99 | 258=>150 | 128=>135 | 129=>136 | 302=>167 | 303=>168 | 304=>169 | 305=>170 | 306=>171 | 307=>172 | 308=>148 | 309=>173 | 310=>174 | 333=>184 | 329=>158 | 330=>159 | 334=>185 | 335=>186 | 336=>50 | 344=>192 | n=>n,fun | 31=>112 | 9=>9 | 3=>3 | 46=>61 | 0=>0 | 51=>31 | 53=>22 | 4=>4 | 183=>184 | 182=>183 | 131=>77 | 5=>5 | 218=>202 | 222=>206 | 228=>223 | 229=>224 | n=>n,fun | n=>n⟩
theorem Tryz.lays190:Go.Proofs.Lays.n190 Tryz.prog Tryz.lays190_ren:={
 mixed:=by kernel_rfl
 f125:=Tryz.func99.trans (congrArg some (by kernel_rfl))
 f128:=Tryz.func135.trans (congrArg some (by kernel_rfl))
 f129:=Tryz.func136.trans (congrArg some (by kernel_rfl))
 f190:=Tryz.func118.trans (congrArg some (by kernel_rfl))
 f258:=Tryz.func150.trans (congrArg some (by kernel_rfl))
 f302:=Tryz.func167.trans (congrArg some (by kernel_rfl))
 f303:=Tryz.func168.trans (congrArg some (by kernel_rfl))
 f304:=Tryz.func169.trans (congrArg some (by kernel_rfl))
 f305:=Tryz.func170.trans (congrArg some (by kernel_rfl))
 f306:=Tryz.func171.trans (congrArg some (by kernel_rfl))
 f307:=Tryz.func172.trans (congrArg some (by kernel_rfl))
 f308:=Tryz.func148.trans (congrArg some (by kernel_rfl))
 f309:=Tryz.func173.trans (congrArg some (by kernel_rfl))
 f310:=Tryz.func174.trans (congrArg some (by kernel_rfl))
 f329:=Tryz.func158.trans (congrArg some (by kernel_rfl))
 f330:=Tryz.func159.trans (congrArg some (by kernel_rfl))
 f333:=Tryz.func184.trans (congrArg some (by kernel_rfl))
 f334:=Tryz.func185.trans (congrArg some (by kernel_rfl))
 f335:=Tryz.func186.trans (congrArg some (by kernel_rfl))
 f336:=Tryz.func50.trans (congrArg some (by kernel_rfl))
 f344:=Tryz.func192.trans (congrArg some (by kernel_rfl))
 t0:=Tryz.underlying0
 a0:=Tryz.isAgg0
 z0:=Tryz.sizeOf0
 v0:=Tryz.zeroValue0
 t3:=Tryz.underlying3
 a3:=Tryz.isAgg3
 z3:=Tryz.sizeOf3
 v3:=Tryz.zeroValue3
 t4:=Tryz.underlying4
 a4:=Tryz.isAgg4
 z4:=Tryz.sizeOf4
 v4:=Tryz.zeroValue4
 t5:=Tryz.underlying5
 a5:=Tryz.isAgg5
 z5:=Tryz.sizeOf5
 v5:=Tryz.zeroValue5
 t9:=Tryz.underlying9
 a9:=Tryz.isAgg9
 z9:=Tryz.sizeOf9
 v9:=Tryz.zeroValue9
 t31:=Tryz.underlying112
 a31:=Tryz.isAgg112
 z31:=Tryz.sizeOf112
 v31:=Tryz.zeroValue112
 t46:=Tryz.underlying61
 a46:=Tryz.isAgg61
 z46:=Tryz.sizeOf61
 v46:=Tryz.zeroValue61
 t51:=Tryz.underlying31
 a51:=Tryz.isAgg31
 z51:=Tryz.sizeOf31
 v51:=Tryz.zeroValue31
 t53:=Tryz.underlying22
 a53:=Tryz.isAgg22
 z53:=Tryz.sizeOf22
 v53:=Tryz.zeroValue22
 t131:=Tryz.underlying77
 a131:=Tryz.isAgg77
 z131:=Tryz.sizeOf77
 v131:=Tryz.zeroValue77
 t182:=Tryz.underlying183
 a182:=Tryz.isAgg183
 z182:=Tryz.sizeOf183
 v182:=Tryz.zeroValue183
 t183:=Tryz.underlying184
 a183:=Tryz.isAgg184
 z183:=Tryz.sizeOf184
 v183:=Tryz.zeroValue184
 t218:=Tryz.underlying202
 a218:=Tryz.isAgg202
 z218:=Tryz.sizeOf202
 v218:=Tryz.zeroValue202
 t222:=Tryz.underlying206
 a222:=Tryz.isAgg206
 z222:=Tryz.sizeOf206
 v222:=Tryz.zeroValue206
 t228:=Tryz.underlying223
 a228:=Tryz.isAgg223
 z228:=Tryz.sizeOf223
 v228:=Tryz.zeroValue223
 t229:=Tryz.underlying224
 a229:=Tryz.isAgg224
 z229:=Tryz.sizeOf224
 v229:=Tryz.zeroValue224 }
open Go.Sort Go.RowKit in
theorem Tryz.slices_Sort_string (blk off cap:Nat) (ss:List (List UInt8)) (w:World) (hH:Holds encStr w blk off ss.toArray) (hblk:blk<w.heap.size) (hsz:ss.length<4611686018427387904) :
 Calls Tryz.prog 118 #[.slice (some ⟨blk,off,none⟩) ss.length cap] w fun e w'=>
  e=.returned (.tuple #[])∧∃n os,w'=grow (putRow encStr (Sort.ahead w n) blk off (ss.mergeSort fun x y=>decide (x≤y)).toArray) os:=Any.slices_Sort_string Tryz.lays190 blk off cap ss w hH hblk hsz
def Tryz.lays99_ren:Go.Shelf.Ren:=⟨fun | 99=>66 | 206=>91 | n=>n,fun | 9=>9 | 4=>4 | 3=>3 | n=>n,fun | n=>n⟩
theorem Tryz.lays99:Go.Proofs.Lays.n99 Tryz.prog Tryz.lays99_ren:={
 mixed:=by kernel_rfl
 f99:=Tryz.func66.trans (congrArg some (by kernel_rfl))
 f206:=Tryz.func91.trans (congrArg some (by kernel_rfl))
 t3:=Tryz.underlying3
 a3:=Tryz.isAgg3
 z3:=Tryz.sizeOf3
 v3:=Tryz.zeroValue3
 t4:=Tryz.underlying4
 a4:=Tryz.isAgg4
 z4:=Tryz.sizeOf4
 v4:=Tryz.zeroValue4
 t9:=Tryz.underlying9
 a9:=Tryz.isAgg9
 z9:=Tryz.sizeOf9
 v9:=Tryz.zeroValue9 }
open Go.RowKit Go.Lib in
theorem Tryz.strings_HasPrefix (s p:ByteArray) (w:World) :
 Calls Tryz.prog 66 #[.string s,.string p] w fun e w'=>e=.returned (.bool (Lib.hasPrefix s.data.toList p.data.toList))∧w'=w:=Any.strings_HasPrefix Tryz.lays99 s p w
def Tryz.lays100_ren:Go.Shelf.Ren:=⟨fun | 100=>199 | 207=>208 | n=>n,fun | 9=>9 | 4=>4 | 3=>3 | n=>n,fun | n=>n⟩
theorem Tryz.lays100:Go.Proofs.Lays.n100 Tryz.prog Tryz.lays100_ren:={
 mixed:=by kernel_rfl
 f100:=Tryz.func199.trans (congrArg some (by kernel_rfl))
 f207:=Tryz.func208.trans (congrArg some (by kernel_rfl))
 t3:=Tryz.underlying3
 a3:=Tryz.isAgg3
 z3:=Tryz.sizeOf3
 v3:=Tryz.zeroValue3
 t4:=Tryz.underlying4
 a4:=Tryz.isAgg4
 z4:=Tryz.sizeOf4
 v4:=Tryz.zeroValue4
 t9:=Tryz.underlying9
 a9:=Tryz.isAgg9
 z9:=Tryz.sizeOf9
 v9:=Tryz.zeroValue9 }
open Go.RowKit Go.Lib in
theorem Tryz.strings_HasSuffix (s p:ByteArray) (w:World) (hs:s.size≤9223372036854775807) :
 Calls Tryz.prog 199 #[.string s,.string p] w fun e w'=>e=.returned (.bool (Lib.hasSuffix s.data.toList p.data.toList))∧w'=w:=Any.strings_HasSuffix Tryz.lays100 s p w hs
def Tryz.lays264_ren:Go.Shelf.Ren:=⟨fun | 264=>212 | n=>n,fun | 53=>22 | 46=>61 | n=>n,fun | n=>n⟩
theorem Tryz.lays264:Go.Proofs.Lays.n264 Tryz.prog Tryz.lays264_ren:={
 mixed:=by kernel_rfl
 f264:=Tryz.func212.trans (congrArg some (by kernel_rfl))
 t46:=Tryz.underlying61
 a46:=Tryz.isAgg61
 z46:=Tryz.sizeOf61
 v46:=Tryz.zeroValue61
 t53:=Tryz.underlying22
 a53:=Tryz.isAgg22
 z53:=Tryz.sizeOf22
 v53:=Tryz.zeroValue22 }
open Go.RowKit Go.Lib in
theorem Tryz.bits_Mul64 (x y:Nat) (hx:x<18446744073709551616) (hy:y<18446744073709551616) (w:World) :
 Calls Tryz.prog 212 #[.int .u64 x,.int .u64 y] w fun e w'=>e=.returned (.tuple #[.int .u64 ((x*y / 18446744073709551616:Nat):Int),.int .u64 ((x*y % 18446744073709551616:Nat):Int)])∧w'=w:=Any.bits_Mul64 Tryz.lays264 x y hx hy w
def Tryz.lays194_ren:Go.Shelf.Ren:=⟨fun | 194=>119 | n=>n,fun | 31=>112 | 9=>9 | 3=>3 | 4=>4 | 0=>0 | n=>n,fun | n=>n⟩
theorem Tryz.lays194:Go.Proofs.Lays.n194 Tryz.prog Tryz.lays194_ren:={
 mixed:=by kernel_rfl
 f194:=Tryz.func119.trans (congrArg some (by kernel_rfl))
 t0:=Tryz.underlying0
 a0:=Tryz.isAgg0
 z0:=Tryz.sizeOf0
 v0:=Tryz.zeroValue0
 t3:=Tryz.underlying3
 a3:=Tryz.isAgg3
 z3:=Tryz.sizeOf3
 v3:=Tryz.zeroValue3
 t4:=Tryz.underlying4
 a4:=Tryz.isAgg4
 z4:=Tryz.sizeOf4
 v4:=Tryz.zeroValue4
 t9:=Tryz.underlying9
 a9:=Tryz.isAgg9
 z9:=Tryz.sizeOf9
 v9:=Tryz.zeroValue9
 t31:=Tryz.underlying112
 a31:=Tryz.isAgg112
 z31:=Tryz.sizeOf112
 v31:=Tryz.zeroValue112 }
open Go.RowKit Go.Lib Go.Sort in
theorem Tryz.slices_Compact_string (blk off cap:Nat) (zs:List (List UInt8)) (w:World) (hH:Holds encStr w blk off zs.toArray) (hsz:zs.length≤9223372036854775807) (hcap:zs.length≤cap) :
 Calls Tryz.prog 119 #[.slice (some ⟨blk,off,none⟩) zs.length cap] w fun e w'=>e=.returned (.slice (some ⟨blk,off,none⟩) (Lib.compact zs).length cap)∧∃q,w'=putRow encStr (Sort.ahead w q) blk off (Lib.compact zs++List.replicate (zs.length-(Lib.compact zs).length) []).toArray:=Any.slices_Compact_string Tryz.lays194 blk off cap zs w hH hsz hcap
open Go.RowKit Go.Lib Go.Sort in
theorem Tryz.slices_Compact_string_empty (a:Option Addr) (cap:Nat) (w:World) :
 Calls Tryz.prog 119 #[.slice a 0 cap] w fun e w'=>e=.returned (.slice a 0 cap)∧w'=w:=Any.slices_Compact_string_empty Tryz.lays194 a cap w
open Go.RowKit Go.Sort in
theorem Tryz.slices_Sort_string_none (p:Option Addr) (cap:Nat) (w:World) :
 Calls Tryz.prog 118 #[.slice p 0 cap] w fun e w'=>e=.returned (.tuple #[])∧w'=w:=Any.slices_Sort_string_none Tryz.lays190 p cap w
end Go.Proofs
namespace Go.Proofs.YtjpndglegpcdnaaGreat
open Go.ChangeShapes Go.WideShapes Go.ChangeAt Go.RowKit
theorem oh (s:ByteArray):encStr (bs s)=.string s:=by simp [encStr]
def mkS (l:List UInt8):ByteArray:=⟨l.toArray⟩
theorem jq (l:List UInt8):bs (mkS l)=l:=by simp [mkS,bs]
theorem mkS_bs (s:ByteArray):mkS (bs s)=s:=by cases s;simp [mkS,bs]
def jp (w:World) (base:Nat) (v:Value) (L:List (List UInt8)):Prop:=w.ownsRow base 9 1 v L.length (L.map encStr)
theorem oO {w:World} {base:Nat} {e:TypeId} {size n:Nat} {v:Value} {xs:List Value} (h:w.ownsRow base e size v n xs) (os:Array Obj):(Sort.grow w os).ownsRow base e size v n xs:=by
 refine ⟨h.1,?_⟩
 rcases h.2 with h2 | ⟨g,cap,cur,hv,hg,hh,r⟩
 ·exact .inl h2
 ·refine .inr ⟨g,cap,cur,hv,hg,?_,r⟩
  have hlt:g<w.heap.size:=by
   rcases Nat.lt_or_ge g w.heap.size with h' | h'
   ·exact h'
   ·rw [Array.getElem?_eq_none h'] at hh;cases hh
  show (w.heap++os)[g]? = _
  rw [Array.getElem?_append_left hlt]
  exact hh
theorem rD {B:Nat} {w w':World} (h:Below B w w') (hB:B≤w'.heap.size) (os:Array Obj):Below B w (Sort.grow w' os):=
 ⟨h.os,h.tape,h.output,by have:=h.size;simp [Sort.grow];omega,fun k hk=>by
  rw [←h.block k hk]
  show (w'.heap++os)[k]? = _
  rw [Array.getElem?_append_left (by omega)]⟩
def jQ (L:List (List UInt8)):List (List UInt8):=L.mergeSort fun x y=>decide (x≤y)
theorem cG (L:List (List UInt8)):(jQ L).length=L.length:=List.length_mergeSort _
theorem pa (w:World) (base:Nat) (v:Value) (L:List (List UInt8)) (h:jp w base v L) (hb:base≤w.heap.size) (hn:L.length≤1000000000) :
 Calls Tryz.prog 118 #[v] w fun e w'=>e=.returned (.tuple #[])∧jp w' base v (jQ L)∧Below base w w':=by
 by_cases hv:v=.slice none 0 0
 ·subst hv
  have hL:L=[]:=by
   rcases h.2 with ⟨_,h2⟩ | ⟨g,cap,cur,hv,_⟩
   ·exact List.eq_nil_of_length_eq_zero h2
   ·cases hv
  subst hL
  refine (Tryz.slices_Sort_string_none none 0 w).mono fun e w' ⟨he,hw⟩=>?_
  subst hw
  exact ⟨he,by simpa [jQ,jp] using h,yq _ _⟩
 ·obtain ⟨g,cap,rfl,hbg,hg,hnc,hm,hl,hH⟩:=Lib.holds_of_ownsRow h hv
  refine (Tryz.slices_Sort_string g 0 cap L w hH hg (by omega)).mono fun e w' ⟨he,n,os,hw⟩=>?_
  subst hw
  refine ⟨he,?_,rD (Lib.below_putRow (yq _ _) hbg) (by simp [Sort.ahead];omega) os⟩
  have h1:=Lib.ownsRow_putRow (q:=n) (k:=L.length) (ys:=jQ L) h (cG L) (yo _)
  have h2:=oO h1 os
  unfold jp
  rw [cG]
  rw [List.take_of_length_le (by rw [cG];exact yo _)] at h2
  exact h2
theorem js (w:World) (base:Nat) (v:Value) (L:List (List UInt8)) (h:jp w base v L) (hn:L.length≤1000000000) :
 Calls Tryz.prog 119 #[v] w fun e w'=>∃v',e=.returned v'∧jp w' base v' (Lib.compact L)∧Below base w w':=by
 by_cases hv:v=.slice none 0 0
 ·subst hv
  have hL:L=[]:=by
   rcases h.2 with ⟨_,h2⟩ | ⟨g,cap,cur,hv,_⟩
   ·exact List.eq_nil_of_length_eq_zero h2
   ·cases hv
  subst hL
  refine (Tryz.slices_Compact_string_empty none 0 w).mono fun e w' ⟨he,hw⟩=>?_
  subst hw
  exact ⟨_,he,by simpa [Lib.compact,Lib.compactUpTo,jp] using h,yq _ _⟩
 ·obtain ⟨g,cap,rfl,hbg,hg,hnc,hm,hl,hH⟩:=Lib.holds_of_ownsRow h hv
  refine (Tryz.slices_Compact_string g 0 cap L w hH (by omega) hnc).mono fun e w' ⟨he,q,hw⟩=>?_
  subst hw
  have hc:=Lib.compact_length_le L
  refine ⟨_,he,?_,Lib.below_putRow (yq _ _) hbg⟩
  have h1:=Lib.ownsRow_putRow (q:=q) (k:=(Lib.compact L).length) (ys:=Lib.compact L++List.replicate (L.length-(Lib.compact L).length) []) h (by simp;omega) hc
  rw [List.take_left'] at h1
  ·exact h1
  ·rfl
abbrev aW:=List UInt8
theorem ul (x y:aW):x≤y∨y≤x:=List.le_total x y
theorem um {x y z:aW} (h:x≤y) (k:y≤z):x≤z:=List.le_trans h k
theorem qa {x y:aW} (h:x≤y) (k:x≠y):x<y:=by
 rcases List.le_iff_lt_or_eq.1 h with h | h
 ·exact h
 ·exact absurd h k
theorem pZ {x y z:aW} (h:x≤y) (k:y<z):x<z:=List.lt_of_le_of_lt h k
theorem jF (L:List aW):(jQ L).Pairwise (·≤·):=by
 have:=List.pairwise_mergeSort (le:=fun x y:aW=>decide (x≤y)) (fun a b c h k=>by simp at *;exact um h k) (fun a b=>by simpa using ul a b) L
 exact this.imp (by simp)
theorem ux (L:List aW) (x:aW):x∈jQ L↔x∈L:=List.mem_mergeSort
theorem fg (zs:List aW) (hs:zs.Pairwise (·≤·)):∀m,m≤zs.length→(∀x,x∈Lib.compactUpTo zs.toArray m↔x∈zs.take m)∧(Lib.compactUpTo zs.toArray m).Pairwise (· < ·):=by
 intro m
 induction m with
 | zero=>intro _;simp [Lib.compactUpTo]
 | succ m ih=>
   intro hm
   obtain ⟨h1,h2⟩:=ih (by omega)
   have hget:zs.toArray[m]! = zs[m]:=by simp [show m<zs.length by omega]
   rw [Lib.compactUpTo_succ]
   have htake:zs.take (m+1)=zs.take m++[zs[m]]:=by rw [List.take_succ_eq_append_getElem (by omega)]
   have hle:∀x,x∈zs.take m→x≤zs[m]:=by
    intro x hx
    obtain ⟨i,hi,rfl⟩:=List.getElem_of_mem hx
    simp only [yF] at hi
    rw [List.getElem_take]
    exact List.pairwise_iff_getElem.1 hs i m _ _ (by omega)
   by_cases hk:Lib.keeps zs.toArray m=true
   ·rw [if_pos hk,hget]
    refine ⟨fun x=>by rw [htake,List.mem_append,List.mem_append,h1],?_⟩
    rw [List.pairwise_append]
    refine ⟨h2,by simp,fun a ha b hb=>?_⟩
    obtain rfl:b=zs[m]:=by simpa using hb
    have ha':=(h1 a).1 ha
    rcases Nat.eq_zero_or_pos m with h0 | h0
    ·subst h0;simp at ha'
    ·have hprev:zs.toArray[m-1]! = zs[m-1]'(by omega):=by simp [show m-1<zs.length by omega]
     have hne:zs[m]≠zs[m-1]'(by omega):=by
      intro e
      have:=Lib.keeps_neg (d:=zs.toArray) h0 (by rw [hget,hprev,e])
      rw [this] at hk;cases hk
     have hle2:a≤zs[m-1]'(by omega):=by
      obtain ⟨i,hi,rfl⟩:=List.getElem_of_mem ha'
      simp only [yF] at hi
      rw [List.getElem_take]
      rcases Nat.lt_or_ge i (m-1) with h | h
      ·exact List.pairwise_iff_getElem.1 hs i (m-1) _ _ h
      ·obtain rfl:i=m-1:=by omega
       exact List.le_refl _
     exact pZ hle2 (qa (hle _ (by rw [List.mem_take_iff_getElem];exact ⟨m-1,by omega,rfl⟩)) (Ne.symm hne))
   ·rw [if_neg hk,List.append_nil]
    refine ⟨fun x=>?_,h2⟩
    rw [htake,List.mem_append,h1]
    constructor
    ·exact .inl
    ·rintro (h | h)
     ·exact h
     ·obtain rfl:x=zs[m]:=by simpa using h
      rcases Nat.eq_zero_or_pos m with h0 | h0
      ·exact absurd (Lib.keeps_lt_one _ m (by omega)) hk
      ·have hprev:zs.toArray[m-1]! = zs[m-1]'(by omega):=by simp [show m-1<zs.length by omega]
       have he:zs[m]=zs[m-1]'(by omega):=by
        apply Classical.byContradiction
        intro hne
        exact hk (Lib.keeps_pos (by rw [hget,hprev];exact hne))
       rw [he,List.mem_take_iff_getElem]
       exact ⟨m-1,by omega,rfl⟩
def ef (L:List aW):List aW:=Lib.compact (jQ L)
theorem lc (L:List aW) (x:aW):x∈ef L↔x∈L:=by
 have:=(fg (jQ L) (jF L) (jQ L).length (yo _)).1 x
 rw [List.take_length,ux] at this
 exact this
theorem jG (L:List aW):(ef L).Pairwise (· < ·):=(fg (jQ L) (jF L) (jQ L).length (yo _)).2
theorem eu (L:List aW):(ef L).length≤L.length:=by
 have:=Lib.compact_length_le (jQ L)
 rwa [cG] at this
theorem qq {k:IntKind} {a b:Int} {x y:Bool} (h:a=b) (h':x=y):Ending.returned (.tuple #[.int k a,.bool x])=.returned (.tuple #[.int k b,.bool y]):=by rw [h,h']
theorem kX (x y:ByteArray) (w:World) :
 Calls Tryz.prog 148 #[.string x,.string y] w fun e w'=>e=.returned (.bool (decide (bs x<bs y)))∧w=w':=by
 go_enter Tryz.func148,Tryz.ntmps148
 go_wp2
 all_goals go_ret
 all_goals refine ⟨ae ?_,rfl⟩
 all_goals
  rw [dj,ByteArray.toList_eq,ByteArray.toList_eq]
theorem ox (x:ByteArray) (w:World):Calls Tryz.prog 149 #[.string x] w fun e w'=>e=.returned (.bool false)∧w=w':=by
 go_enter Tryz.func149,Tryz.ntmps149
 go_wp2
 all_goals go_ret
 all_goals exact ⟨ae (by simp),rfl⟩
def ia (L:List aW) (t:aW):Nat:=L.findIdx (fun x=>!decide (x<t))
theorem lz {L:List aW} {A:Option Addr} {B:Nat} {w wr:World} (hl:RL cR w B (L.map mkS) A) (hbw:Below w.heap.size w wr) (hB:B≤w.heap.size) (h0:0<L.length) :
 ∃b off,A=some ⟨b,off,none⟩∧b<wr.heap.size∧∀m (hm:m<L.length),wr.cell? ⟨b,off+m,none⟩=some (.string (mkS L[m])):=by
 obtain ⟨b,off,rfl,hb⟩:=hl.base hbw hB (by simpa using h0)
 refine ⟨b,off,rfl,hb,fun m hm=>?_⟩
 obtain ⟨x,vs,hx,hlen,hcell,hr⟩:=hl.at_ hbw hB (k:=m) (by simpa using hm)
 obtain ⟨rfl,_⟩:=hr
 have:=hcell 0 _ rfl
 have e:x=mkS L[m]:=by simpa [hm,eq_comm] using hx
 rw [←e]
 simpa [cR] using this
theorem uI {L:List aW} {t:aW} {i:Nat} (h:i≤L.length) (h1:∀k (hk:k<L.length),k<i→L[k]<t) (h2:∀k (hk:k<L.length),i≤k→¬L[k]<t):ia L t=i:=by
 unfold ia
 rcases Nat.lt_or_ge i L.length with hlt | hge
 ·refine (List.findIdx_eq hlt).2 ⟨by simpa using h2 i hlt (yo _),fun j hj=>?_⟩
  simpa using h1 j (by omega) hj
 ·obtain rfl:i=L.length:=by omega
  refine List.findIdx_eq_length.2 fun x hx=>?_
  obtain ⟨k,hk,rfl⟩:=List.getElem_of_mem hx
  simpa using h1 k hk hk
theorem mem_at {L:List aW} {t:aW} {i:Nat} (hi:i<L.length) (h1:∀k (hk:k<L.length),k<i→L[k]<t) (hs:L.Pairwise (· < ·)) (h2:¬L[i]<t):t∈L↔L[i]=t:=by
 constructor
 ·intro h
  obtain ⟨k,hk,rfl⟩:=List.getElem_of_mem h
  rcases Nat.lt_trichotomy k i with h | h | h
  ·exact absurd (h1 k hk h) (List.lt_irrefl _)
  ·subst h;rfl
  ·exact absurd (List.pairwise_iff_getElem.1 hs i k hi hk h) h2
 ·intro h;rw [←h];exact List.getElem_mem hi
theorem gQ (L:List aW) (A:Option Addr) (c B:Nat) (t:ByteArray) (w:World) (hl:RL cR w B (L.map mkS) A) (hB:B≤w.heap.size) (hn:L.length≤1000000) (hs:L.Pairwise (· < ·)) :
 Calls Tryz.prog 117 #[.slice A L.length c,.string t] w fun e w'=>e=.returned (.tuple #[.int .i64 (ia L (bs t)),.bool (decide (bs t∈L))])∧w=w':=by
 go_enter Tryz.func117,Tryz.ntmps117
 go_wp2_with fail
 go_loop [7,8] (fun u v=>∃i j:Nat,i≤j∧j≤L.length∧u=.int .i64 i∧v=.int .i64 j∧(∀k (hk:k<L.length),k<i→L[k]<bs t)∧(∀k (hk:k<L.length),j≤k→¬L[k]<bs t)) (fun u v=>(intOf v).toNat-(intOf u).toNat)
 case atStart=>exact ⟨0,L.length,yp _,yo _,rfl,rfl,fun k hk h=>absurd h (by omega),fun k hk h=>absurd h (by omega)⟩
 case round=>
  obtain ⟨i,j,hij,hj,rfl,rfl,hlo,hhi⟩:=hrel
  have HLO:=ym hlo
  have HHI:=ym hhi
  have HL:=ym hl
  have HS:=ym hs
  clear hlo hhi hl hs
  by_cases hlt:i<j
  ·obtain ⟨b,off,rfl,hb,hc⟩:=lz HL.out (yq _ _) hB (by omega)
   have hcm:=hc ((i+j) / 2) (by omega)
   have hm1:((i:Int)+j) / 2<L.length:=by omega
   have hm0:0≤((i:Int)+j) / 2:=by omega
   clear hc
   by_cases hless:L[(i+j) / 2]'(by omega)<bs t
   ·have HLS:=ym hless
    have hless':decide (bs (mkS (L[(i+j) / 2]'(by omega)))<bs t)=true:=by rw [jq];simpa using hless
    clear hless
    go_wp2_with (go_at_call 148;refine (kX _ _ _).mono ?_;rintro e w' ⟨rfl,rfl⟩)
    go_round
    case rel=>exact ⟨(i+j) / 2+1,j,by omega,hj,by go_num,rfl,fun k hk h=>by
     rcases Nat.lt_or_ge k ((i+j) / 2) with h1 | h1
     ·exact List.lt_trans (List.pairwise_iff_getElem.1 HS.out k _ hk (by omega) h1) HLS.out
     ·obtain rfl:k=(i+j) / 2:=by omega
      exact HLS.out,HHI.out⟩
    case measure=>simp [intOf];omega
   ·have HLS:=ym hless
    have hless':decide (bs (mkS (L[(i+j) / 2]'(by omega)))<bs t)=false:=by rw [jq];simpa using hless
    clear hless
    go_wp2_with (go_at_call 148;refine (kX _ _ _).mono ?_;rintro e w' ⟨rfl,rfl⟩)
    go_round
    case rel=>exact ⟨i,(i+j) / 2,by omega,by omega,rfl,by go_num,HLO.out,fun k hk h h2=>by
     rcases Nat.lt_or_ge ((i+j) / 2) k with h1 | h1
     ·exact HLS.out (List.lt_trans (List.pairwise_iff_getElem.1 HS.out _ k (by omega) hk h1) h2)
     ·obtain rfl:k=(i+j) / 2:=by omega
      exact HLS.out h2⟩
    case measure=>simp [intOf];omega
  ·obtain rfl:i=j:=by omega
   have HP:=ym (uI hj HLO.out HHI.out)
   by_cases hin:i<L.length
   ·obtain ⟨b,off,rfl,hb,hc⟩:=lz HL.out (yq _ _) hB (by omega)
    have hcm:=hc i hin
    have HM:=ym (mem_at hin HLO.out HS.out (HHI.out i hin (yo _)))
    clear hc
    have hq:((mkS L[i]).toList==t.toList)=decide (L[i]=bs t):=by rw [iI,jq]
    by_cases he:L[i]=bs t
    ·have HE:=ym he
     have hq':((mkS L[i]).toList==t.toList)=true:=by rw [hq];simpa using he
     clear hq he
     go_wp2_with fail
     go_ret2
     exact ⟨qq (by rw [HP.out]) (by simpa using (HM.out.2 HE.out)),rfl⟩
    ·have HE:=ym he
     have hq':((mkS L[i]).toList==t.toList)=false:=by rw [hq];simpa using he
     clear hq he
     go_wp2_with (go_at_call 149;refine (ox _ _).mono ?_;rintro e w' ⟨rfl,rfl⟩)
     go_ret2
     exact ⟨qq (by rw [HP.out]) (by simpa using (fun h=>HE.out (HM.out.1 h))),rfl⟩
   ·have hi2:i=L.length:=by omega
    subst hi2
    go_wp2_with fail
    go_ret2
    exact ⟨qq (by rw [HP.out]) (by
     have:bs t∉L:=fun h=>by
      obtain ⟨k,hk,e⟩:=List.getElem_of_mem h
      exact absurd (HLO.out k hk hk) (by rw [e];exact List.lt_irrefl _)
     simpa using this),rfl⟩
end Go.Proofs.YtjpndglegpcdnaaGreat
