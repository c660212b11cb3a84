/- op.number, op.truth, (op.pair).both, op.Kinds. -/
import Derived.Shelf.Small.Bits
import Derived.Shelf.Small.Strs
import Derived.Shelf.Small.Wraps
import Derived.Shelf.Strconv.Itoa0
import Derived.Shelf.Strings.Search1
import Derived.Shelf.Strings.Search2
import Derived.Shelf.Strings.Search3
import Derived.Shelf.LaysM
import Derived.Shelf.Strings.Shaped
import Derived.Shelf.Sort.Plain
import Derived.Shelf.Strings.Prefix
import Derived.Shelf.Bits.Mul64
import Derived.Ground.Names2Prog
import Derived.Shelf.Slices.ReverseS
import Derived.Shelf.Slices.CompactS
import Derived.Shelf.Slices.SearchI
import Derived.Shelf.Slices.Cells
import Derived.Shelf.Slices.In.SortNone
import Derived.Test.YtjpndglegpcdnaaGreatProg
import Derived.Test.YtjpndglegpcdnaaGreatRule1
import Derived.Lib.OwnBridge
set_option linter.unusedVariables false
set_option linter.unusedSimpArgs false
set_option maxRecDepth 100000
set_option maxHeartbeats 8000000
namespace Go.Proofs
open Go.Shelf
def Tryz.lays125_ren:Go.Shelf.Ren:=⟨fun | 125=>99 | 128=>135 | 129=>136 | n=>n,fun | 46=>61 | 3=>3 | 51=>31 | 53=>22 | 4=>4 | 5=>5 | 9=>9 | n=>n,fun | n=>n⟩
theorem Tryz.lays125:Go.Proofs.Lays.n125 Tryz.prog Tryz.lays125_ren:={
 mixed:=by kernel_rfl
 f125:=Tryz.func99.trans (congrArg some (by kernel_rfl))
 f128:=Tryz.func135.trans (congrArg some (by kernel_rfl))
 f129:=Tryz.func136.trans (congrArg some (by kernel_rfl))
 t3:=Tryz.underlying3
 a3:=Tryz.isAgg3
 z3:=Tryz.sizeOf3
 v3:=Tryz.zeroValue3
 t4:=Tryz.underlying4
 a4:=Tryz.isAgg4
 z4:=Tryz.sizeOf4
 v4:=Tryz.zeroValue4
 t5:=Tryz.underlying5
 a5:=Tryz.isAgg5
 z5:=Tryz.sizeOf5
 v5:=Tryz.zeroValue5
 t9:=Tryz.underlying9
 a9:=Tryz.isAgg9
 z9:=Tryz.sizeOf9
 v9:=Tryz.zeroValue9
 t46:=Tryz.underlying61
 a46:=Tryz.isAgg61
 z46:=Tryz.sizeOf61
 v46:=Tryz.zeroValue61
 t51:=Tryz.underlying31
 a51:=Tryz.isAgg31
 z51:=Tryz.sizeOf31
 v51:=Tryz.zeroValue31
 t53:=Tryz.underlying22
 a53:=Tryz.isAgg22
 z53:=Tryz.sizeOf22
 v53:=Tryz.zeroValue22 }
theorem Tryz.bits_Len (x:Int) (w:World) (h0:0≤x) (h1:x≤18446744073709551615) :
 Calls Tryz.prog 99 #[.int .u64 x] w fun e w'=>e=.returned (.int .i64 (Lib.bitLen x.toNat))∧w'=w:=Any.bits_Len Tryz.lays125 x w h0 h1
def Tryz.lays137_ren:Go.Shelf.Ren:=⟨fun | 137=>241 | 217=>225 | 266=>232 | n=>n,fun | 9=>9 | 5=>5 | 3=>3 | n=>n,fun | n=>n⟩
theorem Tryz.lays137:Go.Proofs.Lays.n137 Tryz.prog Tryz.lays137_ren:={
 mixed:=by kernel_rfl
 f137:=Tryz.func241.trans (congrArg some (by kernel_rfl))
 f217:=Tryz.func225.trans (congrArg some (by kernel_rfl))
 f266:=Tryz.func232.trans (congrArg some (by kernel_rfl))
 t3:=Tryz.underlying3
 a3:=Tryz.isAgg3
 z3:=Tryz.sizeOf3
 v3:=Tryz.zeroValue3
 t5:=Tryz.underlying5
 a5:=Tryz.isAgg5
 z5:=Tryz.sizeOf5
 v5:=Tryz.zeroValue5
 t9:=Tryz.underlying9
 a9:=Tryz.isAgg9
 z9:=Tryz.sizeOf9
 v9:=Tryz.zeroValue9 }
open Go.RowKit in
theorem Tryz.strings_IndexByte (s:ByteArray) (c:Int) (w:World) :
 Calls Tryz.prog 241 #[.string s,.int .u8 c] w fun e w'=>e=.returned (.int .i64 (Lib.indexByte s.data.toList c.toNat.toUInt8))∧w'=w:=Any.strings_IndexByte Tryz.lays137 s c w
def Tryz.lays144_ren:Go.Shelf.Ren:=⟨fun | 144=>206 | 143=>213 | 219=>220 | 217=>225 | 225=>226 | 224=>227 | 267=>228 | 266=>232 | 314=>233 | n=>n,fun | 9=>9 | 4=>4 | 3=>3 | 5=>5 | 46=>61 | 146=>271 | 51=>31 | n=>n,fun | 1=>0 | n=>n⟩
theorem Tryz.lays144:Go.Proofs.Lays.n144 Tryz.prog Tryz.lays144_ren:={
 mixed:=by kernel_rfl
 f143:=Tryz.func213.trans (congrArg some (by kernel_rfl))
 f144:=Tryz.func206.trans (congrArg some (by kernel_rfl))
 f217:=Tryz.func225.trans (congrArg some (by kernel_rfl))
 f219:=Tryz.func220.trans (congrArg some (by kernel_rfl))
 f224:=Tryz.func227.trans (congrArg some (by kernel_rfl))
 f225:=Tryz.func226.trans (congrArg some (by kernel_rfl))
 f266:=Tryz.func232.trans (congrArg some (by kernel_rfl))
 f267:=Tryz.func228.trans (congrArg some (by kernel_rfl))
 f314:=Tryz.func233.trans (congrArg some (by kernel_rfl))
 t3:=Tryz.underlying3
 a3:=Tryz.isAgg3
 z3:=Tryz.sizeOf3
 v3:=Tryz.zeroValue3
 t4:=Tryz.underlying4
 a4:=Tryz.isAgg4
 z4:=Tryz.sizeOf4
 v4:=Tryz.zeroValue4
 t5:=Tryz.underlying5
 a5:=Tryz.isAgg5
 z5:=Tryz.sizeOf5
 v5:=Tryz.zeroValue5
 t9:=Tryz.underlying9
 a9:=Tryz.isAgg9
 z9:=Tryz.sizeOf9
 v9:=Tryz.zeroValue9
 t46:=Tryz.underlying61
 a46:=Tryz.isAgg61
 z46:=Tryz.sizeOf61
 v46:=Tryz.zeroValue61
 t51:=Tryz.underlying31
 a51:=Tryz.isAgg31
 z51:=Tryz.sizeOf31
 v51:=Tryz.zeroValue31
 t146:=Tryz.underlying271
 a146:=Tryz.isAgg271
 z146:=Tryz.sizeOf271
 v146:=Tryz.zeroValue271
 g1:=by kernel_rfl }
open Go.RowKit Go.Lib in
theorem Tryz.strings_Contains (s sub:ByteArray) (m:Int) (w:World) (hs:s.size<4294967281) (hm:w.cell? ⟨0,0,none⟩=some (.int .i64 m)) :
 Calls Tryz.prog 206 #[.string s,.string sub] w fun e w'=>e=.returned (.bool (Lib.contains s.data.toList sub.data.toList))∧w'=w:=Any.strings_Contains Tryz.lays144 s sub m w hs hm
def Tryz.lays190_ren:Go.Shelf.Ren:=⟨fun | 190=>118 | 125=>99 | 258=>150 | 128=>135 | 129=>136 | 302=>167 | 303=>168 | 304=>169 | 305=>170 | 306=>171 | 307=>172 | 308=>148 | 309=>173 | 310=>174 | 333=>184 | 329=>158 | 330=>159 | 334=>185 | 335=>186 | 336=>50 | 344=>192 | n=>n,fun | 31=>112 | 9=>9 | 3=>3 | 46=>61 | 0=>0 | 51=>31 | 53=>22 | 4=>4 | 183=>184 | 182=>183 | 131=>77 | 5=>5 | 218=>202 | 222=>206 | 228=>223 | 229=>224 | n=>n,fun | n=>n⟩
theorem Tryz.lays190:Go.Proofs.Lays.n190 Tryz.prog Tryz.lays190_ren:={
 mixed:=by kernel_rfl
 f125:=Tryz.func99.trans (congrArg some (by kernel_rfl))
 f128:=Tryz.func135.trans (congrArg some (by kernel_rfl))
 f129:=Tryz.func136.trans (congrArg some (by kernel_rfl))
 f190:=Tryz.func118.trans (congrArg some (by kernel_rfl))
 f258:=Tryz.func150.trans (congrArg some (by kernel_rfl))
 f302:=Tryz.func167.trans (congrArg some (by kernel_rfl))
 f303:=Tryz.func168.trans (congrArg some (by kernel_rfl))
 f304:=Tryz.func169.trans (congrArg some (by kernel_rfl))
 f305:=Tryz.func170.trans (congrArg some (by kernel_rfl))
 f306:=Tryz.func171.trans (congrArg some (by kernel_rfl))
 f307:=Tryz.func172.trans (congrArg some (by kernel_rfl))
 f308:=Tryz.func148.trans (congrArg some (by kernel_rfl))
 f309:=Tryz.func173.trans (congrArg some (by kernel_rfl))
 f310:=Tryz.func174.trans (congrArg some (by kernel_rfl))
 f329:=Tryz.func158.trans (congrArg some (by kernel_rfl))
 f330:=Tryz.func159.trans (congrArg some (by kernel_rfl))
 f333:=Tryz.func184.trans (congrArg some (by kernel_rfl))
 f334:=Tryz.func185.trans (congrArg some (by kernel_rfl))
 f335:=Tryz.func186.trans (congrArg some (by kernel_rfl))
 f336:=Tryz.func50.trans (congrArg some (by kernel_rfl))
 f344:=Tryz.func192.trans (congrArg some (by kernel_rfl))
 t0:=Tryz.underlying0
 a0:=Tryz.isAgg0
 z0:=Tryz.sizeOf0
 v0:=Tryz.zeroValue0
 t3:=Tryz.underlying3
 a3:=Tryz.isAgg3
 z3:=Tryz.sizeOf3
 v3:=Tryz.zeroValue3
 t4:=Tryz.underlying4
 a4:=Tryz.isAgg4
 z4:=Tryz.sizeOf4
 v4:=Tryz.zeroValue4
 t5:=Tryz.underlying5
 a5:=Tryz.isAgg5
 z5:=Tryz.sizeOf5
 v5:=Tryz.zeroValue5
 t9:=Tryz.underlying9
 a9:=Tryz.isAgg9
 z9:=Tryz.sizeOf9
 v9:=Tryz.zeroValue9
 t31:=Tryz.underlying112
 a31:=Tryz.isAgg112
 z31:=Tryz.sizeOf112
 v31:=Tryz.zeroValue112
 t46:=Tryz.underlying61
 a46:=Tryz.isAgg61
 z46:=Tryz.sizeOf61
 v46:=Tryz.zeroValue61
 t51:=Tryz.underlying31
 a51:=Tryz.isAgg31
 z51:=Tryz.sizeOf31
 v51:=Tryz.zeroValue31
 t53:=Tryz.underlying22
 a53:=Tryz.isAgg22
 z53:=Tryz.sizeOf22
 v53:=Tryz.zeroValue22
 t131:=Tryz.underlying77
 a131:=Tryz.isAgg77
 z131:=Tryz.sizeOf77
 v131:=Tryz.zeroValue77
 t182:=Tryz.underlying183
 a182:=Tryz.isAgg183
 z182:=Tryz.sizeOf183
 v182:=Tryz.zeroValue183
 t183:=Tryz.underlying184
 a183:=Tryz.isAgg184
 z183:=Tryz.sizeOf184
 v183:=Tryz.zeroValue184
 t218:=Tryz.underlying202
 a218:=Tryz.isAgg202
 z218:=Tryz.sizeOf202
 v218:=Tryz.zeroValue202
 t222:=Tryz.underlying206
 a222:=Tryz.isAgg206
 z222:=Tryz.sizeOf206
 v222:=Tryz.zeroValue206
 t228:=Tryz.underlying223
 a228:=Tryz.isAgg223
 z228:=Tryz.sizeOf223
 v228:=Tryz.zeroValue223
 t229:=Tryz.underlying224
 a229:=Tryz.isAgg224
 z229:=Tryz.sizeOf224
 v229:=Tryz.zeroValue224 }
open Go.Sort Go.RowKit in
theorem Tryz.slices_Sort_string (blk off cap:Nat) (ss:List (List UInt8)) (w:World) (hH:Holds encStr w blk off ss.toArray) (hblk:blk<w.heap.size) (hsz:ss.length<4611686018427387904) :
 Calls Tryz.prog 118 #[.slice (some ⟨blk,off,none⟩) ss.length cap] w fun e w'=>
  e=.returned (.tuple #[])∧∃n os,w'=grow (putRow encStr (Sort.ahead w n) blk off (ss.mergeSort fun x y=>decide (x≤y)).toArray) os:=Any.slices_Sort_string Tryz.lays190 blk off cap ss w hH hblk hsz
def Tryz.lays99_ren:Go.Shelf.Ren:=⟨fun | 99=>66 | 206=>91 | n=>n,fun | 9=>9 | 4=>4 | 3=>3 | n=>n,fun | n=>n⟩
theorem Tryz.lays99:Go.Proofs.Lays.n99 Tryz.prog Tryz.lays99_ren:={
 mixed:=by kernel_rfl
 f99:=Tryz.func66.trans (congrArg some (by kernel_rfl))
 f206:=Tryz.func91.trans (congrArg some (by kernel_rfl))
 t3:=Tryz.underlying3
 a3:=Tryz.isAgg3
 z3:=Tryz.sizeOf3
 v3:=Tryz.zeroValue3
 t4:=Tryz.underlying4
 a4:=Tryz.isAgg4
 z4:=Tryz.sizeOf4
 v4:=Tryz.zeroValue4
 t9:=Tryz.underlying9
 a9:=Tryz.isAgg9
 z9:=Tryz.sizeOf9
 v9:=Tryz.zeroValue9 }
open Go.RowKit Go.Lib in
theorem Tryz.strings_HasPrefix (s p:ByteArray) (w:World) :
 Calls Tryz.prog 66 #[.string s,.string p] w fun e w'=>e=.returned (.bool (Lib.hasPrefix s.data.toList p.data.toList))∧w'=w:=Any.strings_HasPrefix Tryz.lays99 s p w
def Tryz.lays100_ren:Go.Shelf.Ren:=⟨fun | 100=>199 | 207=>208 | n=>n,fun | 9=>9 | 4=>4 | 3=>3 | n=>n,fun | n=>n⟩
theorem Tryz.lays100:Go.Proofs.Lays.n100 Tryz.prog Tryz.lays100_ren:={
 mixed:=by kernel_rfl
 f100:=Tryz.func199.trans (congrArg some (by kernel_rfl))
 f207:=Tryz.func208.trans (congrArg some (by kernel_rfl))
 t3:=Tryz.underlying3
 a3:=Tryz.isAgg3
 z3:=Tryz.sizeOf3
 v3:=Tryz.zeroValue3
 t4:=Tryz.underlying4
 a4:=Tryz.isAgg4
 z4:=Tryz.sizeOf4
 v4:=Tryz.zeroValue4
 t9:=Tryz.underlying9
 a9:=Tryz.isAgg9
 z9:=Tryz.sizeOf9
 v9:=Tryz.zeroValue9 }
open Go.RowKit Go.Lib in
theorem Tryz.strings_HasSuffix (s p:ByteArray) (w:World) (hs:s.size≤9223372036854775807) :
 Calls Tryz.prog 199 #[.string s,.string p] w fun e w'=>e=.returned (.bool (Lib.hasSuffix s.data.toList p.data.toList))∧w'=w:=Any.strings_HasSuffix Tryz.lays100 s p w hs
def Tryz.lays264_ren:Go.Shelf.Ren:=⟨fun | 264=>212 | n=>n,fun | 53=>22 | 46=>61 | n=>n,fun | n=>n⟩
theorem Tryz.lays264:Go.Proofs.Lays.n264 Tryz.prog Tryz.lays264_ren:={
 mixed:=by kernel_rfl
 f264:=Tryz.func212.trans (congrArg some (by kernel_rfl))
 t46:=Tryz.underlying61
 a46:=Tryz.isAgg61
 z46:=Tryz.sizeOf61
 v46:=Tryz.zeroValue61
 t53:=Tryz.underlying22
 a53:=Tryz.isAgg22
 z53:=Tryz.sizeOf22
 v53:=Tryz.zeroValue22 }
open Go.RowKit Go.Lib in
theorem Tryz.bits_Mul64 (x y:Nat) (hx:x<18446744073709551616) (hy:y<18446744073709551616) (w:World) :
 Calls Tryz.prog 212 #[.int .u64 x,.int .u64 y] w fun e w'=>e=.returned (.tuple #[.int .u64 ((x*y / 18446744073709551616:Nat):Int),.int .u64 ((x*y % 18446744073709551616:Nat):Int)])∧w'=w:=Any.bits_Mul64 Tryz.lays264 x y hx hy w
def Tryz.lays194_ren:Go.Shelf.Ren:=⟨fun | 194=>119 | n=>n,fun | 31=>112 | 9=>9 | 3=>3 | 4=>4 | 0=>0 | n=>n,fun | n=>n⟩
theorem Tryz.lays194:Go.Proofs.Lays.n194 Tryz.prog Tryz.lays194_ren:={
 mixed:=by kernel_rfl
 f194:=Tryz.func119.trans (congrArg some (by kernel_rfl))
 t0:=Tryz.underlying0
 a0:=Tryz.isAgg0
 z0:=Tryz.sizeOf0
 v0:=Tryz.zeroValue0
 t3:=Tryz.underlying3
 a3:=Tryz.isAgg3
 z3:=Tryz.sizeOf3
 v3:=Tryz.zeroValue3
 t4:=Tryz.underlying4
 a4:=Tryz.isAgg4
 z4:=Tryz.sizeOf4
 v4:=Tryz.zeroValue4
 t9:=Tryz.underlying9
 a9:=Tryz.isAgg9
 z9:=Tryz.sizeOf9
 v9:=Tryz.zeroValue9
 t31:=Tryz.underlying112
 a31:=Tryz.isAgg112
 z31:=Tryz.sizeOf112
 v31:=Tryz.zeroValue112 }
open Go.RowKit Go.Lib Go.Sort in
theorem Tryz.slices_Compact_string (blk off cap:Nat) (zs:List (List UInt8)) (w:World) (hH:Holds encStr w blk off zs.toArray) (hsz:zs.length≤9223372036854775807) (hcap:zs.length≤cap) :
 Calls Tryz.prog 119 #[.slice (some ⟨blk,off,none⟩) zs.length cap] w fun e w'=>e=.returned (.slice (some ⟨blk,off,none⟩) (Lib.compact zs).length cap)∧∃q,w'=putRow encStr (Sort.ahead w q) blk off (Lib.compact zs++List.replicate (zs.length-(Lib.compact zs).length) []).toArray:=Any.slices_Compact_string Tryz.lays194 blk off cap zs w hH hsz hcap
open Go.RowKit Go.Lib Go.Sort in
theorem Tryz.slices_Compact_string_empty (a:Option Addr) (cap:Nat) (w:World) :
 Calls Tryz.prog 119 #[.slice a 0 cap] w fun e w'=>e=.returned (.slice a 0 cap)∧w'=w:=Any.slices_Compact_string_empty Tryz.lays194 a cap w
open Go.RowKit Go.Sort in
theorem Tryz.slices_Sort_string_none (p:Option Addr) (cap:Nat) (w:World) :
 Calls Tryz.prog 118 #[.slice p 0 cap] w fun e w'=>e=.returned (.tuple #[])∧w'=w:=Any.slices_Sort_string_none Tryz.lays190 p cap w
end Go.Proofs
namespace Go.Proofs.YtjpndglegpcdnaaGreat
open Go.ChangeShapes Go.WideShapes Go.ChangeAt Go.RowKit
theorem pj (s:ByteArray):encStr (bs s)=.string s:=by simp [encStr]
def mkS (l:List UInt8):ByteArray:=⟨l.toArray⟩
theorem jX (l:List UInt8):bs (mkS l)=l:=by simp [mkS,bs]
theorem mkS_bs (s:ByteArray):mkS (bs s)=s:=by cases s;simp [mkS,bs]
def jW (w:World) (base:Nat) (v:Value) (L:List (List UInt8)):Prop:=w.ownsRow base 9 1 v L.length (L.map encStr)
theorem pO {w:World} {base:Nat} {e:TypeId} {size n:Nat} {v:Value} {xs:List Value} (h:w.ownsRow base e size v n xs) (os:Array Obj):(Sort.grow w os).ownsRow base e size v n xs:=by
 refine ⟨h.1,?_⟩
 rcases h.2 with h2 | ⟨g,cap,cur,hv,hg,hh,r⟩
 ·exact .inl h2
 ·refine .inr ⟨g,cap,cur,hv,hg,?_,r⟩
  have hlt:g<w.heap.size:=by
   rcases Nat.lt_or_ge g w.heap.size with h' | h'
   ·exact h'
   ·rw [Array.getElem?_eq_none h'] at hh;cases hh
  show (w.heap++os)[g]? = _
  rw [Array.getElem?_append_left hlt]
  exact hh
theorem tb {B:Nat} {w w':World} (h:Below B w w') (hB:B≤w'.heap.size) (os:Array Obj):Below B w (Sort.grow w' os):=
 ⟨h.os,h.tape,h.output,by have:=h.size;simp [Sort.grow];omega,fun k hk=>by
  rw [←h.block k hk]
  show (w'.heap++os)[k]? = _
  rw [Array.getElem?_append_left (by omega)]⟩
def kD (L:List (List UInt8)):List (List UInt8):=L.mergeSort fun x y=>decide (x≤y)
theorem cJ (L:List (List UInt8)):(kD L).length=L.length:=List.length_mergeSort _
theorem qg (w:World) (base:Nat) (v:Value) (L:List (List UInt8)) (h:jW w base v L) (hb:base≤w.heap.size) (hn:L.length≤1000000000) :
 Calls Tryz.prog 118 #[v] w fun e w'=>e=.returned (.tuple #[])∧jW w' base v (kD L)∧Below base w w':=by
 by_cases hv:v=.slice none 0 0
 ·subst hv
  have hL:L=[]:=by
   rcases h.2 with ⟨_,h2⟩ | ⟨g,cap,cur,hv,_⟩
   ·exact List.eq_nil_of_length_eq_zero h2
   ·cases hv
  subst hL
  refine (Tryz.slices_Sort_string_none none 0 w).mono fun e w' ⟨he,hw⟩=>?_
  subst hw
  exact ⟨he,by simpa [kD,jW] using h,AI _ _⟩
 ·obtain ⟨g,cap,rfl,hbg,hg,hnc,hm,hl,hH⟩:=Lib.holds_of_ownsRow h hv
  refine (Tryz.slices_Sort_string g 0 cap L w hH hg (by omega)).mono fun e w' ⟨he,n,os,hw⟩=>?_
  subst hw
  refine ⟨he,?_,tb (Lib.below_putRow (AI _ _) hbg) (by simp [Sort.ahead];omega) os⟩
  have h1:=Lib.ownsRow_putRow (q:=n) (k:=L.length) (ys:=kD L) h (cJ L) (AG _)
  have h2:=pO h1 os
  unfold jW
  rw [cJ]
  rw [List.take_of_length_le (by rw [cJ];exact AG _)] at h2
  exact h2
theorem jZ (w:World) (base:Nat) (v:Value) (L:List (List UInt8)) (h:jW w base v L) (hn:L.length≤1000000000) :
 Calls Tryz.prog 119 #[v] w fun e w'=>∃v',e=.returned v'∧jW w' base v' (Lib.compact L)∧Below base w w':=by
 by_cases hv:v=.slice none 0 0
 ·subst hv
  have hL:L=[]:=by
   rcases h.2 with ⟨_,h2⟩ | ⟨g,cap,cur,hv,_⟩
   ·exact List.eq_nil_of_length_eq_zero h2
   ·cases hv
  subst hL
  refine (Tryz.slices_Compact_string_empty none 0 w).mono fun e w' ⟨he,hw⟩=>?_
  subst hw
  exact ⟨_,he,by simpa [Lib.compact,Lib.compactUpTo,jW] using h,AI _ _⟩
 ·obtain ⟨g,cap,rfl,hbg,hg,hnc,hm,hl,hH⟩:=Lib.holds_of_ownsRow h hv
  refine (Tryz.slices_Compact_string g 0 cap L w hH (by omega) hnc).mono fun e w' ⟨he,q,hw⟩=>?_
  subst hw
  have hc:=Lib.compact_length_le L
  refine ⟨_,he,?_,Lib.below_putRow (AI _ _) hbg⟩
  have h1:=Lib.ownsRow_putRow (q:=q) (k:=(Lib.compact L).length) (ys:=Lib.compact L++List.replicate (L.length-(Lib.compact L).length) []) h (by simp;omega) hc
  rw [List.take_left'] at h1
  ·exact h1
  ·rfl
abbrev aZ:=List UInt8
theorem ww (x y:aZ):x≤y∨y≤x:=List.le_total x y
theorem wB {x y z:aZ} (h:x≤y) (k:y≤z):x≤z:=List.le_trans h k
theorem rn {x y:aZ} (h:x≤y) (k:x≠y):x<y:=by
 rcases List.le_iff_lt_or_eq.1 h with h | h
 ·exact h
 ·exact absurd h k
theorem rm {x y z:aZ} (h:x≤y) (k:y<z):x<z:=List.lt_of_le_of_lt h k
theorem ko (L:List aZ):(kD L).Pairwise (·≤·):=by
 have:=List.pairwise_mergeSort (le:=fun x y:aZ=>decide (x≤y)) (fun a b c h k=>by simp at *;exact wB h k) (fun a b=>by simpa using ww a b) L
 exact this.imp (by simp)
theorem wM (L:List aZ) (x:aZ):x∈kD L↔x∈L:=List.mem_mergeSort
theorem fz (zs:List aZ) (hs:zs.Pairwise (·≤·)):∀m,m≤zs.length→(∀x,x∈Lib.compactUpTo zs.toArray m↔x∈zs.take m)∧(Lib.compactUpTo zs.toArray m).Pairwise (· < ·):=by
 intro m
 induction m with
 | zero=>intro _;simp [Lib.compactUpTo]
 | succ m ih=>
   intro hm
   obtain ⟨h1,h2⟩:=ih (by omega)
   have hget:zs.toArray[m]! = zs[m]:=by simp [show m<zs.length by omega]
   rw [Lib.compactUpTo_succ]
   have htake:zs.take (m+1)=zs.take m++[zs[m]]:=by rw [List.take_succ_eq_append_getElem (by omega)]
   have hle:∀x,x∈zs.take m→x≤zs[m]:=by
    intro x hx
    obtain ⟨i,hi,rfl⟩:=List.getElem_of_mem hx
    simp only [AW] at hi
    rw [List.getElem_take]
    exact List.pairwise_iff_getElem.1 hs i m _ _ (by omega)
   by_cases hk:Lib.keeps zs.toArray m=true
   ·rw [if_pos hk,hget]
    refine ⟨fun x=>by rw [htake,List.mem_append,List.mem_append,h1],?_⟩
    rw [List.pairwise_append]
    refine ⟨h2,by simp,fun a ha b hb=>?_⟩
    obtain rfl:b=zs[m]:=by simpa using hb
    have ha':=(h1 a).1 ha
    rcases Nat.eq_zero_or_pos m with h0 | h0
    ·subst h0;simp at ha'
    ·have hprev:zs.toArray[m-1]! = zs[m-1]'(by omega):=by simp [show m-1<zs.length by omega]
     have hne:zs[m]≠zs[m-1]'(by omega):=by
      intro e
      have:=Lib.keeps_neg (d:=zs.toArray) h0 (by rw [hget,hprev,e])
      rw [this] at hk;cases hk
     have hle2:a≤zs[m-1]'(by omega):=by
      obtain ⟨i,hi,rfl⟩:=List.getElem_of_mem ha'
      simp only [AW] at hi
      rw [List.getElem_take]
      rcases Nat.lt_or_ge i (m-1) with h | h
      ·exact List.pairwise_iff_getElem.1 hs i (m-1) _ _ h
      ·obtain rfl:i=m-1:=by omega
       exact List.le_refl _
     exact rm hle2 (rn (hle _ (by rw [List.mem_take_iff_getElem];exact ⟨m-1,by omega,rfl⟩)) (Ne.symm hne))
   ·rw [if_neg hk,List.append_nil]
    refine ⟨fun x=>?_,h2⟩
    rw [htake,List.mem_append,h1]
    constructor
    ·exact .inl
    ·rintro (h | h)
     ·exact h
     ·obtain rfl:x=zs[m]:=by simpa using h
      rcases Nat.eq_zero_or_pos m with h0 | h0
      ·exact absurd (Lib.keeps_lt_one _ m (by omega)) hk
      ·have hprev:zs.toArray[m-1]! = zs[m-1]'(by omega):=by simp [show m-1<zs.length by omega]
       have he:zs[m]=zs[m-1]'(by omega):=by
        apply Classical.byContradiction
        intro hne
        exact hk (Lib.keeps_pos (by rw [hget,hprev];exact hne))
       rw [he,List.mem_take_iff_getElem]
       exact ⟨m-1,by omega,rfl⟩
def eB (L:List aZ):List aZ:=Lib.compact (kD L)
theorem lN (L:List aZ) (x:aZ):x∈eB L↔x∈L:=by
 have:=(fz (kD L) (ko L) (kD L).length (AG _)).1 x
 rw [List.take_length,wM] at this
 exact this
theorem kp (L:List aZ):(eB L).Pairwise (· < ·):=(fz (kD L) (ko L) (kD L).length (AG _)).2
theorem eH (L:List aZ):(eB L).length≤L.length:=by
 have:=Lib.compact_length_le (kD L)
 rwa [cJ] at this
theorem rH {k:IntKind} {a b:Int} {x y:Bool} (h:a=b) (h':x=y):Ending.returned (.tuple #[.int k a,.bool x])=.returned (.tuple #[.int k b,.bool y]):=by rw [h,h']
theorem lJ (x y:ByteArray) (w:World) :
 Calls Tryz.prog 148 #[.string x,.string y] w fun e w'=>e=.returned (.bool (decide (bs x<bs y)))∧w=w':=by
 go_enter Tryz.func148,Tryz.ntmps148
 go_wp2
 all_goals go_ret
 all_goals refine ⟨ac ?_,rfl⟩
 all_goals
  rw [dx,ByteArray.toList_eq,ByteArray.toList_eq]
theorem pu (x:ByteArray) (w:World):Calls Tryz.prog 149 #[.string x] w fun e w'=>e=.returned (.bool false)∧w=w':=by
 go_enter Tryz.func149,Tryz.ntmps149
 go_wp2
 all_goals go_ret
 all_goals exact ⟨ac (by simp),rfl⟩
def iG (L:List aZ) (t:aZ):Nat:=L.findIdx (fun x=>!decide (x<t))
theorem mj {L:List aZ} {A:Option Addr} {B:Nat} {w wr:World} (hl:RL cX w B (L.map mkS) A) (hbw:Below w.heap.size w wr) (hB:B≤w.heap.size) (h0:0<L.length) :
 ∃b off,A=some ⟨b,off,none⟩∧b<wr.heap.size∧∀m (hm:m<L.length),wr.cell? ⟨b,off+m,none⟩=some (.string (mkS L[m])):=by
 obtain ⟨b,off,rfl,hb⟩:=hl.base hbw hB (by simpa using h0)
 refine ⟨b,off,rfl,hb,fun m hm=>?_⟩
 obtain ⟨x,vs,hx,hlen,hcell,hr⟩:=hl.at_ hbw hB (k:=m) (by simpa using hm)
 obtain ⟨rfl,_⟩:=hr
 have:=hcell 0 _ rfl
 have e:x=mkS L[m]:=by simpa [hm,eq_comm] using hx
 rw [←e]
 simpa [cX] using this
theorem wY {L:List aZ} {t:aZ} {i:Nat} (h:i≤L.length) (h1:∀k (hk:k<L.length),k<i→L[k]<t) (h2:∀k (hk:k<L.length),i≤k→¬L[k]<t):iG L t=i:=by
 unfold iG
 rcases Nat.lt_or_ge i L.length with hlt | hge
 ·refine (List.findIdx_eq hlt).2 ⟨by simpa using h2 i hlt (AG _),fun j hj=>?_⟩
  simpa using h1 j (by omega) hj
 ·obtain rfl:i=L.length:=by omega
  refine List.findIdx_eq_length.2 fun x hx=>?_
  obtain ⟨k,hk,rfl⟩:=List.getElem_of_mem hx
  simpa using h1 k hk hk
theorem mem_at {L:List aZ} {t:aZ} {i:Nat} (hi:i<L.length) (h1:∀k (hk:k<L.length),k<i→L[k]<t) (hs:L.Pairwise (· < ·)) (h2:¬L[i]<t):t∈L↔L[i]=t:=by
 constructor
 ·intro h
  obtain ⟨k,hk,rfl⟩:=List.getElem_of_mem h
  rcases Nat.lt_trichotomy k i with h | h | h
  ·exact absurd (h1 k hk h) (List.lt_irrefl _)
  ·subst h;rfl
  ·exact absurd (List.pairwise_iff_getElem.1 hs i k hi hk h) h2
 ·intro h;rw [←h];exact List.getElem_mem hi
theorem ik (L:List aZ) (A:Option Addr) (c B:Nat) (t:ByteArray) (w:World) (hl:RL cX w B (L.map mkS) A) (hB:B≤w.heap.size) (hn:L.length≤1000000) (hs:L.Pairwise (· < ·)) :
 Calls Tryz.prog 117 #[.slice A L.length c,.string t] w fun e w'=>e=.returned (.tuple #[.int .i64 (iG L (bs t)),.bool (decide (bs t∈L))])∧w=w':=by
 go_enter Tryz.func117,Tryz.ntmps117
 go_wp2_with fail
 go_loop [7,8] (fun u v=>∃i j:Nat,i≤j∧j≤L.length∧u=.int .i64 i∧v=.int .i64 j∧(∀k (hk:k<L.length),k<i→L[k]<bs t)∧(∀k (hk:k<L.length),j≤k→¬L[k]<bs t)) (fun u v=>(intOf v).toNat-(intOf u).toNat)
 case atStart=>exact ⟨0,L.length,AH _,AG _,rfl,rfl,fun k hk h=>absurd h (by omega),fun k hk h=>absurd h (by omega)⟩
 case round=>
  obtain ⟨i,j,hij,hj,rfl,rfl,hlo,hhi⟩:=hrel
  have HLO:=AE hlo
  have HHI:=AE hhi
  have HL:=AE hl
  have HS:=AE hs
  clear hlo hhi hl hs
  by_cases hlt:i<j
  ·obtain ⟨b,off,rfl,hb,hc⟩:=mj HL.out (AI _ _) hB (by omega)
   have hcm:=hc ((i+j) / 2) (by omega)
   have hm1:((i:Int)+j) / 2<L.length:=by omega
   have hm0:0≤((i:Int)+j) / 2:=by omega
   clear hc
   by_cases hless:L[(i+j) / 2]'(by omega)<bs t
   ·have HLS:=AE hless
    have hless':decide (bs (mkS (L[(i+j) / 2]'(by omega)))<bs t)=true:=by rw [jX];simpa using hless
    clear hless
    go_wp2_with (go_at_call 148;refine (lJ _ _ _).mono ?_;rintro e w' ⟨rfl,rfl⟩)
    go_round
    case rel=>exact ⟨(i+j) / 2+1,j,by omega,hj,by go_num,rfl,fun k hk h=>by
     rcases Nat.lt_or_ge k ((i+j) / 2) with h1 | h1
     ·exact List.lt_trans (List.pairwise_iff_getElem.1 HS.out k _ hk (by omega) h1) HLS.out
     ·obtain rfl:k=(i+j) / 2:=by omega
      exact HLS.out,HHI.out⟩
    case measure=>simp [intOf];omega
   ·have HLS:=AE hless
    have hless':decide (bs (mkS (L[(i+j) / 2]'(by omega)))<bs t)=false:=by rw [jX];simpa using hless
    clear hless
    go_wp2_with (go_at_call 148;refine (lJ _ _ _).mono ?_;rintro e w' ⟨rfl,rfl⟩)
    go_round
    case rel=>exact ⟨i,(i+j) / 2,by omega,by omega,rfl,by go_num,HLO.out,fun k hk h h2=>by
     rcases Nat.lt_or_ge ((i+j) / 2) k with h1 | h1
     ·exact HLS.out (List.lt_trans (List.pairwise_iff_getElem.1 HS.out _ k (by omega) hk h1) h2)
     ·obtain rfl:k=(i+j) / 2:=by omega
      exact HLS.out h2⟩
    case measure=>simp [intOf];omega
  ·obtain rfl:i=j:=by omega
   have HP:=AE (wY hj HLO.out HHI.out)
   by_cases hin:i<L.length
   ·obtain ⟨b,off,rfl,hb,hc⟩:=mj HL.out (AI _ _) hB (by omega)
    have hcm:=hc i hin
    have HM:=AE (mem_at hin HLO.out HS.out (HHI.out i hin (AG _)))
    clear hc
    have hq:((mkS L[i]).toList==t.toList)=decide (L[i]=bs t):=by rw [dw,jX]
    by_cases he:L[i]=bs t
    ·have HE:=AE he
     have hq':((mkS L[i]).toList==t.toList)=true:=by rw [hq];simpa using he
     clear hq he
     go_wp2_with fail
     go_ret2
     exact ⟨rH (by rw [HP.out]) (by simpa using (HM.out.2 HE.out)),rfl⟩
    ·have HE:=AE he
     have hq':((mkS L[i]).toList==t.toList)=false:=by rw [hq];simpa using he
     clear hq he
     go_wp2_with (go_at_call 149;refine (pu _ _).mono ?_;rintro e w' ⟨rfl,rfl⟩)
     go_ret2
     exact ⟨rH (by rw [HP.out]) (by simpa using (fun h=>HE.out (HM.out.1 h))),rfl⟩
   ·have hi2:i=L.length:=by omega
    subst hi2
    go_wp2_with fail
    go_ret2
    exact ⟨rH (by rw [HP.out]) (by
     have:bs t∉L:=fun h=>by
      obtain ⟨k,hk,e⟩:=List.getElem_of_mem h
      exact absurd (HLO.out k hk hk) (by rw [e];exact List.lt_irrefl _)
     simpa using this),rfl⟩
theorem nv {fn:Func} {tmps:Array Value} {p:Tmp} {g:Nat} {w:World} {cs:Array Value} (h:fn.results=#[.cell p 29]) (hp:tmps.getD p undef=.pointer (some ⟨g,0,none⟩)) (hb:Blk w g cs) (hn:cs.size=4) :
 (results fn tmps).run Tryz.prog w=.ok (.agg cs) w:=by
 obtain ⟨T,hb⟩:=hb
 exact results_cell_row h tmps w g T cs (0,0) _ hp hb Tryz.underlying29 rfl (by rw [hn];kernel_rfl)
theorem am {fn:Func} {tmps:Array Value} {p u:Tmp} {g:Nat} {w:World} {cs:Array Value} (h:fn.results=#[.cell p 29,.tmp u]) (hp:tmps.getD p undef=.pointer (some ⟨g,0,none⟩)) (hb:Blk w g cs) (hn:cs.size=4) :
 (results fn tmps).run Tryz.prog w=.ok (.tuple #[.agg cs,tmps.getD u undef]) w:=by
 obtain ⟨T,hb⟩:=hb
 rw [results_cell_tmp h]
 have e:tmps[p]?.getD undef=.pointer (some ⟨g,0,none⟩):=by simpa using hp
 have e1:((asAddr (tmps.getD p undef)).run Tryz.prog w)=.ok ⟨g,0,none⟩ w:=by simp [e,asAddr]
 rw [e1,Result.andThen_ok,run_loadVar_row w g T 29 cs (0,0) _ hb Tryz.underlying29 rfl (by rw [hn];kernel_rfl),Result.andThen_ok]
theorem bB (n:Int) (w:World) :
 Calls Tryz.prog 195 #[.int .i64 n] w fun e w'=>e=.returned (.agg #[.int .i64 2,.int .i64 n,.string ⟨#[]⟩,.slice none 0 0])∧Below w.heap.size w w':=by
 go_enter Tryz.func195,Tryz.ntmps195
 go_wp2_with fail
 refine bodyPost_ret (nv rfl rfl (n11 rfl) rfl) rfl ?_
 exact ⟨rfl,(AI _ _).alloc (AG _) _⟩
def bit (b:Bool):Int:=if b then 1 else 0
theorem er (b:Bool) (w:World) :
 Calls Tryz.prog 193 #[.bool b] w fun e w'=>e=.returned (.agg #[.int .i64 6,.int .i64 (bit b),.string ⟨#[]⟩,.slice none 0 0])∧Below w.heap.size w w':=by
 cases b
 all_goals
  go_enter Tryz.func193,Tryz.ntmps193
  go_wp2_with fail
  refine bodyPost_ret (nv rfl rfl (n11 rfl) rfl) rfl ?_
  exact ⟨rfl,(AI _ _).alloc (AG _) _⟩
def dP (ks:List Int) (a b:Int):Bool:=ks.any fun k=>decide (a=k)&&decide (b=k)
theorem bl (ks:List Int) (a b:Int) (g c:Nat) (w:World) (hks:Blk w g (ks.map (Value.int .i64)).toArray) (hn:ks.length≤1000000) :
 Calls Tryz.prog 205 #[.agg #[.int .i64 a,.int .i64 b],.slice (some ⟨g,0,none⟩) ks.length c] w fun e w'=>e=.returned (.bool (dP ks a b))∧Below w.heap.size w w':=by
 have hc:∀i (h:i<ks.length),w.cell? ⟨g,i,none⟩=some (.int .i64 ks[i]):=fun i h=>by
  have:=hks.cell i
  rw [this]
  simp [h]
 have hg:=hks.lt
 clear hks
 go_enter Tryz.func205,Tryz.ntmps205
 go_wp2_with fail
 generalize hW:World.alloc _ _=w1
 obtain ⟨hb,hz⟩:=al1 hW
 have b_p:=n11 hW
 have HB:=AE hb
 have HC:=AE (fun i (h:i<ks.length)=>(hb.cell (p:=⟨g,i,none⟩) hg).trans (hc i h))
 have hg1:g<w1.heap.size:=by omega
 clear hW hb hc hg
 go_loop [9] (fun i=>∃k:Nat,k≤ks.length∧i=.int .i64 k∧∀i,i<k→∀h:i<ks.length,(decide (a=ks[i])&&decide (b=ks[i]))=false) (fun i=>ks.length-(intOf i).toNat)
 case atStart=>exact ⟨0,AH _,rfl,fun i h=>absurd h (by omega)⟩
 case round=>
  obtain ⟨k,hk,rfl,hall⟩:=hrel
  have HA:=AE hall
  clear hall
  by_cases hlt:k<ks.length
  ·have hck:=HC.out k hlt
   have k_p:=b_p.cell
   have l_p:=b_p.lt
   generalize hx:ks[k]=x at hck
   have HX:=AE hx
   clear hx
   have h3:(a==x)=false∨(a==x)=true∧(b==x)=false∨(a==x)=true∧(b==x)=true:=by cases (a==x)<;>cases (b==x)<;>simp
   rcases h3 with h1 | ⟨h1,h2⟩ | ⟨h1,h2⟩
   ·go_wp2_with fail
    go_round
    case rel=>exact ⟨k+1,by omega,by go_num,fun i hi h=>by
     rcases Nat.lt_or_ge i k with h4 | h4
     ·exact HA.out i h4 h
     ·obtain rfl:i=k:=by omega
      rw [HX.out];simp only [beq_eq_false_iff_ne] at h1;simp [h1]⟩
    case measure=>simp [intOf];omega
   ·go_wp2_with fail
    go_round
    case rel=>exact ⟨k+1,by omega,by go_num,fun i hi h=>by
     rcases Nat.lt_or_ge i k with h4 | h4
     ·exact HA.out i h4 h
     ·obtain rfl:i=k:=by omega
      rw [HX.out];simp only [beq_eq_false_iff_ne] at h2;simp [h2]⟩
    case measure=>simp [intOf];omega
   ·go_wp2_with fail
    go_ret
    refine ⟨ac ?_,HB.out⟩
    rw [eq_comm,dP,List.any_eq_true]
    exact ⟨x,by rw [←HX.out];exact List.getElem_mem _,by simp only [beq_iff_eq] at h1 h2;simp [h1,h2]⟩
  ·go_wp2_with fail
   go_ret
   refine ⟨ac ?_,HB.out⟩
   rw [eq_comm,dP,List.any_eq_false]
   intro x hx
   obtain ⟨i,hi,rfl⟩:=List.getElem_of_mem hx
   rw [HA.out i (by omega) hi]
   simp
def aK (code a b:Int):Bool:=
 if code=1∨code=2∨code=3∨code=4 then dP [2,4] a b
 else if code=5∨code=6 then decide (a=b)&&decide (2≤a)&&decide (a≤7)
 else if code=7 then dP [2,3] a b
 else if code=8∨code=9∨code=10∨code=17∨code=18∨code=19 then dP [2] a b
 else if code=11 then (decide (a=7)&&decide (2≤b)&&decide (b≤7))||dP [3] a b
 else if code=12∨code=13 then dP [3,5] a b
 else if code=14 then dP [3] a b
 else if code=15∨code=16 then dP [7] a b
 else false
theorem c11 {a b:Int} (h:¬(a=7∧2≤b∧b≤7)):dP [3] a b=aK 11 a b:=by
 show _=((decide (a=7)&&decide (2≤b)&&decide (b≤7))||dP [3] a b)
 have hf:(decide (a=7)&&decide (2≤b)&&decide (b≤7))=false:=by
  rw [Bool.eq_false_iff]
  simp only [ne_eq,AN,AT]
  omega
 rw [hf,Bool.false_or]
theorem aX (code a b:Int) (w:World) :
 Calls Tryz.prog 196 #[.int .i64 code,.int .i64 a,.int .i64 b] w fun e w'=>e=.returned (.bool (aK code a b))∧Below w.heap.size w w':=by
 have hc:code<1∨code > 19∨code=1∨code=2∨code=3∨code=4∨code=5∨code=6∨code=7∨code=8∨code=9∨code=10∨code=11∨code=12∨code=13∨code=14∨code=15∨code=16∨code=17∨code=18∨code=19:=by omega
 rcases hc with h | h | rfl | rfl | rfl | rfl | rfl | rfl | rfl | rfl | rfl | rfl | rfl | rfl | rfl | rfl | rfl | rfl | rfl | rfl | rfl
 ·have e:aK code a b=false:=by unfold aK;(repeat rw [if_neg (by omega)])
  rw [e]
  go_enter Tryz.func196,Tryz.ntmps196
  go_wp2_with fail
  go_ret
  exact ⟨rfl,(AI _ _).alloc (AG _) _⟩
 ·have e:aK code a b=false:=by unfold aK;(repeat rw [if_neg (by omega)])
  rw [e]
  go_enter Tryz.func196,Tryz.ntmps196
  go_wp2_with fail
  go_ret
  exact ⟨rfl,(AI _ _).alloc (AG _) _⟩
 ·go_enter Tryz.func196,Tryz.ntmps196
  go_wp2_with fail
  generalize hW:World.alloc _ _=w1
  obtain ⟨hb,hz⟩:=al2 hW
  refine (bl [2,4] a b (w.heap.size+1) 2 w1 (n22 hW) (by simp)).mono ?_
  rintro e w2 ⟨rfl,hb2⟩
  have HB2:=AE (aa hb hb2)
  clear hW hb hb2
  go_wp2_with fail
  go_ret
  exact ⟨ac (rfl),HB2.out⟩
 ·go_enter Tryz.func196,Tryz.ntmps196
  go_wp2_with fail
  generalize hW:World.alloc _ _=w1
  obtain ⟨hb,hz⟩:=al2 hW
  refine (bl [2,4] a b (w.heap.size+1) 2 w1 (n22 hW) (by simp)).mono ?_
  rintro e w2 ⟨rfl,hb2⟩
  have HB2:=AE (aa hb hb2)
  clear hW hb hb2
  go_wp2_with fail
  go_ret
  exact ⟨ac (rfl),HB2.out⟩
 ·go_enter Tryz.func196,Tryz.ntmps196
  go_wp2_with fail
  generalize hW:World.alloc _ _=w1
  obtain ⟨hb,hz⟩:=al2 hW
  refine (bl [2,4] a b (w.heap.size+1) 2 w1 (n22 hW) (by simp)).mono ?_
  rintro e w2 ⟨rfl,hb2⟩
  have HB2:=AE (aa hb hb2)
  clear hW hb hb2
  go_wp2_with fail
  go_ret
  exact ⟨ac (rfl),HB2.out⟩
 ·go_enter Tryz.func196,Tryz.ntmps196
  go_wp2_with fail
  generalize hW:World.alloc _ _=w1
  obtain ⟨hb,hz⟩:=al2 hW
  refine (bl [2,4] a b (w.heap.size+1) 2 w1 (n22 hW) (by simp)).mono ?_
  rintro e w2 ⟨rfl,hb2⟩
  have HB2:=AE (aa hb hb2)
  clear hW hb hb2
  go_wp2_with fail
  go_ret
  exact ⟨ac (rfl),HB2.out⟩
 ·have h3:(a==b)=false∨(a==b)=true∧decide (a≥2)=false∨(a==b)=true∧decide (a≥2)=true∧decide (a≤7)=false∨(a==b)=true∧decide (a≥2)=true∧decide (a≤7)=true:=by cases (a==b)<;>cases decide (a≥2)<;>cases decide (a≤7)<;>simp
  rcases h3 with h1 | ⟨h1,h2⟩ | ⟨h1,h2,h3⟩ | ⟨h1,h2,h3⟩
  all_goals
   have H1:=AE h1
   go_enter Tryz.func196,Tryz.ntmps196
   go_wp2_with fail
   go_ret
   exact ⟨ac (by simp only [beq_iff_eq,beq_eq_false_iff_ne,AT,decide_eq_false_iff_not] at *;simp [aK];try omega),(AI _ _).alloc (AG _) _⟩
 ·have h3:(a==b)=false∨(a==b)=true∧decide (a≥2)=false∨(a==b)=true∧decide (a≥2)=true∧decide (a≤7)=false∨(a==b)=true∧decide (a≥2)=true∧decide (a≤7)=true:=by cases (a==b)<;>cases decide (a≥2)<;>cases decide (a≤7)<;>simp
  rcases h3 with h1 | ⟨h1,h2⟩ | ⟨h1,h2,h3⟩ | ⟨h1,h2,h3⟩
  all_goals
   have H1:=AE h1
   go_enter Tryz.func196,Tryz.ntmps196
   go_wp2_with fail
   go_ret
   exact ⟨ac (by simp only [beq_iff_eq,beq_eq_false_iff_ne,AT,decide_eq_false_iff_not] at *;simp [aK];try omega),(AI _ _).alloc (AG _) _⟩
 ·go_enter Tryz.func196,Tryz.ntmps196
  go_wp2_with fail
  generalize hW:World.alloc _ _=w1
  obtain ⟨hb,hz⟩:=al2 hW
  refine (bl [2,3] a b (w.heap.size+1) 2 w1 (n22 hW) (by simp)).mono ?_
  rintro e w2 ⟨rfl,hb2⟩
  have HB2:=AE (aa hb hb2)
  clear hW hb hb2
  go_wp2_with fail
  go_ret
  exact ⟨ac (rfl),HB2.out⟩
 ·go_enter Tryz.func196,Tryz.ntmps196
  go_wp2_with fail
  generalize hW:World.alloc _ _=w1
  obtain ⟨hb,hz⟩:=al2 hW
  refine (bl [2] a b (w.heap.size+1) 1 w1 (n22 hW) (by simp)).mono ?_
  rintro e w2 ⟨rfl,hb2⟩
  have HB2:=AE (aa hb hb2)
  clear hW hb hb2
  go_wp2_with fail
  go_ret
  exact ⟨ac (rfl),HB2.out⟩
 ·go_enter Tryz.func196,Tryz.ntmps196
  go_wp2_with fail
  generalize hW:World.alloc _ _=w1
  obtain ⟨hb,hz⟩:=al2 hW
  refine (bl [2] a b (w.heap.size+1) 1 w1 (n22 hW) (by simp)).mono ?_
  rintro e w2 ⟨rfl,hb2⟩
  have HB2:=AE (aa hb hb2)
  clear hW hb hb2
  go_wp2_with fail
  go_ret
  exact ⟨ac (rfl),HB2.out⟩
 ·go_enter Tryz.func196,Tryz.ntmps196
  go_wp2_with fail
  generalize hW:World.alloc _ _=w1
  obtain ⟨hb,hz⟩:=al2 hW
  refine (bl [2] a b (w.heap.size+1) 1 w1 (n22 hW) (by simp)).mono ?_
  rintro e w2 ⟨rfl,hb2⟩
  have HB2:=AE (aa hb hb2)
  clear hW hb hb2
  go_wp2_with fail
  go_ret
  exact ⟨ac (rfl),HB2.out⟩
 ·go_enter Tryz.func196,Tryz.ntmps196
  go_wp2_with fail
  all_goals first
   | (go_ret
      exact ⟨ac (by simp [aK];try omega),(AI _ _).alloc (AG _) _⟩)
   | (generalize hW:World.alloc _ _=w1
      obtain ⟨hb,hz⟩:=al2 hW
      refine (bl [3] _ b (w.heap.size+1) 1 w1 (n22 hW) (by simp)).mono ?_
      rintro e w2 ⟨rfl,hb2⟩
      have HB2:=AE (aa hb hb2)
      clear hW hb hb2
      go_wp2_with fail
      go_ret
      refine ⟨ac ?_,HB2.out⟩
      have hc11:=c11 (a:=a) (b:=b) (by omega)
      first
       | exact hc11
       | (have ha:a=7:=by assumption
          exact (congrArg (fun x=>dP [3] x b) ha.symm).trans hc11)
       | (have ha:a=7:=by assumption
          have hb7:¬b≤7:=by omega
          rw [decide_eq_false hb7,Bool.false_or]
          exact (congrArg (fun x=>dP [3] x b) ha.symm).trans hc11))
 ·go_enter Tryz.func196,Tryz.ntmps196
  go_wp2_with fail
  generalize hW:World.alloc _ _=w1
  obtain ⟨hb,hz⟩:=al2 hW
  refine (bl [3,5] a b (w.heap.size+1) 2 w1 (n22 hW) (by simp)).mono ?_
  rintro e w2 ⟨rfl,hb2⟩
  have HB2:=AE (aa hb hb2)
  clear hW hb hb2
  go_wp2_with fail
  go_ret
  exact ⟨ac (rfl),HB2.out⟩
 ·go_enter Tryz.func196,Tryz.ntmps196
  go_wp2_with fail
  generalize hW:World.alloc _ _=w1
  obtain ⟨hb,hz⟩:=al2 hW
  refine (bl [3,5] a b (w.heap.size+1) 2 w1 (n22 hW) (by simp)).mono ?_
  rintro e w2 ⟨rfl,hb2⟩
  have HB2:=AE (aa hb hb2)
  clear hW hb hb2
  go_wp2_with fail
  go_ret
  exact ⟨ac (rfl),HB2.out⟩
 ·go_enter Tryz.func196,Tryz.ntmps196
  go_wp2_with fail
  generalize hW:World.alloc _ _=w1
  obtain ⟨hb,hz⟩:=al2 hW
  refine (bl [3] a b (w.heap.size+1) 1 w1 (n22 hW) (by simp)).mono ?_
  rintro e w2 ⟨rfl,hb2⟩
  have HB2:=AE (aa hb hb2)
  clear hW hb hb2
  go_wp2_with fail
  go_ret
  exact ⟨ac (rfl),HB2.out⟩
 ·go_enter Tryz.func196,Tryz.ntmps196
  go_wp2_with fail
  generalize hW:World.alloc _ _=w1
  obtain ⟨hb,hz⟩:=al2 hW
  refine (bl [7] a b (w.heap.size+1) 1 w1 (n22 hW) (by simp)).mono ?_
  rintro e w2 ⟨rfl,hb2⟩
  have HB2:=AE (aa hb hb2)
  clear hW hb hb2
  go_wp2_with fail
  go_ret
  exact ⟨ac (rfl),HB2.out⟩
 ·go_enter Tryz.func196,Tryz.ntmps196
  go_wp2_with fail
  generalize hW:World.alloc _ _=w1
  obtain ⟨hb,hz⟩:=al2 hW
  refine (bl [7] a b (w.heap.size+1) 1 w1 (n22 hW) (by simp)).mono ?_
  rintro e w2 ⟨rfl,hb2⟩
  have HB2:=AE (aa hb hb2)
  clear hW hb hb2
  go_wp2_with fail
  go_ret
  exact ⟨ac (rfl),HB2.out⟩
 ·go_enter Tryz.func196,Tryz.ntmps196
  go_wp2_with fail
  generalize hW:World.alloc _ _=w1
  obtain ⟨hb,hz⟩:=al2 hW
  refine (bl [2] a b (w.heap.size+1) 1 w1 (n22 hW) (by simp)).mono ?_
  rintro e w2 ⟨rfl,hb2⟩
  have HB2:=AE (aa hb hb2)
  clear hW hb hb2
  go_wp2_with fail
  go_ret
  exact ⟨ac (rfl),HB2.out⟩
 ·go_enter Tryz.func196,Tryz.ntmps196
  go_wp2_with fail
  generalize hW:World.alloc _ _=w1
  obtain ⟨hb,hz⟩:=al2 hW
  refine (bl [2] a b (w.heap.size+1) 1 w1 (n22 hW) (by simp)).mono ?_
  rintro e w2 ⟨rfl,hb2⟩
  have HB2:=AE (aa hb hb2)
  clear hW hb hb2
  go_wp2_with fail
  go_ret
  exact ⟨ac (rfl),HB2.out⟩
 ·go_enter Tryz.func196,Tryz.ntmps196
  go_wp2_with fail
  generalize hW:World.alloc _ _=w1
  obtain ⟨hb,hz⟩:=al2 hW
  refine (bl [2] a b (w.heap.size+1) 1 w1 (n22 hW) (by simp)).mono ?_
  rintro e w2 ⟨rfl,hb2⟩
  have HB2:=AE (aa hb hb2)
  clear hW hb hb2
  go_wp2_with fail
  go_ret
  exact ⟨ac (rfl),HB2.out⟩
end Go.Proofs.YtjpndglegpcdnaaGreat
