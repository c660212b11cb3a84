/- viaticumlaw21.FixTurned. Printed by mk_lfxturned.py. -/
import Derived.Test.YtjpndglegpcdnaaGreatLFxMore
set_option linter.unusedVariables false
set_option linter.unusedSimpArgs false
set_option maxRecDepth 100000
set_option maxHeartbeats 8000000
namespace Go.Proofs.YtjpndglegpcdnaaGreat
open Go.ChangeShapes Go.WideShapes Go.ChangeAt Go.RowKit
def fxT (d B base:Nat) (l:List Fc) (A:Option Addr) (c:Nat) (rs:List OwD) (Ar:Option Addr) (cr:Nat) (lf lr:Int) (i k:Nat) (n:Nat) (v:Value) (w:World):Prop:=base≤w.heap.size∧B≤base∧match n with
 | 0=>∃b,v=.slice (some ⟨b,0,none⟩) 0 0∧base≤b∧w.heap[b]? = some (.cells #[] 33 (0,0))
 | 1=>v=.slice A l.length c
 | 2=>v=.int .i64 i
 | 3=>∃A' c',v=.slice A' (l.drop i).length c'∧RL (az (d+1)) w B (l.drop i) A'
 | 4=>aq (az (d+1)) 33 w base B v (l.drop i)
 | 5=>v=.slice A l.length c
 | 6=>v=.int .i64 i
 | 7=>∃A' c',v=.slice A' (l.take i).length c'∧RL (az (d+1)) w B (l.take i) A'
 | 8=>aq (az (d+1)) 33 w base B v (l.drop i++l.take i)
 | 9=>∃b,v=.slice (some ⟨b,0,none⟩) 0 0∧base≤b∧w.heap[b]? = some (.cells #[] 60 (0,0))
 | 10=>v=.slice Ar rs.length cr
 | 11=>v=.int .i64 k
 | 12=>∃A' c',v=.slice A' (rs.drop k).length c'∧RL (OwR (d+1)) w B (rs.drop k) A'
 | 13=>aq (OwR (d+1)) 60 w base B v (rs.drop k)
 | 14=>v=.slice Ar rs.length cr
 | 15=>v=.int .i64 k
 | 16=>∃A' c',v=.slice A' (rs.take k).length c'∧RL (OwR (d+1)) w B (rs.take k) A'
 | 17=>aq (OwR (d+1)) 60 w base B v (rs.drop k++rs.take k)
 | 18=>v=.agg #[.int .i64 lf,.int .i64 lr]
 | 19=>∃p,v=.tuple #[.pointer p,.int .i64 (el (l.drop i++l.take i) (rs.drop k++rs.take k) lf lr).2.1,.int .i64 (el (l.drop i++l.take i) (rs.drop k++rs.take k) lf lr).2.2]∧zi d w (el (l.drop i++l.take i) (rs.drop k++rs.take k) lf lr) p
 | 20=>∃p,v=.tuple #[.pointer p,.int .i64 (el (l.drop i++l.take i) (rs.drop k++rs.take k) lf lr).2.1,.int .i64 (el (l.drop i++l.take i) (rs.drop k++rs.take k) lf lr).2.2]∧zi d w (el (l.drop i++l.take i) (rs.drop k++rs.take k) lf lr) p
 | 21=>∃p,v=.pointer p∧zi d w (el (l.drop i++l.take i) (rs.drop k++rs.take k) lf lr) p
 | 22=>v=.int .i64 (el (l.drop i++l.take i) (rs.drop k++rs.take k) lf lr).2.1
 | 23=>v=.int .i64 (el (l.drop i++l.take i) (rs.drop k++rs.take k) lf lr).2.2
 | 24=>∃p,v=.pointer p∧zi d w (el (l.drop i++l.take i) (rs.drop k++rs.take k) lf lr) p
 | 25=>v=.int .i64 (el (l.drop i++l.take i) (rs.drop k++rs.take k) lf lr).2.1
 | _=>True
theorem aH {d B base:Nat} {l:List Fc} {A:Option Addr} {c:Nat} {rs:List OwD} {Ar:Option Addr} {cr:Nat} {lf lr:Int} {i k:Nat}:∀n v w w',fxT d B base l A c rs Ar cr lf lr i k n v w→Below w.heap.size w w'→fxT d B base l A c rs Ar cr lf lr i k n v w'
 | 0,_,_,_,⟨h0,h1,b,e,h2,h3⟩,hb=>⟨zU h0 hb.size,h1,b,e,h2,nD h3 hb⟩
 | 1,_,_,_,⟨h0,h1,h2⟩,hb=>⟨zU h0 hb.size,h1,h2⟩
 | 2,_,_,_,⟨h0,h1,h2⟩,hb=>⟨zU h0 hb.size,h1,h2⟩
 | 3,_,_,_,⟨h0,h1,A',c',e,h2⟩,hb=>⟨zU h0 hb.size,h1,A',c',e,h2.keep hb (zU h1 h0)⟩
 | 4,_,_,_,⟨h0,h1,h2⟩,hb=>⟨zU h0 hb.size,h1,h2.later hb (zU h1 h0)⟩
 | 5,_,_,_,⟨h0,h1,h2⟩,hb=>⟨zU h0 hb.size,h1,h2⟩
 | 6,_,_,_,⟨h0,h1,h2⟩,hb=>⟨zU h0 hb.size,h1,h2⟩
 | 7,_,_,_,⟨h0,h1,A',c',e,h2⟩,hb=>⟨zU h0 hb.size,h1,A',c',e,h2.keep hb (zU h1 h0)⟩
 | 8,_,_,_,⟨h0,h1,h2⟩,hb=>⟨zU h0 hb.size,h1,h2.later hb (zU h1 h0)⟩
 | 9,_,_,_,⟨h0,h1,b,e,h2,h3⟩,hb=>⟨zU h0 hb.size,h1,b,e,h2,nD h3 hb⟩
 | 10,_,_,_,⟨h0,h1,h2⟩,hb=>⟨zU h0 hb.size,h1,h2⟩
 | 11,_,_,_,⟨h0,h1,h2⟩,hb=>⟨zU h0 hb.size,h1,h2⟩
 | 12,_,_,_,⟨h0,h1,A',c',e,h2⟩,hb=>⟨zU h0 hb.size,h1,A',c',e,h2.keep hb (zU h1 h0)⟩
 | 13,_,_,_,⟨h0,h1,h2⟩,hb=>⟨zU h0 hb.size,h1,h2.later hb (zU h1 h0)⟩
 | 14,_,_,_,⟨h0,h1,h2⟩,hb=>⟨zU h0 hb.size,h1,h2⟩
 | 15,_,_,_,⟨h0,h1,h2⟩,hb=>⟨zU h0 hb.size,h1,h2⟩
 | 16,_,_,_,⟨h0,h1,A',c',e,h2⟩,hb=>⟨zU h0 hb.size,h1,A',c',e,h2.keep hb (zU h1 h0)⟩
 | 17,_,_,_,⟨h0,h1,h2⟩,hb=>⟨zU h0 hb.size,h1,h2.later hb (zU h1 h0)⟩
 | 18,_,_,_,⟨h0,h1,h2⟩,hb=>⟨zU h0 hb.size,h1,h2⟩
 | 19,_,_,_,⟨h0,h1,p,e,h2⟩,hb=>⟨zU h0 hb.size,h1,p,e,h2.later hb⟩
 | 20,_,_,_,⟨h0,h1,p,e,h2⟩,hb=>⟨zU h0 hb.size,h1,p,e,h2.later hb⟩
 | 21,_,_,_,⟨h0,h1,p,e,h2⟩,hb=>⟨zU h0 hb.size,h1,p,e,h2.later hb⟩
 | 22,_,_,_,⟨h0,h1,h2⟩,hb=>⟨zU h0 hb.size,h1,h2⟩
 | 23,_,_,_,⟨h0,h1,h2⟩,hb=>⟨zU h0 hb.size,h1,h2⟩
 | 24,_,_,_,⟨h0,h1,p,e,h2⟩,hb=>⟨zU h0 hb.size,h1,p,e,h2.later hb⟩
 | 25,_,_,_,⟨h0,h1,h2⟩,hb=>⟨zU h0 hb.size,h1,h2⟩
 | _+26,_,_,_,⟨h0,h1,_⟩,hb=>⟨zU h0 hb.size,h1,trivial⟩
theorem aq.beside {α:Type} {R:Reader α} {e:TypeId} {w w':World} {base B:Nat} {v:Value} {xs:List α} {M:Nat→Prop} (h:aq R e w base B v xs) (ha:al M w w') (hb:Below B w w') (hm:∀k,v.ownBlock=some k→¬M k):aq R e w' base B v xs:=by
 obtain ⟨cells,h,hf⟩:=h
 refine ⟨cells,⟨h.1,?_⟩,hf.keep hb (zV _)⟩
 rcases h.2 with h2 | ⟨g,cap,cur,hv,hg0,hh,r⟩
 ·exact .inl h2
 ·exact .inr ⟨g,cap,cur,hv,hg0,(ha.2 g (Array.getElem?_eq_some_iff.1 hh).1 (hm g (by rw [hv];rfl))).trans hh,r⟩
theorem aq.apart {α β:Type} {R:Reader α} {R':Reader β} {e e':TypeId} {w:World} {base base' B B':Nat} {v v':Value} {xs:List α} {ys:List β} (h:aq R e w base B v xs) (h':aq R' e' w base' B' v' ys) (hT:e≠e'):∀k,v.ownBlock=some k→¬(some k=v'.ownBlock):=fun k hk hk'=>by
 obtain ⟨cells,h,_⟩:=h
 rcases h.2 with ⟨h1,_⟩ | ⟨g,cap,cur,hv,hg,hh,r⟩
 ·rw [h1] at hk;simp [Value.ownBlock] at hk
 ·rw [hv] at hk
  simp only [Value.ownBlock,Ai] at hk
  subst hk
  exact h'.ne hh hT hk'.symm
theorem RL.dropA {α:Type} {R:Reader α} {w:World} {B:Nat} {xs:List α} {a:Addr} (h:RL R w B xs (some a)) (i c:Nat) (hc:xs.length≤c):RL R w B (xs.drop i) (if c=i then some a else some (a.add (i*R.k))):=fun hx=>by
 have hlt:i<xs.length:=by simp only [List.length_drop] at hx;omega
 obtain ⟨b,off,e,_⟩:=h (by omega)
 obtain rfl:a=⟨b,off,none⟩:=by simpa using e
 rw [if_neg (show ¬c=i by omega)]
 have k:=h.cut i (xs.length-i) (by omega)
 rw [List.take_of_length_le (by simp)] at k
 have e2:(⟨b,off,none⟩:Addr).add (i*R.k)=⟨b,off+i*R.k,none⟩:=by
  unfold Addr.add
  split
  ·rename_i h0;rw [h0];rfl
  ·rfl
 rw [e2]
 exact k hx
theorem RL.dropN {α:Type} {R:Reader α} {w:World} {B:Nat} {xs:List α} (h:RL R w B xs none) (i:Nat):RL R w B (xs.drop i) none:=fun hx=>by
 have hlt:i<xs.length:=by simp only [List.length_drop] at hx;omega
 obtain ⟨b,off,e,_⟩:=h (by omega)
 cases e
theorem RL.takeA {α:Type} {R:Reader α} {w:World} {B:Nat} {xs:List α} {A:Option Addr} (h:RL R w B xs A) (i:Nat):RL R w B (xs.take i) A:=fun hx=>by
 have hlt:0<xs.length∧0<i:=by simp only [AA] at hx;omega
 obtain ⟨b,off,e,hb,hc⟩:=h hlt.1
 refine ⟨b,off,e,hb,fun j hj=>?_⟩
 have hj':j<i∧j<xs.length:=by simp only [AA] at hj;omega
 obtain ⟨vs,hl,⟨x,hx',hr⟩,hv⟩:=hc j hj'.2
 exact ⟨vs,hl,⟨x,by rw [List.getElem?_take,if_pos hj'.1];exact hx',hr⟩,hv⟩
theorem wP {α:Type} {R:Reader α} {w:World} {B n c:Nat} {xs:List α} {A:Option Addr} (h:RSl R w B xs (.slice A n c)):RL R w B xs A:=by
 obtain ⟨A',c',e',_,_,hr⟩:=h
 cases e'
 exact hr
theorem kL {α:Type} {xs:List α} {i:Nat} (x:α):x∈xs.drop i++xs.take i↔x∈xs:=by
 rw [List.mem_append,Or.comm,←List.mem_append,List.take_append_drop]
theorem eC {α:Type} {xs:List α} {i:Nat} (h:i≤xs.length):(xs.drop i++xs.take i).length=xs.length:=by
 rw [Ac,List.length_drop,AA];omega
theorem pS (d:Nat):cY (OwR d):=fun h u hu=>by
 obtain ⟨A0,c0,A1,c1,A2,c2,A3,c3,rfl,_⟩:=iu h
 simp only [List.mem_cons,List.not_mem_nil,or_false] at hu
 rcases hu with rfl | rfl | rfl | rfl | rfl | rfl | rfl<;>rfl
theorem infoOwn:(Tryz.prog.info? 60).map (fun i=>(i.zero,i.size,i.bytes))=some (some (.agg #[.string ⟨#[]⟩,.slice none 0 0,.slice none 0 0,.slice none 0 0,.slice none 0 0,.int .i64 0,.int .u32 0]),7,128):=by kernel_rfl
def zF (v:Value):Prop:=∃u:Nat,v=.int .u64 u∧(u:Int)<18446744073709551616
def dN (k:IntKind) (n:Nat) (v:Value):Prop:=∃i:Nat,v=.int k i∧i≤n
theorem sF (x:Int):zF (.int .u64 (IntKind.u64.wrap x)):=by
 obtain ⟨h0,h1⟩:0≤IntKind.u64.wrap x∧IntKind.u64.wrap x<18446744073709551616:=by
  simp [IntKind.wrap,IntKind.bits,IntKind.signed];omega
 exact ⟨(IntKind.u64.wrap x).toNat,by rw [Int.toNat_of_nonneg h0],by rw [Int.toNat_of_nonneg h0];exact h1⟩
theorem wrap_i64 {x:Int} (h:-9223372036854775808≤x) (k:x≤9223372036854775807):IntKind.i64.wrap x=x:=by rw [IntKind.wrap_i64];omega
theorem wrap_u64 {x:Int} (h:0≤x) (k:x≤18446744073709551615):IntKind.u64.wrap x=x:=by simp [IntKind.wrap,IntKind.bits,IntKind.signed];omega
theorem xi (u n:Nat):∃i:Nat,(u:Int).tmod ((n:Int)+1)=(i:Int)∧i≤n:=by
 refine ⟨u % (n+1),?_,?_⟩
 ·exact (Int.ofNat_tmod u (n+1)).symm
 ·have:=Nat.mod_lt u (show 0<n+1 by omega);omega
theorem pi {d B c cr:Nat} {l:List Fc} {A:Option Addr} {rs:List OwD} {Ar:Option Addr} {lf lr turn:Int} {m:Int} {w:World} (HAW:∀w1:World,Below w.heap.size w w1→Calls Tryz.prog 12 #[] w1 fun z w'=>z=.returned (.bool true)∧Below w1.heap.size w1 w')
 (hl:RL (az (d+1)) w B l A) (hn48:l.length*48≤140737488351232) (hr:RL (OwR (d+1)) w B rs Ar) (hrn:rs.length≤140737488351232) (hlf:I64 lf) (hlr:I64 lr) (h40:∀g∈l,g.pr.terms.length*40≤140737488351232) (hB:B≤w.heap.size) (hm:w.cell? ⟨0,0,none⟩=some (.int .i64 m)) (hp:0<w.heap.size) (hc:l.length≤c) (hcr:rs.length≤cr)
 (HSF:∀{w1:World} {fs:List Fc} {A1 A2:Option Addr} {c1 c2:Nat},Below w.heap.size w w1→RL (az (d+1)) w1 w1.heap.size fs A1→RL (az (d+1)) w1 w1.heap.size fs A2→(∀f∈fs,FcOk f)→fs.length≤1000→Calls Tryz.prog 20 #[.slice A1 fs.length c1,.slice A2 fs.length c2] w1 fun z w'=>z=.returned (.bool true)∧Below w1.heap.size w1 w') :
 Calls Tryz.prog 5 #[.slice A l.length c,.slice Ar rs.length cr,.agg #[.int .i64 lf,.int .i64 lr],.int .i64 turn] w fun z w'=>z=.returned (.bool true)∧Below w.heap.size w w':=by
 have HAWH:=zT HAW
 have HSF:Hid (∀{w1:World} {fs:List Fc} {A1 A2:Option Addr} {c1 c2:Nat},Below w.heap.size w w1→RL (az (d+1)) w1 w1.heap.size fs A1→RL (az (d+1)) w1 w1.heap.size fs A2→(∀f∈fs,FcOk f)→fs.length≤1000→Calls Tryz.prog 20 #[.slice A1 fs.length c1,.slice A2 fs.length c2] w1 fun z w'=>z=.returned (.bool true)∧Below w1.heap.size w1 w'):=zT HSF
 have HL:=zT hl
 have HR:=zT hr
 have HM:=zT hm
 have H40:=zT h40
 have HIN:Hid (∀g∈l,sI g):=zT (fun g h=>by
  obtain ⟨i,hi,rfl⟩:=List.getElem_of_mem h
  obtain ⟨b,off,_,_,hc⟩:=hl (by omega)
  obtain ⟨vs,_,⟨x,hx,hr⟩,_⟩:=hc i hi
  obtain ⟨_,rfl⟩:=List.getElem?_eq_some_iff.1 hx
  exact vm hr)
 clear HAW hl hm hr h40
 obtain ⟨i0,hi0,hz0,hz1,hz2⟩:=info_parts eZ
 go_enter Tryz.func5,Tryz.ntmps5
 go_upto_region 1 with fail
 generalize hW:World.alloc _ _=w1
 obtain ⟨hb1,hz⟩:=al1 hW
 have HK1:=zT (n11 hW)
 have HB1:=zT hb1
 have hsz1:=hb1.size
 clear hW hb1 hz
 have k_m:=HK1.out.cell
 have l_m:=HK1.out.lt
 go_wp2_with fail
 refine (vv (d:=d) (B:=B) (HL.out.keep HB1.out hB) (HR.out.keep HB1.out hB) (by omega) (by omega) hrn).mono ?_
 rintro z w2 ⟨⟨q,rfl,hq⟩,hb2⟩
 have HQ:=zT hq
 have HK2:=zT (HK1.out.later hb2)
 have HB2:=zT (ac HB1.out hb2)
 have hsz2:=HB2.out.size
 clear hq hb2 k_m l_m
 cases q
 ·clear HQ
  go_wp2_with fail
  refine (HAWH.out _ HB2.out).mono ?_
  rintro z w9 ⟨rfl,hb9⟩
  go_wp2_with fail
  go_ret
  exact ⟨rfl,ac HB2.out hb9⟩
 obtain ⟨hl6,hr4⟩:=HQ.out rfl
 clear HQ
 go_upto_region 3 with fail
 have HST:Hid (zj [fun v _=>v=.int .i64 turn,fun v _=>zF v,fun v _=>v=.slice A l.length c,fun v _=>v=.int .i64 l.length,fun v _=>v=.int .i64 (l.length+1),fun v _=>v=.int .u64 (l.length+1),fun v _=>dN .u64 l.length v,fun v _=>dN .i64 l.length v,fun v _=>v=.int .i64 turn,fun v _=>zF v,fun v _=>v=.slice Ar rs.length cr,fun v _=>v=.int .i64 rs.length,fun v _=>v=.int .i64 (rs.length+1),fun v _=>v=.int .u64 (rs.length+1),fun v _=>dN .u64 rs.length v,fun v _=>dN .i64 rs.length v,fun v _=>dN .i64 l.length v]):=zT ⟨Stb.val _,⟨Stb.val _,⟨Stb.val _,⟨Stb.val _,⟨Stb.val _,⟨Stb.val _,⟨Stb.val _,⟨Stb.val _,⟨Stb.val _,⟨Stb.val _,⟨Stb.val _,⟨Stb.val _,⟨Stb.val _,⟨Stb.val _,⟨Stb.val _,⟨Stb.val _,⟨Stb.val _,trivial⟩⟩⟩⟩⟩⟩⟩⟩⟩⟩⟩⟩⟩⟩⟩⟩⟩
 have HH0:Hid (w2.heap.size≤w2.drew.heap.size):=zT (zV _)
 have HDR:Hid (Below w2.heap.size w2 w2.drew):=zT (zX _ _).drew
 refine ej 16 17 (nZ [fun v _=>v=.int .i64 turn,fun v _=>zF v,fun v _=>v=.slice A l.length c,fun v _=>v=.int .i64 l.length,fun v _=>v=.int .i64 (l.length+1),fun v _=>v=.int .u64 (l.length+1),fun v _=>dN .u64 l.length v,fun v _=>dN .i64 l.length v,fun v _=>v=.int .i64 turn,fun v _=>zF v,fun v _=>v=.slice Ar rs.length cr,fun v _=>v=.int .i64 rs.length,fun v _=>v=.int .i64 (rs.length+1),fun v _=>v=.int .u64 (rs.length+1),fun v _=>dN .u64 rs.length v,fun v _=>dN .i64 rs.length v,fun v _=>dN .i64 l.length v]) [] (w2.heap.size) HH0.out (by kernel_rfl) (by kernel_rfl) (by kernel_rfl) (by kernel_rfl) (by kernel_rfl) rfl (ab (ab (ab (ab (ab (ab (ab (ab (ab (ab (ab (ab (ab (ab (ab (ab (ab gi ?op0_) ?op1_) ?op2_) ?op3_) ?op4_) ?op5_) ?op6_) ?op7_) ?op8_) ?op9_) ?op10_) ?op11_) ?op12_) ?op13_) ?op14_) ?op15_) ?op16_) ?last_
 case op0_=>
  refine mvA fun T w' hk hb hgr hd K hK=>?_
  have h_:T[3]?.getD undef=.int .i64 turn:=gqd (mvK hk 3)
  clear hk hd
  go_simp
  exact hK.out _ _ (mvM HST HH0 hb) rfl
 case op1_=>
  refine mvA fun T w' hk hb hgr hd K hK=>?_
  have d0:T[23]?.getD undef=.int .i64 turn:=gqd (mvD hd 0)
  clear hk hd
  go_simp
  exact hK.out _ _ (mvM HST HH0 hb) (by exact sF _)
 case op2_=>
  refine mvA fun T w' hk hb hgr hd K hK=>?_
  have h_:T[0]?.getD undef=.slice A l.length c:=gqd (mvK hk 0)
  clear hk hd
  go_simp
  exact hK.out _ _ (mvM HST HH0 hb) rfl
 case op3_=>
  refine mvA fun T w' hk hb hgr hd K hK=>?_
  have d2:T[25]?.getD undef=.slice A l.length c:=gqd (mvD hd 2)
  clear hk hd
  go_simp
  exact hK.out _ _ (mvM HST HH0 hb) rfl
 case op4_=>
  refine mvA fun T w' hk hb hgr hd K hK=>?_
  have d3:T[26]?.getD undef=.int .i64 l.length:=gqd (mvD hd 3)
  have hw_:IntKind.i64.wrap ((l.length:Int)+1)=(l.length:Int)+1:=wrap_i64 (by omega) (by omega)
  clear hk hd
  go_simp
  exact hK.out _ _ (mvM HST HH0 hb) rfl
 case op5_=>
  refine mvA fun T w' hk hb hgr hd K hK=>?_
  have d4:T[27]?.getD undef=.int .i64 (l.length+1):=gqd (mvD hd 4)
  have hw_:IntKind.u64.wrap ((l.length:Int)+1)=(l.length:Int)+1:=wrap_u64 (by omega) (by omega)
  clear hk hd
  go_simp
  exact hK.out _ _ (mvM HST HH0 hb) rfl
 case op6_=>
  refine mvA fun T w' hk hb hgr hd K hK=>?_
  have d1:=mvD hd 1
  obtain ⟨u,e1,u0⟩:=(show zF (T.getD 24 undef) from d1)
  rw [zZ] at e1
  have d5:T[28]?.getD undef=.int .u64 (l.length+1):=gqd (mvD hd 5)
  clear hk hd
  go_simp
  obtain ⟨i,hi,hle⟩:=xi u (l.length)
  rw [if_neg (show ¬((l.length:Int)+1=0) by omega),hi]
  exact hK.out _ _ (mvM HST HH0 hb) ⟨i,rfl,hle⟩
 case op7_=>
  refine mvA fun T w' hk hb hgr hd K hK=>?_
  have d6:=mvD hd 6
  obtain ⟨u,e1,u0⟩:=(show dN .u64 l.length (T.getD 29 undef) from d6)
  rw [zZ] at e1
  clear hk hd
  go_simp
  rw [wrap_i64 (by omega) (by omega)]
  exact hK.out _ _ (mvM HST HH0 hb) ⟨u,rfl,u0⟩
 case op8_=>
  refine mvA fun T w' hk hb hgr hd K hK=>?_
  have h_:T[3]?.getD undef=.int .i64 turn:=gqd (mvK hk 3)
  clear hk hd
  go_simp
  exact hK.out _ _ (mvM HST HH0 hb) rfl
 case op9_=>
  refine mvA fun T w' hk hb hgr hd K hK=>?_
  have d8:T[31]?.getD undef=.int .i64 turn:=gqd (mvD hd 8)
  clear hk hd
  go_simp
  exact hK.out _ _ (mvM HST HH0 hb) (by exact sF _)
 case op10_=>
  refine mvA fun T w' hk hb hgr hd K hK=>?_
  have h_:T[1]?.getD undef=.slice Ar rs.length cr:=gqd (mvK hk 1)
  clear hk hd
  go_simp
  exact hK.out _ _ (mvM HST HH0 hb) rfl
 case op11_=>
  refine mvA fun T w' hk hb hgr hd K hK=>?_
  have d10:T[33]?.getD undef=.slice Ar rs.length cr:=gqd (mvD hd 10)
  clear hk hd
  go_simp
  exact hK.out _ _ (mvM HST HH0 hb) rfl
 case op12_=>
  refine mvA fun T w' hk hb hgr hd K hK=>?_
  have d11:T[34]?.getD undef=.int .i64 rs.length:=gqd (mvD hd 11)
  have hw_:IntKind.i64.wrap ((rs.length:Int)+1)=(rs.length:Int)+1:=wrap_i64 (by omega) (by omega)
  clear hk hd
  go_simp
  exact hK.out _ _ (mvM HST HH0 hb) rfl
 case op13_=>
  refine mvA fun T w' hk hb hgr hd K hK=>?_
  have d12:T[35]?.getD undef=.int .i64 (rs.length+1):=gqd (mvD hd 12)
  have hw_:IntKind.u64.wrap ((rs.length:Int)+1)=(rs.length:Int)+1:=wrap_u64 (by omega) (by omega)
  clear hk hd
  go_simp
  exact hK.out _ _ (mvM HST HH0 hb) rfl
 case op14_=>
  refine mvA fun T w' hk hb hgr hd K hK=>?_
  have d9:=mvD hd 9
  obtain ⟨u,e1,u0⟩:=(show zF (T.getD 32 undef) from d9)
  rw [zZ] at e1
  have d13:T[36]?.getD undef=.int .u64 (rs.length+1):=gqd (mvD hd 13)
  clear hk hd
  go_simp
  obtain ⟨i,hi,hle⟩:=xi u (rs.length)
  rw [if_neg (show ¬((rs.length:Int)+1=0) by omega),hi]
  exact hK.out _ _ (mvM HST HH0 hb) ⟨i,rfl,hle⟩
 case op15_=>
  refine mvA fun T w' hk hb hgr hd K hK=>?_
  have d14:=mvD hd 14
  obtain ⟨u,e1,u0⟩:=(show dN .u64 rs.length (T.getD 37 undef) from d14)
  rw [zZ] at e1
  clear hk hd
  go_simp
  rw [wrap_i64 (by omega) (by omega)]
  exact hK.out _ _ (mvM HST HH0 hb) ⟨u,rfl,u0⟩
 case op16_=>
  refine mvA fun T w' hk hb hgr hd K hK=>?_
  have d7:=mvD hd 7
  obtain ⟨u,e1,u0⟩:=(show dN .i64 l.length (T.getD 30 undef) from d7)
  rw [zZ] at e1
  clear hk hd
  go_simp
  exact hK.out _ _ (mvM HST HH0 hb) ⟨u,rfl,u0⟩
 case last_=>
  refine mvL fun T w' hk hb hgr hd K hK=>?_
  have d15:=mvD hd 15
  have d16:=mvD hd 16
  obtain ⟨i,e9,hi⟩:=(show dN .i64 l.length (T.getD 9 undef) from d16)
  obtain ⟨k,e38,hk_⟩:=(show dN .i64 rs.length (T.getD 38 undef) from d15)
  have e0:T.getD 0 undef=.slice A l.length c:=hk.2 0 (by kernel_rfl)
  have e1:T.getD 1 undef=.slice Ar rs.length cr:=hk.2 1 (by kernel_rfl)
  have e6:T.getD 6 undef=.pointer (some ⟨w.heap.size,0,none⟩):=hk.2 6 (by kernel_rfl)
  have hT:=ji hk.1
  obtain ⟨f_,hf_⟩:∃f_:Nat→Value,(fun t=>T.getD t undef)=f_:=⟨_,rfl⟩
  rw [hf_] at hT
  replace e0:f_ 0=_:=(congrFun hf_ 0).symm.trans e0
  replace e1:f_ 1=_:=(congrFun hf_ 1).symm.trans e1
  replace e6:f_ 6=_:=(congrFun hf_ 6).symm.trans e6
  replace e9:f_ 9=_:=(congrFun hf_ 9).symm.trans e9
  replace e38:f_ 38=_:=(congrFun hf_ 38).symm.trans e38
  replace hT:T=#[f_ 0,f_ 1,f_ 2,f_ 3,f_ 4,f_ 5,f_ 6,f_ 7,f_ 8,f_ 9,f_ 10,f_ 11,f_ 12,f_ 13,f_ 14,f_ 15,f_ 16,f_ 17,f_ 18,f_ 19,f_ 20,f_ 21,f_ 22,f_ 23,f_ 24,f_ 25,f_ 26,f_ 27,f_ 28,f_ 29,f_ 30,f_ 31,f_ 32,f_ 33,f_ 34,f_ 35,f_ 36,f_ 37,f_ 38,f_ 39,f_ 40,f_ 41,f_ 42,f_ 43,f_ 44,f_ 45,f_ 46,f_ 47,f_ 48,f_ 49,f_ 50,f_ 51,f_ 52,f_ 53,f_ 54,f_ 55,f_ 56,f_ 57,f_ 58,f_ 59,f_ 60,f_ 61,f_ 62,f_ 63,f_ 64,f_ 65,f_ 66,f_ 67,f_ 68,f_ 69,f_ 70,f_ 71,f_ 72,f_ 73,f_ 74,f_ 75,f_ 76,f_ 77,f_ 78,f_ 79,f_ 80,f_ 81,f_ 82,f_ 83,f_ 84,f_ 85,f_ 86,f_ 87,f_ 88,f_ 89,f_ 90,f_ 91,f_ 92,f_ 93,f_ 94,f_ 95,f_ 96,f_ 97]:=hT
  clear hf_
  subst hT
  rw [e0,e1,e6,e9,e38]
  clear hd hk d16 d15
  go_simp
  refine hK.out _ _ ?_
  clear hK
  have HB23:=zT (HDR.out.trans hb)
  clear hb hgr
  generalize w'=w3 at *
  have HK3:=zT (HK2.out.later HB23.out)
  have HB3:=zT (ac HB2.out HB23.out)
  have hsz3:=HB3.out.size
  clear HDR HST HH0
  have k_m:=HK3.out.cell
  have l_m:=HK3.out.lt
  go_wp2_with fail
  refine (rx (d:=d) (B:=B) (l:=l) (A:=A) (c:=c) (rs:=rs) (Ar:=Ar) (cr:=cr) (HL.out.keep HB3.out hB) (HR.out.keep HB3.out hB) (by omega) (by omega) (by omega) H40.out hlf hlr ((HB3.out.cell (p:=⟨0,0,none⟩) hp).trans HM.out) (zY hp hsz3)).mono ?_
  intro z w4 hrun
  obtain ⟨⟨p1,rfl,hp1⟩,hb4⟩:=hrun.p HIN.out
  have HP1:=zT hp1
  have HK4:=zT (HK3.out.later hb4)
  have HB4:=zT (ac HB3.out hb4)
  have hsz4:=HB4.out.size
  clear hrun hp1 hb4 k_m l_m
  have HBB:Hid (B≤w4.heap.size):=zT (by omega)
  have HLW:=zT (HL.out.keep HB4.out hB)
  have HRW:=zT (HR.out.keep HB4.out hB)
  generalize hX1:el l rs lf lr=X1 at *
  have HX1:=zT hX1
  clear hX1
  go_upto_region 5 with fail
  have HBs:Hid (w4.heap.size≤w4.drew.heap.size):=zT (zV _)
  have HH0:Hid (w4.heap.size≤w4.drew.heap.size):=zT (zV _)
  have HDR:Hid (Below w4.heap.size w4 w4.drew):=zT (zX _ _).drew
  obtain ⟨_,hi0o,hz0o,hz1o,hz2o⟩:=info_parts infoOwn
  refine ej 20 26 (fxT d B w4.heap.size l A c rs Ar cr lf lr i k) [4,8,13,17] (w4.heap.size) (zV _) (by kernel_rfl) (by kernel_rfl) (by kernel_rfl) (by kernel_rfl) (by kernel_rfl) rfl (ab (ab (ab (ab (ab (ab (ab (ab (ab (ab (ab (ab (ab (ab (ab (ab (ab (ab (ab (ab (ab (ab (ab (ab (ab (ab gi ?op0_) ?op1_) ?op2_) ?op3_) ?op4_) ?op5_) ?op6_) ?op7_) ?op8_) ?op9_) ?op10_) ?op11_) ?op12_) ?op13_) ?op14_) ?op15_) ?op16_) ?op17_) ?op18_) ?op19_) ?op20_) ?op21_) ?op22_) ?op23_) ?op24_) ?op25_) ?last_
  case op0_=>
   refine mvA fun T w' hk hb hgr hd K hK=>?_
   clear hk hd
   go_simp
   generalize hW:World.alloc _ _=w5
   obtain ⟨hb5,hz5⟩:=al1 hW
   have hN5:=hW▸heap_alloc_new w' _
   clear hW
   exact hK.out _ _ (Moved.grow aH HH0.out hb hb5) ⟨zU HBs.out (zU hb.size hb5.size),HBB.out,_,rfl,hb.size,hN5⟩
  case op1_=>
   refine mvA fun T w' hk hb hgr hd K hK=>?_
   have h0:T.getD 0 undef=.slice A l.length c:=hk.2 0 (by kernel_rfl)
   rw [zZ] at h0
   clear hk hd
   go_simp
   exact hK.out _ _ (Moved.grow aH HH0.out hb (zX _ _)) ⟨zU HBs.out hb.size,HBB.out,rfl⟩
  case op2_=>
   refine mvA fun T w' hk hb hgr hd K hK=>?_
   have h9:T.getD 9 undef=.int .i64 i:=hk.2 9 (by kernel_rfl)
   rw [zZ] at h9
   clear hk hd
   go_simp
   exact hK.out _ _ (Moved.grow aH HH0.out hb (zX _ _)) ⟨zU HBs.out hb.size,HBB.out,rfl⟩
  case op3_=>
   refine mvA fun T w' hk hb hgr hd K hK=>?_
   have d1:=mvD hd 1
   have d2:=mvD hd 2
   replace d1:T.getD 49 undef=.slice A l.length c:=d1.2.2
   replace d2:T.getD 50 undef=.int .i64 i:=d2.2.2
   rw [zZ] at d1
   rw [zZ] at d2
   have hrl:=HLW.out.keep (HDR.out.trans hb) HBB.out
   clear hk hd
   rcases A with _ | a
   ·go_simp
    exact hK.out _ _ (Moved.grow aH HH0.out hb (zX _ _)) ⟨zU HBs.out hb.size,HBB.out,_,_,by rw [List.length_drop]<;>rfl,hrl.dropN _⟩
   ·go_simp
    exact hK.out _ _ (Moved.grow aH HH0.out hb (zX _ _)) ⟨zU HBs.out hb.size,HBB.out,_,_,by rw [List.length_drop]<;>rfl,hrl.dropA _ _ hc⟩
  case op4_=>
   refine mvA fun T w' hk hb hgr hd K hK=>?_
   have d0:=mvD hd 0
   have d3:=mvD hd 3
   obtain ⟨_,_,b0,e0,hb0,hc0⟩:=d0
   have HOLD:Hid (aq (az (d+1)) 33 w' w4.heap.size B (.slice (some ⟨b0,0,none⟩) 0 0) []):=zT (aq.empty _ _ hc0 hb0 B)
   obtain ⟨_,_,A',c',e1,r1⟩:=d3
   refine cM (R:=az (d+1)) (e:=33) (.tmp 48) (.tmp 51) 23 rfl (bytes:=48) Tryz.underlying23 hi0 hz0 hz1 hz2 rfl (show 0<3 by omega) (kg _) (xs:=[]) (base:=w4.heap.size) (B:=B) (v:=.slice (some ⟨b0,0,none⟩) 0 0) (by exact e0) HOLD.out (by exact e1) (ys:=l.drop i) r1.src rfl HBB.out (by simp [List.length_drop,AA]<;>omega) (by simp [List.length_drop,AA]<;>omega) hb.size ?_
   intro v_1 w5 hown hb5 hg hf
   have hsz:=hb5.size
   have HB4:=zT (hb5.mono HBB.out)
   refine hK.out _ _ (Moved.keep (hb.trans hb5) rfl [5,6,7,9,10,11,12,13,14,15,16,17,18] (by kernel_rfl) ?_) ⟨zU HBs.out (zU hb.size hsz),HBB.out,hown⟩
   intro j hj
   simp only [List.mem_cons,List.not_mem_nil,or_false] at hj
   rcases hj with rfl | rfl | rfl | rfl | rfl | rfl | rfl | rfl | rfl | rfl | rfl | rfl | rfl
   ·exact fun h=>⟨zU h.1 hsz,h.2⟩
   ·exact fun h=>⟨zU h.1 hsz,h.2⟩
   ·exact fun ⟨h0,h1,A',c',e,h2⟩=>⟨zU h0 hsz,h1,A',c',e,h2.keep HB4.out (zV _)⟩
   ·exact fun ⟨h0,h1,b,e,h2,h3⟩=>⟨zU h0 hsz,h1,b,e,h2,nC h3 (HOLD.out.ne h3 (by decide)) hg hf⟩
   ·exact fun h=>⟨zU h.1 hsz,h.2⟩
   ·exact fun h=>⟨zU h.1 hsz,h.2⟩
   ·exact fun ⟨h0,h1,A',c',e,h2⟩=>⟨zU h0 hsz,h1,A',c',e,h2.keep HB4.out (zV _)⟩
   ·exact fun ⟨h0,h1,h2⟩=>⟨zU h0 hsz,h1,h2.beside (al.grown hg) HB4.out (h2.apart HOLD.out (by decide))⟩
   ·exact fun h=>⟨zU h.1 hsz,h.2⟩
   ·exact fun h=>⟨zU h.1 hsz,h.2⟩
   ·exact fun ⟨h0,h1,A',c',e,h2⟩=>⟨zU h0 hsz,h1,A',c',e,h2.keep HB4.out (zV _)⟩
   ·exact fun ⟨h0,h1,h2⟩=>⟨zU h0 hsz,h1,h2.beside (al.grown hg) HB4.out (h2.apart HOLD.out (by decide))⟩
   ·exact fun h=>⟨zU h.1 hsz,h.2⟩
  case op5_=>
   refine mvA fun T w' hk hb hgr hd K hK=>?_
   have h0:T.getD 0 undef=.slice A l.length c:=hk.2 0 (by kernel_rfl)
   rw [zZ] at h0
   clear hk hd
   go_simp
   exact hK.out _ _ (Moved.grow aH HH0.out hb (zX _ _)) ⟨zU HBs.out hb.size,HBB.out,rfl⟩
  case op6_=>
   refine mvA fun T w' hk hb hgr hd K hK=>?_
   have h9:T.getD 9 undef=.int .i64 i:=hk.2 9 (by kernel_rfl)
   rw [zZ] at h9
   clear hk hd
   go_simp
   exact hK.out _ _ (Moved.grow aH HH0.out hb (zX _ _)) ⟨zU HBs.out hb.size,HBB.out,rfl⟩
  case op7_=>
   refine mvA fun T w' hk hb hgr hd K hK=>?_
   have d5:=mvD hd 5
   have d6:=mvD hd 6
   replace d5:T.getD 53 undef=.slice A l.length c:=d5.2.2
   replace d6:T.getD 54 undef=.int .i64 i:=d6.2.2
   rw [zZ] at d5
   rw [zZ] at d6
   have hrl:=HLW.out.keep (HDR.out.trans hb) HBB.out
   clear hk hd
   rcases A with _ | a
   ·go_simp
    rw [if_pos (zU hi hc)]
    exact hK.out _ _ (Moved.grow aH HH0.out hb (zX _ _)) ⟨zU HBs.out hb.size,HBB.out,_,_,by rw [AA,Nat.min_eq_left hi],hrl.takeA _⟩
   ·go_simp
    rw [if_pos (zU hi hc)]
    exact hK.out _ _ (Moved.grow aH HH0.out hb (zX _ _)) ⟨zU HBs.out hb.size,HBB.out,_,_,by rw [AA,Nat.min_eq_left hi],hrl.takeA _⟩
  case op8_=>
   refine mvA fun T w' hk hb hgr hd K hK=>?_
   have d4:=mvD hd 4
   have d7:=mvD hd 7
   have HOLD:=zT d4.2.2
   obtain ⟨_,_,A',c',e1,r1⟩:=d7
   refine cM (R:=az (d+1)) (e:=33) (.tmp 52) (.tmp 55) 23 rfl (bytes:=48) Tryz.underlying23 hi0 hz0 hz1 hz2 rfl (show 0<3 by omega) (kg _) (xs:=l.drop i) (base:=w4.heap.size) (B:=B) (v:=T.getD 52 undef) (by rfl) HOLD.out (by exact e1) (ys:=l.take i) r1.src rfl HBB.out (by simp [List.length_drop,AA]<;>omega) (by simp [List.length_drop,AA]<;>omega) hb.size ?_
   intro v_1 w5 hown hb5 hg hf
   have hsz:=hb5.size
   have HB4:=zT (hb5.mono HBB.out)
   refine hK.out _ _ (Moved.keep (hb.trans hb5) rfl [9,10,11,12,13,14,15,16,17,18] (by kernel_rfl) ?_) ⟨zU HBs.out (zU hb.size hsz),HBB.out,hown⟩
   intro j hj
   simp only [List.mem_cons,List.not_mem_nil,or_false] at hj
   rcases hj with rfl | rfl | rfl | rfl | rfl | rfl | rfl | rfl | rfl | rfl
   ·exact fun ⟨h0,h1,b,e,h2,h3⟩=>⟨zU h0 hsz,h1,b,e,h2,nC h3 (HOLD.out.ne h3 (by decide)) hg hf⟩
   ·exact fun h=>⟨zU h.1 hsz,h.2⟩
   ·exact fun h=>⟨zU h.1 hsz,h.2⟩
   ·exact fun ⟨h0,h1,A',c',e,h2⟩=>⟨zU h0 hsz,h1,A',c',e,h2.keep HB4.out (zV _)⟩
   ·exact fun ⟨h0,h1,h2⟩=>⟨zU h0 hsz,h1,h2.beside (al.grown hg) HB4.out (h2.apart HOLD.out (by decide))⟩
   ·exact fun h=>⟨zU h.1 hsz,h.2⟩
   ·exact fun h=>⟨zU h.1 hsz,h.2⟩
   ·exact fun ⟨h0,h1,A',c',e,h2⟩=>⟨zU h0 hsz,h1,A',c',e,h2.keep HB4.out (zV _)⟩
   ·exact fun ⟨h0,h1,h2⟩=>⟨zU h0 hsz,h1,h2.beside (al.grown hg) HB4.out (h2.apart HOLD.out (by decide))⟩
   ·exact fun h=>⟨zU h.1 hsz,h.2⟩
  case op9_=>
   refine mvA fun T w' hk hb hgr hd K hK=>?_
   clear hk hd
   go_simp
   generalize hW:World.alloc _ _=w5
   obtain ⟨hb5,hz5⟩:=al1 hW
   have hN5:=hW▸heap_alloc_new w' _
   clear hW
   exact hK.out _ _ (Moved.grow aH HH0.out hb hb5) ⟨zU HBs.out (zU hb.size hb5.size),HBB.out,_,rfl,hb.size,hN5⟩
  case op10_=>
   refine mvA fun T w' hk hb hgr hd K hK=>?_
   have h1:T.getD 1 undef=.slice Ar rs.length cr:=hk.2 1 (by kernel_rfl)
   rw [zZ] at h1
   clear hk hd
   go_simp
   exact hK.out _ _ (Moved.grow aH HH0.out hb (zX _ _)) ⟨zU HBs.out hb.size,HBB.out,rfl⟩
  case op11_=>
   refine mvA fun T w' hk hb hgr hd K hK=>?_
   have h10:T.getD 10 undef=.int .i64 k:=hk.2 10 (by kernel_rfl)
   rw [zZ] at h10
   clear hk hd
   go_simp
   exact hK.out _ _ (Moved.grow aH HH0.out hb (zX _ _)) ⟨zU HBs.out hb.size,HBB.out,rfl⟩
  case op12_=>
   refine mvA fun T w' hk hb hgr hd K hK=>?_
   have d10:=mvD hd 10
   have d11:=mvD hd 11
   replace d10:T.getD 58 undef=.slice Ar rs.length cr:=d10.2.2
   replace d11:T.getD 59 undef=.int .i64 k:=d11.2.2
   rw [zZ] at d10
   rw [zZ] at d11
   have hrl:=HRW.out.keep (HDR.out.trans hb) HBB.out
   clear hk hd
   rcases Ar with _ | a
   ·go_simp
    exact hK.out _ _ (Moved.grow aH HH0.out hb (zX _ _)) ⟨zU HBs.out hb.size,HBB.out,_,_,by rw [List.length_drop]<;>rfl,hrl.dropN _⟩
   ·go_simp
    exact hK.out _ _ (Moved.grow aH HH0.out hb (zX _ _)) ⟨zU HBs.out hb.size,HBB.out,_,_,by rw [List.length_drop]<;>rfl,hrl.dropA _ _ hcr⟩
  case op13_=>
   refine mvA fun T w' hk hb hgr hd K hK=>?_
   have d9:=mvD hd 9
   have d12:=mvD hd 12
   obtain ⟨_,_,b0,e0,hb0,hc0⟩:=d9
   have HOLD:Hid (aq (OwR (d+1)) 60 w' w4.heap.size B (.slice (some ⟨b0,0,none⟩) 0 0) []):=zT (aq.empty _ _ hc0 hb0 B)
   obtain ⟨_,_,A',c',e1,r1⟩:=d12
   refine cM (R:=OwR (d+1)) (e:=60) (.tmp 57) (.tmp 60) 40 rfl (bytes:=128) Tryz.underlying40 hi0o hz0o hz1o hz2o rfl (show 0<7 by omega) (pS _) (xs:=[]) (base:=w4.heap.size) (B:=B) (v:=.slice (some ⟨b0,0,none⟩) 0 0) (by exact e0) HOLD.out (by exact e1) (ys:=rs.drop k) r1.src rfl HBB.out (by simp [List.length_drop,AA]<;>omega) (by simp [List.length_drop,AA]<;>omega) hb.size ?_
   intro v_1 w5 hown hb5 hg hf
   have hsz:=hb5.size
   have HB4:=zT (hb5.mono HBB.out)
   refine hK.out _ _ (Moved.keep (hb.trans hb5) rfl [0,1,2,3,4,5,6,7,8,14,15,16,18] (by kernel_rfl) ?_) ⟨zU HBs.out (zU hb.size hsz),HBB.out,hown⟩
   intro j hj
   simp only [List.mem_cons,List.not_mem_nil,or_false] at hj
   rcases hj with rfl | rfl | rfl | rfl | rfl | rfl | rfl | rfl | rfl | rfl | rfl | rfl | rfl
   ·exact fun ⟨h0,h1,b,e,h2,h3⟩=>⟨zU h0 hsz,h1,b,e,h2,nC h3 (HOLD.out.ne h3 (by decide)) hg hf⟩
   ·exact fun h=>⟨zU h.1 hsz,h.2⟩
   ·exact fun h=>⟨zU h.1 hsz,h.2⟩
   ·exact fun ⟨h0,h1,A',c',e,h2⟩=>⟨zU h0 hsz,h1,A',c',e,h2.keep HB4.out (zV _)⟩
   ·exact fun ⟨h0,h1,h2⟩=>⟨zU h0 hsz,h1,h2.beside (al.grown hg) HB4.out (h2.apart HOLD.out (by decide))⟩
   ·exact fun h=>⟨zU h.1 hsz,h.2⟩
   ·exact fun h=>⟨zU h.1 hsz,h.2⟩
   ·exact fun ⟨h0,h1,A',c',e,h2⟩=>⟨zU h0 hsz,h1,A',c',e,h2.keep HB4.out (zV _)⟩
   ·exact fun ⟨h0,h1,h2⟩=>⟨zU h0 hsz,h1,h2.beside (al.grown hg) HB4.out (h2.apart HOLD.out (by decide))⟩
   ·exact fun h=>⟨zU h.1 hsz,h.2⟩
   ·exact fun h=>⟨zU h.1 hsz,h.2⟩
   ·exact fun ⟨h0,h1,A',c',e,h2⟩=>⟨zU h0 hsz,h1,A',c',e,h2.keep HB4.out (zV _)⟩
   ·exact fun h=>⟨zU h.1 hsz,h.2⟩
  case op14_=>
   refine mvA fun T w' hk hb hgr hd K hK=>?_
   have h1:T.getD 1 undef=.slice Ar rs.length cr:=hk.2 1 (by kernel_rfl)
   rw [zZ] at h1
   clear hk hd
   go_simp
   exact hK.out _ _ (Moved.grow aH HH0.out hb (zX _ _)) ⟨zU HBs.out hb.size,HBB.out,rfl⟩
  case op15_=>
   refine mvA fun T w' hk hb hgr hd K hK=>?_
   have h10:T.getD 10 undef=.int .i64 k:=hk.2 10 (by kernel_rfl)
   rw [zZ] at h10
   clear hk hd
   go_simp
   exact hK.out _ _ (Moved.grow aH HH0.out hb (zX _ _)) ⟨zU HBs.out hb.size,HBB.out,rfl⟩
  case op16_=>
   refine mvA fun T w' hk hb hgr hd K hK=>?_
   have d14:=mvD hd 14
   have d15:=mvD hd 15
   replace d14:T.getD 62 undef=.slice Ar rs.length cr:=d14.2.2
   replace d15:T.getD 63 undef=.int .i64 k:=d15.2.2
   rw [zZ] at d14
   rw [zZ] at d15
   have hrl:=HRW.out.keep (HDR.out.trans hb) HBB.out
   clear hk hd
   rcases Ar with _ | a
   ·go_simp
    rw [if_pos (zU hk_ hcr)]
    exact hK.out _ _ (Moved.grow aH HH0.out hb (zX _ _)) ⟨zU HBs.out hb.size,HBB.out,_,_,by rw [AA,Nat.min_eq_left hk_],hrl.takeA _⟩
   ·go_simp
    rw [if_pos (zU hk_ hcr)]
    exact hK.out _ _ (Moved.grow aH HH0.out hb (zX _ _)) ⟨zU HBs.out hb.size,HBB.out,_,_,by rw [AA,Nat.min_eq_left hk_],hrl.takeA _⟩
  case op17_=>
   refine mvA fun T w' hk hb hgr hd K hK=>?_
   have d13:=mvD hd 13
   have d16:=mvD hd 16
   have HOLD:=zT d13.2.2
   obtain ⟨_,_,A',c',e1,r1⟩:=d16
   refine cM (R:=OwR (d+1)) (e:=60) (.tmp 61) (.tmp 64) 40 rfl (bytes:=128) Tryz.underlying40 hi0o hz0o hz1o hz2o rfl (show 0<7 by omega) (pS _) (xs:=rs.drop k) (base:=w4.heap.size) (B:=B) (v:=T.getD 61 undef) (by rfl) HOLD.out (by exact e1) (ys:=rs.take k) r1.src rfl HBB.out (by simp [List.length_drop,AA]<;>omega) (by simp [List.length_drop,AA]<;>omega) hb.size ?_
   intro v_1 w5 hown hb5 hg hf
   have hsz:=hb5.size
   have HB4:=zT (hb5.mono HBB.out)
   refine hK.out _ _ (Moved.keep (hb.trans hb5) rfl [0,1,2,3,4,5,6,7,8,18] (by kernel_rfl) ?_) ⟨zU HBs.out (zU hb.size hsz),HBB.out,hown⟩
   intro j hj
   simp only [List.mem_cons,List.not_mem_nil,or_false] at hj
   rcases hj with rfl | rfl | rfl | rfl | rfl | rfl | rfl | rfl | rfl | rfl
   ·exact fun ⟨h0,h1,b,e,h2,h3⟩=>⟨zU h0 hsz,h1,b,e,h2,nC h3 (HOLD.out.ne h3 (by decide)) hg hf⟩
   ·exact fun h=>⟨zU h.1 hsz,h.2⟩
   ·exact fun h=>⟨zU h.1 hsz,h.2⟩
   ·exact fun ⟨h0,h1,A',c',e,h2⟩=>⟨zU h0 hsz,h1,A',c',e,h2.keep HB4.out (zV _)⟩
   ·exact fun ⟨h0,h1,h2⟩=>⟨zU h0 hsz,h1,h2.beside (al.grown hg) HB4.out (h2.apart HOLD.out (by decide))⟩
   ·exact fun h=>⟨zU h.1 hsz,h.2⟩
   ·exact fun h=>⟨zU h.1 hsz,h.2⟩
   ·exact fun ⟨h0,h1,A',c',e,h2⟩=>⟨zU h0 hsz,h1,A',c',e,h2.keep HB4.out (zV _)⟩
   ·exact fun ⟨h0,h1,h2⟩=>⟨zU h0 hsz,h1,h2.beside (al.grown hg) HB4.out (h2.apart HOLD.out (by decide))⟩
   ·exact fun h=>⟨zU h.1 hsz,h.2⟩
  case op18_=>
   refine mvA fun T w' hk hb hgr hd K hK=>?_
   have h6:T.getD 6 undef=.pointer (some ⟨w.heap.size,0,none⟩):=hk.2 6 (by kernel_rfl)
   rw [zZ] at h6
   have k_m:=(HK4.out.later (HDR.out.trans hb)).cell
   have l_m:=(HK4.out.later (HDR.out.trans hb)).lt
   clear hk hd
   go_simp
   exact hK.out _ _ (Moved.grow aH HH0.out hb (zX _ _)) ⟨zU HBs.out hb.size,HBB.out,rfl⟩
  case op19_=>
   refine mvA fun T w' hk hb hgr hd K hK=>?_
   have d8:=mvD hd 8
   have d17:=mvD hd 17
   have d18:=mvD hd 18
   replace d8:=d8.2.2
   replace d17:=d17.2.2
   obtain ⟨A5,c5,e5⟩:=d8.form
   obtain ⟨A6,c6,e6⟩:=d17.form
   have hrd:RL (az (d+1)) w' w'.heap.size (l.drop i++l.take i) A5:=by
    have h:=d8.reads (zU HBB.out hb.size) (by show (l.drop i++l.take i).length*(8*3)≤_;rw [eC hi];omega)
    rw [show T.getD 56 undef=_ from e5] at h
    exact wP h
   have hrr:RL (OwR (d+1)) w' w'.heap.size (rs.drop k++rs.take k) A6:=by
    have h:=d17.reads (zU HBB.out hb.size) (by show (rs.drop k++rs.take k).length*(8*7)≤_;rw [eC hk_];omega)
    rw [show T.getD 65 undef=_ from e6] at h
    exact wP h
   replace e5:T.getD 56 undef=.slice A5 (l.drop i++l.take i).length c5:=e5
   replace e6:T.getD 65 undef=.slice A6 (rs.drop k++rs.take k).length c6:=e6
   replace d18:T.getD 66 undef=.agg #[.int .i64 lf,.int .i64 lr]:=d18.2.2
   rw [eC hi] at e5
   rw [eC hk_] at e6
   rw [zZ] at e5
   rw [zZ] at e6
   rw [zZ] at d18
   have hcall:=rx (d:=d) (c:=c5) (cr:=c6) (lf:=lf) (lr:=lr) hrd hrr (zV _) (by rw [eC hi];omega) (by rw [eC hk_];omega) (fun g hg=>H40.out g ((kL g).1 hg)) hlf hlr ((HB4.out.trans (HDR.out.mono hsz4 |>.trans (hb.mono hsz4))).cell (p:=⟨0,0,none⟩) hp |>.trans HM.out) (zY hp (zU hsz4 hb.size))
   rw [eC hi,eC hk_] at hcall
   clear hk hd d8 d17 hrd hrr
   go_simp
   refine hcall.mono ?_
   intro z w5 hrun
   obtain ⟨⟨p2,rfl,hp2⟩,hb5⟩:=hrun.p (fun g hg=>HIN.out g ((kL g).1 hg))
   exact hK.out _ _ (Moved.grow aH HH0.out hb hb5) ⟨zU HBs.out (zU hb.size hb5.size),HBB.out,p2,rfl,hp2⟩
  case op20_=>
   refine mvA fun T w' hk hb hgr hd K hK=>?_
   have d19:=mvD hd 19
   obtain ⟨_,_,p2,e19,s2⟩:=d19
   replace e19:T.getD 67 undef=_:=e19
   rw [zZ] at e19
   clear hk hd
   go_simp
   exact hK.out _ _ (Moved.grow aH HH0.out hb (zX _ _)) ⟨zU HBs.out hb.size,HBB.out,p2,rfl,s2⟩
  case op21_=>
   refine mvA fun T w' hk hb hgr hd K hK=>?_
   have d20:=mvD hd 20
   obtain ⟨_,_,p2,e20,s2⟩:=d20
   replace e20:T.getD 47 undef=_:=e20
   rw [zZ] at e20
   clear hk hd
   go_simp
   exact hK.out _ _ (Moved.grow aH HH0.out hb (zX _ _)) ⟨zU HBs.out hb.size,HBB.out,p2,rfl,s2⟩
  case op22_=>
   refine mvA fun T w' hk hb hgr hd K hK=>?_
   have d20:=mvD hd 20
   obtain ⟨_,_,p2,e20,s2⟩:=d20
   replace e20:T.getD 47 undef=_:=e20
   rw [zZ] at e20
   clear hk hd
   go_simp
   exact hK.out _ _ (Moved.grow aH HH0.out hb (zX _ _)) ⟨zU HBs.out hb.size,HBB.out,rfl⟩
  case op23_=>
   refine mvA fun T w' hk hb hgr hd K hK=>?_
   have d20:=mvD hd 20
   obtain ⟨_,_,p2,e20,s2⟩:=d20
   replace e20:T.getD 47 undef=_:=e20
   rw [zZ] at e20
   clear hk hd
   go_simp
   exact hK.out _ _ (Moved.grow aH HH0.out hb (zX _ _)) ⟨zU HBs.out hb.size,HBB.out,rfl⟩
  case op24_=>
   refine mvA fun T w' hk hb hgr hd K hK=>?_
   have d21:=mvD hd 21
   obtain ⟨_,_,p2,e21,s2⟩:=d21
   replace e21:T.getD 68 undef=_:=e21
   rw [zZ] at e21
   clear hk hd
   go_simp
   exact hK.out _ _ (Moved.grow aH HH0.out hb (zX _ _)) ⟨zU HBs.out hb.size,HBB.out,p2,rfl,s2⟩
  case op25_=>
   refine mvA fun T w' hk hb hgr hd K hK=>?_
   have d22:=mvD hd 22
   replace d22:T.getD 69 undef=.int .i64 (el (l.drop i++l.take i) (rs.drop k++rs.take k) lf lr).2.1:=d22.2.2
   rw [zZ] at d22
   clear hk hd
   go_simp
   exact hK.out _ _ (Moved.grow aH HH0.out hb (zX _ _)) ⟨zU HBs.out hb.size,HBB.out,rfl⟩
  case last_=>
   refine mvL fun T w' hk hb hgr hd K hK=>?_
   have d23:=mvD hd 23
   have d24:=mvD hd 24
   have d25:=mvD hd 25
   replace d23:T.getD 70 undef=.int .i64 (el (l.drop i++l.take i) (rs.drop k++rs.take k) lf lr).2.2:=d23.2.2
   replace d25:T.getD 15 undef=.int .i64 (el (l.drop i++l.take i) (rs.drop k++rs.take k) lf lr).2.1:=d25.2.2
   obtain ⟨_,_,p2,e14,s2⟩:=d24
   replace e14:T.getD 14 undef=_:=e14
   have HP2:=zT s2
   have e11:T.getD 11 undef=.pointer p1:=hk.2 11 (by kernel_rfl)
   have e12:T.getD 12 undef=.int .i64 X1.2.1:=hk.2 12 (by kernel_rfl)
   have e13:T.getD 13 undef=.int .i64 X1.2.2:=hk.2 13 (by kernel_rfl)
   have hT:=ji hk.1
   obtain ⟨f_,hf_⟩:∃f_:Nat→Value,(fun t=>T.getD t undef)=f_:=⟨_,rfl⟩
   rw [hf_] at hT
   replace e11:f_ 11=_:=(congrFun hf_ 11).symm.trans e11
   replace e12:f_ 12=_:=(congrFun hf_ 12).symm.trans e12
   replace e13:f_ 13=_:=(congrFun hf_ 13).symm.trans e13
   replace e14:f_ 14=_:=(congrFun hf_ 14).symm.trans e14
   replace d25:f_ 15=_:=(congrFun hf_ 15).symm.trans d25
   replace d23:f_ 70=_:=(congrFun hf_ 70).symm.trans d23
   replace hT:T=#[f_ 0,f_ 1,f_ 2,f_ 3,f_ 4,f_ 5,f_ 6,f_ 7,f_ 8,f_ 9,f_ 10,f_ 11,f_ 12,f_ 13,f_ 14,f_ 15,f_ 16,f_ 17,f_ 18,f_ 19,f_ 20,f_ 21,f_ 22,f_ 23,f_ 24,f_ 25,f_ 26,f_ 27,f_ 28,f_ 29,f_ 30,f_ 31,f_ 32,f_ 33,f_ 34,f_ 35,f_ 36,f_ 37,f_ 38,f_ 39,f_ 40,f_ 41,f_ 42,f_ 43,f_ 44,f_ 45,f_ 46,f_ 47,f_ 48,f_ 49,f_ 50,f_ 51,f_ 52,f_ 53,f_ 54,f_ 55,f_ 56,f_ 57,f_ 58,f_ 59,f_ 60,f_ 61,f_ 62,f_ 63,f_ 64,f_ 65,f_ 66,f_ 67,f_ 68,f_ 69,f_ 70,f_ 71,f_ 72,f_ 73,f_ 74,f_ 75,f_ 76,f_ 77,f_ 78,f_ 79,f_ 80,f_ 81,f_ 82,f_ 83,f_ 84,f_ 85,f_ 86,f_ 87,f_ 88,f_ 89,f_ 90,f_ 91,f_ 92,f_ 93,f_ 94,f_ 95,f_ 96,f_ 97]:=hT
   clear hf_
   subst hT
   rw [e11,e12,e13,e14,d25,d23]
   clear s2 hd hk
   go_simp
   refine hK.out _ _ ?_
   clear hK
   have HB45:=zT (HDR.out.trans hb)
   clear hb hgr
   generalize w'=w5 at *
   have HP15:=zT (HP1.out.later HB45.out)
   have HB5:=zT (ac HB4.out HB45.out)
   have hsz5:=HB5.out.size
   obtain ⟨hiff,heq⟩:=tW (l':=l.drop i++l.take i) (rs':=rs.drop k++rs.take k) (lf:=lf) (lr:=lr) HIN.out kL kL
   rw [HX1.out] at hiff heq
   clear HDR HBs HBB HH0 HLW HRW HP1
   generalize hX2:el (l.drop i++l.take i) (rs.drop k++rs.take k) lf lr=X2 at *
   by_cases h1:X1.2.2=0
   rotate_left
   ·have h2:¬X2.2.2=0:=fun h=>h1 (hiff.1 h)
    have q1:(X1.2.2 !=0)=true:=by simpa using h1
    have q2:(X1.2.2==0)=false:=by simpa using h1
    have q3:(X2.2.2==0)=false:=by simpa using h2
    clear h1 h2 hiff heq
    generalize X1.2.2=e1 at *
    generalize X2.2.2=e2 at *
    go_wp2_with fail
    refine (HAWH.out _ HB5.out).mono ?_
    rintro z w9 ⟨rfl,hb9⟩
    go_wp2_with fail
    go_ret
    exact ⟨rfl,ac HB5.out hb9⟩
   obtain ⟨S1,base1,xs1,As1,cs1,rfl,ha1,hx1⟩:=HP15.out h1
   obtain rfl:=heq h1
   obtain ⟨S2,base2,xs2,As2,cs2,rfl,ha2,hx2⟩:=HP2.out h1
   have hxx:xs2.map FV.f=xs1.map FV.f:=Option.some.inj (hx2.symm.trans hx1)
   obtain ⟨gs,m1,i1,_,i2⟩:=zz HIN.out (by rw [HX1.out];exact h1)
   rw [HX1.out] at i1
   obtain rfl:gs=xs1.map FV.f:=by rw [i1] at hx1;exact Option.some.inj hx1
   have HOK:Hid (∀x∈xs1.map FV.f,FcOk x):=zT i2.1.st.ok
   have HN:Hid (xs1.length≤1000∧xs2.length=xs1.length):=zT (by
    have a1:=i2.2.2.2.1
    have a2:=i2.1.few
    have a3:=congrArg List.length hxx
    simp only [vZ,Ag,Am] at a1
    rw [Ad] at a2
    rw [Ad,Ad] at a3
    omega)
   have q1:(X2.2.2 !=0)=false:=by simpa using h1
   have HXX:=zT hxx
   have HA15:=zT ha1
   have HA25:=zT ha2
   clear hx1 hx2 i2 ha1 ha2 hxx hiff heq
   generalize X2.2.2=e1 at *
   generalize X2.2.1=n1 at *
   go_wp2_with fail
   refine (pY HA15.out (by have:=HN.out;omega)).mono ?_
   rintro z w6 ⟨⟨ys1,Ay1,cy1,hy1,rfl,hr1⟩,hb_⟩
   have hyl1:ys1.length=xs1.length:=by simpa using congrArg List.length hy1
   have HRL1:Hid (RL (az (d+1)) w6 w6.heap.size (xs1.map FV.f) Ay1):=zT (hy1▸wO (hr1.rl (by have:=HN.out;omega)))
   have HA26:=zT (HA25.out.later hb_)
   have HB6:=zT (ac HB5.out hb_)
   rw [hyl1]
   clear hb_ hr1 hy1 hyl1
   go_wp2_with fail
   refine (pY HA26.out (by have:=HN.out;omega)).mono ?_
   rintro z w7 ⟨⟨ys2,Ay2,cy2,hy2,rfl,hr2⟩,hb_⟩
   have hyl2:ys2.length=xs1.length:=by have h:=congrArg List.length hy2;have:=HN.out;simp only [Ad] at h;omega
   have HRL2:Hid (RL (az (d+1)) w7 w7.heap.size (xs1.map FV.f) Ay2):=zT (HXX.out▸hy2▸wO (hr2.rl (by have:=HN.out;omega)))
   have HRL17:Hid (RL (az (d+1)) w7 w7.heap.size (xs1.map FV.f) Ay1):=zT (HRL1.out.near hb_)
   have HB7:=zT (ac HB6.out hb_)
   rw [hyl2]
   clear hb_ hr2 hy2 hyl2
   go_wp2_with fail
   have hcall:=HSF.out (c1:=cy1) (c2:=cy2) HB7.out HRL17.out HRL2.out HOK.out (by rw [Ad];have:=HN.out;omega)
   rw [Ad] at hcall
   refine hcall.mono ?_
   rintro z w8 ⟨rfl,hb_⟩
   have HB8:=zT (ac HB7.out hb_)
   clear hb_ hcall
   go_wp2_with fail
   refine (HAWH.out _ HB8.out).mono ?_
   rintro z w9 ⟨rfl,hb9⟩
   go_wp2_with fail
   go_ret
   exact ⟨rfl,ac HB8.out hb9⟩
end Go.Proofs.YtjpndglegpcdnaaGreat
