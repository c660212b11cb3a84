/- Parts of a slice of one's own as what is appended; the insertion, place by place. -/
import Derived.Test.YtdphibjibnffeaaGreatRegSpec
import Derived.Test.YtdphibjibnffeaaGreatHeapLaw
import Derived.Test.YtdphibjibnffeaaGreatBS
import Derived.BigQuiet
import Derived.Test.YtdphibjibnffeaaGreatFc1
set_option linter.unusedVariables false
set_option linter.unusedSimpArgs false
set_option maxRecDepth 100000
set_option maxHeartbeats 8000000
namespace Go.Proofs.YtdphibjibnffeaaGreat
open Go.ChangeShapes Go.WideShapes Go.ChangeAt Go.RowKit
def psA (s:ByteArray) (p:PS):Array Value:=#[.string s,.int .i64 p.at_,.int .i64 p.deep,.int .i64 p.e]
theorem iX {n:Int} (h0:-9223372036854775808≤n) (h1:n<9223372036854775808):wrap64 n=n:=by rw [lf];split<;>omega
theorem fS {s:ByteArray} {k:Nat} (h:k<s.size):bV s k=s[k].toNat:=by
 have hl:k<(bs s).length:=by rw [gV];exact h
 unfold bV
 rw [List.getElem?_eq_getElem hl]
 rfl
theorem sK (s:ByteArray) (k:Nat):bV s k<256:=by
 unfold bV
 rcases (bs s)[k]? with _ | b
 ·simp
 ·simp;exact b.toNat_lt
theorem df {w:World} {P:Nat} {s:ByteArray} {p:PS} (hb:Blk w P (psA s p)) (hs:s.size≤1000000) (ha:p.at_≤1000000) :
 Calls Tryz.prog 322 #[.pointer (some ⟨P,0,none⟩)] w fun e w'=>e=.returned (.bool (bJ s p))∧Below w.heap.size w w':=by
 obtain ⟨at_,deep,e⟩:=p
 have hb:Blk w P #[.string s,.int .i64 at_,.int .i64 deep,.int .i64 e]:=hb
 have q_p:=hb.regrown
 simp only at ha
 rcases Bool.eq_false_or_eq_true (e !=0) with he | he
 all_goals
  go_enter Tryz.func322,Tryz.ntmps322
  go_wp2_with fail
  refine wp_region_quiet_below (by kernel_rfl) (by kernel_rfl) ?_
  repeat (go_big_quiet_step (fail))
  refine wpQuiet_nil ?_
  intro w3 hw3
  have hb1:Below w.heap.size w w3:=by obtain ⟨p,rfl⟩:=hw3;exact below_regrown _ _ _
  clear hw3 q_p
  go_wp2_with fail
  go_ret
  refine ⟨ae ?_,hb1⟩
  simp only [bne_iff_ne,ne_eq,bne_eq_false_iff_eq] at he
  simp [bJ,he]
theorem cw {w:World} {P:Nat} {s:ByteArray} {p:PS} {c:Nat} (hb:Blk w P (psA s p)) (hs:s.size≤1000000) (ha:p.at_≤1000000) :
 Calls Tryz.prog 327 #[.pointer (some ⟨P,0,none⟩),.int .u8 c] w fun e w'=>e=.returned (.bool (isP s p c))∧Below w.heap.size w w':=by
 have hb0:=hb
 have HB0:=Lib.hid hb
 rcases Bool.eq_false_or_eq_true (bJ s p) with he | he
 ·have HE:=Lib.hid he
  clear he
  go_enter Tryz.func327,Tryz.ntmps327
  go_wp2_with fail
  refine wp_region_quiet_below (by kernel_rfl) (by kernel_rfl) ?_
  repeat (go_big_quiet_step ((go_at_call 322;exact Calls.regrown_of (cS HE.out (df (HB0.out.later (below_regrown _ _ _)) hs ha)))))
  refine wpQuiet_nil ?_
  intro w3 hw3
  have hb1:Below w.heap.size w w3:=by obtain ⟨p,rfl⟩:=hw3;exact below_regrown _ _ _
  clear hw3
  go_wp2_with fail
  go_ret
  exact ⟨ae (by unfold isP;rw [HE.out];rfl),hb1⟩
 ·have HE:=Lib.hid he
  have hlt:p.at_<s.size:=by
   unfold bJ at he
   simp only [Bool.or_eq_false_iff,decide_eq_false_iff_not] at he
   omega
  have HX:Hid (bV s p.at_=s[p.at_].toNat):=Lib.hid (fS hlt)
  obtain ⟨at_,deep,e⟩:=p
  have hb:Blk w P #[.string s,.int .i64 at_,.int .i64 deep,.int .i64 e]:=hb
  have q_p:=hb.regrown
  simp only at ha hlt HX
  clear he hb0
  go_enter Tryz.func327,Tryz.ntmps327
  go_wp2_with fail
  refine wp_region_quiet_below (by kernel_rfl) (by kernel_rfl) ?_
  repeat (go_big_quiet_step ((go_at_call 322;exact Calls.regrown_of (cS HE.out (df (HB0.out.later (below_regrown _ _ _)) hs ha)))))
  refine wpQuiet_nil ?_
  intro w3 hw3
  have hb1:Below w.heap.size w w3:=by obtain ⟨p,rfl⟩:=hw3;exact below_regrown _ _ _
  clear hw3 q_p
  go_wp2_with fail
  go_ret
  refine ⟨ae ?_,hb1⟩
  unfold isP
  rw [HE.out]
  simp only [Bool.not_false,Bool.true_and]
  rw [HX.out,Bool.eq_iff_iff]
  simp
  try omega
theorem dJ {w:World} {P:Nat} {s:ByteArray} {p:PS} {n:Int} (hb:Blk w P (psA s p)) :
 Calls Tryz.prog 323 #[.pointer (some ⟨P,0,none⟩),.int .i64 n] w fun e w'=>e=.returned (.tuple #[])∧Exc P w w'∧Blk w' P (psA s (bf p n)):=by
 obtain ⟨at_,deep,e⟩:=p
 have hb:Blk w P #[.string s,.int .i64 at_,.int .i64 deep,.int .i64 e]:=hb
 have k_p:=hb.cell
 have f_p:=hb.free
 have HB:=Lib.hid hb
 clear hb
 by_cases he:e=0
 ·subst he
  go_enter Tryz.func323,Tryz.ntmps323
  go_wp2_with fail
  go_end0
  exact ⟨rfl,(Exc.refl P w).set 3 _,HB.out.set_ 3 _⟩
 ·have HE:=Lib.hid he
  go_enter Tryz.func323,Tryz.ntmps323
  go_wp2_with fail
  go_end0
  refine ⟨rfl,Exc.refl P w,?_⟩
  unfold bf
  rw [if_neg HE.out]
  exact HB.out
theorem next_le {s:ByteArray} {p:PS}:(aG s p).2.at_≤p.at_+1:=by
 unfold aG bf PS.step
 split<;>(try split)<;>simp
theorem pu {s:ByteArray} {p:PS} (h:bJ s p=false):p.e=0∧p.at_<s.size:=by
 unfold bJ at h
 simp only [Bool.or_eq_false_iff,decide_eq_false_iff_not,ne_eq,Classical.not_not] at h
 omega
theorem eQ {w:World} {P:Nat} {s:ByteArray} {p:PS} (hb:Blk w P (psA s p)) (hs:s.size≤1000000) (ha:p.at_≤1000000) :
 Calls Tryz.prog 332 #[.pointer (some ⟨P,0,none⟩)] w fun e w'=>e=.returned (.int .u8 (aG s p).1)∧Exc P w w'∧Blk w' P (psA s (aG s p).2):=by
 have HB:=Lib.hid hb
 have hlt:=hb.lt
 clear hb
 rcases Bool.eq_false_or_eq_true (bJ s p) with he | he
 ·have HN:Hid (aG s p=(0,bf p 3)):=Lib.hid (by unfold aG;rw [if_pos he])
  have HE:=Lib.hid he
  clear he
  go_enter Tryz.func332,Tryz.ntmps332
  go_wp2_with fail
  refine (df HB.out hs ha).mono ?_
  rintro x w1 ⟨rfl,hb1⟩
  rw [HE.out]
  have HB1:=Lib.hid (HB.out.later hb1)
  have HX1:=Lib.hid (Exc.of (Nat.le_of_lt hlt) hb1)
  clear hb1
  go_wp2_with fail
  refine (dJ HB1.out).mono ?_
  rintro x w2 ⟨rfl,hx,hb2⟩
  have HB2:=Lib.hid hb2
  have HX2:=Lib.hid (HX1.out.trans hx)
  clear hx hb2
  go_wp2_with fail
  go_ret
  rw [HN.out]
  exact ⟨rfl,HX2.out,HB2.out⟩
 ·have HN:Hid (aG s p=(bV s p.at_,p.step)):=Lib.hid (by unfold aG;rw [if_neg (by rw [he];simp)])
  have HE:=Lib.hid he
  obtain ⟨h0,h1⟩:=pu he
  have HG:Hid (bV s p.at_=s[p.at_].toNat):=Lib.hid (fS h1)
  clear he
  go_enter Tryz.func332,Tryz.ntmps332
  go_wp2_with fail
  refine (df HB.out hs ha).mono ?_
  rintro x w1 ⟨rfl,hb1⟩
  rw [HE.out]
  have hbb:Blk w1 P (psA s p):=HB.out.later hb1
  have HX1:=Lib.hid (Exc.of (Nat.le_of_lt hlt) hb1)
  obtain ⟨at_,deep,e⟩:=p
  have hbb:Blk w1 P #[.string s,.int .i64 at_,.int .i64 deep,.int .i64 e]:=hbb
  simp only at ha h0 h1 HG HN
  subst h0
  have hw1:wrap64 ((at_:Int)+1)=(at_:Int)+1:=iX (by omega) (by omega)
  have hw2:wrap64 ((at_:Int)+1-1)=(at_:Int):=(congrArg wrap64 (by omega)).trans (iX (n:=(at_:Int)) (by omega) (by omega))
  have k_p:=hbb.cell
  have f_p:=hbb.free
  have HBB:=Lib.hid (show Blk (w1.setCell ⟨P,1,none⟩ (.int .i64 ((at_:Int)+1))) P #[.string s,.int .i64 ((at_:Int)+1),.int .i64 deep,.int .i64 0] from hbb.set_ 1 _)
  have HX2:=Lib.hid (HX1.out.set 1 (.int .i64 ((at_:Int)+1)))
  clear hb1 hbb
  go_wp2_with fail
  generalize w1.setCell _ _=w2 at *
  have q_p:=HBB.out.regrown
  refine wp_region_quiet_below (by kernel_rfl) (by kernel_rfl) ?_
  repeat (go_big_quiet_step (fail))
  refine wpQuiet_nil ?_
  intro w3 hw3
  have hb3:Below w2.heap.size w2 w3:=by obtain ⟨p,rfl⟩:=hw3;exact below_regrown _ _ _
  clear hw3 q_p
  have HX3:=Lib.hid (HX2.out.then (Nat.le_of_lt hlt) hb3)
  have HB3:=Lib.hid (HBB.out.later hb3)
  clear hb3 k_p f_p
  go_wp2_with fail
  go_ret
  rw [HN.out]
  refine ⟨?_,HX3.out,?_⟩
  ·rw [HG.out];rfl
  ·have:=HB3.out
   unfold psA PS.step
   simpa using this
theorem lK {w:World} {P:Nat} {s:ByteArray} {p:PS} (hb:Blk w P (psA s p)) (hs:s.size≤1000000) (ha:p.at_<1000000) :
 Calls Tryz.prog 337 #[.pointer (some ⟨P,0,none⟩)] w fun e w'=>e=.returned (.int .u8 (aO s p).1)∧Exc P w w'∧Blk w' P (psA s (aO s p).2):=by
 have HB:=Lib.hid hb
 clear hb
 go_enter Tryz.func337,Tryz.ntmps337
 go_wp2_with fail
 refine (eQ HB.out hs (by omega)).mono ?_
 rintro x w1 ⟨rfl,hx,hb1⟩
 have HB1:=Lib.hid hb1
 have HX1:=Lib.hid hx
 have hat:=next_le (s:=s) (p:=p)
 clear hx hb1
 by_cases h92:(aG s p).1=92
 ·have HM:Hid (aO s p=aG s (aG s p).2):=Lib.hid (by unfold aO;simp only;rw [if_pos h92])
  rw [h92]
  clear h92
  go_wp2_with fail
  refine (eQ HB1.out hs (by omega)).mono ?_
  rintro x w2 ⟨rfl,hx,hb2⟩
  have HB2:=Lib.hid hb2
  have HX2:=Lib.hid (HX1.out.trans hx)
  clear hx hb2
  go_wp2_with fail
  go_ret
  rw [HM.out]
  exact ⟨rfl,HX2.out,HB2.out⟩
 ·have HM:Hid (aO s p=aG s p):=Lib.hid (by unfold aO;simp only;rw [if_neg h92])
  have h92':¬((aG s p).1:Int)=92:=by omega
  clear h92
  go_wp2_with fail
  go_ret
  rw [HM.out]
  exact ⟨rfl,HX1.out,HB1.out⟩
def inA (i:Ins):Array Value:=#[.int .i64 i.kind,.int .u64 i.a,.int .u64 i.b,.int .u64 i.c,.int .u64 i.d,.int .i64 i.x,.int .i64 i.y]
theorem iI {w:World} {G:Nat} {i:Ins} {c:Nat} (hb:Blk w G (inA i)) (hc:c<256) :
 Calls Tryz.prog 335 #[.pointer (some ⟨G,0,none⟩),.int .u8 c] w fun e w'=>e=.returned (.tuple #[])∧Exc G w w'∧Blk w' G (inA (lh i c)):=by
 obtain ⟨kind,a,b,c0,d,x,y⟩:=i
 have hb:Blk w G #[.int .i64 kind,.int .u64 a,.int .u64 b,.int .u64 c0,.int .u64 d,.int .i64 x,.int .i64 y]:=hb
 have k_p:=hb.cell
 have f_p:=hb.free
 have hj:c / 64=0∨c / 64=1∨c / 64=2∨c / 64=3:=by omega
 have hr:(c:Int).tmod 64=((c % 64:Nat):Int):=rfl
 have hr2:((c % 64:Nat):Int)<64:=by omega
 have hr3:(0:Int)≤((c % 64:Nat):Int):=by omega
 rcases hj with hj | hj | hj | hj
 ·have hq:(c:Int).tdiv 64=((c / 64:Nat):Int):=rfl
  rw [hj] at hq
  go_enter Tryz.func335,Tryz.ntmps335
  go_wp2_with fail
  go_region
  go_wp2_with fail
  go_end0
  refine ⟨rfl,((Exc.refl G w).set _ _).drew,?_⟩
  have h9:=(hb.set_ 1 (.int .u64 (bits BinOp.or IntKind.u64 a (IntKind.u64.wrap (2 ^ (c % 64)))))).drew
  have e9:inA (lh ⟨kind,a,b,c0,d,x,y⟩ c)=(#[.int .i64 kind,.int .u64 a,.int .u64 b,.int .u64 c0,.int .u64 d,.int .i64 x,.int .i64 y]:Array Value).setIfInBounds 1 (.int .u64 (bits BinOp.or IntKind.u64 a (IntKind.u64.wrap (2 ^ (c % 64))))):=by
   unfold inA lh Ins.put Ins.word
   rw [hj]
   simp
  rw [e9]
  exact h9
 ·have hq:(c:Int).tdiv 64=((c / 64:Nat):Int):=rfl
  rw [hj] at hq
  go_enter Tryz.func335,Tryz.ntmps335
  go_wp2_with fail
  go_region
  go_wp2_with fail
  go_end0
  refine ⟨rfl,((Exc.refl G w).set _ _).drew,?_⟩
  have h9:=(hb.set_ 2 (.int .u64 (bits BinOp.or IntKind.u64 b (IntKind.u64.wrap (2 ^ (c % 64)))))).drew
  have e9:inA (lh ⟨kind,a,b,c0,d,x,y⟩ c)=(#[.int .i64 kind,.int .u64 a,.int .u64 b,.int .u64 c0,.int .u64 d,.int .i64 x,.int .i64 y]:Array Value).setIfInBounds 2 (.int .u64 (bits BinOp.or IntKind.u64 b (IntKind.u64.wrap (2 ^ (c % 64))))):=by
   unfold inA lh Ins.put Ins.word
   rw [hj]
   simp
  rw [e9]
  exact h9
 ·have hq:(c:Int).tdiv 64=((c / 64:Nat):Int):=rfl
  rw [hj] at hq
  go_enter Tryz.func335,Tryz.ntmps335
  go_wp2_with fail
  go_region
  go_wp2_with fail
  go_end0
  refine ⟨rfl,((Exc.refl G w).set _ _).drew,?_⟩
  have h9:=(hb.set_ 3 (.int .u64 (bits BinOp.or IntKind.u64 c0 (IntKind.u64.wrap (2 ^ (c % 64)))))).drew
  have e9:inA (lh ⟨kind,a,b,c0,d,x,y⟩ c)=(#[.int .i64 kind,.int .u64 a,.int .u64 b,.int .u64 c0,.int .u64 d,.int .i64 x,.int .i64 y]:Array Value).setIfInBounds 3 (.int .u64 (bits BinOp.or IntKind.u64 c0 (IntKind.u64.wrap (2 ^ (c % 64))))):=by
   unfold inA lh Ins.put Ins.word
   rw [hj]
   simp
  rw [e9]
  exact h9
 ·have hq:(c:Int).tdiv 64=((c / 64:Nat):Int):=rfl
  rw [hj] at hq
  go_enter Tryz.func335,Tryz.ntmps335
  go_wp2_with fail
  go_region
  go_wp2_with fail
  go_end0
  refine ⟨rfl,((Exc.refl G w).set _ _).drew,?_⟩
  have h9:=(hb.set_ 4 (.int .u64 (bits BinOp.or IntKind.u64 d (IntKind.u64.wrap (2 ^ (c % 64)))))).drew
  have e9:inA (lh ⟨kind,a,b,c0,d,x,y⟩ c)=(#[.int .i64 kind,.int .u64 a,.int .u64 b,.int .u64 c0,.int .u64 d,.int .i64 x,.int .i64 y]:Array Value).setIfInBounds 4 (.int .u64 (bits BinOp.or IntKind.u64 d (IntKind.u64.wrap (2 ^ (c % 64))))):=by
   unfold inA lh Ins.put Ins.word
   rw [hj]
   simp
  rw [e9]
  exact h9
def bz (s:ByteArray) (p:PS):Nat:=if p.e=0 then s.size-p.at_ else 0
theorem jm (s:ByteArray) (p:PS):bz s p≤s.size:=by unfold bz;split<;>omega
theorem ei (s:ByteArray) (p:PS):bJ s p=decide (bz s p=0):=by
 unfold bJ bz
 by_cases h:p.e=0
 ·simp [h];omega
 ·simp [h]
theorem jB {s:ByteArray} {p:PS} {e:Int} (he:e≠0):bz s (bf p e)=0:=by
 unfold bf bz
 by_cases h:p.e=0
 ·simp [h,he]
 ·simp [h]
theorem iG (p:PS) (e:Int):(bf p e).at_=p.at_:=by unfold bf;split<;>rfl
theorem kf (p:PS) (e:Int):(bf p e).deep=p.deep:=by unfold bf;split<;>rfl
theorem fail_e {p:PS} {e:Int} (he:e≠0):(bf p e).e≠0:=by unfold bf;split<;>simp_all
structure Less (s:ByteArray) (d:Nat) (p q:PS):Prop where
 rem:bz s q+d≤bz s p∨d≠0∧bz s p=0∧bz s q=0
 deep:q.deep=p.deep
 at_:p.at_≤s.size→q.at_≤s.size
 up:p.at_≤q.at_
theorem Less.refl (s:ByteArray) (p:PS):Less s 0 p p:=⟨.inl (Nat.le_refl _),rfl,id,Nat.le_refl _⟩
theorem Less.zero {s:ByteArray} {d:Nat} {p q:PS} (h:Less s d p q):Less s 0 p q:=⟨.inl (by rcases h.rem with h | ⟨_,h,k⟩<;>omega),h.deep,h.at_,h.up⟩
theorem Less.le {s:ByteArray} {d:Nat} {p q:PS} (h:Less s d p q):bz s q≤bz s p:=by rcases h.rem with h | ⟨_,h,k⟩<;>omega
theorem Less.trans {s:ByteArray} {p q r:PS} (h:Less s 0 p q) (k:Less s 0 q r):Less s 0 p r:=⟨.inl (by have:=h.le;have:=k.le;omega),k.deep.trans h.deep,fun x=>k.at_ (h.at_ x),Nat.le_trans h.up k.up⟩
theorem Less.one {s:ByteArray} {p q r:PS} (h:Less s 1 p q) (k:Less s 0 q r):Less s 1 p r:=⟨by have:=k.le;rcases h.rem with h | ⟨_,h,k⟩<;>omega,k.deep.trans h.deep,fun x=>k.at_ (h.at_ x),Nat.le_trans h.up k.up⟩
theorem Less.fail {s:ByteArray} {d:Nat} {p q:PS} {e:Int} (h:Less s d p q) (he:e≠0):Less s d p (bf q e):=
 ⟨by rw [jB he];rcases h.rem with h | ⟨_,h,k⟩<;>omega,by rw [kf,h.deep],by rw [iG];exact h.at_,by rw [iG];exact h.up⟩
theorem Less.failed {s:ByteArray} {p:PS} {e:Int} (he:e≠0):Less s 1 p (bf p e):=
 ⟨by rw [jB he];omega,by rw [kf],by rw [iG];exact id,by rw [iG];exact Nat.le_refl _⟩
theorem Less.stepped {s:ByteArray} {p:PS} (h:bJ s p=false):Less s 1 p p.step:=by
 rw [ei] at h
 have h:bz s p≠0:=by simpa using h
 unfold bz at h
 refine ⟨.inl ?_,rfl,fun hx=>?_,by simp [PS.step]⟩
 ·unfold bz PS.step
  split at h
  ·rename_i he
   simp [he]
   omega
  ·exact absurd rfl h
 ·unfold PS.step
  split at h
  ·simp;omega
  ·exact absurd rfl h
theorem kw {s:ByteArray} {p:PS} {c:Nat} (h:isP s p c=true):bJ s p=false:=by
 unfold isP at h
 rw [Bool.and_eq_true] at h
 simpa using h.1
theorem Less.byte {s:ByteArray} {p:PS} {c:Nat} (h:isP s p c=true):Less s 1 p p.step:=Less.stepped (kw h)
theorem cF (s:ByteArray) (p:PS):Less s 1 p (aG s p).2:=by
 unfold aG
 rcases Bool.eq_false_or_eq_true (bJ s p) with h | h
 ·rw [if_pos h];exact Less.failed (by decide)
 ·rw [if_neg (by rw [h];simp)];exact Less.stepped h
theorem byte_lt (s:ByteArray) (k:Nat):bV s k<256:=by
 unfold bV
 rcases (bs s)[k]? with _ | b
 ·simp
 ·simp;exact b.toNat_lt
theorem pv (s:ByteArray) (p:PS):(aG s p).1<256:=by
 unfold aG
 split
 ·simp
 ·exact byte_lt _ _
theorem dM (s:ByteArray) (p:PS):Less s 1 p (aO s p).2:=by
 unfold aO
 simp only
 split
 ·exact (cF s p).one (cF s _).zero
 ·exact cF s p
theorem nH (s:ByteArray) (p:PS):(aO s p).1<256:=by
 unfold aO
 simp only
 split<;>exact pv _ _
theorem oh (s:ByteArray) (p:PS):Less s 1 p (eG s p).2:=by
 unfold eG
 simp only
 split
 ·rename_i h
  rw [Bool.and_eq_true] at h
  exact ((dM s p).one (Less.byte h.1).zero).one (dM s _).zero
 ·exact dM s p
theorem fo (s:ByteArray):∀n p i,Less s 0 p (bh s n p i).2
 | 0,p,i=>Less.refl s p
 | n+1,p,i=>by
   unfold bh
   split
   ·simp only
    refine Less.trans ?_ (fo s n _ _)
    split
    ·exact ((oh s p).fail (by decide)).zero
    ·exact (oh s p).zero
   ·exact Less.refl s p
theorem qZ (s:ByteArray) (p:PS):Less s 0 p (dF s p).2:=by
 unfold dF
 simp only
 have h1:Less s 0 p (if isP s p 94=true then p.step else p):=by
  split
  ·rename_i h;exact (Less.byte h).zero
  ·exact Less.refl s p
 have h2:∀q:PS,Less s 0 p q→Less s 0 p (if isP s q 93=true then bf q 3 else q):=by
  intro q hq
  split
  ·exact hq.fail (by decide)
  ·exact hq
 exact (((h2 _ h1).trans (fo s _ _ _)).trans (cF s _).zero)
structure Made (s:ByteArray) (d:Nat) (p:PS) (r:List Ins × PS):Prop where
 less:Less s 0 p r.2
 one:bz s p≠0→bz s r.2+d≤bz s p
 len:r.1.length+2*bz s r.2≤2*bz s p
theorem aj (l:List Ins) (k:Int):(aK l k).length=l.length:=by simp [aK]
theorem Less.lt {s:ByteArray} {p q:PS} (h:Less s 1 p q) (hp:bz s p≠0):bz s q+1≤bz s p:=by rcases h.rem with h | ⟨_,h,k⟩<;>omega
theorem eO (s:ByteArray):∀n,(∀p,Made s 0 p (pw s n p))∧(∀p out,Less s 0 p (iQ s n p out).2∧(iQ s n p out).1.length+2*bz s (iQ s n p out).2≤out.length+2*bz s p)∧(∀p,bz s p≠0→Made s (if n≤1 then 0 else 1) p (eD s n p))∧(∀p,bz s p≠0→Made s (if n=0 then 0 else 1) p (fj s n p)):=by
 intro n
 induction n with
 | zero=>
   refine ⟨fun p=>⟨Less.refl s p,fun _=>by simp [pw],by simp [pw]⟩,fun p out=>⟨Less.refl s p,by simp [iQ]⟩,fun p _=>⟨Less.refl s p,fun _=>by simp [eD],by simp [eD]⟩,fun p _=>⟨Less.refl s p,fun _=>by simp [fj],by simp [fj]⟩⟩
 | succ n ih=>
   obtain ⟨ihp,ihr,ihc,iha⟩:=ih
   refine ⟨fun p=>?_,fun p out=>?_,fun p hp=>?_,fun p hp=>?_⟩
   ·unfold pw
    simp only
    obtain ⟨h1,h2⟩:=ihr p []
    split
    ·rename_i hb
     have hs:=Less.byte hb
     have hne:bz s (iQ s n p []).2≠0:=by
      have:=kw hb
      rw [ei] at this
      simpa using this
     have h3:=ihp (iQ s n p []).2.step
     have h4:=hs.lt hne
     have h5:=h3.len
     have h6:=h3.less.le
     have h7:=h1.le
     refine ⟨(h1.trans hs.zero).trans h3.less,fun _=>by simp only;omega,?_⟩
     simp only [gG,List.length_append,aj,List.length_cons,List.length_nil] at h2 ⊢
     omega
    ·refine ⟨h1,fun _=>h1.le,?_⟩
     simpa using h2
   ·unfold iQ
    split
    ·rename_i hc
     have hne:bz s p≠0:=by
      rw [Bool.and_eq_true] at hc
      have:=hc.1
      rw [ei] at this
      simpa using this
     have h1:=ihc p hne
     have h2:=ihr (eD s n p).2 (out++aK (eD s n p).1 out.length)
     refine ⟨h1.less.trans h2.1,?_⟩
     have h3:=h2.2
     rw [List.length_append,aj] at h3
     have h4:=h1.len
     simp only
     omega
    ·exact ⟨Less.refl s p,by simp⟩
   ·unfold eD
    simp only
    have h1:=iha p hp
    have hd:(if n+1≤1 then 0 else 1)=(if n=0 then 0 else 1):=by by_cases h:n=0<;>simp [h]
    rw [hd]
    generalize (if n=0 then 0 else 1)=dd at *
    have hb:∀c,isP s (fj s n p).2 c=true→Less s 1 (fj s n p).2 (fj s n p).2.step∧bz s (fj s n p).2.step+1≤bz s (fj s n p).2:=by
     intro c hc
     refine ⟨Less.byte hc,(Less.byte hc).lt ?_⟩
     have:=kw hc
     rw [ei] at this
     simpa using this
    have hl:=h1.len
    have ho:=h1.one hp
    split
    ·rename_i hc
     obtain ⟨h2,h3⟩:=hb _ hc
     exact ⟨h1.less.trans h2.zero,fun _=>by simp only;omega,by simp [aj];omega⟩
    ·split
     ·rename_i hc
      obtain ⟨h2,h3⟩:=hb _ hc
      exact ⟨h1.less.trans h2.zero,fun _=>by simp only;omega,by simp [aj];omega⟩
     ·split
      ·rename_i hc
       obtain ⟨h2,h3⟩:=hb _ hc
       exact ⟨h1.less.trans h2.zero,fun _=>by simp only;omega,by simp [aj];omega⟩
      ·exact h1
   ·rw [if_neg (by omega)]
    unfold fj
    simp only
    have h1:=cF s p
    have h2:=h1.lt hp
    have leaf:∀(i:Ins) (q:PS),Less s 0 (aG s p).2 q→Made s 1 p ([i],q):=by
     intro i q hq
     have:=hq.le
     exact ⟨h1.zero.trans hq,fun _=>by simp only;omega,by simp;omega⟩
    split
    ·rename_i hc
     split
     ·have h3:=jB (s:=s) (p:=(aG s p).2) (e:=4) (by decide)
      exact ⟨(h1.fail (by decide)).zero,fun _=>by simp only;omega,by simp [h3]⟩
     ·have h3:=ihp ⟨(aG s p).2.at_,(aG s p).2.deep+1,(aG s p).2.e⟩
      generalize hq:pw s n ⟨(aG s p).2.at_,(aG s p).2.deep+1,(aG s p).2.e⟩=q at *
      have h4:=cF s q.2
      generalize hz:aG s q.2=z at *
      have hr:bz s ⟨(aG s p).2.at_,(aG s p).2.deep+1,(aG s p).2.e⟩=bz s (aG s p).2:=rfl
      have h5:=h3.less.le
      have h6:=h3.len
      have h7:=h4.le
      have hdp:q.2.deep=(aG s p).2.deep+1:=h3.less.deep
      have hdz:z.2.deep=q.2.deep:=h4.deep
      have hkey:∀f:PS,Less s 0 z.2 f→Made s 1 p (q.1,⟨f.at_,f.deep-1,f.e⟩):=by
       intro f hf
       have hrf:bz s ⟨f.at_,f.deep-1,f.e⟩=bz s f:=rfl
       have h8:=hf.le
       refine ⟨⟨.inl (by simp only;rw [hrf];omega),?_,?_,?_⟩,fun _=>by simp only;rw [hrf];omega,by simp only;rw [hrf];omega⟩
       ·have:=hf.deep;have:=h1.deep;simp only;omega
       ·exact fun hx=>hf.at_ (h4.at_ (h3.less.at_ (h1.at_ hx)))
       ·exact Nat.le_trans h1.up (Nat.le_trans h3.less.up (Nat.le_trans h4.up hf.up))
      refine hkey _ ?_
      split
      ·exact (Less.refl s _).fail (by decide)
      ·exact Less.refl s _
    ·split
     ·exact leaf _ _ (qZ s _)
     ·split
      ·exact leaf _ _ (Less.refl s _)
      ·split
       ·exact leaf _ _ (Less.refl s _)
       ·split
        ·exact leaf _ _ (Less.refl s _)
        ·split
         ·exact leaf _ _ (cF s _).zero
         ·split
          ·exact leaf _ _ ((Less.refl s _).fail (by decide))
          ·exact leaf _ _ (Less.refl s _)
theorem io (s:ByteArray) (n:Nat) (p:PS):Made s 0 p (pw s n p):=(eO s n).1 p
theorem vZ (s:ByteArray) (n:Nat) (p:PS) (out:List Ins):Less s 0 p (iQ s n p out).2∧(iQ s n p out).1.length+2*bz s (iQ s n p out).2≤out.length+2*bz s p:=(eO s n).2.1 p out
theorem rI (s:ByteArray) (n:Nat) (p:PS) (hp:bz s p≠0) (hn:2≤n):Made s 1 p (eD s n p):=by
 have:=(eO s n).2.2.1 p hp
 rwa [if_neg (by omega)] at this
theorem sB (s:ByteArray) (n:Nat) (p:PS) (hp:bz s p≠0) (hn:1≤n):Made s 1 p (fj s n p):=by
 have:=(eO s n).2.2.2 p hp
 rwa [if_neg (by omega)] at this
section
variable {α:Type} {R:Reader α} {e:TypeId} {w:World} {base B:Nat} {v:Value} {xs:List α} {A:Option Addr} {c:Nat}
theorem pV (b off j:Nat):(⟨b,off,none⟩:Addr).add j=⟨b,off+j,none⟩:=by
 unfold Addr.add
 split
 ·rename_i h;subst h;rfl
 ·rfl
theorem au.src (h:au R e w base B (.slice A xs.length c) xs):eK R w B A xs:=by
 obtain ⟨cells,h,hf⟩:=h
 rcases h.2 with ⟨h1,h2⟩ | ⟨g,cap,cur,hv,hg,hh,k1,k2,k3,k4⟩
 ·have:xs=[]:=List.eq_nil_of_length_eq_zero h2
  subst this
  refine ⟨[],be.nil,fun _=>rfl,fun a _ j u hu=>by simp at hu⟩
 ·simp only [Value.slice.injEq] at hv
  obtain ⟨rfl,_,rfl⟩:=hv
  refine ⟨cells,hf,fun e=>(by cases e),fun a ha j u hu=>?_⟩
  simp only [Option.some.injEq] at ha
  subst ha
  rw [←k4,List.getElem?_take] at hu
  split at hu
  ·rw [pV]
   show w.cell? ⟨g,0+j,none⟩=_
   rw [cell_of_row w g _ cur e (0,0) hh,Nat.zero_add]
   simpa using hu
  ·cases hu
theorem be.take {news:List Value} (h:be R w B xs news) (k:Nat):be R w B (xs.take k) (news.take (k*R.k)):=by
 refine ⟨?_,fun i hi=>?_⟩
 ·rw [List.length_take,List.length_take,h.1]
  rcases Nat.le_total k xs.length with hk | hk
  ·rw [Nat.min_eq_left hk,Nat.min_eq_left (Nat.mul_le_mul_right _ hk)]
  ·rw [Nat.min_eq_right hk,Nat.min_eq_right (Nat.mul_le_mul_right _ hk)]
 ·rw [List.length_take] at hi
  have hik:i<k:=by omega
  have h1:(i+1)*R.k≤k*R.k:=Nat.mul_le_mul_right _ hik
  rw [Nat.add_mul,Nat.one_mul] at h1
  have:=h.2 i (by omega)
  rw [List.getElem_take,List.drop_take,List.take_take,Nat.min_eq_left (by omega)]
  exact this
theorem be.drop {news:List Value} (h:be R w B xs news) (k:Nat):be R w B (xs.drop k) (news.drop (k*R.k)):=by
 refine ⟨?_,fun i hi=>?_⟩
 ·rw [List.length_drop,List.length_drop,h.1,Nat.sub_mul]
 ·rw [List.length_drop] at hi
  have:=h.2 (k+i) (by omega)
  rw [List.getElem_drop,List.drop_drop]
  rw [show k*R.k+i*R.k=(k+i)*R.k by rw [Nat.add_mul]]
  exact this
theorem eK.take (h:eK R w B A xs) (k:Nat):eK R w B A (xs.take k):=by
 obtain ⟨cells,hf,h1,h2⟩:=h
 refine ⟨_,hf.take k,fun e=>(by rw [h1 e];simp),fun a ha j u hu=>?_⟩
 rw [List.getElem?_take] at hu
 split at hu
 ·exact h2 a ha j u hu
 ·cases hu
theorem eK.drop {b off:Nat} (h:eK R w B (some ⟨b,off,none⟩) xs) (k:Nat):eK R w B (some ⟨b,off+k*R.k,none⟩) (xs.drop k):=by
 obtain ⟨cells,hf,h1,h2⟩:=h
 refine ⟨_,hf.drop k,fun e=>(by cases e),fun a ha j u hu=>?_⟩
 rw [List.getElem?_drop] at hu
 simp only [Option.some.injEq] at ha
 subst ha
 have:=h2 _ rfl _ _ hu
 rw [pV] at this ⊢
 rw [Nat.add_assoc];exact this
theorem eK.none {A:Option Addr} {ys:List α} (h:ys=[]):eK R w B A ys:=by
 subst h;exact ⟨[],be.nil,fun _=>rfl,fun a _ j u hu=>by simp at hu⟩
end
section
variable {α:Type} {c:α→α→Int} {t:α}
end
end Go.Proofs.YtdphibjibnffeaaGreat
