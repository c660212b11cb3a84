/- Parts of a slice of one's own as what is appended; the insertion, place by place. -/
import Derived.Test.YtdphibjibnffeaaGreatRegSpec
import Derived.Test.YtdphibjibnffeaaGreatHeapLaw
import Derived.Test.YtdphibjibnffeaaGreatBS
import Derived.BigQuiet
import Derived.Test.YtdphibjibnffeaaGreatOwn
set_option linter.unusedVariables false
set_option linter.unusedSimpArgs false
set_option maxRecDepth 100000
set_option maxHeartbeats 8000000
namespace Go.Proofs.YtdphibjibnffeaaGreat
open Go.ChangeShapes Go.WideShapes Go.ChangeAt Go.RowKit
def psA (s:ByteArray) (p:PS):Array Value:=#[.string s,.int .i64 p.at_,.int .i64 p.deep,.int .i64 p.e]
theorem iF {n:Int} (h0:-9223372036854775808≤n) (h1:n<9223372036854775808):wrap64 n=n:=by rw [kx];split<;>omega
theorem fS {s:ByteArray} {k:Nat} (h:k<s.size):bT s k=s[k].toNat:=by
 have hl:k<(bs s).length:=by rw [hU];exact h
 unfold bT
 rw [List.getElem?_eq_getElem hl]
 rfl
theorem uc (s:ByteArray) (k:Nat):bT s k<256:=by
 unfold bT
 rcases (bs s)[k]? with _ | b
 ·simp
 ·simp;exact b.toNat_lt
theorem cY {w:World} {P:Nat} {s:ByteArray} {p:PS} (hb:Blk w P (psA s p)) (hs:s.size≤1000000) (ha:p.at_≤1000000) :
 Calls Tryz.prog 322 #[.pointer (some ⟨P,0,none⟩)] w fun e w'=>e=.returned (.bool (bH s p))∧Below w.heap.size w w':=by
 obtain ⟨at_,deep,e⟩:=p
 have hb:Blk w P #[.string s,.int .i64 at_,.int .i64 deep,.int .i64 e]:=hb
 have q_p:=hb.regrown
 simp only at ha
 rcases Bool.eq_false_or_eq_true (e !=0) with he | he
 all_goals
  go_enter Tryz.func322,Tryz.ntmps322
  go_wp2_with fail
  refine wp_region_quiet_below (by kernel_rfl) (by kernel_rfl) ?_
  repeat (go_big_quiet_step (fail))
  refine wpQuiet_nil ?_
  intro w3 hw3
  have hb1:Below w.heap.size w w3:=by obtain ⟨p,rfl⟩:=hw3;exact below_regrown _ _ _
  clear hw3 q_p
  go_wp2_with fail
  go_ret
  refine ⟨ac ?_,hb1⟩
  simp only [bne_iff_ne,ne_eq,bne_eq_false_iff_eq] at he
  simp [bH,he]
theorem ck {w:World} {P:Nat} {s:ByteArray} {p:PS} {c:Nat} (hb:Blk w P (psA s p)) (hs:s.size≤1000000) (ha:p.at_≤1000000) :
 Calls Tryz.prog 327 #[.pointer (some ⟨P,0,none⟩),.int .u8 c] w fun e w'=>e=.returned (.bool (isP s p c))∧Below w.heap.size w w':=by
 have hb0:=hb
 have HB0:=Lib.hid hb
 rcases Bool.eq_false_or_eq_true (bH s p) with he | he
 ·have HE:=Lib.hid he
  clear he
  go_enter Tryz.func327,Tryz.ntmps327
  go_wp2_with fail
  refine wp_region_quiet_below (by kernel_rfl) (by kernel_rfl) ?_
  repeat (go_big_quiet_step ((go_at_call 322;exact Calls.regrown_of (cP HE.out (cY (HB0.out.later (below_regrown _ _ _)) hs ha)))))
  refine wpQuiet_nil ?_
  intro w3 hw3
  have hb1:Below w.heap.size w w3:=by obtain ⟨p,rfl⟩:=hw3;exact below_regrown _ _ _
  clear hw3
  go_wp2_with fail
  go_ret
  exact ⟨ac (by unfold isP;rw [HE.out];rfl),hb1⟩
 ·have HE:=Lib.hid he
  have hlt:p.at_<s.size:=by
   unfold bH at he
   simp only [Bool.or_eq_false_iff,decide_eq_false_iff_not] at he
   omega
  have HX:Hid (bT s p.at_=s[p.at_].toNat):=Lib.hid (fS hlt)
  obtain ⟨at_,deep,e⟩:=p
  have hb:Blk w P #[.string s,.int .i64 at_,.int .i64 deep,.int .i64 e]:=hb
  have q_p:=hb.regrown
  simp only at ha hlt HX
  clear he hb0
  go_enter Tryz.func327,Tryz.ntmps327
  go_wp2_with fail
  refine wp_region_quiet_below (by kernel_rfl) (by kernel_rfl) ?_
  repeat (go_big_quiet_step ((go_at_call 322;exact Calls.regrown_of (cP HE.out (cY (HB0.out.later (below_regrown _ _ _)) hs ha)))))
  refine wpQuiet_nil ?_
  intro w3 hw3
  have hb1:Below w.heap.size w w3:=by obtain ⟨p,rfl⟩:=hw3;exact below_regrown _ _ _
  clear hw3 q_p
  go_wp2_with fail
  go_ret
  refine ⟨ac ?_,hb1⟩
  unfold isP
  rw [HE.out]
  simp only [Bool.not_false,Bool.true_and]
  rw [HX.out,Bool.eq_iff_iff]
  simp
  try omega
theorem dO {w:World} {P:Nat} {s:ByteArray} {p:PS} {n:Int} (hb:Blk w P (psA s p)) :
 Calls Tryz.prog 323 #[.pointer (some ⟨P,0,none⟩),.int .i64 n] w fun e w'=>e=.returned (.tuple #[])∧Exc P w w'∧Blk w' P (psA s (aY p n)):=by
 obtain ⟨at_,deep,e⟩:=p
 have hb:Blk w P #[.string s,.int .i64 at_,.int .i64 deep,.int .i64 e]:=hb
 have k_p:=hb.cell
 have f_p:=hb.free
 have HB:=Lib.hid hb
 clear hb
 by_cases he:e=0
 ·subst he
  go_enter Tryz.func323,Tryz.ntmps323
  go_wp2_with fail
  go_end0
  exact ⟨rfl,(Exc.refl P w).set 3 _,HB.out.set_ 3 _⟩
 ·have HE:=Lib.hid he
  go_enter Tryz.func323,Tryz.ntmps323
  go_wp2_with fail
  go_end0
  refine ⟨rfl,Exc.refl P w,?_⟩
  unfold aY
  rw [if_neg HE.out]
  exact HB.out
theorem next_le {s:ByteArray} {p:PS}:(aE s p).2.at_≤p.at_+1:=by
 unfold aE aY PS.step
 split<;>(try split)<;>simp
theorem oQ {s:ByteArray} {p:PS} (h:bH s p=false):p.e=0∧p.at_<s.size:=by
 unfold bH at h
 simp only [Bool.or_eq_false_iff,decide_eq_false_iff_not,ne_eq,Classical.not_not] at h
 omega
theorem eQ {w:World} {P:Nat} {s:ByteArray} {p:PS} (hb:Blk w P (psA s p)) (hs:s.size≤1000000) (ha:p.at_≤1000000) :
 Calls Tryz.prog 332 #[.pointer (some ⟨P,0,none⟩)] w fun e w'=>e=.returned (.int .u8 (aE s p).1)∧Exc P w w'∧Blk w' P (psA s (aE s p).2):=by
 have HB:=Lib.hid hb
 have hlt:=hb.lt
 clear hb
 rcases Bool.eq_false_or_eq_true (bH s p) with he | he
 ·have HN:Hid (aE s p=(0,aY p 3)):=Lib.hid (by unfold aE;rw [if_pos he])
  have HE:=Lib.hid he
  clear he
  go_enter Tryz.func332,Tryz.ntmps332
  go_wp2_with fail
  refine (cY HB.out hs ha).mono ?_
  rintro x w1 ⟨rfl,hb1⟩
  rw [HE.out]
  have HB1:=Lib.hid (HB.out.later hb1)
  have HX1:=Lib.hid (Exc.of (Nat.le_of_lt hlt) hb1)
  clear hb1
  go_wp2_with fail
  refine (dO HB1.out).mono ?_
  rintro x w2 ⟨rfl,hx,hb2⟩
  have HB2:=Lib.hid hb2
  have HX2:=Lib.hid (HX1.out.trans hx)
  clear hx hb2
  go_wp2_with fail
  go_ret
  rw [HN.out]
  exact ⟨rfl,HX2.out,HB2.out⟩
 ·have HN:Hid (aE s p=(bT s p.at_,p.step)):=Lib.hid (by unfold aE;rw [if_neg (by rw [he];simp)])
  have HE:=Lib.hid he
  obtain ⟨h0,h1⟩:=oQ he
  have HG:Hid (bT s p.at_=s[p.at_].toNat):=Lib.hid (fS h1)
  clear he
  go_enter Tryz.func332,Tryz.ntmps332
  go_wp2_with fail
  refine (cY HB.out hs ha).mono ?_
  rintro x w1 ⟨rfl,hb1⟩
  rw [HE.out]
  have hbb:Blk w1 P (psA s p):=HB.out.later hb1
  have HX1:=Lib.hid (Exc.of (Nat.le_of_lt hlt) hb1)
  obtain ⟨at_,deep,e⟩:=p
  have hbb:Blk w1 P #[.string s,.int .i64 at_,.int .i64 deep,.int .i64 e]:=hbb
  simp only at ha h0 h1 HG HN
  subst h0
  have hw1:wrap64 ((at_:Int)+1)=(at_:Int)+1:=iF (by omega) (by omega)
  have hw2:wrap64 ((at_:Int)+1-1)=(at_:Int):=(congrArg wrap64 (by omega)).trans (iF (n:=(at_:Int)) (by omega) (by omega))
  have k_p:=hbb.cell
  have f_p:=hbb.free
  have HBB:=Lib.hid (show Blk (w1.setCell ⟨P,1,none⟩ (.int .i64 ((at_:Int)+1))) P #[.string s,.int .i64 ((at_:Int)+1),.int .i64 deep,.int .i64 0] from hbb.set_ 1 _)
  have HX2:=Lib.hid (HX1.out.set 1 (.int .i64 ((at_:Int)+1)))
  clear hb1 hbb
  go_wp2_with fail
  generalize w1.setCell _ _=w2 at *
  have q_p:=HBB.out.regrown
  refine wp_region_quiet_below (by kernel_rfl) (by kernel_rfl) ?_
  repeat (go_big_quiet_step (fail))
  refine wpQuiet_nil ?_
  intro w3 hw3
  have hb3:Below w2.heap.size w2 w3:=by obtain ⟨p,rfl⟩:=hw3;exact below_regrown _ _ _
  clear hw3 q_p
  have HX3:=Lib.hid (HX2.out.then (Nat.le_of_lt hlt) hb3)
  have HB3:=Lib.hid (HBB.out.later hb3)
  clear hb3 k_p f_p
  go_wp2_with fail
  go_ret
  rw [HN.out]
  refine ⟨?_,HX3.out,?_⟩
  ·rw [HG.out];rfl
  ·have:=HB3.out
   unfold psA PS.step
   simpa using this
theorem lu {w:World} {P:Nat} {s:ByteArray} {p:PS} (hb:Blk w P (psA s p)) (hs:s.size≤1000000) (ha:p.at_<1000000) :
 Calls Tryz.prog 337 #[.pointer (some ⟨P,0,none⟩)] w fun e w'=>e=.returned (.int .u8 (aM s p).1)∧Exc P w w'∧Blk w' P (psA s (aM s p).2):=by
 have HB:=Lib.hid hb
 clear hb
 go_enter Tryz.func337,Tryz.ntmps337
 go_wp2_with fail
 refine (eQ HB.out hs (by omega)).mono ?_
 rintro x w1 ⟨rfl,hx,hb1⟩
 have HB1:=Lib.hid hb1
 have HX1:=Lib.hid hx
 have hat:=next_le (s:=s) (p:=p)
 clear hx hb1
 by_cases h92:(aE s p).1=92
 ·have HM:Hid (aM s p=aE s (aE s p).2):=Lib.hid (by unfold aM;simp only;rw [if_pos h92])
  rw [h92]
  clear h92
  go_wp2_with fail
  refine (eQ HB1.out hs (by omega)).mono ?_
  rintro x w2 ⟨rfl,hx,hb2⟩
  have HB2:=Lib.hid hb2
  have HX2:=Lib.hid (HX1.out.trans hx)
  clear hx hb2
  go_wp2_with fail
  go_ret
  rw [HM.out]
  exact ⟨rfl,HX2.out,HB2.out⟩
 ·have HM:Hid (aM s p=aE s p):=Lib.hid (by unfold aM;simp only;rw [if_neg h92])
  have h92':¬((aE s p).1:Int)=92:=by omega
  clear h92
  go_wp2_with fail
  go_ret
  rw [HM.out]
  exact ⟨rfl,HX1.out,HB1.out⟩
def inA (i:Ins):Array Value:=#[.int .i64 i.kind,.int .u64 i.a,.int .u64 i.b,.int .u64 i.c,.int .u64 i.d,.int .i64 i.x,.int .i64 i.y]
theorem iQ {w:World} {G:Nat} {i:Ins} {c:Nat} (hb:Blk w G (inA i)) (hc:c<256) :
 Calls Tryz.prog 335 #[.pointer (some ⟨G,0,none⟩),.int .u8 c] w fun e w'=>e=.returned (.tuple #[])∧Exc G w w'∧Blk w' G (inA (kY i c)):=by
 obtain ⟨kind,a,b,c0,d,x,y⟩:=i
 have hb:Blk w G #[.int .i64 kind,.int .u64 a,.int .u64 b,.int .u64 c0,.int .u64 d,.int .i64 x,.int .i64 y]:=hb
 have k_p:=hb.cell
 have f_p:=hb.free
 have hj:c / 64=0∨c / 64=1∨c / 64=2∨c / 64=3:=by omega
 have hr:(c:Int).tmod 64=((c % 64:Nat):Int):=rfl
 have hr2:((c % 64:Nat):Int)<64:=by omega
 have hr3:(0:Int)≤((c % 64:Nat):Int):=by omega
 rcases hj with hj | hj | hj | hj
 ·have hq:(c:Int).tdiv 64=((c / 64:Nat):Int):=rfl
  rw [hj] at hq
  go_enter Tryz.func335,Tryz.ntmps335
  go_wp2_with fail
  go_region
  go_wp2_with fail
  go_end0
  refine ⟨rfl,((Exc.refl G w).set _ _).drew,?_⟩
  have h9:=(hb.set_ 1 (.int .u64 (bits BinOp.or IntKind.u64 a (IntKind.u64.wrap (2 ^ (c % 64)))))).drew
  have e9:inA (kY ⟨kind,a,b,c0,d,x,y⟩ c)=(#[.int .i64 kind,.int .u64 a,.int .u64 b,.int .u64 c0,.int .u64 d,.int .i64 x,.int .i64 y]:Array Value).setIfInBounds 1 (.int .u64 (bits BinOp.or IntKind.u64 a (IntKind.u64.wrap (2 ^ (c % 64))))):=by
   unfold inA kY Ins.put Ins.word
   rw [hj]
   simp
  rw [e9]
  exact h9
 ·have hq:(c:Int).tdiv 64=((c / 64:Nat):Int):=rfl
  rw [hj] at hq
  go_enter Tryz.func335,Tryz.ntmps335
  go_wp2_with fail
  go_region
  go_wp2_with fail
  go_end0
  refine ⟨rfl,((Exc.refl G w).set _ _).drew,?_⟩
  have h9:=(hb.set_ 2 (.int .u64 (bits BinOp.or IntKind.u64 b (IntKind.u64.wrap (2 ^ (c % 64)))))).drew
  have e9:inA (kY ⟨kind,a,b,c0,d,x,y⟩ c)=(#[.int .i64 kind,.int .u64 a,.int .u64 b,.int .u64 c0,.int .u64 d,.int .i64 x,.int .i64 y]:Array Value).setIfInBounds 2 (.int .u64 (bits BinOp.or IntKind.u64 b (IntKind.u64.wrap (2 ^ (c % 64))))):=by
   unfold inA kY Ins.put Ins.word
   rw [hj]
   simp
  rw [e9]
  exact h9
 ·have hq:(c:Int).tdiv 64=((c / 64:Nat):Int):=rfl
  rw [hj] at hq
  go_enter Tryz.func335,Tryz.ntmps335
  go_wp2_with fail
  go_region
  go_wp2_with fail
  go_end0
  refine ⟨rfl,((Exc.refl G w).set _ _).drew,?_⟩
  have h9:=(hb.set_ 3 (.int .u64 (bits BinOp.or IntKind.u64 c0 (IntKind.u64.wrap (2 ^ (c % 64)))))).drew
  have e9:inA (kY ⟨kind,a,b,c0,d,x,y⟩ c)=(#[.int .i64 kind,.int .u64 a,.int .u64 b,.int .u64 c0,.int .u64 d,.int .i64 x,.int .i64 y]:Array Value).setIfInBounds 3 (.int .u64 (bits BinOp.or IntKind.u64 c0 (IntKind.u64.wrap (2 ^ (c % 64))))):=by
   unfold inA kY Ins.put Ins.word
   rw [hj]
   simp
  rw [e9]
  exact h9
 ·have hq:(c:Int).tdiv 64=((c / 64:Nat):Int):=rfl
  rw [hj] at hq
  go_enter Tryz.func335,Tryz.ntmps335
  go_wp2_with fail
  go_region
  go_wp2_with fail
  go_end0
  refine ⟨rfl,((Exc.refl G w).set _ _).drew,?_⟩
  have h9:=(hb.set_ 4 (.int .u64 (bits BinOp.or IntKind.u64 d (IntKind.u64.wrap (2 ^ (c % 64)))))).drew
  have e9:inA (kY ⟨kind,a,b,c0,d,x,y⟩ c)=(#[.int .i64 kind,.int .u64 a,.int .u64 b,.int .u64 c0,.int .u64 d,.int .i64 x,.int .i64 y]:Array Value).setIfInBounds 4 (.int .u64 (bits BinOp.or IntKind.u64 d (IntKind.u64.wrap (2 ^ (c % 64))))):=by
   unfold inA kY Ins.put Ins.word
   rw [hj]
   simp
  rw [e9]
  exact h9
def bp (s:ByteArray) (p:PS):Nat:=if p.e=0 then s.size-p.at_ else 0
theorem iT (s:ByteArray) (p:PS):bp s p≤s.size:=by unfold bp;split<;>omega
theorem ek (s:ByteArray) (p:PS):bH s p=decide (bp s p=0):=by
 unfold bH bp
 by_cases h:p.e=0
 ·simp [h];omega
 ·simp [h]
theorem ju {s:ByteArray} {p:PS} {e:Int} (he:e≠0):bp s (aY p e)=0:=by
 unfold aY bp
 by_cases h:p.e=0
 ·simp [h,he]
 ·simp [h]
theorem iH (p:PS) (e:Int):(aY p e).at_=p.at_:=by unfold aY;split<;>rfl
theorem kN (p:PS) (e:Int):(aY p e).deep=p.deep:=by unfold aY;split<;>rfl
theorem fail_e {p:PS} {e:Int} (he:e≠0):(aY p e).e≠0:=by unfold aY;split<;>simp_all
structure Less (s:ByteArray) (d:Nat) (p q:PS):Prop where
 rem:bp s q+d≤bp s p∨d≠0∧bp s p=0∧bp s q=0
 deep:q.deep=p.deep
 at_:p.at_≤s.size→q.at_≤s.size
 up:p.at_≤q.at_
theorem Less.refl (s:ByteArray) (p:PS):Less s 0 p p:=⟨.inl (Nat.le_refl _),rfl,id,Nat.le_refl _⟩
theorem Less.zero {s:ByteArray} {d:Nat} {p q:PS} (h:Less s d p q):Less s 0 p q:=⟨.inl (by rcases h.rem with h | ⟨_,h,k⟩<;>omega),h.deep,h.at_,h.up⟩
theorem Less.le {s:ByteArray} {d:Nat} {p q:PS} (h:Less s d p q):bp s q≤bp s p:=by rcases h.rem with h | ⟨_,h,k⟩<;>omega
theorem Less.trans {s:ByteArray} {p q r:PS} (h:Less s 0 p q) (k:Less s 0 q r):Less s 0 p r:=⟨.inl (by have:=h.le;have:=k.le;omega),k.deep.trans h.deep,fun x=>k.at_ (h.at_ x),Nat.le_trans h.up k.up⟩
theorem Less.one {s:ByteArray} {p q r:PS} (h:Less s 1 p q) (k:Less s 0 q r):Less s 1 p r:=⟨by have:=k.le;rcases h.rem with h | ⟨_,h,k⟩<;>omega,k.deep.trans h.deep,fun x=>k.at_ (h.at_ x),Nat.le_trans h.up k.up⟩
theorem Less.fail {s:ByteArray} {d:Nat} {p q:PS} {e:Int} (h:Less s d p q) (he:e≠0):Less s d p (aY q e):=
 ⟨by rw [ju he];rcases h.rem with h | ⟨_,h,k⟩<;>omega,by rw [kN,h.deep],by rw [iH];exact h.at_,by rw [iH];exact h.up⟩
theorem Less.failed {s:ByteArray} {p:PS} {e:Int} (he:e≠0):Less s 1 p (aY p e):=
 ⟨by rw [ju he];omega,by rw [kN],by rw [iH];exact id,by rw [iH];exact Nat.le_refl _⟩
theorem Less.stepped {s:ByteArray} {p:PS} (h:bH s p=false):Less s 1 p p.step:=by
 rw [ek] at h
 have h:bp s p≠0:=by simpa using h
 unfold bp at h
 refine ⟨.inl ?_,rfl,fun hx=>?_,by simp [PS.step]⟩
 ·unfold bp PS.step
  split at h
  ·rename_i he
   simp [he]
   omega
  ·exact absurd rfl h
 ·unfold PS.step
  split at h
  ·simp;omega
  ·exact absurd rfl h
theorem kC {s:ByteArray} {p:PS} {c:Nat} (h:isP s p c=true):bH s p=false:=by
 unfold isP at h
 rw [Bool.and_eq_true] at h
 simpa using h.1
theorem Less.byte {s:ByteArray} {p:PS} {c:Nat} (h:isP s p c=true):Less s 1 p p.step:=Less.stepped (kC h)
theorem cC (s:ByteArray) (p:PS):Less s 1 p (aE s p).2:=by
 unfold aE
 rcases Bool.eq_false_or_eq_true (bH s p) with h | h
 ·rw [if_pos h];exact Less.failed (by decide)
 ·rw [if_neg (by rw [h];simp)];exact Less.stepped h
theorem byte_lt (s:ByteArray) (k:Nat):bT s k<256:=by
 unfold bT
 rcases (bs s)[k]? with _ | b
 ·simp
 ·simp;exact b.toNat_lt
theorem oV (s:ByteArray) (p:PS):(aE s p).1<256:=by
 unfold aE
 split
 ·simp
 ·exact byte_lt _ _
theorem dP (s:ByteArray) (p:PS):Less s 1 p (aM s p).2:=by
 unfold aM
 simp only
 split
 ·exact (cC s p).one (cC s _).zero
 ·exact cC s p
theorem mZ (s:ByteArray) (p:PS):(aM s p).1<256:=by
 unfold aM
 simp only
 split<;>exact oV _ _
theorem og (s:ByteArray) (p:PS):Less s 1 p (eC s p).2:=by
 unfold eC
 simp only
 split
 ·rename_i h
  rw [Bool.and_eq_true] at h
  exact ((dP s p).one (Less.byte h.1).zero).one (dP s _).zero
 ·exact dP s p
theorem fh (s:ByteArray):∀n p i,Less s 0 p (aZ s n p i).2
 | 0,p,i=>Less.refl s p
 | n+1,p,i=>by
   unfold aZ
   split
   ·simp only
    refine Less.trans ?_ (fh s n _ _)
    split
    ·exact ((og s p).fail (by decide)).zero
    ·exact (og s p).zero
   ·exact Less.refl s p
theorem rX (s:ByteArray) (p:PS):Less s 0 p (dJ s p).2:=by
 unfold dJ
 simp only
 have h1:Less s 0 p (if isP s p 94=true then p.step else p):=by
  split
  ·rename_i h;exact (Less.byte h).zero
  ·exact Less.refl s p
 have h2:∀q:PS,Less s 0 p q→Less s 0 p (if isP s q 93=true then aY q 3 else q):=by
  intro q hq
  split
  ·exact hq.fail (by decide)
  ·exact hq
 exact (((h2 _ h1).trans (fh s _ _ _)).trans (cC s _).zero)
structure Made (s:ByteArray) (d:Nat) (p:PS) (r:List Ins × PS):Prop where
 less:Less s 0 p r.2
 one:bp s p≠0→bp s r.2+d≤bp s p
 len:r.1.length+2*bp s r.2≤2*bp s p
theorem ah (l:List Ins) (k:Int):(aG l k).length=l.length:=by simp [aG]
theorem Less.lt {s:ByteArray} {p q:PS} (h:Less s 1 p q) (hp:bp s p≠0):bp s q+1≤bp s p:=by rcases h.rem with h | ⟨_,h,k⟩<;>omega
theorem eT (s:ByteArray):∀n,(∀p,Made s 0 p (oG s n p))∧(∀p out,Less s 0 p (iC s n p out).2∧(iC s n p out).1.length+2*bp s (iC s n p out).2≤out.length+2*bp s p)∧(∀p,bp s p≠0→Made s (if n≤1 then 0 else 1) p (eF s n p))∧(∀p,bp s p≠0→Made s (if n=0 then 0 else 1) p (fL s n p)):=by
 intro n
 induction n with
 | zero=>
   refine ⟨fun p=>⟨Less.refl s p,fun _=>by simp [oG],by simp [oG]⟩,fun p out=>⟨Less.refl s p,by simp [iC]⟩,fun p _=>⟨Less.refl s p,fun _=>by simp [eF],by simp [eF]⟩,fun p _=>⟨Less.refl s p,fun _=>by simp [fL],by simp [fL]⟩⟩
 | succ n ih=>
   obtain ⟨ihp,ihr,ihc,iha⟩:=ih
   refine ⟨fun p=>?_,fun p out=>?_,fun p hp=>?_,fun p hp=>?_⟩
   ·unfold oG
    simp only
    obtain ⟨h1,h2⟩:=ihr p []
    split
    ·rename_i hb
     have hs:=Less.byte hb
     have hne:bp s (iC s n p []).2≠0:=by
      have:=kC hb
      rw [ek] at this
      simpa using this
     have h3:=ihp (iC s n p []).2.step
     have h4:=hs.lt hne
     have h5:=h3.len
     have h6:=h3.less.le
     have h7:=h1.le
     refine ⟨(h1.trans hs.zero).trans h3.less,fun _=>by simp only;omega,?_⟩
     simp only [gy,List.length_append,ah,List.length_cons,List.length_nil] at h2 ⊢
     omega
    ·refine ⟨h1,fun _=>h1.le,?_⟩
     simpa using h2
   ·unfold iC
    split
    ·rename_i hc
     have hne:bp s p≠0:=by
      rw [Bool.and_eq_true] at hc
      have:=hc.1
      rw [ek] at this
      simpa using this
     have h1:=ihc p hne
     have h2:=ihr (eF s n p).2 (out++aG (eF s n p).1 out.length)
     refine ⟨h1.less.trans h2.1,?_⟩
     have h3:=h2.2
     rw [List.length_append,ah] at h3
     have h4:=h1.len
     simp only
     omega
    ·exact ⟨Less.refl s p,by simp⟩
   ·unfold eF
    simp only
    have h1:=iha p hp
    have hd:(if n+1≤1 then 0 else 1)=(if n=0 then 0 else 1):=by by_cases h:n=0<;>simp [h]
    rw [hd]
    generalize (if n=0 then 0 else 1)=dd at *
    have hb:∀c,isP s (fL s n p).2 c=true→Less s 1 (fL s n p).2 (fL s n p).2.step∧bp s (fL s n p).2.step+1≤bp s (fL s n p).2:=by
     intro c hc
     refine ⟨Less.byte hc,(Less.byte hc).lt ?_⟩
     have:=kC hc
     rw [ek] at this
     simpa using this
    have hl:=h1.len
    have ho:=h1.one hp
    split
    ·rename_i hc
     obtain ⟨h2,h3⟩:=hb _ hc
     exact ⟨h1.less.trans h2.zero,fun _=>by simp only;omega,by simp [ah];omega⟩
    ·split
     ·rename_i hc
      obtain ⟨h2,h3⟩:=hb _ hc
      exact ⟨h1.less.trans h2.zero,fun _=>by simp only;omega,by simp [ah];omega⟩
     ·split
      ·rename_i hc
       obtain ⟨h2,h3⟩:=hb _ hc
       exact ⟨h1.less.trans h2.zero,fun _=>by simp only;omega,by simp [ah];omega⟩
      ·exact h1
   ·rw [if_neg (by omega)]
    unfold fL
    simp only
    have h1:=cC s p
    have h2:=h1.lt hp
    have leaf:∀(i:Ins) (q:PS),Less s 0 (aE s p).2 q→Made s 1 p ([i],q):=by
     intro i q hq
     have:=hq.le
     exact ⟨h1.zero.trans hq,fun _=>by simp only;omega,by simp;omega⟩
    split
    ·rename_i hc
     split
     ·have h3:=ju (s:=s) (p:=(aE s p).2) (e:=4) (by decide)
      exact ⟨(h1.fail (by decide)).zero,fun _=>by simp only;omega,by simp [h3]⟩
     ·have h3:=ihp ⟨(aE s p).2.at_,(aE s p).2.deep+1,(aE s p).2.e⟩
      generalize hq:oG s n ⟨(aE s p).2.at_,(aE s p).2.deep+1,(aE s p).2.e⟩=q at *
      have h4:=cC s q.2
      generalize hz:aE s q.2=z at *
      have hr:bp s ⟨(aE s p).2.at_,(aE s p).2.deep+1,(aE s p).2.e⟩=bp s (aE s p).2:=rfl
      have h5:=h3.less.le
      have h6:=h3.len
      have h7:=h4.le
      have hdp:q.2.deep=(aE s p).2.deep+1:=h3.less.deep
      have hdz:z.2.deep=q.2.deep:=h4.deep
      have hkey:∀f:PS,Less s 0 z.2 f→Made s 1 p (q.1,⟨f.at_,f.deep-1,f.e⟩):=by
       intro f hf
       have hrf:bp s ⟨f.at_,f.deep-1,f.e⟩=bp s f:=rfl
       have h8:=hf.le
       refine ⟨⟨.inl (by simp only;rw [hrf];omega),?_,?_,?_⟩,fun _=>by simp only;rw [hrf];omega,by simp only;rw [hrf];omega⟩
       ·have:=hf.deep;have:=h1.deep;simp only;omega
       ·exact fun hx=>hf.at_ (h4.at_ (h3.less.at_ (h1.at_ hx)))
       ·exact Nat.le_trans h1.up (Nat.le_trans h3.less.up (Nat.le_trans h4.up hf.up))
      refine hkey _ ?_
      split
      ·exact (Less.refl s _).fail (by decide)
      ·exact Less.refl s _
    ·split
     ·exact leaf _ _ (rX s _)
     ·split
      ·exact leaf _ _ (Less.refl s _)
      ·split
       ·exact leaf _ _ (Less.refl s _)
       ·split
        ·exact leaf _ _ (Less.refl s _)
        ·split
         ·exact leaf _ _ (cC s _).zero
         ·split
          ·exact leaf _ _ ((Less.refl s _).fail (by decide))
          ·exact leaf _ _ (Less.refl s _)
theorem gW (s:ByteArray) (n:Nat) (p:PS):Made s 0 p (oG s n p):=(eT s n).1 p
theorem uO (s:ByteArray) (n:Nat) (p:PS) (out:List Ins):Less s 0 p (iC s n p out).2∧(iC s n p out).1.length+2*bp s (iC s n p out).2≤out.length+2*bp s p:=(eT s n).2.1 p out
theorem qY (s:ByteArray) (n:Nat) (p:PS) (hp:bp s p≠0) (hn:2≤n):Made s 1 p (eF s n p):=by
 have:=(eT s n).2.2.1 p hp
 rwa [if_neg (by omega)] at this
theorem tw (s:ByteArray) (n:Nat) (p:PS) (hp:bp s p≠0) (hn:1≤n):Made s 1 p (fL s n p):=by
 have:=(eT s n).2.2.2 p hp
 rwa [if_neg (by omega)] at this
section
variable {α:Type} {R:Reader α} {e:TypeId} {w:World} {base B:Nat} {v:Value} {xs:List α} {A:Option Addr} {c:Nat}
theorem qg (b off j:Nat):(⟨b,off,none⟩:Addr).add j=⟨b,off+j,none⟩:=by
 unfold Addr.add
 split
 ·rename_i h;subst h;rfl
 ·rfl
theorem aq.src (h:aq R e w base B (.slice A xs.length c) xs):eN R w B A xs:=by
 obtain ⟨cells,h,hf⟩:=h
 rcases h.2 with ⟨h1,h2⟩ | ⟨g,cap,cur,hv,hg,hh,k1,k2,k3,k4⟩
 ·have:xs=[]:=List.eq_nil_of_length_eq_zero h2
  subst this
  refine ⟨[],bg.nil,fun _=>rfl,fun a _ j u hu=>by simp at hu⟩
 ·simp only [Value.slice.injEq] at hv
  obtain ⟨rfl,_,rfl⟩:=hv
  refine ⟨cells,hf,fun e=>(by cases e),fun a ha j u hu=>?_⟩
  simp only [Option.some.injEq] at ha
  subst ha
  rw [←k4,List.getElem?_take] at hu
  split at hu
  ·rw [qg]
   show w.cell? ⟨g,0+j,none⟩=_
   rw [cell_of_row w g _ cur e (0,0) hh,Nat.zero_add]
   simpa using hu
  ·cases hu
theorem bg.take {news:List Value} (h:bg R w B xs news) (k:Nat):bg R w B (xs.take k) (news.take (k*R.k)):=by
 refine ⟨?_,fun i hi=>?_⟩
 ·rw [List.length_take,List.length_take,h.1]
  rcases Nat.le_total k xs.length with hk | hk
  ·rw [Nat.min_eq_left hk,Nat.min_eq_left (Nat.mul_le_mul_right _ hk)]
  ·rw [Nat.min_eq_right hk,Nat.min_eq_right (Nat.mul_le_mul_right _ hk)]
 ·rw [List.length_take] at hi
  have hik:i<k:=by omega
  have h1:(i+1)*R.k≤k*R.k:=Nat.mul_le_mul_right _ hik
  rw [Nat.add_mul,Nat.one_mul] at h1
  have:=h.2 i (by omega)
  rw [List.getElem_take,List.drop_take,List.take_take,Nat.min_eq_left (by omega)]
  exact this
theorem bg.drop {news:List Value} (h:bg R w B xs news) (k:Nat):bg R w B (xs.drop k) (news.drop (k*R.k)):=by
 refine ⟨?_,fun i hi=>?_⟩
 ·rw [List.length_drop,List.length_drop,h.1,Nat.sub_mul]
 ·rw [List.length_drop] at hi
  have:=h.2 (k+i) (by omega)
  rw [List.getElem_drop,List.drop_drop]
  rw [show k*R.k+i*R.k=(k+i)*R.k by rw [Nat.add_mul]]
  exact this
theorem eN.take (h:eN R w B A xs) (k:Nat):eN R w B A (xs.take k):=by
 obtain ⟨cells,hf,h1,h2⟩:=h
 refine ⟨_,hf.take k,fun e=>(by rw [h1 e];simp),fun a ha j u hu=>?_⟩
 rw [List.getElem?_take] at hu
 split at hu
 ·exact h2 a ha j u hu
 ·cases hu
theorem eN.drop {b off:Nat} (h:eN R w B (some ⟨b,off,none⟩) xs) (k:Nat):eN R w B (some ⟨b,off+k*R.k,none⟩) (xs.drop k):=by
 obtain ⟨cells,hf,h1,h2⟩:=h
 refine ⟨_,hf.drop k,fun e=>(by cases e),fun a ha j u hu=>?_⟩
 rw [List.getElem?_drop] at hu
 simp only [Option.some.injEq] at ha
 subst ha
 have:=h2 _ rfl _ _ hu
 rw [qg] at this ⊢
 rw [Nat.add_assoc];exact this
theorem eN.none {A:Option Addr} {ys:List α} (h:ys=[]):eN R w B A ys:=by
 subst h;exact ⟨[],bg.nil,fun _=>rfl,fun a _ j u hu=>by simp at hu⟩
end
section
variable {α:Type} {c:α→α→Int} {t:α}
end
end Go.Proofs.YtdphibjibnffeaaGreat
