/- regex.either. -/
import Derived.Test.YtjpndglegpcdnaaGreatRegSpec
import Derived.Test.YtjpndglegpcdnaaGreatHeapG
import Derived.Test.YtjpndglegpcdnaaGreatUniq
import Derived.BigQuiet
import Derived.Test.YtjpndglegpcdnaaGreatFc1
import Derived.Laws.MakeOwn
import Derived.Test.YtjpndglegpcdnaaGreatSingle
import Derived.Deep.Cut
import Derived.Deep.CutRange
import Derived.Deep.LoopGhost
set_option linter.unusedVariables false
set_option linter.unusedSimpArgs false
set_option maxRecDepth 100000
set_option maxHeartbeats 8000000
namespace Go.Proofs.YtjpndglegpcdnaaGreat
open Go.ChangeShapes Go.WideShapes Go.ChangeAt Go.RowKit
theorem zF {α:Type _}{x:Array α}:x.toList.length=x.size:=Array.length_toList
def psA (s:ByteArray) (p:PS):Array Value:=#[.string s,.int .i64 p.at_,.int .i64 p.deep,.int .i64 p.e]
theorem jA {n:Int} (h0:-9223372036854775808≤n) (h1:n<9223372036854775808):wrap64 n=n:=by rw [lZ];split<;>omega
theorem gy {s:ByteArray} {k:Nat} (h:k<s.size):ch s k=s[k].toNat:=by
 have hl:k<(bs s).length:=by rw [ir];exact h
 unfold ch
 rw [zD hl]
 rfl
theorem uu (s:ByteArray) (k:Nat):ch s k<256:=by
 unfold ch
 rcases (bs s)[k]? with _ | b
 ·simp
 ·simp;exact b.toNat_lt
theorem dt {w:World} {P:Nat} {s:ByteArray} {p:PS} (hb:Blk w P (psA s p)) (hs:s.size≤1000000) (ha:p.at_≤1000000) :
 Calls Tryz.prog 222 #[.pointer (some ⟨P,0,none⟩)] w fun e w'=>e=.returned (.bool (bP s p))∧Below w.heap.size w w':=by
 obtain ⟨at_,deep,e⟩:=p
 have hb:Blk w P #[.string s,.int .i64 at_,.int .i64 deep,.int .i64 e]:=hb
 have q_p:=hb.regrown
 simp only at ha
 rcases Bool.eq_false_or_eq_true (e !=0) with he | he
 all_goals
  go_enter Tryz.func222,Tryz.ntmps222
  go_wp2_with fail
  refine wp_region_quiet_below (by kernel_rfl) (by kernel_rfl) ?_
  repeat (go_big_quiet_step (fail))
  refine wpQuiet_nil ?_
  intro w3 hw3
  have hb1:Below w.heap.size w w3:=by obtain ⟨p,rfl⟩:=hw3;exact below_regrown _ _ _
  clear hw3 q_p
  go_wp2_with fail
  go_ret
  refine ⟨ac ?_,hb1⟩
  simp only [bne_iff_ne,ne_eq,bne_eq_false_iff_eq] at he
  simp [bP,he]
theorem cF {w:World} {P:Nat} {s:ByteArray} {p:PS} {c:Nat} (hb:Blk w P (psA s p)) (hs:s.size≤1000000) (ha:p.at_≤1000000) :
 Calls Tryz.prog 230 #[.pointer (some ⟨P,0,none⟩),.int .u8 c] w fun e w'=>e=.returned (.bool (isP s p c))∧Below w.heap.size w w':=by
 have hb0:=hb
 have HB0:=zu hb
 rcases Bool.eq_false_or_eq_true (bP s p) with he | he
 ·have HE:=zu he
  clear he
  go_enter Tryz.func230,Tryz.ntmps230
  go_wp2_with fail
  refine wp_region_quiet_below (by kernel_rfl) (by kernel_rfl) ?_
  repeat (go_big_quiet_step ((go_at_call 222;exact Calls.regrown_of (df HE.out (dt (HB0.out.later (below_regrown _ _ _)) hs ha)))))
  refine wpQuiet_nil ?_
  intro w3 hw3
  have hb1:Below w.heap.size w w3:=by obtain ⟨p,rfl⟩:=hw3;exact below_regrown _ _ _
  clear hw3
  go_wp2_with fail
  go_ret
  exact ⟨ac (by unfold isP;rw [HE.out];rfl),hb1⟩
 ·have HE:=zu he
  have hlt:p.at_<s.size:=by
   unfold bP at he
   simp only [Bool.or_eq_false_iff,decide_eq_false_iff_not] at he
   omega
  have HX:Hid (ch s p.at_=s[p.at_].toNat):=zu (gy hlt)
  obtain ⟨at_,deep,e⟩:=p
  have hb:Blk w P #[.string s,.int .i64 at_,.int .i64 deep,.int .i64 e]:=hb
  have q_p:=hb.regrown
  simp only at ha hlt HX
  clear he hb0
  go_enter Tryz.func230,Tryz.ntmps230
  go_wp2_with fail
  refine wp_region_quiet_below (by kernel_rfl) (by kernel_rfl) ?_
  repeat (go_big_quiet_step ((go_at_call 222;exact Calls.regrown_of (df HE.out (dt (HB0.out.later (below_regrown _ _ _)) hs ha)))))
  refine wpQuiet_nil ?_
  intro w3 hw3
  have hb1:Below w.heap.size w w3:=by obtain ⟨p,rfl⟩:=hw3;exact below_regrown _ _ _
  clear hw3 q_p
  go_wp2_with fail
  go_ret
  refine ⟨ac ?_,hb1⟩
  unfold isP
  rw [HE.out]
  simp only [Bool.not_false,Bool.true_and]
  rw [HX.out,Bool.eq_iff_iff]
  simp
  try omega
theorem eb {w:World} {P:Nat} {s:ByteArray} {p:PS} {n:Int} (hb:Blk w P (psA s p)) :
 Calls Tryz.prog 223 #[.pointer (some ⟨P,0,none⟩),.int .i64 n] w fun e w'=>e=.returned (.tuple #[])∧Exc P w w'∧Blk w' P (psA s (bh p n)):=by
 obtain ⟨at_,deep,e⟩:=p
 have hb:Blk w P #[.string s,.int .i64 at_,.int .i64 deep,.int .i64 e]:=hb
 have k_p:=hb.cell
 have f_p:=hb.free
 have HB:=zu hb
 clear hb
 by_cases he:e=0
 ·subst he
  go_enter Tryz.func223,Tryz.ntmps223
  go_wp2_with fail
  go_end0
  exact ⟨rfl,(Exc.refl P w).set 3 _,HB.out.set_ 3 _⟩
 ·have HE:=zu he
  go_enter Tryz.func223,Tryz.ntmps223
  go_wp2_with fail
  go_end0
  refine ⟨rfl,Exc.refl P w,?_⟩
  unfold bh
  rw [if_neg HE.out]
  exact HB.out
theorem next_le {s:ByteArray} {p:PS}:(aH s p).2.at_≤p.at_+1:=by
 unfold aH bh PS.step
 split<;>(try split)<;>simp
theorem qP {s:ByteArray} {p:PS} (h:bP s p=false):p.e=0∧p.at_<s.size:=by
 unfold bP at h
 simp only [Bool.or_eq_false_iff,decide_eq_false_iff_not,ne_eq,Classical.not_not] at h
 omega
theorem fk {w:World} {P:Nat} {s:ByteArray} {p:PS} (hb:Blk w P (psA s p)) (hs:s.size≤1000000) (ha:p.at_≤1000000) :
 Calls Tryz.prog 237 #[.pointer (some ⟨P,0,none⟩)] w fun e w'=>e=.returned (.int .u8 (aH s p).1)∧Exc P w w'∧Blk w' P (psA s (aH s p).2):=by
 have HB:=zu hb
 have hlt:=hb.lt
 clear hb
 rcases Bool.eq_false_or_eq_true (bP s p) with he | he
 ·have HN:Hid (aH s p=(0,bh p 3)):=zu (by unfold aH;rw [if_pos he])
  have HE:=zu he
  clear he
  go_enter Tryz.func237,Tryz.ntmps237
  go_wp2_with fail
  refine (dt HB.out hs ha).mono ?_
  rintro x w1 ⟨rfl,hb1⟩
  rw [HE.out]
  have HB1:=zu (HB.out.later hb1)
  have HX1:=zu (Exc.of (Nat.le_of_lt hlt) hb1)
  clear hb1
  go_wp2_with fail
  refine (eb HB1.out).mono ?_
  rintro x w2 ⟨rfl,hx,hb2⟩
  have HB2:=zu hb2
  have HX2:=zu (HX1.out.trans hx)
  clear hx hb2
  go_wp2_with fail
  go_ret
  rw [HN.out]
  exact ⟨rfl,HX2.out,HB2.out⟩
 ·have HN:Hid (aH s p=(ch s p.at_,p.step)):=zu (by unfold aH;rw [if_neg (by rw [he];simp)])
  have HE:=zu he
  obtain ⟨h0,h1⟩:=qP he
  have HG:Hid (ch s p.at_=s[p.at_].toNat):=zu (gy h1)
  clear he
  go_enter Tryz.func237,Tryz.ntmps237
  go_wp2_with fail
  refine (dt HB.out hs ha).mono ?_
  rintro x w1 ⟨rfl,hb1⟩
  rw [HE.out]
  have hbb:Blk w1 P (psA s p):=HB.out.later hb1
  have HX1:=zu (Exc.of (Nat.le_of_lt hlt) hb1)
  obtain ⟨at_,deep,e⟩:=p
  have hbb:Blk w1 P #[.string s,.int .i64 at_,.int .i64 deep,.int .i64 e]:=hbb
  simp only at ha h0 h1 HG HN
  subst h0
  have hw1:wrap64 ((at_:Int)+1)=(at_:Int)+1:=jA (by omega) (by omega)
  have hw2:wrap64 ((at_:Int)+1-1)=(at_:Int):=(congrArg wrap64 (by omega)).trans (jA (n:=(at_:Int)) (by omega) (by omega))
  have k_p:=hbb.cell
  have f_p:=hbb.free
  have HBB:=zu (show Blk (w1.setCell ⟨P,1,none⟩ (.int .i64 ((at_:Int)+1))) P #[.string s,.int .i64 ((at_:Int)+1),.int .i64 deep,.int .i64 0] from hbb.set_ 1 _)
  have HX2:=zu (HX1.out.set 1 (.int .i64 ((at_:Int)+1)))
  clear hb1 hbb
  go_wp2_with fail
  generalize w1.setCell _ _=w2 at *
  have q_p:=HBB.out.regrown
  refine wp_region_quiet_below (by kernel_rfl) (by kernel_rfl) ?_
  repeat (go_big_quiet_step (fail))
  refine wpQuiet_nil ?_
  intro w3 hw3
  have hb3:Below w2.heap.size w2 w3:=by obtain ⟨p,rfl⟩:=hw3;exact below_regrown _ _ _
  clear hw3 q_p
  have HX3:=zu (HX2.out.then (Nat.le_of_lt hlt) hb3)
  have HB3:=zu (HBB.out.later hb3)
  clear hb3 k_p f_p
  go_wp2_with fail
  go_ret
  rw [HN.out]
  refine ⟨?_,HX3.out,?_⟩
  ·rw [HG.out];rfl
  ·have:=HB3.out
   unfold psA PS.step
   simpa using this
theorem mN {w:World} {P:Nat} {s:ByteArray} {p:PS} (hb:Blk w P (psA s p)) (hs:s.size≤1000000) (ha:p.at_<1000000) :
 Calls Tryz.prog 242 #[.pointer (some ⟨P,0,none⟩)] w fun e w'=>e=.returned (.int .u8 (aQ s p).1)∧Exc P w w'∧Blk w' P (psA s (aQ s p).2):=by
 have HB:=zu hb
 clear hb
 go_enter Tryz.func242,Tryz.ntmps242
 go_wp2_with fail
 refine (fk HB.out hs (by omega)).mono ?_
 rintro x w1 ⟨rfl,hx,hb1⟩
 have HB1:=zu hb1
 have HX1:=zu hx
 have hat:=next_le (s:=s) (p:=p)
 clear hx hb1
 by_cases h92:(aH s p).1=92
 ·have HM:Hid (aQ s p=aH s (aH s p).2):=zu (by unfold aQ;simp only;rw [if_pos h92])
  rw [h92]
  clear h92
  go_wp2_with fail
  refine (fk HB1.out hs (by omega)).mono ?_
  rintro x w2 ⟨rfl,hx,hb2⟩
  have HB2:=zu hb2
  have HX2:=zu (HX1.out.trans hx)
  clear hx hb2
  go_wp2_with fail
  go_ret
  rw [HM.out]
  exact ⟨rfl,HX2.out,HB2.out⟩
 ·have HM:Hid (aQ s p=aH s p):=zu (by unfold aQ;simp only;rw [if_neg h92])
  have h92':¬((aH s p).1:Int)=92:=by omega
  clear h92
  go_wp2_with fail
  go_ret
  rw [HM.out]
  exact ⟨rfl,HX1.out,HB1.out⟩
def inA (i:Ins):Array Value:=#[.int .i64 i.kind,.int .u64 i.a,.int .u64 i.b,.int .u64 i.c,.int .u64 i.d,.int .i64 i.x,.int .i64 i.y]
theorem jm {w:World} {G:Nat} {i:Ins} {c:Nat} (hb:Blk w G (inA i)) (hc:c<256) :
 Calls Tryz.prog 240 #[.pointer (some ⟨G,0,none⟩),.int .u8 c] w fun e w'=>e=.returned (.tuple #[])∧Exc G w w'∧Blk w' G (inA (me i c)):=by
 obtain ⟨kind,a,b,c0,d,x,y⟩:=i
 have hb:Blk w G #[.int .i64 kind,.int .u64 a,.int .u64 b,.int .u64 c0,.int .u64 d,.int .i64 x,.int .i64 y]:=hb
 have k_p:=hb.cell
 have f_p:=hb.free
 have hj:c / 64=0∨c / 64=1∨c / 64=2∨c / 64=3:=by omega
 have hr:(c:Int).tmod 64=((c % 64:Nat):Int):=rfl
 have hr2:((c % 64:Nat):Int)<64:=by omega
 have hr3:(0:Int)≤((c % 64:Nat):Int):=by omega
 rcases hj with hj | hj | hj | hj
 ·have hq:(c:Int).tdiv 64=((c / 64:Nat):Int):=rfl
  rw [hj] at hq
  go_enter Tryz.func240,Tryz.ntmps240
  go_wp2_with fail
  go_region
  go_wp2_with fail
  go_end0
  refine ⟨rfl,((Exc.refl G w).set _ _).drew,?_⟩
  have h9:=(hb.set_ 1 (.int .u64 (bits BinOp.or IntKind.u64 a (IntKind.u64.wrap (2 ^ (c % 64)))))).drew
  have e9:inA (me ⟨kind,a,b,c0,d,x,y⟩ c)=(#[.int .i64 kind,.int .u64 a,.int .u64 b,.int .u64 c0,.int .u64 d,.int .i64 x,.int .i64 y]:Array Value).setIfInBounds 1 (.int .u64 (bits BinOp.or IntKind.u64 a (IntKind.u64.wrap (2 ^ (c % 64))))):=by
   unfold inA me Ins.put Ins.word
   rw [hj]
   simp
  rw [e9]
  exact h9
 ·have hq:(c:Int).tdiv 64=((c / 64:Nat):Int):=rfl
  rw [hj] at hq
  go_enter Tryz.func240,Tryz.ntmps240
  go_wp2_with fail
  go_region
  go_wp2_with fail
  go_end0
  refine ⟨rfl,((Exc.refl G w).set _ _).drew,?_⟩
  have h9:=(hb.set_ 2 (.int .u64 (bits BinOp.or IntKind.u64 b (IntKind.u64.wrap (2 ^ (c % 64)))))).drew
  have e9:inA (me ⟨kind,a,b,c0,d,x,y⟩ c)=(#[.int .i64 kind,.int .u64 a,.int .u64 b,.int .u64 c0,.int .u64 d,.int .i64 x,.int .i64 y]:Array Value).setIfInBounds 2 (.int .u64 (bits BinOp.or IntKind.u64 b (IntKind.u64.wrap (2 ^ (c % 64))))):=by
   unfold inA me Ins.put Ins.word
   rw [hj]
   simp
  rw [e9]
  exact h9
 ·have hq:(c:Int).tdiv 64=((c / 64:Nat):Int):=rfl
  rw [hj] at hq
  go_enter Tryz.func240,Tryz.ntmps240
  go_wp2_with fail
  go_region
  go_wp2_with fail
  go_end0
  refine ⟨rfl,((Exc.refl G w).set _ _).drew,?_⟩
  have h9:=(hb.set_ 3 (.int .u64 (bits BinOp.or IntKind.u64 c0 (IntKind.u64.wrap (2 ^ (c % 64)))))).drew
  have e9:inA (me ⟨kind,a,b,c0,d,x,y⟩ c)=(#[.int .i64 kind,.int .u64 a,.int .u64 b,.int .u64 c0,.int .u64 d,.int .i64 x,.int .i64 y]:Array Value).setIfInBounds 3 (.int .u64 (bits BinOp.or IntKind.u64 c0 (IntKind.u64.wrap (2 ^ (c % 64))))):=by
   unfold inA me Ins.put Ins.word
   rw [hj]
   simp
  rw [e9]
  exact h9
 ·have hq:(c:Int).tdiv 64=((c / 64:Nat):Int):=rfl
  rw [hj] at hq
  go_enter Tryz.func240,Tryz.ntmps240
  go_wp2_with fail
  go_region
  go_wp2_with fail
  go_end0
  refine ⟨rfl,((Exc.refl G w).set _ _).drew,?_⟩
  have h9:=(hb.set_ 4 (.int .u64 (bits BinOp.or IntKind.u64 d (IntKind.u64.wrap (2 ^ (c % 64)))))).drew
  have e9:inA (me ⟨kind,a,b,c0,d,x,y⟩ c)=(#[.int .i64 kind,.int .u64 a,.int .u64 b,.int .u64 c0,.int .u64 d,.int .i64 x,.int .i64 y]:Array Value).setIfInBounds 4 (.int .u64 (bits BinOp.or IntKind.u64 d (IntKind.u64.wrap (2 ^ (c % 64))))):=by
   unfold inA me Ins.put Ins.word
   rw [hj]
   simp
  rw [e9]
  exact h9
def bG (s:ByteArray) (p:PS):Nat:=if p.e=0 then s.size-p.at_ else 0
theorem jM (s:ByteArray) (p:PS):bG s p≤s.size:=by unfold bG;split<;>omega
theorem eB (s:ByteArray) (p:PS):bP s p=decide (bG s p=0):=by
 unfold bP bG
 by_cases h:p.e=0
 ·simp [h];omega
 ·simp [h]
theorem ki {s:ByteArray} {p:PS} {e:Int} (he:e≠0):bG s (bh p e)=0:=by
 unfold bh bG
 by_cases h:p.e=0
 ·simp [h,he]
 ·simp [h]
theorem jh (p:PS) (e:Int):(bh p e).at_=p.at_:=by unfold bh;split<;>rfl
theorem kQ (p:PS) (e:Int):(bh p e).deep=p.deep:=by unfold bh;split<;>rfl
theorem fail_e {p:PS} {e:Int} (he:e≠0):(bh p e).e≠0:=by unfold bh;split<;>simp_all
structure Less (s:ByteArray) (d:Nat) (p q:PS):Prop where
 rem:bG s q+d≤bG s p∨d≠0∧bG s p=0∧bG s q=0
 deep:q.deep=p.deep
 at_:p.at_≤s.size→q.at_≤s.size
 up:p.at_≤q.at_
theorem Less.refl (s:ByteArray) (p:PS):Less s 0 p p:=⟨.inl (zw _),rfl,id,zw _⟩
theorem Less.zero {s:ByteArray} {d:Nat} {p q:PS} (h:Less s d p q):Less s 0 p q:=⟨.inl (by rcases h.rem with h | ⟨_,h,k⟩<;>omega),h.deep,h.at_,h.up⟩
theorem Less.le {s:ByteArray} {d:Nat} {p q:PS} (h:Less s d p q):bG s q≤bG s p:=by rcases h.rem with h | ⟨_,h,k⟩<;>omega
theorem Less.trans {s:ByteArray} {p q r:PS} (h:Less s 0 p q) (k:Less s 0 q r):Less s 0 p r:=⟨.inl (by have:=h.le;have:=k.le;omega),k.deep.trans h.deep,fun x=>k.at_ (h.at_ x),zv h.up k.up⟩
theorem Less.one {s:ByteArray} {p q r:PS} (h:Less s 1 p q) (k:Less s 0 q r):Less s 1 p r:=⟨by have:=k.le;rcases h.rem with h | ⟨_,h,k⟩<;>omega,k.deep.trans h.deep,fun x=>k.at_ (h.at_ x),zv h.up k.up⟩
theorem Less.fail {s:ByteArray} {d:Nat} {p q:PS} {e:Int} (h:Less s d p q) (he:e≠0):Less s d p (bh q e):=
 ⟨by rw [ki he];rcases h.rem with h | ⟨_,h,k⟩<;>omega,by rw [kQ,h.deep],by rw [jh];exact h.at_,by rw [jh];exact h.up⟩
theorem Less.failed {s:ByteArray} {p:PS} {e:Int} (he:e≠0):Less s 1 p (bh p e):=
 ⟨by rw [ki he];omega,by rw [kQ],by rw [jh];exact id,by rw [jh];exact zw _⟩
theorem Less.stepped {s:ByteArray} {p:PS} (h:bP s p=false):Less s 1 p p.step:=by
 rw [eB] at h
 have h:bG s p≠0:=by simpa using h
 unfold bG at h
 refine ⟨.inl ?_,rfl,fun hx=>?_,by simp [PS.step]⟩
 ·unfold bG PS.step
  split at h
  ·rename_i he
   simp [he]
   omega
  ·exact absurd rfl h
 ·unfold PS.step
  split at h
  ·simp;omega
  ·exact absurd rfl h
theorem ll {s:ByteArray} {p:PS} {c:Nat} (h:isP s p c=true):bP s p=false:=by
 unfold isP at h
 rw [zC] at h
 simpa using h.1
theorem Less.byte {s:ByteArray} {p:PS} {c:Nat} (h:isP s p c=true):Less s 1 p p.step:=Less.stepped (ll h)
theorem cN (s:ByteArray) (p:PS):Less s 1 p (aH s p).2:=by
 unfold aH
 rcases Bool.eq_false_or_eq_true (bP s p) with h | h
 ·rw [if_pos h];exact Less.failed (by decide)
 ·rw [if_neg (by rw [h];simp)];exact Less.stepped h
theorem byte_lt (s:ByteArray) (k:Nat):ch s k<256:=by
 unfold ch
 rcases (bs s)[k]? with _ | b
 ·simp
 ·simp;exact b.toNat_lt
theorem qQ (s:ByteArray) (p:PS):(aH s p).1<256:=by
 unfold aH
 split
 ·simp
 ·exact byte_lt _ _
theorem ed (s:ByteArray) (p:PS):Less s 1 p (aQ s p).2:=by
 unfold aQ
 simp only
 split
 ·exact (cN s p).one (cN s _).zero
 ·exact cN s p
theorem pi (s:ByteArray) (p:PS):(aQ s p).1<256:=by
 unfold aQ
 simp only
 split<;>exact qQ _ _
theorem pM (s:ByteArray) (p:PS):Less s 1 p (eU s p).2:=by
 unfold eU
 simp only
 split
 ·rename_i h
  rw [zC] at h
  exact ((ed s p).one (Less.byte h.1).zero).one (ed s _).zero
 ·exact ed s p
theorem fJ (s:ByteArray):∀n p i,Less s 0 p (bk s n p i).2
 | 0,p,i=>Less.refl s p
 | n+1,p,i=>by
   unfold bk
   split
   ·simp only
    refine Less.trans ?_ (fJ s n _ _)
    split
    ·exact ((pM s p).fail (by decide)).zero
    ·exact (pM s p).zero
   ·exact Less.refl s p
theorem sH (s:ByteArray) (p:PS):Less s 0 p (dV s p).2:=by
 unfold dV
 simp only
 have h1:Less s 0 p (if isP s p 94=true then p.step else p):=by
  split
  ·rename_i h;exact (Less.byte h).zero
  ·exact Less.refl s p
 have h2:∀q:PS,Less s 0 p q→Less s 0 p (if isP s q 93=true then bh q 3 else q):=by
  intro q hq
  split
  ·exact hq.fail (by decide)
  ·exact hq
 exact (((h2 _ h1).trans (fJ s _ _ _)).trans (cN s _).zero)
structure Made (s:ByteArray) (d:Nat) (p:PS) (r:List Ins × PS):Prop where
 less:Less s 0 p r.2
 one:bG s p≠0→bG s r.2+d≤bG s p
 len:r.1.length+2*bG s r.2≤2*bG s p
theorem ah (l:List Ins) (k:Int):(aK l k).length=l.length:=by simp [aK]
theorem Less.lt {s:ByteArray} {p q:PS} (h:Less s 1 p q) (hp:bG s p≠0):bG s q+1≤bG s p:=by rcases h.rem with h | ⟨_,h,k⟩<;>omega
theorem fg (s:ByteArray):∀n,(∀p,Made s 0 p (qS s n p))∧(∀p out,Less s 0 p (jv s n p out).2∧(jv s n p out).1.length+2*bG s (jv s n p out).2≤out.length+2*bG s p)∧(∀p,bG s p≠0→Made s (if n≤1 then 0 else 1) p (eQ s n p))∧(∀p,bG s p≠0→Made s (if n=0 then 0 else 1) p (fI s n p)):=by
 intro n
 induction n with
 | zero=>
   refine ⟨fun p=>⟨Less.refl s p,fun _=>by simp [qS],by simp [qS]⟩,fun p out=>⟨Less.refl s p,by simp [jv]⟩,fun p _=>⟨Less.refl s p,fun _=>by simp [eQ],by simp [eQ]⟩,fun p _=>⟨Less.refl s p,fun _=>by simp [fI],by simp [fI]⟩⟩
 | succ n ih=>
   obtain ⟨ihp,ihr,ihc,iha⟩:=ih
   refine ⟨fun p=>?_,fun p out=>?_,fun p hp=>?_,fun p hp=>?_⟩
   ·unfold qS
    simp only
    obtain ⟨h1,h2⟩:=ihr p []
    split
    ·rename_i hb
     have hs:=Less.byte hb
     have hne:bG s (jv s n p []).2≠0:=by
      have:=ll hb
      rw [eB] at this
      simpa using this
     have h3:=ihp (jv s n p []).2.step
     have h4:=hs.lt hne
     have h5:=h3.len
     have h6:=h3.less.le
     have h7:=h1.le
     refine ⟨(h1.trans hs.zero).trans h3.less,fun _=>by simp only;omega,?_⟩
     simp only [hJ,zA,ah,zJ,List.length_nil] at h2 ⊢
     omega
    ·refine ⟨h1,fun _=>h1.le,?_⟩
     simpa using h2
   ·unfold jv
    split
    ·rename_i hc
     have hne:bG s p≠0:=by
      rw [zC] at hc
      have:=hc.1
      rw [eB] at this
      simpa using this
     have h1:=ihc p hne
     have h2:=ihr (eQ s n p).2 (out++aK (eQ s n p).1 out.length)
     refine ⟨h1.less.trans h2.1,?_⟩
     have h3:=h2.2
     rw [zA,ah] at h3
     have h4:=h1.len
     simp only
     omega
    ·exact ⟨Less.refl s p,by simp⟩
   ·unfold eQ
    simp only
    have h1:=iha p hp
    have hd:(if n+1≤1 then 0 else 1)=(if n=0 then 0 else 1):=by by_cases h:n=0<;>simp [h]
    rw [hd]
    generalize (if n=0 then 0 else 1)=dd at *
    have hb:∀c,isP s (fI s n p).2 c=true→Less s 1 (fI s n p).2 (fI s n p).2.step∧bG s (fI s n p).2.step+1≤bG s (fI s n p).2:=by
     intro c hc
     refine ⟨Less.byte hc,(Less.byte hc).lt ?_⟩
     have:=ll hc
     rw [eB] at this
     simpa using this
    have hl:=h1.len
    have ho:=h1.one hp
    split
    ·rename_i hc
     obtain ⟨h2,h3⟩:=hb _ hc
     exact ⟨h1.less.trans h2.zero,fun _=>by simp only;omega,by simp [ah];omega⟩
    ·split
     ·rename_i hc
      obtain ⟨h2,h3⟩:=hb _ hc
      exact ⟨h1.less.trans h2.zero,fun _=>by simp only;omega,by simp [ah];omega⟩
     ·split
      ·rename_i hc
       obtain ⟨h2,h3⟩:=hb _ hc
       exact ⟨h1.less.trans h2.zero,fun _=>by simp only;omega,by simp [ah];omega⟩
      ·exact h1
   ·rw [if_neg (by omega)]
    unfold fI
    simp only
    have h1:=cN s p
    have h2:=h1.lt hp
    have leaf:∀(i:Ins) (q:PS),Less s 0 (aH s p).2 q→Made s 1 p ([i],q):=by
     intro i q hq
     have:=hq.le
     exact ⟨h1.zero.trans hq,fun _=>by simp only;omega,by simp;omega⟩
    split
    ·rename_i hc
     split
     ·have h3:=ki (s:=s) (p:=(aH s p).2) (e:=4) (by decide)
      exact ⟨(h1.fail (by decide)).zero,fun _=>by simp only;omega,by simp [h3]⟩
     ·have h3:=ihp ⟨(aH s p).2.at_,(aH s p).2.deep+1,(aH s p).2.e⟩
      generalize hq:qS s n ⟨(aH s p).2.at_,(aH s p).2.deep+1,(aH s p).2.e⟩=q at *
      have h4:=cN s q.2
      generalize hz:aH s q.2=z at *
      have hr:bG s ⟨(aH s p).2.at_,(aH s p).2.deep+1,(aH s p).2.e⟩=bG s (aH s p).2:=rfl
      have h5:=h3.less.le
      have h6:=h3.len
      have h7:=h4.le
      have hdp:q.2.deep=(aH s p).2.deep+1:=h3.less.deep
      have hdz:z.2.deep=q.2.deep:=h4.deep
      have hkey:∀f:PS,Less s 0 z.2 f→Made s 1 p (q.1,⟨f.at_,f.deep-1,f.e⟩):=by
       intro f hf
       have hrf:bG s ⟨f.at_,f.deep-1,f.e⟩=bG s f:=rfl
       have h8:=hf.le
       refine ⟨⟨.inl (by simp only;rw [hrf];omega),?_,?_,?_⟩,fun _=>by simp only;rw [hrf];omega,by simp only;rw [hrf];omega⟩
       ·have:=hf.deep;have:=h1.deep;simp only;omega
       ·exact fun hx=>hf.at_ (h4.at_ (h3.less.at_ (h1.at_ hx)))
       ·exact zv h1.up (zv h3.less.up (zv h4.up hf.up))
      refine hkey _ ?_
      split
      ·exact (Less.refl s _).fail (by decide)
      ·exact Less.refl s _
    ·split
     ·exact leaf _ _ (sH s _)
     ·split
      ·exact leaf _ _ (Less.refl s _)
      ·split
       ·exact leaf _ _ (Less.refl s _)
       ·split
        ·exact leaf _ _ (Less.refl s _)
        ·split
         ·exact leaf _ _ (cN s _).zero
         ·split
          ·exact leaf _ _ ((Less.refl s _).fail (by decide))
          ·exact leaf _ _ (Less.refl s _)
theorem iO (s:ByteArray) (n:Nat) (p:PS):Made s 0 p (qS s n p):=(fg s n).1 p
theorem yi (s:ByteArray) (n:Nat) (p:PS) (out:List Ins):Less s 0 p (jv s n p out).2∧(jv s n p out).1.length+2*bG s (jv s n p out).2≤out.length+2*bG s p:=(fg s n).2.1 p out
theorem tn (s:ByteArray) (n:Nat) (p:PS) (hp:bG s p≠0) (hn:2≤n):Made s 1 p (eQ s n p):=by
 have:=(fg s n).2.2.1 p hp
 rwa [if_neg (by omega)] at this
theorem ui (s:ByteArray) (n:Nat) (p:PS) (hp:bG s p≠0) (hn:1≤n):Made s 1 p (fI s n p):=by
 have:=(fg s n).2.2.2 p hp
 rwa [if_neg (by omega)] at this
section
variable {α:Type} {R:Reader α} {e:TypeId} {w:World} {base B:Nat} {v:Value} {xs:List α} {A:Option Addr} {c:Nat}
theorem rt (b off j:Nat):(⟨b,off,none⟩:Addr).add j=⟨b,off+j,none⟩:=by
 unfold Addr.add
 split
 ·rename_i h;subst h;rfl
 ·rfl
theorem am.src (h:am R e w base B (.slice A xs.length c) xs):fu R w B A xs:=by
 obtain ⟨cells,h,hf⟩:=h
 rcases h.2 with ⟨h1,h2⟩ | ⟨g,cap,cur,hv,hg,hh,k1,k2,k3,k4⟩
 ·have:xs=[]:=List.eq_nil_of_length_eq_zero h2
  subst this
  refine ⟨[],bp.nil,fun _=>rfl,fun a _ j u hu=>by simp at hu⟩
 ·simp only [zG] at hv
  obtain ⟨rfl,_,rfl⟩:=hv
  refine ⟨cells,hf,fun e=>(by cases e),fun a ha j u hu=>?_⟩
  simp only [zE] at ha
  subst ha
  rw [←k4,List.getElem?_take] at hu
  split at hu
  ·rw [rt]
   show w.cell? ⟨g,0+j,none⟩=_
   rw [cell_of_row w g _ cur e (0,0) hh,Nat.zero_add]
   simpa using hu
  ·cases hu
theorem bp.take {news:List Value} (h:bp R w B xs news) (k:Nat):bp R w B (xs.take k) (news.take (k*R.k)):=by
 refine ⟨?_,fun i hi=>?_⟩
 ·rw [zK,zK,h.1]
  rcases Nat.le_total k xs.length with hk | hk
  ·rw [Nat.min_eq_left hk,Nat.min_eq_left (Nat.mul_le_mul_right _ hk)]
  ·rw [Nat.min_eq_right hk,Nat.min_eq_right (Nat.mul_le_mul_right _ hk)]
 ·rw [zK] at hi
  have hik:i<k:=by omega
  have h1:(i+1)*R.k≤k*R.k:=Nat.mul_le_mul_right _ hik
  rw [Nat.add_mul,Nat.one_mul] at h1
  have:=h.2 i (by omega)
  rw [List.getElem_take,List.drop_take,List.take_take,Nat.min_eq_left (by omega)]
  exact this
theorem bp.drop {news:List Value} (h:bp R w B xs news) (k:Nat):bp R w B (xs.drop k) (news.drop (k*R.k)):=by
 refine ⟨?_,fun i hi=>?_⟩
 ·rw [List.length_drop,List.length_drop,h.1,Nat.sub_mul]
 ·rw [List.length_drop] at hi
  have:=h.2 (k+i) (by omega)
  rw [List.getElem_drop,List.drop_drop]
  rw [show k*R.k+i*R.k=(k+i)*R.k by rw [Nat.add_mul]]
  exact this
theorem fu.take (h:fu R w B A xs) (k:Nat):fu R w B A (xs.take k):=by
 obtain ⟨cells,hf,h1,h2⟩:=h
 refine ⟨_,hf.take k,fun e=>(by rw [h1 e];simp),fun a ha j u hu=>?_⟩
 rw [List.getElem?_take] at hu
 split at hu
 ·exact h2 a ha j u hu
 ·cases hu
theorem fu.drop {b off:Nat} (h:fu R w B (some ⟨b,off,none⟩) xs) (k:Nat):fu R w B (some ⟨b,off+k*R.k,none⟩) (xs.drop k):=by
 obtain ⟨cells,hf,h1,h2⟩:=h
 refine ⟨_,hf.drop k,fun e=>(by cases e),fun a ha j u hu=>?_⟩
 rw [List.getElem?_drop] at hu
 simp only [zE] at ha
 subst ha
 have:=h2 _ rfl _ _ hu
 rw [rt] at this ⊢
 rw [Nat.add_assoc];exact this
theorem fu.none {A:Option Addr} {ys:List α} (h:ys=[]):fu R w B A ys:=by
 subst h;exact ⟨[],bp.nil,fun _=>rfl,fun a _ j u hu=>by simp at hu⟩
end
section
variable {α:Type} {c:α→α→Int} {t:α}
end
def jW (i:Ins):List Value:=[.int .i64 i.kind,.int .u64 i.a,.int .u64 i.b,.int .u64 i.c,.int .u64 i.d,.int .i64 i.x,.int .i64 i.y]
def ft:Reader Ins where
 k:=7
 rd:=fun _ _ i vs=>vs=jW i
 keep:=fun _ _ h=>h
 wide:=fun _ h=>h
 len:=fun h=>by subst h;rfl
theorem cQ:dJ ft:=fun {w B x vs} h u hu=>by
 obtain rfl:vs=jW x:=h
 simp only [jW,List.mem_cons,List.not_mem_nil,or_false] at hu
 rcases hu with rfl | rfl | rfl | rfl | rfl | rfl | rfl<;>rfl
theorem oT:(Tryz.prog.info? 266).map (fun i=>(i.zero,i.size,i.bytes))=some (some (.agg #[.int .i64 0,.int .u64 0,.int .u64 0,.int .u64 0,.int .u64 0,.int .i64 0,.int .i64 0]),7,56):=by kernel_rfl
def eM:List Ins→List Value
 | []=>[]
 | i::l=>jW i++eM l
theorem jL:∀l:List Ins,(eM l).length=l.length*7
 | []=>rfl
 | i::l=>by simp [eM,jL l,jW];omega
theorem kZ:∀(l:List Ins) (k:Nat) (i:Ins) (j:Nat),l[k]? = some i→j<7→(eM l)[k*7+j]? = (jW i)[j]?
 | [],k,i,j,h,_=>by simp at h
 | a::l,0,i,j,h,hj=>by
   simp only [zI,zE] at h
   subst h
   rw [eM,List.getElem?_append_left (by simp [jW];omega)]
   simp
 | a::l,k+1,i,j,h,hj=>by
   rw [eM,List.getElem?_append_right (by simp [jW];omega)]
   have e:(k+1)*7+j-(jW a).length=k*7+j:=by simp [jW];omega
   rw [e]
   exact kZ l k i j (by simpa using h) hj
theorem mG (w:World) (B:Nat):∀l:List Ins,bp ft w B l (eM l)
 | []=>bp.nil
 | i::l=>bp.append (xs:=[i]) (bp.one (R:=ft) rfl) (mG w B l)
theorem uU (l:List Ins) (k:Nat) (i:Ins) (hk:k<l.length) :
 (((((((eM l).set (k*7) (.int .i64 i.kind)).set (k*7+1) (.int .u64 i.a)).set (k*7+2) (.int .u64 i.b)).set (k*7+3) (.int .u64 i.c)).set (k*7+4) (.int .u64 i.d)).set (k*7+5) (.int .i64 i.x)).set (k*7+6) (.int .i64 i.y)=eM (l.set k i):=by
 induction l generalizing k with
 | nil=>simp at hk
 | cons a l ih=>
   cases k with
   | zero=>simp [eM,jW]
   | succ k=>
     have:=ih k (by simpa using hk)
     rw [List.set_cons_succ,eM,eM,←this]
     have e:∀(j:Nat) (v:Value) (m:List Value),(jW a++m).set ((k+1)*7+j) v=jW a++m.set (k*7+j) v:=by
      intro j v m
      rw [List.set_append_right _ _ (by simp [jW];omega)]
      congr 2
      simp [jW];omega
     have e0:=e 0
     simp only [Nat.add_zero] at e0
     rw [e0,e,e,e,e,e,e]
def gr:Ins:=⟨0,0,0,0,0,0,0⟩
theorem te (n:Nat):madeCells #[.int .i64 0,.int .u64 0,.int .u64 0,.int .u64 0,.int .u64 0,.int .i64 0,.int .i64 0] (n*7)=(eM (List.replicate n gr)).toArray:=by
 apply Array.ext'
 apply List.ext_getElem?
 intro q
 by_cases hq:q<n*7
 ·have h1:(eM (List.replicate n gr))[q / 7*7+q % 7]? = (jW gr)[q % 7]?:=kZ _ _ _ _ (by rw [List.getElem?_replicate,if_pos (by omega)]) (by omega)
  have e:q / 7*7+q % 7=q:=by omega
  rw [e] at h1
  rw [h1]
  have h2:q % 7=0∨q % 7=1∨q % 7=2∨q % 7=3∨q % 7=4∨q % 7=5∨q % 7=6:=by omega
  have h3:(madeCells #[.int .i64 0,.int .u64 0,.int .u64 0,.int .u64 0,.int .u64 0,.int .i64 0,.int .i64 0] (n*7)).toList[q]? = some ((#[.int .i64 0,.int .u64 0,.int .u64 0,.int .u64 0,.int .u64 0,.int .i64 0,.int .i64 0]:Array Value)[q % 7]!):=by
   have hs:q<(madeCells #[.int .i64 0,.int .u64 0,.int .u64 0,.int .u64 0,.int .u64 0,.int .i64 0,.int .i64 0] (n*7)).toList.length:=by rw [zF,size_madeCells];exact hq
   rw [zD hs]
   simp [madeCells]
  rw [h3]
  rcases h2 with h | h | h | h | h | h | h<;>(rw [h];rfl)
 ·rw [List.getElem?_eq_none (by rw [zF,size_madeCells];omega),List.getElem?_eq_none (by show (eM _).length≤q;rw [jL];simp;omega)]
def bS (w:World) (b:Nat) (vs:Array Value) (T:TypeId):Prop:=w.heap[b]? = some (.cells vs T (0,0))
section
variable {w w':World} {b c:Nat} {vs:Array Value} {T:TypeId}
theorem bS.blk (h:bS w b vs T):Blk w b vs:=⟨T,h⟩
theorem bS.keep {B:Nat} (h:bS w b vs T) (hb:Below B w w') (hB:b<B):bS w' b vs T:=(hb.block b hB).trans h
theorem bS.later (h:bS w b vs T) (hb:Below w.heap.size w w'):bS w' b vs T:=h.keep hb h.blk.lt
theorem bS.set_ (h:bS w b vs T) (i:Nat) (u:Value):bS (w.setCell ⟨b,i,none⟩ u) b (vs.setIfInBounds i u) T:=by
 unfold bS at h ⊢
 simp [World.setCell,Array.getElem?_modify,h]
theorem bS.far (h:bS w b vs T) (hne:b≠c) (i:Nat) (u:Value):bS (w.setCell ⟨c,i,none⟩ u) b vs T:=(Below.heap_setCell w ⟨c,i,none⟩ u b hne).trans h
theorem bS.drew (h:bS w b vs T):bS w.drew b vs T:=h
theorem bS.own {α:Type} {R:Reader α} {base B n:Nat} {xs:List α} {cells:List Value} (h:bS w b cells.toArray T) (hf:bp R w B xs cells) (hb:base≤b) (hn:xs.length=n) (hlen:n≤maxLen):am R T w base B (.slice (some ⟨b,0,none⟩) n n) xs:=by
 subst hn
 refine ⟨cells,⟨hf.1,.inr ⟨b,xs.length,cells.toArray,rfl,hb,h,zw _,hlen,?_,?_⟩⟩,hf⟩
 ·simp [hf.1]
 ·simp
  exact List.take_of_length_le (by rw [hf.1];exact zw _)
end
def ListE (w w':World) (l:List Ins) (e:Ending):Prop:=(∃A c,e=.returned (.slice A l.length c)∧am ft 266 w' w.heap.size 0 (.slice A l.length c) l)∧Below w.heap.size w w'
theorem xQ (n:Nat) (hn:n≤1000000) (w:World):(Instr.makeSlice 248 (.int .i64 (n:Int)) (.int .i64 (n:Int))).run Tryz.prog w=.ok (.slice (some ⟨w.heap.size,0,none⟩) n n) (w.alloc (.cells (eM (List.replicate n gr)).toArray 266)):=by
 obtain ⟨i0,hi0,hz0,hz1,hz2⟩:=info_parts oT
 have hr:=run_make (P:=Tryz.prog) w 248 266 i0 _ Tryz.underlying248 hi0 hz0 .i64 .i64 n n (by omega) (Int.le_refl _) (by rw [hz2];omega) (by omega)
 simp only [Int.toNat_natCast] at hr
 rw [hz1] at hr
 rw [hr,←te]
 rfl
theorem zl {w:World} {g k:Nat} {l:List Ins} {T:TypeId} (h:bS w g (eM l).toArray T) {i:Ins} {kd a b c d x y:Int} (hi:i=⟨kd,a,b,c,d,x,y⟩) (hk:k<l.length) :
 bS (((((((w.setCell ⟨g,k*7,none⟩ (.int .i64 kd)).setCell ⟨g,k*7+1,none⟩ (.int .u64 a)).setCell ⟨g,k*7+2,none⟩ (.int .u64 b)).setCell ⟨g,k*7+3,none⟩ (.int .u64 c)).setCell ⟨g,k*7+4,none⟩ (.int .u64 d)).setCell ⟨g,k*7+5,none⟩ (.int .i64 x)).setCell ⟨g,k*7+6,none⟩ (.int .i64 y)) g (eM (l.set k i)).toArray T:=by
 have e:=uU l k ⟨kd,a,b,c,d,x,y⟩ hk
 simp only at e
 subst hi
 have:=((((((h.set_ (k*7) (.int .i64 kd)).set_ (k*7+1) (.int .u64 a)).set_ (k*7+2) (.int .u64 b)).set_ (k*7+3) (.int .u64 c)).set_ (k*7+4) (.int .u64 d)).set_ (k*7+5) (.int .i64 x)).set_ (k*7+6) (.int .i64 y)
 simp only [List.setIfInBounds_toArray] at this
 rw [e] at this
 exact this
theorem uo {w w2:World} {B g:Nat} (h:Below B w w2) (hg:B≤g) {i0 i1 i2 i3 i4 i5 i6:Nat} (v0 v1 v2 v3 v4 v5 v6:Value) :
 Below B w (((((((w2.setCell ⟨g,i0,none⟩ v0).setCell ⟨g,i1,none⟩ v1).setCell ⟨g,i2,none⟩ v2).setCell ⟨g,i3,none⟩ v3).setCell ⟨g,i4,none⟩ v4).setCell ⟨g,i5,none⟩ v5).setCell ⟨g,i6,none⟩ v6):=
 ((((((h.setCell (p:=⟨g,i0,none⟩) hg v0).setCell (p:=⟨g,i1,none⟩) hg v1).setCell (p:=⟨g,i2,none⟩) hg v2).setCell (p:=⟨g,i3,none⟩) hg v3).setCell (p:=⟨g,i4,none⟩) hg v4).setCell (p:=⟨g,i5,none⟩) hg v5).setCell (p:=⟨g,i6,none⟩) hg v6
theorem tg {l:List Ins} {k:Nat} {i:Ins} {by_:Int} (h:l[k]? = some i):((aK (l.take k) by_++List.replicate (l.length-k) gr).set k (gT by_ i))=aK (l.take (k+1)) by_++List.replicate (l.length-(k+1)) gr:=by
 obtain ⟨hk,e⟩:=List.getElem?_eq_some_iff.1 h
 have hl:(aK (l.take k) by_).length=k:=by rw [ah,zK];omega
 obtain ⟨m,hm⟩:∃m,l.length-k=m+1:=⟨l.length-k-1,by omega⟩
 have hm2:l.length-(k+1)=m:=by omega
 rw [hm,hm2,List.set_append_right _ _ (by omega),hl,Nat.sub_self,List.replicate_succ,List.set_cons_zero,List.take_succ_eq_append_getElem hk,e]
 simp [aK]
theorem lx {B c:Nat} {l:List Ins} {A:Option Addr} {k0:Int} {w:World} (hl:RL ft w B l A) (hB:B≤w.heap.size) (hn:l.length≤1000000) :
 Calls Tryz.prog 235 #[.slice A l.length c,.int .i64 k0] w fun e w'=>ListE w w' (aK l k0) e:=by
 have HL:=zu hl
 have HN:=zu hn
 have hmk:=fun w=>xQ l.length hn w
 clear hl
 go_enter Tryz.func235,Tryz.ntmps235
 go_wp2_with fail
 generalize hW:World.alloc _ _=w1
 obtain ⟨hb,hz⟩:=al1 hW
 have bo:=zu (show bS w1 w.heap.size (eM (List.replicate l.length gr)).toArray 266 from hW▸heap_alloc_new w _)
 have HB1:=zu hb
 clear hW hz hb hmk
 go_loopw [13] (fun i wr=>∃k:Nat,k≤l.length∧i=.int .i64 k∧Hid (Below w.heap.size w wr)∧w.heap.size<wr.heap.size∧Hid (bS wr w.heap.size (eM (aK (l.take k) k0++List.replicate (l.length-k) gr)).toArray 266)) (fun i _=>l.length-(intOf i).toNat)
 case atStart=>exact ⟨0,zx _,rfl,HB1,bo.out.blk.lt,by simpa [aK] using bo⟩
 case round=>
  obtain ⟨k,hk,rfl,HBW,hsz,HI⟩:=hrel
  by_cases hlt:k<l.length
  ·have HLr:=zu (HL.out.keep HBW.out hB)
   have hBr:B≤wr.heap.size:=by omega
   obtain ⟨b_,off,rfl,hob⟩:=HLr.out.base (zy _ _) hBr (by omega)
   obtain ⟨x,vs,hx,hlen,hcell,hr⟩:=HLr.out.at_ (zy _ _) hBr hlt
   obtain rfl:vs=jW x:=hr
   have c0:wr.cell? ⟨b_,off+k*7,none⟩=some (.int .i64 x.kind):=hcell 0 _ rfl
   have c1:wr.cell? ⟨b_,off+k*7+1,none⟩=some (.int .u64 x.a):=hcell 1 _ rfl
   have c2:wr.cell? ⟨b_,off+k*7+2,none⟩=some (.int .u64 x.b):=hcell 2 _ rfl
   have c3:wr.cell? ⟨b_,off+k*7+3,none⟩=some (.int .u64 x.c):=hcell 3 _ rfl
   have c4:wr.cell? ⟨b_,off+k*7+4,none⟩=some (.int .u64 x.d):=hcell 4 _ rfl
   have c5:wr.cell? ⟨b_,off+k*7+5,none⟩=some (.int .i64 x.x):=hcell 5 _ rfl
   have c6:wr.cell? ⟨b_,off+k*7+6,none⟩=some (.int .i64 x.y):=hcell 6 _ rfl
   have HX:=zu hx
   have hG:=HI.out.blk.cell
   have fG:=HI.out.blk.free
   have hzk:(aK (l.take k) k0++List.replicate (l.length-k) gr)[k]? = some gr:=by
    have hl:(aK (l.take k) k0).length=k:=by rw [ah,zK];omega
    rw [List.getElem?_append_right (by omega),hl,Nat.sub_self,List.getElem?_replicate,if_pos (by omega)]
   have gz:∀j,j<7→wr.cell? ⟨w.heap.size,k*7+j,none⟩=(jW gr)[j]?:=fun j hj=>(hG (k*7+j)).trans ((List.getElem?_toArray).trans (kZ _ k gr j hzk hj))
   have g0:wr.cell? ⟨w.heap.size,k*7,none⟩=some (.int .i64 0):=gz 0 (by omega)
   have g1:wr.cell? ⟨w.heap.size,k*7+1,none⟩=some (.int .u64 0):=gz 1 (by omega)
   have g2:wr.cell? ⟨w.heap.size,k*7+2,none⟩=some (.int .u64 0):=gz 2 (by omega)
   have g3:wr.cell? ⟨w.heap.size,k*7+3,none⟩=some (.int .u64 0):=gz 3 (by omega)
   have g4:wr.cell? ⟨w.heap.size,k*7+4,none⟩=some (.int .u64 0):=gz 4 (by omega)
   have g5:wr.cell? ⟨w.heap.size,k*7+5,none⟩=some (.int .i64 0):=gz 5 (by omega)
   have g6:wr.cell? ⟨w.heap.size,k*7+6,none⟩=some (.int .i64 0):=gz 6 (by omega)
   have HS:Hid ((aK (l.take k) k0++List.replicate (l.length-k) gr).set k (gT k0 x)=aK (l.take (k+1)) k0++List.replicate (l.length-(k+1)) gr):=zu (tg HX.out)
   have HLN:Hid (k<(aK (l.take k) k0++List.replicate (l.length-k) gr).length):=zu (by rw [zA,ah,zK,List.length_replicate];omega)
   clear hG hzk gz
   generalize aK (l.take k) k0++List.replicate (l.length-k) gr=cur at *
   have hkind:x.kind=2∨x.kind≠2∧x.kind=3∨x.kind≠2∧x.kind≠3:=by omega
   rcases hkind with h2 | ⟨h2,h3⟩ | ⟨h2,h3⟩
   ·have HM:Hid (gT k0 x=⟨x.kind,x.a,x.b,x.c,x.d,wrap64 (x.x+k0),wrap64 (x.y+k0)⟩):=zu (by unfold gT;rw [if_pos h2])
    have hq2:(x.kind==2)=true:=by simpa using h2
    clear h2
    go_wp2_with fail
    go_roundw
    case rel=>
     have hp:=zl HI.out HM.out HLN.out
     rw [HS.out] at hp
     exact ⟨k+1,by omega,by go_num,zu ((uo HBW.out (zw _) _ _ _ _ _ _ _).alloc (by simp only [World.size_setCell];omega) _),by simp only [World.size_setCell,World.size_alloc];omega,zu (hp.later ((zy _ _).alloc (zw _) _))⟩
    case measure=>simp [intOf];omega
   ·have HM:Hid (gT k0 x=⟨x.kind,x.a,x.b,x.c,x.d,wrap64 (x.x+k0),x.y⟩):=zu (by unfold gT;rw [if_neg h2,if_pos h3])
    have hq2:(x.kind==2)=false:=by simpa using h2
    have hq3:(x.kind==3)=true:=by simpa using h3
    clear h2 h3
    go_wp2_with fail
    go_roundw
    case rel=>
     have hp:=zl HI.out HM.out HLN.out
     rw [HS.out] at hp
     exact ⟨k+1,by omega,by go_num,zu ((uo HBW.out (zw _) _ _ _ _ _ _ _).alloc (by simp only [World.size_setCell];omega) _),by simp only [World.size_setCell,World.size_alloc];omega,zu (hp.later ((zy _ _).alloc (zw _) _))⟩
    case measure=>simp [intOf];omega
   ·have HM:Hid (gT k0 x=x):=zu (by unfold gT;rw [if_neg h2,if_neg h3])
    have hq2:(x.kind==2)=false:=by simpa using h2
    have hq3:(x.kind==3)=false:=by simpa using h3
    clear h2 h3
    go_wp2_with fail
    go_roundw
    case rel=>
     have hp:=zl HI.out HM.out HLN.out
     rw [HS.out] at hp
     exact ⟨k+1,by omega,by go_num,zu ((uo HBW.out (zw _) _ _ _ _ _ _ _).alloc (by simp only [World.size_setCell];omega) _),by simp only [World.size_setCell,World.size_alloc];omega,zu (hp.later ((zy _ _).alloc (zw _) _))⟩
    case measure=>simp [intOf];omega
  ·have HE:Hid (aK (l.take k) k0++List.replicate (l.length-k) gr=aK l k0):=zu (by rw [List.take_of_length_le (by omega),show l.length-k=0 by omega];simp)
   rw [HE.out] at HI
   go_wp2_with fail
   go_ret
   have ho:=HI.out.own (R:=ft) (base:=w.heap.size) (B:=0) (mG wr 0 (aK l k0)) (zw _) (ah l k0) (by unfold maxLen;omega)
   refine ⟨⟨some ⟨w.heap.size,0,none⟩,l.length,?_,?_⟩,HBW.out⟩
   ·rw [ah];rfl
   ·rw [ah];exact ho
theorem am.form' {w:World} {base n:Nat} {v:Value} {xs:List Ins} (h:am ft 266 w base 0 v xs) (hn:xs.length=n):∃A c,v=.slice A n c:=by
 subst hn
 exact h.form
theorem am.rows {w:World} {base n c:Nat} {A:Option Addr} {xs:List Ins} (h:am ft 266 w base 0 (.slice A n c) xs) (hn:xs.length≤1000000):RL ft w w.heap.size xs A:=by
 obtain ⟨A3,c3,e3,r1,r2,r3⟩:=h.reads (zx _) (by show xs.length*(8*7)≤_;omega)
 simp only [zG] at e3
 obtain ⟨rfl,_,rfl⟩:=e3
 exact r3
theorem am.low {w:World} {base b0:Nat} {v:Value} {xs:List Ins} (h:am ft 266 w base 0 v xs) (hb:b0≤base):am ft 266 w b0 0 v xs:=by
 obtain ⟨cells,h,hf⟩:=h
 refine ⟨cells,⟨h.1,?_⟩,hf⟩
 rcases h.2 with h2 | ⟨g,cap,cur,hv,hg,r⟩
 ·exact .inl h2
 ·exact .inr ⟨g,cap,cur,hv,zv hb hg,r⟩
theorem am.srcn {w:World} {base n c:Nat} {A:Option Addr} {xs:List Ins} (h:am ft 266 w base 0 (.slice A n c) xs):fu ft w 0 A xs:=by
 obtain ⟨_,_,e⟩:=h.form
 simp only [zG] at e
 obtain ⟨rfl,rfl,rfl⟩:=e
 exact h.src
theorem fY {w W:World} {i:Ins} {base:Nat} {o:Obj} (h:w.alloc o=W) (ho:o=.cells (jW i).toArray 266) (hb:base≤w.heap.size):am ft 266 W base 0 (.slice (some ⟨w.heap.size,0,none⟩) 1 1) [i]:=by
 subst ho
 have hB:bS W w.heap.size (jW i).toArray 266:=h▸heap_alloc_new w _
 exact hB.own (R:=ft) (xs:=[i]) (bp.one rfl) hb rfl (by unfold maxLen;omega)
theorem sK {B c1 c2:Nat} {l1 l2:List Ins} {A1 A2:Option Addr} {w:World} (h1:RL ft w B l1 A1) (h2:RL ft w B l2 A2) (hB:B≤w.heap.size) (hn1:l1.length≤100000) (hn2:l2.length≤100000) :
 Calls Tryz.prog 231 #[.slice A1 l1.length c1,.slice A2 l2.length c2] w fun e w'=>ListE w w' (hJ l1 l2) e:=by
 obtain ⟨i0,hi0,hz0,hz1,hz2⟩:=info_parts oT
 have H1:=zu h1
 have H2:=zu h2
 clear h1 h2
 go_enter Tryz.func231,Tryz.ntmps231
 go_wp2_with fail
 generalize hW:World.alloc _ _=w1
 obtain ⟨hb,hz⟩:=al1 hW
 have HO:=zu (fY (i:=bE 1 (l1.length+2)) hW rfl (zw _))
 have HB1:=zu hb
 clear hW hz hb
 refine (lx (B:=B) (H1.out.keep HB1.out hB) (zv hB HB1.out.size) (by omega)).mono ?_
 rintro e w2 ⟨⟨A3,c3,rfl,ho⟩,hb⟩
 rw [ah]
 have HB2:=zu (aa HB1.out hb)
 have HO2:=zu (HO.out.later hb (zx _))
 have HS2:=zu ho.src
 clear ho hb
 go_upto_region 3 with ((
  at_builtin
  refine aq (R:=ft) (e:=266) (base:=w.heap.size) (B:=0) (xs:=[bE 1 (l1.length+2)]) (ys:=aK l1 1) rfl (.tmp 12) (.tmp 14) 248 rfl (bytes:=56) Tryz.underlying248 hi0 hz0 hz1 hz2 rfl (show 0<7 by omega) cQ rfl HO2.out rfl HS2.out (ah l1 1).symm (zx _) (by rw [ah];simp only [zJ,List.length_nil];omega) (by omega) (HB2.out.size) ?_
  intro v w3 hown hb
  obtain ⟨A4,c4,rfl⟩:=hown.form' (show _=l1.length+1 by simp [ah])
  have HOW:=zu hown
  have HBW:=zu hb
  clear hown hb))
 have HB3:=zu (HB2.out.trans HBW.out)
 have HJ4:=zu (And.intro (HOW.out.later (ar (w:=w3) (o:=.cells #[.int .i64 3,.int .u64 0,.int .u64 0,.int .u64 0,.int .u64 0,.int .i64 ((l1.length:Int)+2+l2.length),.int .i64 0] 266) rfl) (zx _)) (am.src (xs:=[iG (l1.length+2+l2.length)]) (fY (w:=w3) (i:=iG (l1.length+2+l2.length)) (base:=w.heap.size) (o:=.cells #[.int .i64 3,.int .u64 0,.int .u64 0,.int .u64 0,.int .u64 0,.int .i64 ((l1.length:Int)+2+l2.length),.int .i64 0] 266) rfl rfl HB3.out.size)))
 clear HOW HBW
 go_upto_region 4 with ((
  at_builtin
  refine aq (R:=ft) (e:=266) (base:=w.heap.size) (B:=0) (xs:=[bE 1 (l1.length+2)]++aK l1 1) (ys:=[iG (l1.length+2+l2.length)]) rfl (.tmp 16) (.tmp 23) 248 rfl (bytes:=56) Tryz.underlying248 hi0 hz0 hz1 hz2 rfl (show 0<7 by omega) cQ rfl HJ4.out.1 rfl HJ4.out.2 rfl (zx _) (by rw [zA,ah];simp only [zJ,List.length_nil];omega) (by omega) ((by rw [World.size_alloc];have:=HB3.out.size;omega)) ?_
  intro v w4 hown hb
  obtain ⟨A5,c5,rfl⟩:=hown.form' (show _=l1.length+2 by simp [ah])
  have HOW:=zu hown
  have HBW:=zu hb
  clear hown hb))
 have HB4:=zu ((HB3.out.alloc HB3.out.size (.cells #[.int .i64 3,.int .u64 0,.int .u64 0,.int .u64 0,.int .u64 0,.int .i64 ((l1.length:Int)+2+l2.length),.int .i64 0] 266)).trans HBW.out)
 have HO4:=zu HOW.out
 clear HOW HBW HJ4
 go_wp2_with fail
 refine (lx (B:=B) (H2.out.keep HB4.out hB) (zv hB HB4.out.size) (by omega)).mono ?_
 rintro e w5 ⟨⟨A6,c6,rfl,ho⟩,hb⟩
 rw [ah]
 have HB5:=zu (aa HB4.out hb)
 have HO5:=zu (HO4.out.later hb (zx _))
 have HS5:=zu ho.srcn
 clear ho hb
 go_wp2_with ((
  at_builtin
  refine aq (R:=ft) (e:=266) (base:=w.heap.size) (B:=0) (xs:=[bE 1 (l1.length+2)]++aK l1 1++[iG (l1.length+2+l2.length)]) (ys:=aK l2 (l1.length+2)) rfl (.tmp 25) (.tmp 29) 248 rfl (bytes:=56) Tryz.underlying248 hi0 hz0 hz1 hz2 rfl (show 0<7 by omega) cQ rfl HO5.out rfl HS5.out (ah l2 _).symm (zx _) (by simp only [zA,ah,zJ,List.length_nil];omega) (by omega) (HB5.out.size) ?_
  intro v w6 hown hb
  obtain ⟨A7,c7,rfl⟩:=hown.form' (show _=(hJ l1 l2).length from rfl)
  have HOW:=zu hown
  have HBW:=zu hb
  clear hown hb))
 go_ret
 exact ⟨⟨A7,c7,rfl,HOW.out⟩,HB5.out.trans HBW.out⟩
end Go.Proofs.YtjpndglegpcdnaaGreat
