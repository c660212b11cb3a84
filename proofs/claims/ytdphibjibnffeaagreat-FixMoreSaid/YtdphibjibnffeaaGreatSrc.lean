/- Parts of a slice of one's own as what is appended; the insertion, place by place. -/
import Derived.Test.YtdphibjibnffeaaGreatBSearch
import Derived.Test.YtdphibjibnffeaaGreatHeap1
import Derived.Test.YtdphibjibnffeaaGreatSort
import Derived.BigQuiet
import Derived.Test.YtdphibjibnffeaaGreatFc1
set_option linter.unusedVariables false
set_option linter.unusedSimpArgs false
set_option maxRecDepth 100000
set_option maxHeartbeats 8000000
namespace Go.Proofs.YtdphibjibnffeaaGreat
open Go.ChangeShapes Go.WideShapes Go.ChangeAt Go.RowKit
structure Ins where
 kind:Int
 a:Int
 b:Int
 c:Int
 d:Int
 x:Int
 y:Int
def Ins.word (i:Ins) (j:Nat):Int:=if j=0 then i.a else if j=1 then i.b else if j=2 then i.c else i.d
def Ins.put (i:Ins) (j:Nat) (v:Int):Ins:=if j=0 then { i with a:=v } else if j=1 then { i with b:=v } else if j=2 then { i with c:=v } else { i with d:=v }
def mb (i:Ins) (c:Nat):Ins:=i.put (c / 64) (bits .or .u64 (i.word (c / 64)) (IntKind.u64.wrap (1*2 ^ (c % 64))))
def ci:Ins:=⟨1,0,0,0,0,0,0⟩
def ns:Int:=18446744073709551615
def anyI:Ins:=⟨1,ns,ns,ns,ns,0,0⟩
def hJ (k:Int) (i:Ins):Ins:=if i.kind=2 then { i with x:=wrap64 (i.x+k),y:=wrap64 (i.y+k) } else if i.kind=3 then { i with x:=wrap64 (i.x+k) } else i
def bC (x y:Int):Ins:=⟨2,0,0,0,0,x,y⟩
def iK (x:Int):Ins:=⟨3,0,0,0,0,x,0⟩
def qD:Ins:=⟨6,0,0,0,0,0,0⟩
def aK (l:List Ins) (k:Int):List Ins:=l.map (hJ k)
def ik (a b:List Ins):List Ins:=[bC 1 (a.length+2)]++aK a 1++[iK (a.length+2+b.length)]++aK b (a.length+2)
structure PS where
 at_:Nat
 deep:Nat
 e:Int
def ch (s:ByteArray) (k:Nat):Nat:=((bs s)[k]?.map UInt8.toNat).getD 0
def bM (s:ByteArray) (p:PS):Bool:=decide (p.e≠0)||decide (s.size≤p.at_)
def isP (s:ByteArray) (p:PS) (c:Nat):Bool:=!bM s p&&decide (ch s p.at_=c)
def bh (p:PS) (e:Int):PS:=if p.e=0 then { p with e:=e } else p
def PS.step (p:PS):PS:={ p with at_:=p.at_+1 }
def aG (s:ByteArray) (p:PS):Nat × PS:=if bM s p then (0,bh p 3) else (ch s p.at_,p.step)
def aR (s:ByteArray) (p:PS):Nat × PS:=
 let r:=aG s p
 if r.1=92 then aG s r.2 else r
def ed (i:Ins) (f t:Nat):Ins:=(List.range (t+1-f)).foldl (fun i k=>mb i (f+k)) i
def eT (s:ByteArray) (p:PS):(Nat × Nat) × PS:=
 let r:=aR s p
 if isP s r.2 45&&(decide (r.2.at_+1<s.size)&&decide (ch s (r.2.at_+1)≠93)) then
  let q:=aR s r.2.step
  ((r.1,q.1),q.2)
 else ((r.1,r.1),r.2)
def bl (s:ByteArray):Nat→PS→Ins→Ins × PS
 | 0,p,i=>(i,p)
 | n+1,p,i=>
   if !bM s p&&!isP s p 93 then
    let r:=eT s p
    bl s n (if r.1.2<r.1.1 then bh r.2 3 else r.2) (ed i r.1.1 r.1.2)
   else (i,p)
def oJ (v:Int):Int:=bits .xor .u64 (if IntKind.u64.signed=true then -1 else IntKind.u64.max) v
def rH (i:Ins):Ins:=⟨i.kind,oJ i.a,oJ i.b,oJ i.c,oJ i.d,i.x,i.y⟩
def dV (s:ByteArray) (p:PS):Ins × PS:=
 let not_:=isP s p 94
 let p1:=if not_ then p.step else p
 let p2:=if isP s p1 93 then bh p1 3 else p1
 let r:=bl s (s.size+1-p2.at_) p2 ci
 let q:=aG s r.2
 (if not_ then rH r.1 else r.1,q.2)
def kM (c:Nat):Bool:=decide (c=41)||decide (c=42)||decide (c=43)||decide (c=63)||decide (c=124)
mutual
def rc (s:ByteArray):Nat→PS→List Ins × PS
 | 0,p=>([],p)
 | n+1,p=>
   let r:=jD s n p []
   if isP s r.2 124 then
    let q:=rc s n r.2.step
    (ik r.1 q.1,q.2)
   else r
def jD (s:ByteArray):Nat→PS→List Ins→List Ins × PS
 | 0,p,out=>(out,p)
 | n+1,p,out=>
   if !bM s p&&(!isP s p 124&&!isP s p 41) then
    let r:=eP s n p
    jD s n r.2 (out++aK r.1 out.length)
   else (out,p)
def eP (s:ByteArray):Nat→PS→List Ins × PS
 | 0,p=>([],p)
 | n+1,p=>
   let r:=fI s n p
   if isP s r.2 42 then ([bC 1 (r.1.length+2)]++aK r.1 1++[iK 0],r.2.step)
   else if isP s r.2 43 then (r.1++[bC 0 (r.1.length+1)],r.2.step)
   else if isP s r.2 63 then ([bC 1 (r.1.length+1)]++aK r.1 1,r.2.step)
   else r
def fI (s:ByteArray):Nat→PS→List Ins × PS
 | 0,p=>([],p)
 | n+1,p=>
   let r:=aG s p
   if r.1=40∧r.2.e=0 then
    if r.2.deep=20 then ([],bh r.2 4)
    else
     let q:=rc s n ⟨r.2.at_,r.2.deep+1,r.2.e⟩
     let z:=aG s q.2
     let f:=if z.1≠41 then bh z.2 3 else z.2
     (q.1,⟨f.at_,f.deep-1,f.e⟩)
   else if r.1=91 then
    let q:=dV s r.2
    ([q.1],q.2)
   else if r.1=46 then ([anyI],r.2)
   else if r.1=94 then ([⟨4,0,0,0,0,0,0⟩],r.2)
   else if r.1=36 then ([⟨5,0,0,0,0,0,0⟩],r.2)
   else if r.1=92 then
    let q:=aG s r.2
    ([mb ci q.1],q.2)
   else if kM r.1 then ([ci],bh r.2 3)
   else ([mb ci r.1],r.2)
end
def fw (rem:Nat):Nat:=4*rem+4
def ze (s:ByteArray) (p:PS):PS:=if bM s p then p else bh p 3
def dW (s:ByteArray):List Ins × Int:=
 if 256<s.size then ([],4)
 else
  let r:=rc s (fw s.size) ⟨0,0,0⟩
  if (ze s r.2).e=0 then (r.1++[qD],0) else ([],(ze s r.2).e)
def psA (s:ByteArray) (p:PS):Array Value:=#[.string s,.int .i64 p.at_,.int .i64 p.deep,.int .i64 p.e]
theorem jH {n:Int} (h0:-9223372036854775808≤n) (h1:n<9223372036854775808):wrap64 n=n:=by rw [lZ];split<;>omega
theorem gG {s:ByteArray} {k:Nat} (h:k<s.size):ch s k=s[k].toNat:=by
 have hl:k<(bs s).length:=by rw [iA];exact h
 unfold ch
 rw [List.getElem?_eq_getElem hl]
 rfl
theorem uK (s:ByteArray) (k:Nat):ch s k<256:=by
 unfold ch
 rcases (bs s)[k]? with _ | b
 ·simp
 ·simp;exact b.toNat_lt
theorem dm {w:World} {P:Nat} {s:ByteArray} {p:PS} (hb:Blk w P (psA s p)) (hs:s.size≤1000000) (ha:p.at_≤1000000) :
 Calls Tryz.prog 322 #[.pointer (some ⟨P,0,none⟩)] w fun e w'=>e=.returned (.bool (bM s p))∧Below w.heap.size w w':=by
 obtain ⟨at_,deep,e⟩:=p
 have hb:Blk w P #[.string s,.int .i64 at_,.int .i64 deep,.int .i64 e]:=hb
 have q_p:=hb.regrown
 simp only at ha
 rcases Bool.eq_false_or_eq_true (e !=0) with he | he
 all_goals
  go_enter Tryz.func322,Tryz.ntmps322
  go_wp2_with fail
  refine wp_region_quiet_below (by kernel_rfl) (by kernel_rfl) ?_
  repeat (go_big_quiet_step (fail))
  refine wpQuiet_nil ?_
  intro w3 hw3
  have hb1:Below w.heap.size w w3:=by obtain ⟨p,rfl⟩:=hw3;exact below_regrown _ _ _
  clear hw3 q_p
  go_wp2_with fail
  go_ret
  refine ⟨ae ?_,hb1⟩
  simp only [bne_iff_ne,ne_eq,bne_eq_false_iff_eq] at he
  simp [bM,he]
theorem cF {w:World} {P:Nat} {s:ByteArray} {p:PS} {c:Nat} (hb:Blk w P (psA s p)) (hs:s.size≤1000000) (ha:p.at_≤1000000) :
 Calls Tryz.prog 327 #[.pointer (some ⟨P,0,none⟩),.int .u8 c] w fun e w'=>e=.returned (.bool (isP s p c))∧Below w.heap.size w w':=by
 have hb0:=hb
 have HB0:=zE hb
 rcases Bool.eq_false_or_eq_true (bM s p) with he | he
 ·have HE:=zE he
  clear he
  go_enter Tryz.func327,Tryz.ntmps327
  go_wp2_with fail
  refine wp_region_quiet_below (by kernel_rfl) (by kernel_rfl) ?_
  repeat (go_big_quiet_step ((go_at_call 322;exact Calls.regrown_of (cY HE.out (dm (HB0.out.later (below_regrown _ _ _)) hs ha)))))
  refine wpQuiet_nil ?_
  intro w3 hw3
  have hb1:Below w.heap.size w w3:=by obtain ⟨p,rfl⟩:=hw3;exact below_regrown _ _ _
  clear hw3
  go_wp2_with fail
  go_ret
  exact ⟨ae (by unfold isP;rw [HE.out];rfl),hb1⟩
 ·have HE:=zE he
  have hlt:p.at_<s.size:=by
   unfold bM at he
   simp only [Bool.or_eq_false_iff,decide_eq_false_iff_not] at he
   omega
  have HX:Hid (ch s p.at_=s[p.at_].toNat):=zE (gG hlt)
  obtain ⟨at_,deep,e⟩:=p
  have hb:Blk w P #[.string s,.int .i64 at_,.int .i64 deep,.int .i64 e]:=hb
  have q_p:=hb.regrown
  simp only at ha hlt HX
  clear he hb0
  go_enter Tryz.func327,Tryz.ntmps327
  go_wp2_with fail
  refine wp_region_quiet_below (by kernel_rfl) (by kernel_rfl) ?_
  repeat (go_big_quiet_step ((go_at_call 322;exact Calls.regrown_of (cY HE.out (dm (HB0.out.later (below_regrown _ _ _)) hs ha)))))
  refine wpQuiet_nil ?_
  intro w3 hw3
  have hb1:Below w.heap.size w w3:=by obtain ⟨p,rfl⟩:=hw3;exact below_regrown _ _ _
  clear hw3 q_p
  go_wp2_with fail
  go_ret
  refine ⟨ae ?_,hb1⟩
  unfold isP
  rw [HE.out]
  simp only [Bool.not_false,Bool.true_and]
  rw [HX.out,Bool.eq_iff_iff]
  simp
  try omega
theorem dY {w:World} {P:Nat} {s:ByteArray} {p:PS} {n:Int} (hb:Blk w P (psA s p)) :
 Calls Tryz.prog 323 #[.pointer (some ⟨P,0,none⟩),.int .i64 n] w fun e w'=>e=.returned (.tuple #[])∧Exc P w w'∧Blk w' P (psA s (bh p n)):=by
 obtain ⟨at_,deep,e⟩:=p
 have hb:Blk w P #[.string s,.int .i64 at_,.int .i64 deep,.int .i64 e]:=hb
 have k_p:=hb.cell
 have f_p:=hb.free
 have HB:=zE hb
 clear hb
 by_cases he:e=0
 ·subst he
  go_enter Tryz.func323,Tryz.ntmps323
  go_wp2_with fail
  go_end0
  exact ⟨rfl,(Exc.refl P w).set 3 _,HB.out.set_ 3 _⟩
 ·have HE:=zE he
  go_enter Tryz.func323,Tryz.ntmps323
  go_wp2_with fail
  go_end0
  refine ⟨rfl,Exc.refl P w,?_⟩
  unfold bh
  rw [if_neg HE.out]
  exact HB.out
theorem next_le {s:ByteArray} {p:PS}:(aG s p).2.at_≤p.at_+1:=by
 unfold aG bh PS.step
 split<;>(try split)<;>simp
theorem qY {s:ByteArray} {p:PS} (h:bM s p=false):p.e=0∧p.at_<s.size:=by
 unfold bM at h
 simp only [Bool.or_eq_false_iff,decide_eq_false_iff_not,ne_eq,Classical.not_not] at h
 omega
theorem fj {w:World} {P:Nat} {s:ByteArray} {p:PS} (hb:Blk w P (psA s p)) (hs:s.size≤1000000) (ha:p.at_≤1000000) :
 Calls Tryz.prog 332 #[.pointer (some ⟨P,0,none⟩)] w fun e w'=>e=.returned (.int .u8 (aG s p).1)∧Exc P w w'∧Blk w' P (psA s (aG s p).2):=by
 have HB:=zE hb
 have hlt:=hb.lt
 clear hb
 rcases Bool.eq_false_or_eq_true (bM s p) with he | he
 ·have HN:Hid (aG s p=(0,bh p 3)):=zE (by unfold aG;rw [if_pos he])
  have HE:=zE he
  clear he
  go_enter Tryz.func332,Tryz.ntmps332
  go_wp2_with fail
  refine (dm HB.out hs ha).mono ?_
  rintro x w1 ⟨rfl,hb1⟩
  rw [HE.out]
  have HB1:=zE (HB.out.later hb1)
  have HX1:=zE (Exc.of (Nat.le_of_lt hlt) hb1)
  clear hb1
  go_wp2_with fail
  refine (dY HB1.out).mono ?_
  rintro x w2 ⟨rfl,hx,hb2⟩
  have HB2:=zE hb2
  have HX2:=zE (HX1.out.trans hx)
  clear hx hb2
  go_wp2_with fail
  go_ret
  rw [HN.out]
  exact ⟨rfl,HX2.out,HB2.out⟩
 ·have HN:Hid (aG s p=(ch s p.at_,p.step)):=zE (by unfold aG;rw [if_neg (by rw [he];simp)])
  have HE:=zE he
  obtain ⟨h0,h1⟩:=qY he
  have HG:Hid (ch s p.at_=s[p.at_].toNat):=zE (gG h1)
  clear he
  go_enter Tryz.func332,Tryz.ntmps332
  go_wp2_with fail
  refine (dm HB.out hs ha).mono ?_
  rintro x w1 ⟨rfl,hb1⟩
  rw [HE.out]
  have hbb:Blk w1 P (psA s p):=HB.out.later hb1
  have HX1:=zE (Exc.of (Nat.le_of_lt hlt) hb1)
  obtain ⟨at_,deep,e⟩:=p
  have hbb:Blk w1 P #[.string s,.int .i64 at_,.int .i64 deep,.int .i64 e]:=hbb
  simp only at ha h0 h1 HG HN
  subst h0
  have hw1:wrap64 ((at_:Int)+1)=(at_:Int)+1:=jH (by omega) (by omega)
  have hw2:wrap64 ((at_:Int)+1-1)=(at_:Int):=(congrArg wrap64 (by omega)).trans (jH (n:=(at_:Int)) (by omega) (by omega))
  have k_p:=hbb.cell
  have f_p:=hbb.free
  have HBB:=zE (show Blk (w1.setCell ⟨P,1,none⟩ (.int .i64 ((at_:Int)+1))) P #[.string s,.int .i64 ((at_:Int)+1),.int .i64 deep,.int .i64 0] from hbb.set_ 1 _)
  have HX2:=zE (HX1.out.set 1 (.int .i64 ((at_:Int)+1)))
  clear hb1 hbb
  go_wp2_with fail
  generalize w1.setCell _ _=w2 at *
  have q_p:=HBB.out.regrown
  refine wp_region_quiet_below (by kernel_rfl) (by kernel_rfl) ?_
  repeat (go_big_quiet_step (fail))
  refine wpQuiet_nil ?_
  intro w3 hw3
  have hb3:Below w2.heap.size w2 w3:=by obtain ⟨p,rfl⟩:=hw3;exact below_regrown _ _ _
  clear hw3 q_p
  have HX3:=zE (HX2.out.then (Nat.le_of_lt hlt) hb3)
  have HB3:=zE (HBB.out.later hb3)
  clear hb3 k_p f_p
  go_wp2_with fail
  go_ret
  rw [HN.out]
  refine ⟨?_,HX3.out,?_⟩
  ·rw [HG.out];rfl
  ·have:=HB3.out
   unfold psA PS.step
   simpa using this
theorem mQ {w:World} {P:Nat} {s:ByteArray} {p:PS} (hb:Blk w P (psA s p)) (hs:s.size≤1000000) (ha:p.at_<1000000) :
 Calls Tryz.prog 337 #[.pointer (some ⟨P,0,none⟩)] w fun e w'=>e=.returned (.int .u8 (aR s p).1)∧Exc P w w'∧Blk w' P (psA s (aR s p).2):=by
 have HB:=zE hb
 clear hb
 go_enter Tryz.func337,Tryz.ntmps337
 go_wp2_with fail
 refine (fj HB.out hs (by omega)).mono ?_
 rintro x w1 ⟨rfl,hx,hb1⟩
 have HB1:=zE hb1
 have HX1:=zE hx
 have hat:=next_le (s:=s) (p:=p)
 clear hx hb1
 by_cases h92:(aG s p).1=92
 ·have HM:Hid (aR s p=aG s (aG s p).2):=zE (by unfold aR;simp only;rw [if_pos h92])
  rw [h92]
  clear h92
  go_wp2_with fail
  refine (fj HB1.out hs (by omega)).mono ?_
  rintro x w2 ⟨rfl,hx,hb2⟩
  have HB2:=zE hb2
  have HX2:=zE (HX1.out.trans hx)
  clear hx hb2
  go_wp2_with fail
  go_ret
  rw [HM.out]
  exact ⟨rfl,HX2.out,HB2.out⟩
 ·have HM:Hid (aR s p=aG s p):=zE (by unfold aR;simp only;rw [if_neg h92])
  have h92':¬((aG s p).1:Int)=92:=by omega
  clear h92
  go_wp2_with fail
  go_ret
  rw [HM.out]
  exact ⟨rfl,HX1.out,HB1.out⟩
def inA (i:Ins):Array Value:=#[.int .i64 i.kind,.int .u64 i.a,.int .u64 i.b,.int .u64 i.c,.int .u64 i.d,.int .i64 i.x,.int .i64 i.y]
theorem ju {w:World} {G:Nat} {i:Ins} {c:Nat} (hb:Blk w G (inA i)) (hc:c<256) :
 Calls Tryz.prog 335 #[.pointer (some ⟨G,0,none⟩),.int .u8 c] w fun e w'=>e=.returned (.tuple #[])∧Exc G w w'∧Blk w' G (inA (mb i c)):=by
 obtain ⟨kind,a,b,c0,d,x,y⟩:=i
 have hb:Blk w G #[.int .i64 kind,.int .u64 a,.int .u64 b,.int .u64 c0,.int .u64 d,.int .i64 x,.int .i64 y]:=hb
 have k_p:=hb.cell
 have f_p:=hb.free
 have hj:c / 64=0∨c / 64=1∨c / 64=2∨c / 64=3:=by omega
 have hr:(c:Int).tmod 64=((c % 64:Nat):Int):=rfl
 have hr2:((c % 64:Nat):Int)<64:=by omega
 have hr3:(0:Int)≤((c % 64:Nat):Int):=by omega
 rcases hj with hj | hj | hj | hj
 ·have hq:(c:Int).tdiv 64=((c / 64:Nat):Int):=rfl
  rw [hj] at hq
  go_enter Tryz.func335,Tryz.ntmps335
  go_wp2_with fail
  go_region
  go_wp2_with fail
  go_end0
  refine ⟨rfl,((Exc.refl G w).set _ _).drew,?_⟩
  have h9:=(hb.set_ 1 (.int .u64 (bits BinOp.or IntKind.u64 a (IntKind.u64.wrap (2 ^ (c % 64)))))).drew
  have e9:inA (mb ⟨kind,a,b,c0,d,x,y⟩ c)=(#[.int .i64 kind,.int .u64 a,.int .u64 b,.int .u64 c0,.int .u64 d,.int .i64 x,.int .i64 y]:Array Value).setIfInBounds 1 (.int .u64 (bits BinOp.or IntKind.u64 a (IntKind.u64.wrap (2 ^ (c % 64))))):=by
   unfold inA mb Ins.put Ins.word
   rw [hj]
   simp
  rw [e9]
  exact h9
 ·have hq:(c:Int).tdiv 64=((c / 64:Nat):Int):=rfl
  rw [hj] at hq
  go_enter Tryz.func335,Tryz.ntmps335
  go_wp2_with fail
  go_region
  go_wp2_with fail
  go_end0
  refine ⟨rfl,((Exc.refl G w).set _ _).drew,?_⟩
  have h9:=(hb.set_ 2 (.int .u64 (bits BinOp.or IntKind.u64 b (IntKind.u64.wrap (2 ^ (c % 64)))))).drew
  have e9:inA (mb ⟨kind,a,b,c0,d,x,y⟩ c)=(#[.int .i64 kind,.int .u64 a,.int .u64 b,.int .u64 c0,.int .u64 d,.int .i64 x,.int .i64 y]:Array Value).setIfInBounds 2 (.int .u64 (bits BinOp.or IntKind.u64 b (IntKind.u64.wrap (2 ^ (c % 64))))):=by
   unfold inA mb Ins.put Ins.word
   rw [hj]
   simp
  rw [e9]
  exact h9
 ·have hq:(c:Int).tdiv 64=((c / 64:Nat):Int):=rfl
  rw [hj] at hq
  go_enter Tryz.func335,Tryz.ntmps335
  go_wp2_with fail
  go_region
  go_wp2_with fail
  go_end0
  refine ⟨rfl,((Exc.refl G w).set _ _).drew,?_⟩
  have h9:=(hb.set_ 3 (.int .u64 (bits BinOp.or IntKind.u64 c0 (IntKind.u64.wrap (2 ^ (c % 64)))))).drew
  have e9:inA (mb ⟨kind,a,b,c0,d,x,y⟩ c)=(#[.int .i64 kind,.int .u64 a,.int .u64 b,.int .u64 c0,.int .u64 d,.int .i64 x,.int .i64 y]:Array Value).setIfInBounds 3 (.int .u64 (bits BinOp.or IntKind.u64 c0 (IntKind.u64.wrap (2 ^ (c % 64))))):=by
   unfold inA mb Ins.put Ins.word
   rw [hj]
   simp
  rw [e9]
  exact h9
 ·have hq:(c:Int).tdiv 64=((c / 64:Nat):Int):=rfl
  rw [hj] at hq
  go_enter Tryz.func335,Tryz.ntmps335
  go_wp2_with fail
  go_region
  go_wp2_with fail
  go_end0
  refine ⟨rfl,((Exc.refl G w).set _ _).drew,?_⟩
  have h9:=(hb.set_ 4 (.int .u64 (bits BinOp.or IntKind.u64 d (IntKind.u64.wrap (2 ^ (c % 64)))))).drew
  have e9:inA (mb ⟨kind,a,b,c0,d,x,y⟩ c)=(#[.int .i64 kind,.int .u64 a,.int .u64 b,.int .u64 c0,.int .u64 d,.int .i64 x,.int .i64 y]:Array Value).setIfInBounds 4 (.int .u64 (bits BinOp.or IntKind.u64 d (IntKind.u64.wrap (2 ^ (c % 64))))):=by
   unfold inA mb Ins.put Ins.word
   rw [hj]
   simp
  rw [e9]
  exact h9
def bF (s:ByteArray) (p:PS):Nat:=if p.e=0 then s.size-p.at_ else 0
theorem jV (s:ByteArray) (p:PS):bF s p≤s.size:=by unfold bF;split<;>omega
theorem eu (s:ByteArray) (p:PS):bM s p=decide (bF s p=0):=by
 unfold bM bF
 by_cases h:p.e=0
 ·simp [h];omega
 ·simp [h]
theorem ku {s:ByteArray} {p:PS} {e:Int} (he:e≠0):bF s (bh p e)=0:=by
 unfold bh bF
 by_cases h:p.e=0
 ·simp [h,he]
 ·simp [h]
theorem jr (p:PS) (e:Int):(bh p e).at_=p.at_:=by unfold bh;split<;>rfl
theorem lc (p:PS) (e:Int):(bh p e).deep=p.deep:=by unfold bh;split<;>rfl
theorem fail_e {p:PS} {e:Int} (he:e≠0):(bh p e).e≠0:=by unfold bh;split<;>simp_all
structure Less (s:ByteArray) (d:Nat) (p q:PS):Prop where
 rem:bF s q+d≤bF s p∨d≠0∧bF s p=0∧bF s q=0
 deep:q.deep=p.deep
 at_:p.at_≤s.size→q.at_≤s.size
 up:p.at_≤q.at_
theorem Less.refl (s:ByteArray) (p:PS):Less s 0 p p:=⟨.inl (zG _),rfl,id,zG _⟩
theorem Less.zero {s:ByteArray} {d:Nat} {p q:PS} (h:Less s d p q):Less s 0 p q:=⟨.inl (by rcases h.rem with h | ⟨_,h,k⟩<;>omega),h.deep,h.at_,h.up⟩
theorem Less.le {s:ByteArray} {d:Nat} {p q:PS} (h:Less s d p q):bF s q≤bF s p:=by rcases h.rem with h | ⟨_,h,k⟩<;>omega
theorem Less.trans {s:ByteArray} {p q r:PS} (h:Less s 0 p q) (k:Less s 0 q r):Less s 0 p r:=⟨.inl (by have:=h.le;have:=k.le;omega),k.deep.trans h.deep,fun x=>k.at_ (h.at_ x),zF h.up k.up⟩
theorem Less.one {s:ByteArray} {p q r:PS} (h:Less s 1 p q) (k:Less s 0 q r):Less s 1 p r:=⟨by have:=k.le;rcases h.rem with h | ⟨_,h,k⟩<;>omega,k.deep.trans h.deep,fun x=>k.at_ (h.at_ x),zF h.up k.up⟩
theorem Less.fail {s:ByteArray} {d:Nat} {p q:PS} {e:Int} (h:Less s d p q) (he:e≠0):Less s d p (bh q e):=
 ⟨by rw [ku he];rcases h.rem with h | ⟨_,h,k⟩<;>omega,by rw [lc,h.deep],by rw [jr];exact h.at_,by rw [jr];exact h.up⟩
theorem Less.failed {s:ByteArray} {p:PS} {e:Int} (he:e≠0):Less s 1 p (bh p e):=
 ⟨by rw [ku he];omega,by rw [lc],by rw [jr];exact id,by rw [jr];exact zG _⟩
theorem Less.stepped {s:ByteArray} {p:PS} (h:bM s p=false):Less s 1 p p.step:=by
 rw [eu] at h
 have h:bF s p≠0:=by simpa using h
 unfold bF at h
 refine ⟨.inl ?_,rfl,fun hx=>?_,by simp [PS.step]⟩
 ·unfold bF PS.step
  split at h
  ·rename_i he
   simp [he]
   omega
  ·exact absurd rfl h
 ·unfold PS.step
  split at h
  ·simp;omega
  ·exact absurd rfl h
theorem lu {s:ByteArray} {p:PS} {c:Nat} (h:isP s p c=true):bM s p=false:=by
 unfold isP at h
 rw [Bool.and_eq_true] at h
 simpa using h.1
theorem Less.byte {s:ByteArray} {p:PS} {c:Nat} (h:isP s p c=true):Less s 1 p p.step:=Less.stepped (lu h)
theorem cP (s:ByteArray) (p:PS):Less s 1 p (aG s p).2:=by
 unfold aG
 rcases Bool.eq_false_or_eq_true (bM s p) with h | h
 ·rw [if_pos h];exact Less.failed (by decide)
 ·rw [if_neg (by rw [h];simp)];exact Less.stepped h
theorem byte_lt (s:ByteArray) (k:Nat):ch s k<256:=by
 unfold ch
 rcases (bs s)[k]? with _ | b
 ·simp
 ·simp;exact b.toNat_lt
theorem qZ (s:ByteArray) (p:PS):(aG s p).1<256:=by
 unfold aG
 split
 ·simp
 ·exact byte_lt _ _
theorem dZ (s:ByteArray) (p:PS):Less s 1 p (aR s p).2:=by
 unfold aR
 simp only
 split
 ·exact (cP s p).one (cP s _).zero
 ·exact cP s p
theorem pu (s:ByteArray) (p:PS):(aR s p).1<256:=by
 unfold aR
 simp only
 split<;>exact qZ _ _
theorem pS (s:ByteArray) (p:PS):Less s 1 p (eT s p).2:=by
 unfold eT
 simp only
 split
 ·rename_i h
  rw [Bool.and_eq_true] at h
  exact ((dZ s p).one (Less.byte h.1).zero).one (dZ s _).zero
 ·exact dZ s p
theorem fK (s:ByteArray):∀n p i,Less s 0 p (bl s n p i).2
 | 0,p,i=>Less.refl s p
 | n+1,p,i=>by
   unfold bl
   split
   ·simp only
    refine Less.trans ?_ (fK s n _ _)
    split
    ·exact ((pS s p).fail (by decide)).zero
    ·exact (pS s p).zero
   ·exact Less.refl s p
theorem sP (s:ByteArray) (p:PS):Less s 0 p (dV s p).2:=by
 unfold dV
 simp only
 have h1:Less s 0 p (if isP s p 94=true then p.step else p):=by
  split
  ·rename_i h;exact (Less.byte h).zero
  ·exact Less.refl s p
 have h2:∀q:PS,Less s 0 p q→Less s 0 p (if isP s q 93=true then bh q 3 else q):=by
  intro q hq
  split
  ·exact hq.fail (by decide)
  ·exact hq
 exact (((h2 _ h1).trans (fK s _ _ _)).trans (cP s _).zero)
structure Made (s:ByteArray) (d:Nat) (p:PS) (r:List Ins × PS):Prop where
 less:Less s 0 p r.2
 one:bF s p≠0→bF s r.2+d≤bF s p
 len:r.1.length+2*bF s r.2≤2*bF s p
theorem ah (l:List Ins) (k:Int):(aK l k).length=l.length:=by simp [aK]
theorem Less.lt {s:ByteArray} {p q:PS} (h:Less s 1 p q) (hp:bF s p≠0):bF s q+1≤bF s p:=by rcases h.rem with h | ⟨_,h,k⟩<;>omega
theorem ff (s:ByteArray):∀n,(∀p,Made s 0 p (rc s n p))∧(∀p out,Less s 0 p (jD s n p out).2∧(jD s n p out).1.length+2*bF s (jD s n p out).2≤out.length+2*bF s p)∧(∀p,bF s p≠0→Made s (if n≤1 then 0 else 1) p (eP s n p))∧(∀p,bF s p≠0→Made s (if n=0 then 0 else 1) p (fI s n p)):=by
 intro n
 induction n with
 | zero=>
   refine ⟨fun p=>⟨Less.refl s p,fun _=>by simp [rc],by simp [rc]⟩,fun p out=>⟨Less.refl s p,by simp [jD]⟩,fun p _=>⟨Less.refl s p,fun _=>by simp [eP],by simp [eP]⟩,fun p _=>⟨Less.refl s p,fun _=>by simp [fI],by simp [fI]⟩⟩
 | succ n ih=>
   obtain ⟨ihp,ihr,ihc,iha⟩:=ih
   refine ⟨fun p=>?_,fun p out=>?_,fun p hp=>?_,fun p hp=>?_⟩
   ·unfold rc
    simp only
    obtain ⟨h1,h2⟩:=ihr p []
    split
    ·rename_i hb
     have hs:=Less.byte hb
     have hne:bF s (jD s n p []).2≠0:=by
      have:=lu hb
      rw [eu] at this
      simpa using this
     have h3:=ihp (jD s n p []).2.step
     have h4:=hs.lt hne
     have h5:=h3.len
     have h6:=h3.less.le
     have h7:=h1.le
     refine ⟨(h1.trans hs.zero).trans h3.less,fun _=>by simp only;omega,?_⟩
     simp only [ik,List.length_append,ah,List.length_cons,List.length_nil] at h2 ⊢
     omega
    ·refine ⟨h1,fun _=>h1.le,?_⟩
     simpa using h2
   ·unfold jD
    split
    ·rename_i hc
     have hne:bF s p≠0:=by
      rw [Bool.and_eq_true] at hc
      have:=hc.1
      rw [eu] at this
      simpa using this
     have h1:=ihc p hne
     have h2:=ihr (eP s n p).2 (out++aK (eP s n p).1 out.length)
     refine ⟨h1.less.trans h2.1,?_⟩
     have h3:=h2.2
     rw [List.length_append,ah] at h3
     have h4:=h1.len
     simp only
     omega
    ·exact ⟨Less.refl s p,by simp⟩
   ·unfold eP
    simp only
    have h1:=iha p hp
    have hd:(if n+1≤1 then 0 else 1)=(if n=0 then 0 else 1):=by by_cases h:n=0<;>simp [h]
    rw [hd]
    generalize (if n=0 then 0 else 1)=dd at *
    have hb:∀c,isP s (fI s n p).2 c=true→Less s 1 (fI s n p).2 (fI s n p).2.step∧bF s (fI s n p).2.step+1≤bF s (fI s n p).2:=by
     intro c hc
     refine ⟨Less.byte hc,(Less.byte hc).lt ?_⟩
     have:=lu hc
     rw [eu] at this
     simpa using this
    have hl:=h1.len
    have ho:=h1.one hp
    split
    ·rename_i hc
     obtain ⟨h2,h3⟩:=hb _ hc
     exact ⟨h1.less.trans h2.zero,fun _=>by simp only;omega,by simp [ah];omega⟩
    ·split
     ·rename_i hc
      obtain ⟨h2,h3⟩:=hb _ hc
      exact ⟨h1.less.trans h2.zero,fun _=>by simp only;omega,by simp [ah];omega⟩
     ·split
      ·rename_i hc
       obtain ⟨h2,h3⟩:=hb _ hc
       exact ⟨h1.less.trans h2.zero,fun _=>by simp only;omega,by simp [ah];omega⟩
      ·exact h1
   ·rw [if_neg (by omega)]
    unfold fI
    simp only
    have h1:=cP s p
    have h2:=h1.lt hp
    have leaf:∀(i:Ins) (q:PS),Less s 0 (aG s p).2 q→Made s 1 p ([i],q):=by
     intro i q hq
     have:=hq.le
     exact ⟨h1.zero.trans hq,fun _=>by simp only;omega,by simp;omega⟩
    split
    ·rename_i hc
     split
     ·have h3:=ku (s:=s) (p:=(aG s p).2) (e:=4) (by decide)
      exact ⟨(h1.fail (by decide)).zero,fun _=>by simp only;omega,by simp [h3]⟩
     ·have h3:=ihp ⟨(aG s p).2.at_,(aG s p).2.deep+1,(aG s p).2.e⟩
      generalize hq:rc s n ⟨(aG s p).2.at_,(aG s p).2.deep+1,(aG s p).2.e⟩=q at *
      have h4:=cP s q.2
      generalize hz:aG s q.2=z at *
      have hr:bF s ⟨(aG s p).2.at_,(aG s p).2.deep+1,(aG s p).2.e⟩=bF s (aG s p).2:=rfl
      have h5:=h3.less.le
      have h6:=h3.len
      have h7:=h4.le
      have hdp:q.2.deep=(aG s p).2.deep+1:=h3.less.deep
      have hdz:z.2.deep=q.2.deep:=h4.deep
      have hkey:∀f:PS,Less s 0 z.2 f→Made s 1 p (q.1,⟨f.at_,f.deep-1,f.e⟩):=by
       intro f hf
       have hrf:bF s ⟨f.at_,f.deep-1,f.e⟩=bF s f:=rfl
       have h8:=hf.le
       refine ⟨⟨.inl (by simp only;rw [hrf];omega),?_,?_,?_⟩,fun _=>by simp only;rw [hrf];omega,by simp only;rw [hrf];omega⟩
       ·have:=hf.deep;have:=h1.deep;simp only;omega
       ·exact fun hx=>hf.at_ (h4.at_ (h3.less.at_ (h1.at_ hx)))
       ·exact zF h1.up (zF h3.less.up (zF h4.up hf.up))
      refine hkey _ ?_
      split
      ·exact (Less.refl s _).fail (by decide)
      ·exact Less.refl s _
    ·split
     ·exact leaf _ _ (sP s _)
     ·split
      ·exact leaf _ _ (Less.refl s _)
      ·split
       ·exact leaf _ _ (Less.refl s _)
       ·split
        ·exact leaf _ _ (Less.refl s _)
        ·split
         ·exact leaf _ _ (cP s _).zero
         ·split
          ·exact leaf _ _ ((Less.refl s _).fail (by decide))
          ·exact leaf _ _ (Less.refl s _)
theorem iV (s:ByteArray) (n:Nat) (p:PS):Made s 0 p (rc s n p):=(ff s n).1 p
theorem yA (s:ByteArray) (n:Nat) (p:PS) (out:List Ins):Less s 0 p (jD s n p out).2∧(jD s n p out).1.length+2*bF s (jD s n p out).2≤out.length+2*bF s p:=(ff s n).2.1 p out
theorem tD (s:ByteArray) (n:Nat) (p:PS) (hp:bF s p≠0) (hn:2≤n):Made s 1 p (eP s n p):=by
 have:=(ff s n).2.2.1 p hp
 rwa [if_neg (by omega)] at this
theorem uA (s:ByteArray) (n:Nat) (p:PS) (hp:bF s p≠0) (hn:1≤n):Made s 1 p (fI s n p):=by
 have:=(ff s n).2.2.2 p hp
 rwa [if_neg (by omega)] at this
section
variable {α:Type} {R:Reader α} {e:TypeId} {w:World} {base B:Nat} {v:Value} {xs:List α} {A:Option Addr} {c:Nat}
theorem rD (b off j:Nat):(⟨b,off,none⟩:Addr).add j=⟨b,off+j,none⟩:=by
 unfold Addr.add
 split
 ·rename_i h;subst h;rfl
 ·rfl
theorem ar.src (h:ar R e w base B (.slice A xs.length c) xs):gY R w B A xs:=by
 obtain ⟨cells,h,hf⟩:=h
 rcases h.2 with ⟨h1,h2⟩ | ⟨g,cap,cur,hv,hg,hh,k1,k2,k3,k4⟩
 ·have:xs=[]:=List.eq_nil_of_length_eq_zero h2
  subst this
  refine ⟨[],bE.nil,fun _=>rfl,fun a _ j u hu=>by simp at hu⟩
 ·simp only [Value.slice.injEq] at hv
  obtain ⟨rfl,_,rfl⟩:=hv
  refine ⟨cells,hf,fun e=>(by cases e),fun a ha j u hu=>?_⟩
  simp only [Option.some.injEq] at ha
  subst ha
  rw [←k4,List.getElem?_take] at hu
  split at hu
  ·rw [rD]
   show w.cell? ⟨g,0+j,none⟩=_
   rw [cell_of_row w g _ cur e (0,0) hh,Nat.zero_add]
   simpa using hu
  ·cases hu
theorem bE.take {news:List Value} (h:bE R w B xs news) (k:Nat):bE R w B (xs.take k) (news.take (k*R.k)):=by
 refine ⟨?_,fun i hi=>?_⟩
 ·rw [List.length_take,List.length_take,h.1]
  rcases Nat.le_total k xs.length with hk | hk
  ·rw [Nat.min_eq_left hk,Nat.min_eq_left (Nat.mul_le_mul_right _ hk)]
  ·rw [Nat.min_eq_right hk,Nat.min_eq_right (Nat.mul_le_mul_right _ hk)]
 ·rw [List.length_take] at hi
  have hik:i<k:=by omega
  have h1:(i+1)*R.k≤k*R.k:=Nat.mul_le_mul_right _ hik
  rw [Nat.add_mul,Nat.one_mul] at h1
  have:=h.2 i (by omega)
  rw [List.getElem_take,List.drop_take,List.take_take,Nat.min_eq_left (by omega)]
  exact this
theorem bE.drop {news:List Value} (h:bE R w B xs news) (k:Nat):bE R w B (xs.drop k) (news.drop (k*R.k)):=by
 refine ⟨?_,fun i hi=>?_⟩
 ·rw [List.length_drop,List.length_drop,h.1,Nat.sub_mul]
 ·rw [List.length_drop] at hi
  have:=h.2 (k+i) (by omega)
  rw [List.getElem_drop,List.drop_drop]
  rw [show k*R.k+i*R.k=(k+i)*R.k by rw [Nat.add_mul]]
  exact this
theorem gY.take (h:gY R w B A xs) (k:Nat):gY R w B A (xs.take k):=by
 obtain ⟨cells,hf,h1,h2⟩:=h
 refine ⟨_,hf.take k,fun e=>(by rw [h1 e];simp),fun a ha j u hu=>?_⟩
 rw [List.getElem?_take] at hu
 split at hu
 ·exact h2 a ha j u hu
 ·cases hu
theorem gY.drop {b off:Nat} (h:gY R w B (some ⟨b,off,none⟩) xs) (k:Nat):gY R w B (some ⟨b,off+k*R.k,none⟩) (xs.drop k):=by
 obtain ⟨cells,hf,h1,h2⟩:=h
 refine ⟨_,hf.drop k,fun e=>(by cases e),fun a ha j u hu=>?_⟩
 rw [List.getElem?_drop] at hu
 simp only [Option.some.injEq] at ha
 subst ha
 have:=h2 _ rfl _ _ hu
 rw [rD] at this ⊢
 rw [Nat.add_assoc];exact this
theorem gY.none {A:Option Addr} {ys:List α} (h:ys=[]):gY R w B A ys:=by
 subst h;exact ⟨[],bE.nil,fun _=>rfl,fun a _ j u hu=>by simp at hu⟩
end
section
variable {α:Type} {c:α→α→Int} {t:α}
end
end Go.Proofs.YtdphibjibnffeaaGreat
