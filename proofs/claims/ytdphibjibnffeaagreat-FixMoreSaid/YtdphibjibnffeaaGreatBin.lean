/- op.Unary, op.Binary: what they tell, whatever comes in. -/
import Derived.Test.YtdphibjibnffeaaGreatMat3
import Derived.Test.YtdphibjibnffeaaGreatReg8
import Derived.Test.YtdphibjibnffeaaGreatHasSet
import Derived.Test.YtdphibjibnffeaaGreatOp5
set_option linter.unusedVariables false
set_option linter.unusedSimpArgs false
set_option maxRecDepth 100000
set_option maxHeartbeats 8000000
namespace Go.Proofs.YtdphibjibnffeaaGreat
open Go.ChangeShapes Go.WideShapes Go.ChangeAt Go.RowKit
theorem run_at {s:ByteArray} {k b:Nat} (h:k<s.size) (hb:ch s k=b) (w:World):(Instr.index 9 (.string s) (.int .i64 (k:Int))).run Tryz.prog w=.ok (.int .u8 (b:Int)) w:=by
 rw [run_index_string w 9 s .i64 _ Tryz.underlying9,dif_pos ⟨by omega,by omega⟩]
 rw [←hb,gG h]
 rfl
theorem sU (t:ByteArray):t=ByteArray.empty↔t.size=0:=⟨fun h=>by rw [h];rfl,fun h=>ByteArray.ext (Array.eq_empty_of_size_eq_zero h)⟩
theorem ta {l:List Ins} {t:ByteArray} {n i:Nat} {st:List Bool × Bool} (h:st.2=true):jt l t false n i st=true:=by
 cases n with
 | zero=>exact h
 | succ n=>unfold jt;rw [h];rfl
theorem xN {l:List Ins} {t:ByteArray} {n i:Nat} {st:List Bool × Bool} (h:st.2=false):jt l t false (n+1) i st=jt l t false n (i+1) (bN l false (decide (i+1=t.size)) 0 (takes l (ch t i) (decide (i+1=t.size)) st)):=by
 show (if (st.2&&!false)=true then _ else _)=_
 rw [h]
 rfl
theorem vW {w:World} {p t:ByteArray} (hp:p.size≤140737488351232) (ht:t.size≤140737488351232) :
 Calls Tryz.prog 299 #[.string p,.string t,.bool false] w fun e w'=>e=.returned (.tuple #[.bool (fS p t false).1,.int .i64 (fS p t false).2])∧Below w.heap.size w w':=by
 by_cases h256:256<t.size
 ·have HX:Hid (fS p t false=(false,1)):=zE (by unfold fS;rw [if_pos h256])
  go_enter Tryz.func299,Tryz.ntmps299
  go_wp2_with fail
  go_ret2
  rw [HX.out]
  exact ⟨rfl,zI _ _⟩
 ·have HX:Hid (fS p t false=if (dW p).2≠0 then (false,(dW p).2) else (jt (dW p).1 t false t.size 0 (bN (dW p).1 true (decide (t.size=0)) 0 (iP (dW p).1)),0)):=zE (by unfold fS;rw [if_neg h256])
  have h256':decide (256<(t.size:Int))=false:=by simp;omega
  go_enter Tryz.func299,Tryz.ntmps299
  go_wp2_with fail
  clear h256'
  refine (qA hp).mono ?_
  rintro e w1 ⟨⟨Al,cl,rfl,ho⟩,hb⟩
  by_cases he:(dW p).2=0
  ·have HPR:=zE (xH he)
   rw [if_neg (by simp [he])] at HX
   generalize dW p=r at *
   obtain ⟨l,e⟩:=r
   simp only at he ho HX HPR
   have hq:((e:Int) !=0)=false:=by rw [he];rfl
   have hlen:=HPR.out.len
   have hpos:=HPR.out.pos
   have HL:=zE (ho.rows (by omega))
   have HB1:=zE hb
   have hmk:=fun w=>mO l.length (by omega) w
   clear ho hb he
   go_wp2_with fail
   generalize hA:World.alloc _ _=w2
   obtain ⟨hb,hz⟩:=al2 hA
   have HN2:Hid (Ways (w1.heap.size+1) w1.heap.size l Al cl l.length w2 (iP l)):=zE (by
    have h0:bP (w1.alloc (.cells (cE (List.replicate l.length false)) 4)) w1.heap.size (cE (List.replicate l.length false)) 4:=heap_alloc_new w1 _
    have h1:=h0.later (av (w:=w1.alloc (.cells (cE (List.replicate l.length false)) 4)) (o:=.cells #[.slice Al l.length cl,.slice (some ⟨w1.heap.size,0,none⟩) l.length l.length,.bool false] 322) rfl)
    have h2:=heap_alloc_new (w1.alloc (.cells (cE (List.replicate l.length false)) 4)) (.cells #[.slice Al l.length cl,.slice (some ⟨w1.heap.size,0,none⟩) l.length l.length,.bool false] 322)
    rw [World.size_alloc] at h2
    exact hA▸⟨h2,h1,by simp [iP],by omega⟩)
   have HB2:=zE hb
   clear hA hz hb hmk
   refine (gL (B:=w1.heap.size) (Int.le_refl _) (by omega) HN2.out (HL.out.keep HB2.out (zG _)) (by omega) (zG _) HPR.out (zG _)).mono ?_
   rintro e w3 ⟨rfl,hx,hn⟩
   have hie:t.toList.isEmpty=decide (t.size=0):=by rw [bX,Bool.eq_iff_iff,decide_eq_true_eq,decide_eq_true_eq];exact sU t
   rw [hie] at hn
   have HN3:=zE hn
   have HB3:Hid (Below w1.heap.size w1 w3):=zE (HB2.out.trans (hx.1.mono (by omega)))
   generalize bN l true (decide (t.size=0)) 0 (iP l)=st0 at *
   clear hx hn hie HN2 HB2
   have hz3:w1.heap.size+1<w3.heap.size:=HN3.out.wb.blk.lt
   go_wp2_with fail
   go_loopw [10,36] (fun v10 v36 wr=>∃(k W G ca:Nat) (st:List Bool × Bool),k≤t.size∧v10=.pointer (some ⟨W,0,none⟩)∧v36=.int .i64 k∧w1.heap.size≤W∧w1.heap.size≤G∧l.length≤ca∧Hid (jt l t false t.size 0 st0=jt l t false (t.size-k) k st)∧Hid (Ways W G l Al cl ca wr st)∧Hid (Below w1.heap.size w1 wr)) (fun _ v _=>t.size-(intOf v).toNat)
   case atStart=>exact ⟨0,_,_,_,st0,zH _,rfl,rfl,by omega,zG _,zG _,zE (by rw [Nat.sub_zero]),HN3,HB3⟩
   case round=>
    obtain ⟨k,W,G,ca,st,hk,rfl,rfl,hBW,hBG,hca,HE,HN,HBr⟩:=hrel
    have hWlt:=HN.out.wb.blk.lt
    have k_w:∀o,wr.cell? ⟨W,o,none⟩=(#[.slice Al l.length cl,.slice (some ⟨G,0,none⟩) l.length ca,.bool st.2]:Array Value)[o]?:=HN.out.wb.blk.cell
    by_cases hlt:k<t.size
    ·rcases Bool.eq_false_or_eq_true st.2 with hd | hd
     ·have HR:Hid (jt l t false t.size 0 st0=true):=zE (by rw [HE.out,ta hd])
      rw [hd] at k_w
      clear hd HE
      go_wp2_with fail
      go_ret2
      rw [HX.out,HR.out]
      exact ⟨rfl,ab HB1.out HBr.out⟩
     ·obtain ⟨n,hn⟩:∃n,t.size-k=n+1:=⟨t.size-k-1,by omega⟩
      obtain ⟨lb,hlb⟩:∃lb,decide (k+1=t.size)=lb:=⟨_,rfl⟩
      obtain ⟨c,hcb⟩:∃c,ch t k=c:=⟨_,rfl⟩
      have HE2:Hid (jt l t false t.size 0 st0=jt l t false (t.size-(k+1)) (k+1) (bN l false lb 0 (takes l c lb st))):=zE (by
       rw [HE.out,hn,xN hd,hlb,hcb,show t.size-(k+1)=n by omega])
      have hc256:c<256:=by rw [←hcb];exact uK _ _
      have hix:=fun wx=>run_at hlt hcb wx
      have hql:((k:Int)==(t.size:Int)-1)=lb:=by
       rw [←hlb,Bool.eq_iff_iff]
       simp
       omega
      rw [hd] at k_w
      clear hd HE hn hlb hcb
      go_wp2_with fail
      refine (wP (B:=w1.heap.size) (c:=c) HN.out (HL.out.keep HBr.out (zG _)) hBW hBG HPR.out hc256 hca).mono ?_
      rintro e w4 ⟨W2,G2,ca2,rfl,hn2,hW2,hG2,hca2,hb4⟩
      have HN4:=zE hn2
      have HB4:=zE (ab HBr.out hb4)
      have hszr:=HBr.out.size
      clear hn2 hb4 k_w hix
      go_wp2_with fail
      refine (gL (B:=w1.heap.size) (Int.le_refl _) (by omega) HN4.out (HL.out.keep HB4.out (zG _)) (by omega) (by omega) HPR.out hca2).mono ?_
      rintro e w5 ⟨rfl,hx,hn⟩
      have HN5:=zE hn
      have HB5:Hid (Below w1.heap.size w1 w5):=zE (HB4.out.trans (hx.1.mono (by omega)))
      clear hx hn HN4 HB4 hql
      go_wp2_with fail
      go_roundw
      case rel=>exact ⟨k+1,W2,G2,ca2,_,by omega,rfl,by go_num,by omega,by omega,hca2,HE2,HN5,HB5⟩
      case measure=>simp [intOf];omega
    ·have HR:Hid (jt l t false t.size 0 st0=st.2):=zE (by rw [HE.out,show t.size-k=0 by omega];rfl)
     go_wp2_with fail
     go_ret2
     rw [HX.out,HR.out]
     exact ⟨rfl,ab HB1.out HBr.out⟩
  ·have hq:(((dW p).2:Int) !=0)=true:=by simpa using he
   rw [if_pos he] at HX
   have HB:=zE hb
   clear hb ho he
   go_wp2_with fail
   go_ret2
   rw [HX.out]
   exact ⟨rfl,HB.out⟩
theorem rN {w:World} {p t:ByteArray} (hp:p.size≤140737488351232) (ht:t.size≤140737488351232) :
 Calls Tryz.prog 282 #[.string p,.string t] w fun e w'=>e=.returned (.tuple #[.bool (fS p t false).1,.int .i64 (fS p t false).2])∧Below w.heap.size w w':=by
 go_enter Tryz.func282,Tryz.ntmps282
 go_wp2_with fail
 refine (vW hp ht).mono ?_
 rintro e w1 ⟨rfl,hb⟩
 have HB:=zE hb
 clear hb
 go_wp2_with fail
 go_ret2
 exact ⟨rfl,HB.out⟩
def qu (b:Bool):Tm:=⟨6,bit b,emp,[]⟩
def zA (n:Int):Tm:=⟨2,n,emp,[]⟩
def recT (r:Int × Int × Int):Tm × Int:=(⟨r.1,r.2.1,emp,[]⟩,r.2.2)
def vS (p t:ByteArray):Tm × Int:=if (fS p t false).2≠0 then (noT,(fS p t false).2) else (qu (fS p t false).1,0)
def za (code:Int) (a b:Tm):Tm × Int:=
 if af a=false∨af b=false∨code<1∨19<code then (noT,1)
 else if aJ code a.kind b.kind=false then (noT,7)
 else if code=7∧a.kind=3 then (if a.s.size+b.s.size≤256 then (⟨3,0,a.s++b.s,[]⟩,0) else (noT,4))
 else if code=7∨code=8∨code=9∨code=10 then recT (mW code a.n b.n)
 else if code=11 then (qu (if a.kind=3 then Lib.contains (bs a.s) (bs b.s) else eJ a b),0)
 else if code=12 then (qu (Lib.hasPrefix (bs a.s) (bs b.s)),0)
 else if code=13 then (qu (Lib.hasSuffix (bs a.s) (bs b.s)),0)
 else if code=14 then vS b.s a.s
 else if code=15 then (lz a b,0)
 else if code=16 then jz a b
 else if code=17 then (zA (bits .and .i64 a.n b.n),0)
 else if code=18 then (zA (bits .or .i64 a.n b.n),0)
 else if code=19 then (zA (bits .xor .i64 a.n b.n),0)
 else (qu (xG code (cM 3 a b)),0)
def unR (code:Int) (a:Tm):Tm × Int:=
 if af a=false∨code<1∨3<code then (noT,1)
 else if code=1∧a.kind=6 then (qu (decide (a.n=0)),0)
 else if code=2∧a.kind=2 then recT (mW 8 0 a.n)
 else if code=3∧(a.kind=3∨a.kind=5) then (zA a.s.size,0)
 else if code=3∧a.kind=7 then (zA a.l.length,0)
 else (noT,7)
theorem xw {code x y ka kb:Int} {d d' B:Nat} {s s':ByteArray} {l l':List Tm} {vs ws:List Value} {w:World} (ha:RTm w B d ⟨ka,x,s,l⟩ vs) (hb:RTm w B d' ⟨kb,y,s',l'⟩ ws) (hB:B≤w.heap.size) (fa:af ⟨ka,x,s,l⟩=false) :
 Calls Tryz.prog 247 #[.int .i64 code,.agg vs.toArray,.agg ws.toArray] w fun z w'=>z=bO 0 0 emp 1∧Below w.heap.size w w':=by
 obtain ⟨A,c,rfl,q1,q2,q3,q4,q5,_⟩:=ha.cells
 obtain ⟨A',c',rfl,r1,r2,r3,r4,r5,_⟩:=hb.cells
 have HA:=zE ha
 have HB_:=zE hb
 simp only at q2 q3 q4 q5 r2 r3 r4 r5
 clear ha hb
 have FA:=zE fa
 clear fa
 go_enter Tryz.func247,Tryz.ntmps247
 go_wp2_with fail
 generalize hW:World.alloc _ _=w1
 obtain ⟨hb,hz⟩:=al3 hW
 have b_a_1:=n31 hW
 have b_b_1:=n32 hW
 have b_r_1:=n33 hW
 have HB1:=zE hb
 clear hW hz hb
 refine (aj (t:=⟨ka,x,s,l⟩) (vs:=[_,_,_,_]) (HA.out.below HB1.out hB) (zF hB HB1.out.size)).mono ?_
 rintro x w2 ⟨rfl,hb⟩
 have b_a_2:=b_a_1.later hb
 have b_b_2:=b_b_1.later hb
 have b_r_2:=b_r_1.later hb
 have HB2:=zE (ab HB1.out hb)
 clear b_a_1 b_b_1 b_r_1
 clear hb
 rw [FA.out]
 have k_a:=b_a_2.cell
 have k_b:=b_b_2.cell
 have k_r:=b_r_2.cell
 have f_r:=b_r_2.free
 go_wp2_with fail
 refine bodyPost_ret (aq rfl rfl (put4 b_r_2 HB2.out (by omega)).1 rfl) rfl ?_
 exact ⟨rfl,(put4 b_r_2 HB2.out (by omega)).2⟩
theorem xx {code x y ka kb:Int} {d d' B:Nat} {s s':ByteArray} {l l':List Tm} {vs ws:List Value} {w:World} (ha:RTm w B d ⟨ka,x,s,l⟩ vs) (hb:RTm w B d' ⟨kb,y,s',l'⟩ ws) (hB:B≤w.heap.size) (fa:af ⟨ka,x,s,l⟩=true) (fb:af ⟨kb,y,s',l'⟩=false) :
 Calls Tryz.prog 247 #[.int .i64 code,.agg vs.toArray,.agg ws.toArray] w fun z w'=>z=bO 0 0 emp 1∧Below w.heap.size w w':=by
 obtain ⟨A,c,rfl,q1,q2,q3,q4,q5,_⟩:=ha.cells
 obtain ⟨A',c',rfl,r1,r2,r3,r4,r5,_⟩:=hb.cells
 have HA:=zE ha
 have HB_:=zE hb
 simp only at q2 q3 q4 q5 r2 r3 r4 r5
 clear ha hb
 have FA:=zE fa
 have FB:=zE fb
 clear fa fb
 go_enter Tryz.func247,Tryz.ntmps247
 go_wp2_with fail
 generalize hW:World.alloc _ _=w1
 obtain ⟨hb,hz⟩:=al3 hW
 have b_a_1:=n31 hW
 have b_b_1:=n32 hW
 have b_r_1:=n33 hW
 have HB1:=zE hb
 clear hW hz hb
 refine (aj (t:=⟨ka,x,s,l⟩) (vs:=[_,_,_,_]) (HA.out.below HB1.out hB) (zF hB HB1.out.size)).mono ?_
 rintro x w2 ⟨rfl,hb⟩
 have b_a_2:=b_a_1.later hb
 have b_b_2:=b_b_1.later hb
 have b_r_2:=b_r_1.later hb
 have HB2:=zE (ab HB1.out hb)
 clear b_a_1 b_b_1 b_r_1
 clear hb
 rw [FA.out]
 have k_a:=b_a_2.cell
 have k_b:=b_b_2.cell
 have k_r:=b_r_2.cell
 go_wp2_with fail
 clear k_a k_b k_r
 refine (aj (t:=⟨kb,y,s',l'⟩) (vs:=[_,_,_,_]) (HB_.out.below HB2.out hB) (zF hB HB2.out.size)).mono ?_
 rintro x w3 ⟨rfl,hb⟩
 have b_a_3:=b_a_2.later hb
 have b_b_3:=b_b_2.later hb
 have b_r_3:=b_r_2.later hb
 have HB3:=zE (ab HB2.out hb)
 clear b_a_2 b_b_2 b_r_2
 clear hb
 rw [FB.out]
 have k_a:=b_a_3.cell
 have k_b:=b_b_3.cell
 have k_r:=b_r_3.cell
 have f_r:=b_r_3.free
 go_wp2_with fail
 refine bodyPost_ret (aq rfl rfl (put4 b_r_3 HB3.out (by omega)).1 rfl) rfl ?_
 exact ⟨rfl,(put4 b_r_3 HB3.out (by omega)).2⟩
theorem bin_lo {code x y ka kb:Int} {d d' B:Nat} {s s':ByteArray} {l l':List Tm} {vs ws:List Value} {w:World} (ha:RTm w B d ⟨ka,x,s,l⟩ vs) (hb:RTm w B d' ⟨kb,y,s',l'⟩ ws) (hB:B≤w.heap.size) (fa:af ⟨ka,x,s,l⟩=true) (fb:af ⟨kb,y,s',l'⟩=true) (hc:code<1) :
 Calls Tryz.prog 247 #[.int .i64 code,.agg vs.toArray,.agg ws.toArray] w fun z w'=>z=bO 0 0 emp 1∧Below w.heap.size w w':=by
 obtain ⟨A,c,rfl,q1,q2,q3,q4,q5,_⟩:=ha.cells
 obtain ⟨A',c',rfl,r1,r2,r3,r4,r5,_⟩:=hb.cells
 have HA:=zE ha
 have HB_:=zE hb
 simp only at q2 q3 q4 q5 r2 r3 r4 r5
 clear ha hb
 have FA:=zE fa
 have FB:=zE fb
 clear fa fb
 have hq0:decide (code<1)=true:=by simp;omega
 go_enter Tryz.func247,Tryz.ntmps247
 go_wp2_with fail
 generalize hW:World.alloc _ _=w1
 obtain ⟨hb,hz⟩:=al3 hW
 have b_a_1:=n31 hW
 have b_b_1:=n32 hW
 have b_r_1:=n33 hW
 have HB1:=zE hb
 clear hW hz hb
 refine (aj (t:=⟨ka,x,s,l⟩) (vs:=[_,_,_,_]) (HA.out.below HB1.out hB) (zF hB HB1.out.size)).mono ?_
 rintro x w2 ⟨rfl,hb⟩
 have b_a_2:=b_a_1.later hb
 have b_b_2:=b_b_1.later hb
 have b_r_2:=b_r_1.later hb
 have HB2:=zE (ab HB1.out hb)
 clear b_a_1 b_b_1 b_r_1
 clear hb
 rw [FA.out]
 have k_a:=b_a_2.cell
 have k_b:=b_b_2.cell
 have k_r:=b_r_2.cell
 go_wp2_with fail
 clear k_a k_b k_r
 refine (aj (t:=⟨kb,y,s',l'⟩) (vs:=[_,_,_,_]) (HB_.out.below HB2.out hB) (zF hB HB2.out.size)).mono ?_
 rintro x w3 ⟨rfl,hb⟩
 have b_a_3:=b_a_2.later hb
 have b_b_3:=b_b_2.later hb
 have b_r_3:=b_r_2.later hb
 have HB3:=zE (ab HB2.out hb)
 clear b_a_2 b_b_2 b_r_2
 clear hb
 rw [FB.out]
 have k_a:=b_a_3.cell
 have k_b:=b_b_3.cell
 have k_r:=b_r_3.cell
 have f_r:=b_r_3.free
 go_wp2_with fail
 refine bodyPost_ret (aq rfl rfl (put4 b_r_3 HB3.out (by omega)).1 rfl) rfl ?_
 exact ⟨rfl,(put4 b_r_3 HB3.out (by omega)).2⟩
theorem bin_hi {code x y ka kb:Int} {d d' B:Nat} {s s':ByteArray} {l l':List Tm} {vs ws:List Value} {w:World} (ha:RTm w B d ⟨ka,x,s,l⟩ vs) (hb:RTm w B d' ⟨kb,y,s',l'⟩ ws) (hB:B≤w.heap.size) (fa:af ⟨ka,x,s,l⟩=true) (fb:af ⟨kb,y,s',l'⟩=true) (hc:19<code) :
 Calls Tryz.prog 247 #[.int .i64 code,.agg vs.toArray,.agg ws.toArray] w fun z w'=>z=bO 0 0 emp 1∧Below w.heap.size w w':=by
 obtain ⟨A,c,rfl,q1,q2,q3,q4,q5,_⟩:=ha.cells
 obtain ⟨A',c',rfl,r1,r2,r3,r4,r5,_⟩:=hb.cells
 have HA:=zE ha
 have HB_:=zE hb
 simp only at q2 q3 q4 q5 r2 r3 r4 r5
 clear ha hb
 have FA:=zE fa
 have FB:=zE fb
 clear fa fb
 have hq0:decide (code<1)=false:=by simp;omega
 have hq1:decide (19<code)=true:=by simp;omega
 go_enter Tryz.func247,Tryz.ntmps247
 go_wp2_with fail
 generalize hW:World.alloc _ _=w1
 obtain ⟨hb,hz⟩:=al3 hW
 have b_a_1:=n31 hW
 have b_b_1:=n32 hW
 have b_r_1:=n33 hW
 have HB1:=zE hb
 clear hW hz hb
 refine (aj (t:=⟨ka,x,s,l⟩) (vs:=[_,_,_,_]) (HA.out.below HB1.out hB) (zF hB HB1.out.size)).mono ?_
 rintro x w2 ⟨rfl,hb⟩
 have b_a_2:=b_a_1.later hb
 have b_b_2:=b_b_1.later hb
 have b_r_2:=b_r_1.later hb
 have HB2:=zE (ab HB1.out hb)
 clear b_a_1 b_b_1 b_r_1
 clear hb
 rw [FA.out]
 have k_a:=b_a_2.cell
 have k_b:=b_b_2.cell
 have k_r:=b_r_2.cell
 go_wp2_with fail
 clear k_a k_b k_r
 refine (aj (t:=⟨kb,y,s',l'⟩) (vs:=[_,_,_,_]) (HB_.out.below HB2.out hB) (zF hB HB2.out.size)).mono ?_
 rintro x w3 ⟨rfl,hb⟩
 have b_a_3:=b_a_2.later hb
 have b_b_3:=b_b_2.later hb
 have b_r_3:=b_r_2.later hb
 have HB3:=zE (ab HB2.out hb)
 clear b_a_2 b_b_2 b_r_2
 clear hb
 rw [FB.out]
 have k_a:=b_a_3.cell
 have k_b:=b_b_3.cell
 have k_r:=b_r_3.cell
 have f_r:=b_r_3.free
 go_wp2_with fail
 refine bodyPost_ret (aq rfl rfl (put4 b_r_3 HB3.out (by omega)).1 rfl) rfl ?_
 exact ⟨rfl,(put4 b_r_3 HB3.out (by omega)).2⟩
theorem xC {code x y ka kb:Int} {d d' B:Nat} {s s':ByteArray} {l l':List Tm} {vs ws:List Value} {w:World} (ha:RTm w B d ⟨ka,x,s,l⟩ vs) (hb:RTm w B d' ⟨kb,y,s',l'⟩ ws) (hB:B≤w.heap.size) (fa:af ⟨ka,x,s,l⟩=true) (fb:af ⟨kb,y,s',l'⟩=true) (h1:1≤code) (h2:code≤19) (hk:aJ code ka kb=false) :
 Calls Tryz.prog 247 #[.int .i64 code,.agg vs.toArray,.agg ws.toArray] w fun z w'=>z=bO 0 0 emp 7∧Below w.heap.size w w':=by
 obtain ⟨A,c,rfl,q1,q2,q3,q4,q5,_⟩:=ha.cells
 obtain ⟨A',c',rfl,r1,r2,r3,r4,r5,_⟩:=hb.cells
 have HA:=zE ha
 have HB_:=zE hb
 simp only at q2 q3 q4 q5 r2 r3 r4 r5
 clear ha hb
 have FA:=zE fa
 have FB:=zE fb
 have HK:=zE hk
 have hq0:decide (code<1)=false:=by simp;omega
 have hq1:decide (19<code)=false:=by simp;omega
 clear fa fb hk
 go_enter Tryz.func247,Tryz.ntmps247
 go_wp2_with fail
 generalize hW:World.alloc _ _=w1
 obtain ⟨hb,hz⟩:=al3 hW
 have b_a_1:=n31 hW
 have b_b_1:=n32 hW
 have b_r_1:=n33 hW
 have HB1:=zE hb
 clear hW hz hb
 refine (aj (t:=⟨ka,x,s,l⟩) (vs:=[_,_,_,_]) (HA.out.below HB1.out hB) (zF hB HB1.out.size)).mono ?_
 rintro x w2 ⟨rfl,hb⟩
 have b_a_2:=b_a_1.later hb
 have b_b_2:=b_b_1.later hb
 have b_r_2:=b_r_1.later hb
 have HB2:=zE (ab HB1.out hb)
 clear b_a_1 b_b_1 b_r_1
 clear hb
 rw [FA.out]
 have k_a:=b_a_2.cell
 have k_b:=b_b_2.cell
 have k_r:=b_r_2.cell
 go_wp2_with fail
 clear k_a k_b k_r
 refine (aj (t:=⟨kb,y,s',l'⟩) (vs:=[_,_,_,_]) (HB_.out.below HB2.out hB) (zF hB HB2.out.size)).mono ?_
 rintro x w3 ⟨rfl,hb⟩
 have b_a_3:=b_a_2.later hb
 have b_b_3:=b_b_2.later hb
 have b_r_3:=b_r_2.later hb
 have HB3:=zE (ab HB2.out hb)
 clear b_a_2 b_b_2 b_r_2
 clear hb
 rw [FB.out]
 have k_a:=b_a_3.cell
 have k_b:=b_b_3.cell
 have k_r:=b_r_3.cell
 go_wp2_with fail
 clear k_a k_b k_r
 refine (aX code ka kb _).mono ?_
 rintro x w4 ⟨rfl,hb⟩
 have b_a_4:=b_a_3.later hb
 have b_b_4:=b_b_3.later hb
 have b_r_4:=b_r_3.later hb
 have HB4:=zE (ab HB3.out hb)
 clear b_a_3 b_b_3 b_r_3
 clear hb
 rw [HK.out]
 have k_a:=b_a_4.cell
 have k_b:=b_b_4.cell
 have k_r:=b_r_4.cell
 have f_r:=b_r_4.free
 go_wp2_with fail
 refine bodyPost_ret (aq rfl rfl (put4 b_r_4 HB4.out (by omega)).1 rfl) rfl ?_
 exact ⟨rfl,(put4 b_r_4 HB4.out (by omega)).2⟩
theorem uH {x y:Int} {d d' B:Nat} {s s':ByteArray} {l l':List Tm} {vs ws:List Value} {w:World} (ha:RTm w B d ⟨3,x,s,l⟩ vs) (hb:RTm w B d' ⟨3,y,s',l'⟩ ws) (hB:B≤w.heap.size) (fa:af ⟨3,x,s,l⟩=true) (fb:af ⟨3,y,s',l'⟩=true) (hz:(fS s' s false).2=0) :
 Calls Tryz.prog 247 #[.int .i64 14,.agg vs.toArray,.agg ws.toArray] w fun z w'=>z=bO 6 (bit (fS s' s false).1) emp 0∧Below w.heap.size w w':=by
 obtain ⟨A,c,rfl,q1,q2,q3,q4,q5,_⟩:=ha.cells
 obtain ⟨A',c',rfl,r1,r2,r3,r4,r5,_⟩:=hb.cells
 have HA:=zE ha
 have HB_:=zE hb
 simp only at q2 q3 q4 q5 r2 r3 r4 r5
 clear ha hb
 have FA:=zE fa
 have FB:=zE fb
 have HK:Hid (aJ 14 3 3=true):=zE (by decide)
 clear fa fb
 go_enter Tryz.func247,Tryz.ntmps247
 go_wp2_with fail
 generalize hW:World.alloc _ _=w1
 obtain ⟨hb,hz⟩:=al3 hW
 have b_a_1:=n31 hW
 have b_b_1:=n32 hW
 have b_r_1:=n33 hW
 have HB1:=zE hb
 clear hW hz hb
 refine (aj (t:=⟨3,x,s,l⟩) (vs:=[_,_,_,_]) (HA.out.below HB1.out hB) (zF hB HB1.out.size)).mono ?_
 rintro x w2 ⟨rfl,hb⟩
 have b_a_2:=b_a_1.later hb
 have b_b_2:=b_b_1.later hb
 have b_r_2:=b_r_1.later hb
 have HB2:=zE (ab HB1.out hb)
 clear b_a_1 b_b_1 b_r_1
 clear hb
 rw [FA.out]
 have k_a:=b_a_2.cell
 have k_b:=b_b_2.cell
 have k_r:=b_r_2.cell
 go_wp2_with fail
 clear k_a k_b k_r
 refine (aj (t:=⟨3,y,s',l'⟩) (vs:=[_,_,_,_]) (HB_.out.below HB2.out hB) (zF hB HB2.out.size)).mono ?_
 rintro x w3 ⟨rfl,hb⟩
 have b_a_3:=b_a_2.later hb
 have b_b_3:=b_b_2.later hb
 have b_r_3:=b_r_2.later hb
 have HB3:=zE (ab HB2.out hb)
 clear b_a_2 b_b_2 b_r_2
 clear hb
 rw [FB.out]
 have k_a:=b_a_3.cell
 have k_b:=b_b_3.cell
 have k_r:=b_r_3.cell
 go_wp2_with fail
 clear k_a k_b k_r
 refine (aX 14 3 3 _).mono ?_
 rintro x w4 ⟨rfl,hb⟩
 have b_a_4:=b_a_3.later hb
 have b_b_4:=b_b_3.later hb
 have b_r_4:=b_r_3.later hb
 have HB4:=zE (ab HB3.out hb)
 clear b_a_3 b_b_3 b_r_3
 clear hb
 rw [HK.out]
 have k_a:=b_a_4.cell
 have k_b:=b_b_4.cell
 have k_r:=b_r_4.cell
 go_wp2_with fail
 clear k_a k_b k_r
 refine (rN (p:=s') (t:=s) (by omega) (by omega)).mono ?_
 rintro x w5 ⟨rfl,hb⟩
 have b_a_5:=b_a_4.later hb
 have b_b_5:=b_b_4.later hb
 have b_r_5:=b_r_4.later hb
 have HB5:=zE (ab HB4.out hb)
 clear b_a_4 b_b_4 b_r_4
 clear hb
 rw [hz]
 clear hz
 have k_a:=b_a_5.cell
 have k_b:=b_b_5.cell
 have k_r:=b_r_5.cell
 go_wp2_with fail
 clear k_a k_b k_r
 refine (eh _ _).mono ?_
 rintro x w6 ⟨rfl,hb⟩
 have b_a_6:=b_a_5.later hb
 have b_b_6:=b_b_5.later hb
 have b_r_6:=b_r_5.later hb
 have HB6:=zE (ab HB5.out hb)
 clear b_a_5 b_b_5 b_r_5
 clear hb
 have k_a:=b_a_6.cell
 have k_b:=b_b_6.cell
 have k_r:=b_r_6.cell
 have f_r:=b_r_6.free
 go_wp2_with fail
 refine bodyPost_ret (aq rfl rfl (put4 b_r_6 HB6.out (by omega)).1 rfl) rfl ?_
 exact ⟨rfl,(put4 b_r_6 HB6.out (by omega)).2⟩
theorem qq {x y:Int} {d d' B:Nat} {s s':ByteArray} {l l':List Tm} {vs ws:List Value} {w:World} (ha:RTm w B d ⟨3,x,s,l⟩ vs) (hb:RTm w B d' ⟨3,y,s',l'⟩ ws) (hB:B≤w.heap.size) (fa:af ⟨3,x,s,l⟩=true) (fb:af ⟨3,y,s',l'⟩=true) (hz:(fS s' s false).2≠0) :
 Calls Tryz.prog 247 #[.int .i64 14,.agg vs.toArray,.agg ws.toArray] w fun z w'=>z=bO 0 0 emp (fS s' s false).2∧Below w.heap.size w w':=by
 obtain ⟨A,c,rfl,q1,q2,q3,q4,q5,_⟩:=ha.cells
 obtain ⟨A',c',rfl,r1,r2,r3,r4,r5,_⟩:=hb.cells
 have HA:=zE ha
 have HB_:=zE hb
 simp only at q2 q3 q4 q5 r2 r3 r4 r5
 clear ha hb
 have FA:=zE fa
 have FB:=zE fb
 have HK:Hid (aJ 14 3 3=true):=zE (by decide)
 clear fa fb
 go_enter Tryz.func247,Tryz.ntmps247
 go_wp2_with fail
 generalize hW:World.alloc _ _=w1
 obtain ⟨hb,hz⟩:=al3 hW
 have b_a_1:=n31 hW
 have b_b_1:=n32 hW
 have b_r_1:=n33 hW
 have HB1:=zE hb
 clear hW hz hb
 refine (aj (t:=⟨3,x,s,l⟩) (vs:=[_,_,_,_]) (HA.out.below HB1.out hB) (zF hB HB1.out.size)).mono ?_
 rintro x w2 ⟨rfl,hb⟩
 have b_a_2:=b_a_1.later hb
 have b_b_2:=b_b_1.later hb
 have b_r_2:=b_r_1.later hb
 have HB2:=zE (ab HB1.out hb)
 clear b_a_1 b_b_1 b_r_1
 clear hb
 rw [FA.out]
 have k_a:=b_a_2.cell
 have k_b:=b_b_2.cell
 have k_r:=b_r_2.cell
 go_wp2_with fail
 clear k_a k_b k_r
 refine (aj (t:=⟨3,y,s',l'⟩) (vs:=[_,_,_,_]) (HB_.out.below HB2.out hB) (zF hB HB2.out.size)).mono ?_
 rintro x w3 ⟨rfl,hb⟩
 have b_a_3:=b_a_2.later hb
 have b_b_3:=b_b_2.later hb
 have b_r_3:=b_r_2.later hb
 have HB3:=zE (ab HB2.out hb)
 clear b_a_2 b_b_2 b_r_2
 clear hb
 rw [FB.out]
 have k_a:=b_a_3.cell
 have k_b:=b_b_3.cell
 have k_r:=b_r_3.cell
 go_wp2_with fail
 clear k_a k_b k_r
 refine (aX 14 3 3 _).mono ?_
 rintro x w4 ⟨rfl,hb⟩
 have b_a_4:=b_a_3.later hb
 have b_b_4:=b_b_3.later hb
 have b_r_4:=b_r_3.later hb
 have HB4:=zE (ab HB3.out hb)
 clear b_a_3 b_b_3 b_r_3
 clear hb
 rw [HK.out]
 have k_a:=b_a_4.cell
 have k_b:=b_b_4.cell
 have k_r:=b_r_4.cell
 go_wp2_with fail
 clear k_a k_b k_r
 refine (rN (p:=s') (t:=s) (by omega) (by omega)).mono ?_
 rintro x w5 ⟨rfl,hb⟩
 have b_a_5:=b_a_4.later hb
 have b_b_5:=b_b_4.later hb
 have b_r_5:=b_r_4.later hb
 have HB5:=zE (ab HB4.out hb)
 clear b_a_4 b_b_4 b_r_4
 clear hb
 have hq:(((fS s' s false).2:Int) !=0)=true:=by simpa using hz
 clear hz
 have k_a:=b_a_5.cell
 have k_b:=b_b_5.cell
 have k_r:=b_r_5.cell
 have f_r:=b_r_5.free
 go_wp2_with fail
 refine bodyPost_ret (aq rfl rfl (put4 b_r_5 HB5.out (by omega)).1 rfl) rfl ?_
 exact ⟨rfl,(put4 b_r_5 HB5.out (by omega)).2⟩
theorem un_bad {code x ka:Int} {d B:Nat} {s:ByteArray} {l:List Tm} {vs:List Value} {w:World} (ha:RTm w B d ⟨ka,x,s,l⟩ vs) (hB:B≤w.heap.size) (fa:af ⟨ka,x,s,l⟩=false) :
 Calls Tryz.prog 246 #[.int .i64 code,.agg vs.toArray] w fun z w'=>z=bO 0 0 emp 1∧Below w.heap.size w w':=by
 obtain ⟨A,c,rfl,q1,q2,q3,q4,q5,_⟩:=ha.cells
 have HA:=zE ha
 simp only at q2 q3 q4 q5
 clear ha
 have FA:=zE fa
 clear fa
 go_enter Tryz.func246,Tryz.ntmps246
 go_wp2_with fail
 generalize hW:World.alloc _ _=w1
 obtain ⟨hb,hz⟩:=al2 hW
 have b_a_1:=n21 hW
 have b_r_1:=n22 hW
 have HB1:=zE hb
 clear hW hz hb
 refine (aj (t:=⟨ka,x,s,l⟩) (vs:=[_,_,_,_]) (HA.out.below HB1.out hB) (zF hB HB1.out.size)).mono ?_
 rintro x w2 ⟨rfl,hb⟩
 have b_a_2:=b_a_1.later hb
 have b_r_2:=b_r_1.later hb
 have HB2:=zE (ab HB1.out hb)
 clear b_a_1 b_r_1
 clear hb
 rw [FA.out]
 have k_a:=b_a_2.cell
 have k_r:=b_r_2.cell
 have f_r:=b_r_2.free
 go_wp2_with fail
 refine bodyPost_ret (aq rfl rfl (put4 b_r_2 HB2.out (by omega)).1 rfl) rfl ?_
 exact ⟨rfl,(put4 b_r_2 HB2.out (by omega)).2⟩
theorem un_lo {code x ka:Int} {d B:Nat} {s:ByteArray} {l:List Tm} {vs:List Value} {w:World} (ha:RTm w B d ⟨ka,x,s,l⟩ vs) (hB:B≤w.heap.size) (fa:af ⟨ka,x,s,l⟩=true) (hc:code<1) :
 Calls Tryz.prog 246 #[.int .i64 code,.agg vs.toArray] w fun z w'=>z=bO 0 0 emp 1∧Below w.heap.size w w':=by
 obtain ⟨A,c,rfl,q1,q2,q3,q4,q5,_⟩:=ha.cells
 have HA:=zE ha
 simp only at q2 q3 q4 q5
 clear ha
 have FA:=zE fa
 clear fa
 have hq0:decide (code<1)=true:=by simp;omega
 go_enter Tryz.func246,Tryz.ntmps246
 go_wp2_with fail
 generalize hW:World.alloc _ _=w1
 obtain ⟨hb,hz⟩:=al2 hW
 have b_a_1:=n21 hW
 have b_r_1:=n22 hW
 have HB1:=zE hb
 clear hW hz hb
 refine (aj (t:=⟨ka,x,s,l⟩) (vs:=[_,_,_,_]) (HA.out.below HB1.out hB) (zF hB HB1.out.size)).mono ?_
 rintro x w2 ⟨rfl,hb⟩
 have b_a_2:=b_a_1.later hb
 have b_r_2:=b_r_1.later hb
 have HB2:=zE (ab HB1.out hb)
 clear b_a_1 b_r_1
 clear hb
 rw [FA.out]
 have k_a:=b_a_2.cell
 have k_r:=b_r_2.cell
 have f_r:=b_r_2.free
 go_wp2_with fail
 refine bodyPost_ret (aq rfl rfl (put4 b_r_2 HB2.out (by omega)).1 rfl) rfl ?_
 exact ⟨rfl,(put4 b_r_2 HB2.out (by omega)).2⟩
theorem un_hi {code x ka:Int} {d B:Nat} {s:ByteArray} {l:List Tm} {vs:List Value} {w:World} (ha:RTm w B d ⟨ka,x,s,l⟩ vs) (hB:B≤w.heap.size) (fa:af ⟨ka,x,s,l⟩=true) (hc:3<code) :
 Calls Tryz.prog 246 #[.int .i64 code,.agg vs.toArray] w fun z w'=>z=bO 0 0 emp 1∧Below w.heap.size w w':=by
 obtain ⟨A,c,rfl,q1,q2,q3,q4,q5,_⟩:=ha.cells
 have HA:=zE ha
 simp only at q2 q3 q4 q5
 clear ha
 have FA:=zE fa
 clear fa
 have hq0:decide (code<1)=false:=by simp;omega
 have hq1:decide (3<code)=true:=by simp;omega
 go_enter Tryz.func246,Tryz.ntmps246
 go_wp2_with fail
 generalize hW:World.alloc _ _=w1
 obtain ⟨hb,hz⟩:=al2 hW
 have b_a_1:=n21 hW
 have b_r_1:=n22 hW
 have HB1:=zE hb
 clear hW hz hb
 refine (aj (t:=⟨ka,x,s,l⟩) (vs:=[_,_,_,_]) (HA.out.below HB1.out hB) (zF hB HB1.out.size)).mono ?_
 rintro x w2 ⟨rfl,hb⟩
 have b_a_2:=b_a_1.later hb
 have b_r_2:=b_r_1.later hb
 have HB2:=zE (ab HB1.out hb)
 clear b_a_1 b_r_1
 clear hb
 rw [FA.out]
 have k_a:=b_a_2.cell
 have k_r:=b_r_2.cell
 have f_r:=b_r_2.free
 go_wp2_with fail
 refine bodyPost_ret (aq rfl rfl (put4 b_r_2 HB2.out (by omega)).1 rfl) rfl ?_
 exact ⟨rfl,(put4 b_r_2 HB2.out (by omega)).2⟩
theorem un_not {x:Int} {d B:Nat} {s:ByteArray} {l:List Tm} {vs:List Value} {w:World} (ha:RTm w B d ⟨6,x,s,l⟩ vs) (hB:B≤w.heap.size) (fa:af ⟨6,x,s,l⟩=true) :
 Calls Tryz.prog 246 #[.int .i64 1,.agg vs.toArray] w fun z w'=>z=bO 6 (bit (decide (x=0))) emp 0∧Below w.heap.size w w':=by
 obtain ⟨A,c,rfl,q1,q2,q3,q4,q5,_⟩:=ha.cells
 have HA:=zE ha
 simp only at q2 q3 q4 q5
 clear ha
 have FA:=zE fa
 have HD:Hid ((x==0)=decide (x=0)):=zE (by rw [Bool.eq_iff_iff];simp)
 clear fa
 go_enter Tryz.func246,Tryz.ntmps246
 go_wp2_with fail
 generalize hW:World.alloc _ _=w1
 obtain ⟨hb,hz⟩:=al2 hW
 have b_a_1:=n21 hW
 have b_r_1:=n22 hW
 have HB1:=zE hb
 clear hW hz hb
 refine (aj (t:=⟨6,x,s,l⟩) (vs:=[_,_,_,_]) (HA.out.below HB1.out hB) (zF hB HB1.out.size)).mono ?_
 rintro x w2 ⟨rfl,hb⟩
 have b_a_2:=b_a_1.later hb
 have b_r_2:=b_r_1.later hb
 have HB2:=zE (ab HB1.out hb)
 clear b_a_1 b_r_1
 clear hb
 rw [FA.out]
 have k_a:=b_a_2.cell
 have k_r:=b_r_2.cell
 go_wp2_with fail
 clear k_a k_r
 rw [HD.out]
 refine (eh _ _).mono ?_
 rintro x w3 ⟨rfl,hb⟩
 have b_a_3:=b_a_2.later hb
 have b_r_3:=b_r_2.later hb
 have HB3:=zE (ab HB2.out hb)
 clear b_a_2 b_r_2
 clear hb
 have k_a:=b_a_3.cell
 have k_r:=b_r_3.cell
 have f_r:=b_r_3.free
 go_wp2_with fail
 refine bodyPost_ret (aq rfl rfl (put4 b_r_3 HB3.out (by omega)).1 rfl) rfl ?_
 exact ⟨rfl,(put4 b_r_3 HB3.out (by omega)).2⟩
theorem un_neg {x:Int} {d B:Nat} {s:ByteArray} {l:List Tm} {vs:List Value} {w:World} (ha:RTm w B d ⟨2,x,s,l⟩ vs) (hB:B≤w.heap.size) (fa:af ⟨2,x,s,l⟩=true) {k n e:Int} (hr:mW 8 0 x=(k,n,e)) :
 Calls Tryz.prog 246 #[.int .i64 2,.agg vs.toArray] w fun z w'=>z=bO k n emp e∧Below w.heap.size w w':=by
 obtain ⟨A,c,rfl,q1,q2,q3,q4,q5,_⟩:=ha.cells
 have HA:=zE ha
 simp only at q2 q3 q4 q5
 clear ha
 have FA:=zE fa
 have HR:=zE hr
 clear fa hr
 go_enter Tryz.func246,Tryz.ntmps246
 go_wp2_with fail
 generalize hW:World.alloc _ _=w1
 obtain ⟨hb,hz⟩:=al2 hW
 have b_a_1:=n21 hW
 have b_r_1:=n22 hW
 have HB1:=zE hb
 clear hW hz hb
 refine (aj (t:=⟨2,x,s,l⟩) (vs:=[_,_,_,_]) (HA.out.below HB1.out hB) (zF hB HB1.out.size)).mono ?_
 rintro x w2 ⟨rfl,hb⟩
 have b_a_2:=b_a_1.later hb
 have b_r_2:=b_r_1.later hb
 have HB2:=zE (ab HB1.out hb)
 clear b_a_1 b_r_1
 clear hb
 rw [FA.out]
 have k_a:=b_a_2.cell
 have k_r:=b_r_2.cell
 go_wp2_with fail
 clear k_a k_r
 refine (mX 8 0 x k n e (by omega) (by unfold I64;omega) q5 HR.out _).mono ?_
 rintro x w3 ⟨rfl,hb⟩
 have b_a_3:=b_a_2.later hb
 have b_r_3:=b_r_2.later hb
 have HB3:=zE (ab HB2.out hb)
 clear b_a_2 b_r_2
 clear hb
 have k_a:=b_a_3.cell
 have k_r:=b_r_3.cell
 have f_r:=b_r_3.free
 go_wp2_with fail
 refine bodyPost_ret (aq rfl rfl (put4 b_r_3 HB3.out (by omega)).1 rfl) rfl ?_
 exact ⟨rfl,(put4 b_r_3 HB3.out (by omega)).2⟩
theorem un_len5 {x:Int} {d B:Nat} {s:ByteArray} {l:List Tm} {vs:List Value} {w:World} (ha:RTm w B d ⟨5,x,s,l⟩ vs) (hB:B≤w.heap.size) (fa:af ⟨5,x,s,l⟩=true) :
 Calls Tryz.prog 246 #[.int .i64 3,.agg vs.toArray] w fun z w'=>z=bO 2 s.size emp 0∧Below w.heap.size w w':=by
 obtain ⟨A,c,rfl,q1,q2,q3,q4,q5,_⟩:=ha.cells
 have HA:=zE ha
 simp only at q2 q3 q4 q5
 clear ha
 have FA:=zE fa
 clear fa
 go_enter Tryz.func246,Tryz.ntmps246
 go_wp2_with fail
 generalize hW:World.alloc _ _=w1
 obtain ⟨hb,hz⟩:=al2 hW
 have b_a_1:=n21 hW
 have b_r_1:=n22 hW
 have HB1:=zE hb
 clear hW hz hb
 refine (aj (t:=⟨5,x,s,l⟩) (vs:=[_,_,_,_]) (HA.out.below HB1.out hB) (zF hB HB1.out.size)).mono ?_
 rintro x w2 ⟨rfl,hb⟩
 have b_a_2:=b_a_1.later hb
 have b_r_2:=b_r_1.later hb
 have HB2:=zE (ab HB1.out hb)
 clear b_a_1 b_r_1
 clear hb
 rw [FA.out]
 have k_a:=b_a_2.cell
 have k_r:=b_r_2.cell
 go_wp2_with fail
 clear k_a k_r
 refine (bB _ _).mono ?_
 rintro x w3 ⟨rfl,hb⟩
 have b_a_3:=b_a_2.later hb
 have b_r_3:=b_r_2.later hb
 have HB3:=zE (ab HB2.out hb)
 clear b_a_2 b_r_2
 clear hb
 have k_a:=b_a_3.cell
 have k_r:=b_r_3.cell
 have f_r:=b_r_3.free
 go_wp2_with fail
 refine bodyPost_ret (aq rfl rfl (put4 b_r_3 HB3.out (by omega)).1 rfl) rfl ?_
 exact ⟨rfl,(put4 b_r_3 HB3.out (by omega)).2⟩
theorem un_len7 {x:Int} {d B:Nat} {s:ByteArray} {l:List Tm} {vs:List Value} {w:World} (ha:RTm w B d ⟨7,x,s,l⟩ vs) (hB:B≤w.heap.size) (fa:af ⟨7,x,s,l⟩=true) :
 Calls Tryz.prog 246 #[.int .i64 3,.agg vs.toArray] w fun z w'=>z=bO 2 l.length emp 0∧Below w.heap.size w w':=by
 obtain ⟨A,c,rfl,q1,q2,q3,q4,q5,_⟩:=ha.cells
 have HA:=zE ha
 simp only at q2 q3 q4 q5
 clear ha
 have FA:=zE fa
 clear fa
 go_enter Tryz.func246,Tryz.ntmps246
 go_wp2_with fail
 generalize hW:World.alloc _ _=w1
 obtain ⟨hb,hz⟩:=al2 hW
 have b_a_1:=n21 hW
 have b_r_1:=n22 hW
 have HB1:=zE hb
 clear hW hz hb
 refine (aj (t:=⟨7,x,s,l⟩) (vs:=[_,_,_,_]) (HA.out.below HB1.out hB) (zF hB HB1.out.size)).mono ?_
 rintro x w2 ⟨rfl,hb⟩
 have b_a_2:=b_a_1.later hb
 have b_r_2:=b_r_1.later hb
 have HB2:=zE (ab HB1.out hb)
 clear b_a_1 b_r_1
 clear hb
 rw [FA.out]
 have k_a:=b_a_2.cell
 have k_r:=b_r_2.cell
 go_wp2_with fail
 clear k_a k_r
 refine (bB _ _).mono ?_
 rintro x w3 ⟨rfl,hb⟩
 have b_a_3:=b_a_2.later hb
 have b_r_3:=b_r_2.later hb
 have HB3:=zE (ab HB2.out hb)
 clear b_a_2 b_r_2
 clear hb
 have k_a:=b_a_3.cell
 have k_r:=b_r_3.cell
 have f_r:=b_r_3.free
 go_wp2_with fail
 refine bodyPost_ret (aq rfl rfl (put4 b_r_3 HB3.out (by omega)).1 rfl) rfl ?_
 exact ⟨rfl,(put4 b_r_3 HB3.out (by omega)).2⟩
theorem yQ {x ka:Int} {d B:Nat} {s:ByteArray} {l:List Tm} {vs:List Value} {w:World} (ha:RTm w B d ⟨ka,x,s,l⟩ vs) (hB:B≤w.heap.size) (fa:af ⟨ka,x,s,l⟩=true) (h6:ka≠6) :
 Calls Tryz.prog 246 #[.int .i64 1,.agg vs.toArray] w fun z w'=>z=bO 0 0 emp 7∧Below w.heap.size w w':=by
 obtain ⟨A,c,rfl,q1,q2,q3,q4,q5,_⟩:=ha.cells
 have HA:=zE ha
 simp only at q2 q3 q4 q5
 clear ha
 have FA:=zE fa
 clear fa
 have hq6:(ka==6)=false:=by simpa using h6
 go_enter Tryz.func246,Tryz.ntmps246
 go_wp2_with fail
 generalize hW:World.alloc _ _=w1
 obtain ⟨hb,hz⟩:=al2 hW
 have b_a_1:=n21 hW
 have b_r_1:=n22 hW
 have HB1:=zE hb
 clear hW hz hb
 refine (aj (t:=⟨ka,x,s,l⟩) (vs:=[_,_,_,_]) (HA.out.below HB1.out hB) (zF hB HB1.out.size)).mono ?_
 rintro x w2 ⟨rfl,hb⟩
 have b_a_2:=b_a_1.later hb
 have b_r_2:=b_r_1.later hb
 have HB2:=zE (ab HB1.out hb)
 clear b_a_1 b_r_1
 clear hb
 rw [FA.out]
 have k_a:=b_a_2.cell
 have k_r:=b_r_2.cell
 have f_r:=b_r_2.free
 go_wp2_with fail
 refine bodyPost_ret (aq rfl rfl (put4 b_r_2 HB2.out (by omega)).1 rfl) rfl ?_
 exact ⟨rfl,(put4 b_r_2 HB2.out (by omega)).2⟩
theorem yR {x ka:Int} {d B:Nat} {s:ByteArray} {l:List Tm} {vs:List Value} {w:World} (ha:RTm w B d ⟨ka,x,s,l⟩ vs) (hB:B≤w.heap.size) (fa:af ⟨ka,x,s,l⟩=true) (h2:ka≠2) :
 Calls Tryz.prog 246 #[.int .i64 2,.agg vs.toArray] w fun z w'=>z=bO 0 0 emp 7∧Below w.heap.size w w':=by
 obtain ⟨A,c,rfl,q1,q2,q3,q4,q5,_⟩:=ha.cells
 have HA:=zE ha
 simp only at q2 q3 q4 q5
 clear ha
 have FA:=zE fa
 clear fa
 have hq2:(ka==2)=false:=by simpa using h2
 go_enter Tryz.func246,Tryz.ntmps246
 go_wp2_with fail
 generalize hW:World.alloc _ _=w1
 obtain ⟨hb,hz⟩:=al2 hW
 have b_a_1:=n21 hW
 have b_r_1:=n22 hW
 have HB1:=zE hb
 clear hW hz hb
 refine (aj (t:=⟨ka,x,s,l⟩) (vs:=[_,_,_,_]) (HA.out.below HB1.out hB) (zF hB HB1.out.size)).mono ?_
 rintro x w2 ⟨rfl,hb⟩
 have b_a_2:=b_a_1.later hb
 have b_r_2:=b_r_1.later hb
 have HB2:=zE (ab HB1.out hb)
 clear b_a_1 b_r_1
 clear hb
 rw [FA.out]
 have k_a:=b_a_2.cell
 have k_r:=b_r_2.cell
 have f_r:=b_r_2.free
 go_wp2_with fail
 refine bodyPost_ret (aq rfl rfl (put4 b_r_2 HB2.out (by omega)).1 rfl) rfl ?_
 exact ⟨rfl,(put4 b_r_2 HB2.out (by omega)).2⟩
theorem yS {x ka:Int} {d B:Nat} {s:ByteArray} {l:List Tm} {vs:List Value} {w:World} (ha:RTm w B d ⟨ka,x,s,l⟩ vs) (hB:B≤w.heap.size) (fa:af ⟨ka,x,s,l⟩=true) (h3:ka≠3) (h5:ka≠5) (h7:ka≠7) :
 Calls Tryz.prog 246 #[.int .i64 3,.agg vs.toArray] w fun z w'=>z=bO 0 0 emp 7∧Below w.heap.size w w':=by
 obtain ⟨A,c,rfl,q1,q2,q3,q4,q5,_⟩:=ha.cells
 have HA:=zE ha
 simp only at q2 q3 q4 q5
 clear ha
 have FA:=zE fa
 clear fa
 have hq3:(ka==3)=false:=by simpa using h3
 have hq5:(ka==5)=false:=by simpa using h5
 have hq7:(ka==7)=false:=by simpa using h7
 go_enter Tryz.func246,Tryz.ntmps246
 go_wp2_with fail
 generalize hW:World.alloc _ _=w1
 obtain ⟨hb,hz⟩:=al2 hW
 have b_a_1:=n21 hW
 have b_r_1:=n22 hW
 have HB1:=zE hb
 clear hW hz hb
 refine (aj (t:=⟨ka,x,s,l⟩) (vs:=[_,_,_,_]) (HA.out.below HB1.out hB) (zF hB HB1.out.size)).mono ?_
 rintro x w2 ⟨rfl,hb⟩
 have b_a_2:=b_a_1.later hb
 have b_r_2:=b_r_1.later hb
 have HB2:=zE (ab HB1.out hb)
 clear b_a_1 b_r_1
 clear hb
 rw [FA.out]
 have k_a:=b_a_2.cell
 have k_r:=b_r_2.cell
 have f_r:=b_r_2.free
 go_wp2_with fail
 refine bodyPost_ret (aq rfl rfl (put4 b_r_2 HB2.out (by omega)).1 rfl) rfl ?_
 exact ⟨rfl,(put4 b_r_2 HB2.out (by omega)).2⟩
end Go.Proofs.YtdphibjibnffeaaGreat
