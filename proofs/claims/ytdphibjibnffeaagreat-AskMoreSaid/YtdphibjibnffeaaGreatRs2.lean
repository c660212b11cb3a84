/- viaticumref18.Compare. -/
import Derived.Test.YtdphibjibnffeaaGreatTerm5
import Derived.Test.YtdphibjibnffeaaGreatOwn
import Derived.Test.YtdphibjibnffeaaGreatHeldA
import Derived.Deep.CutRange
import Derived.Test.YtdphibjibnffeaaGreatShelf
import Derived.Test.YtdphibjibnffeaaGreatHeap1
set_option linter.unusedVariables false
set_option linter.unusedSimpArgs false
set_option maxRecDepth 100000
set_option maxHeartbeats 8000000
namespace Go.Proofs.YtdphibjibnffeaaGreat
open Go.ChangeShapes Go.WideShapes Go.ChangeAt Go.RowKit
theorem ib (b:Bool) (w:World) :
 Calls Tryz.prog 269 #[.bool b] w fun e w'=>e=.returned (.int .i64 (if b then -1 else 1))∧w=w':=by
 cases b
 all_goals
  go_enter Tryz.func269,Tryz.ntmps269
  go_wp2_with fail
  go_ret
  exact ⟨rfl,rfl⟩
theorem cM (c:Int) (w:World) (h0:0≤c) (h1:c≤255) :
 Calls Tryz.prog 120 #[.int .u8 c] w fun e w'=>e=.returned (.bool (eX c))∧w=w':=by
 have hc:(97≤c∧c≤122)∨(65≤c∧c≤90)∨(c<65)∨(90<c∧c<97)∨122<c:=by omega
 rcases hc with h | h | h | h | h
 all_goals
  go_enter Tryz.func120,Tryz.ntmps120
  go_wp2_with fail
  go_ret
  refine ⟨ac ?_,rfl⟩
  rw [Bool.eq_iff_iff,hI]
  simp
  try omega
theorem oS (c:Int) (w:World) (h0:0≤c) (h1:c≤255) :
 Calls Tryz.prog 121 #[.int .u8 c] w fun e w'=>e=.returned (.bool (cW 1 c))∧w=w':=by
 by_cases hl:eX c=true
 ·go_enter Tryz.func121,Tryz.ntmps121
  go_wp2_with fail
  refine (cM c w h0 h1).mono ?_
  rintro e w1 ⟨rfl,rfl⟩
  rw [hl]
  go_wp2_with fail
  go_ret
  exact ⟨ac (by simp [cW,hl]),rfl⟩
 ·simp only [Bool.not_eq_true] at hl
  have hc:(48≤c∧c≤57)∨c=95∨c=58∨c<48∨(58<c∧c<95)∨95<c:=by omega
  rcases hc with h | rfl | rfl | h | h | h
  all_goals
   go_enter Tryz.func121,Tryz.ntmps121
   go_wp2_with fail
   refine (cM _ w h0 h1).mono ?_
   rintro e w1 ⟨rfl,rfl⟩
   rw [hl]
   go_wp2_with fail
   go_ret
   refine ⟨ac ?_,rfl⟩
   rw [Bool.eq_iff_iff,dL]
   have hl2:=hl
   rw [Bool.eq_false_iff,ne_eq,hI] at hl2
   simp
   try omega
theorem iE {s:ByteArray} (h:¬(((∀i,(h:i<s.size)→cW i s[i].toNat=true)∧1≤s.size∧s.size≤32)∧Lib.hasPrefix (bs s) (bs tn)=false)):false=dW (bs s):=by
 rw [eq_comm,Bool.eq_false_iff,ne_eq,eK]
 exact h
theorem nc (s:ByteArray) (w:World) (hs:s.size≤maxLen) (t1:¬(1≤s.size∧s.size≤32)) :
 Calls Tryz.prog 64 #[.string s] w fun e w'=>e=.returned (.bool (dW (bs s)))∧w=w':=by
 unfold maxLen at hs
 go_enter Tryz.func64,Tryz.ntmps64
 go_wp2_with fail
 all_goals
  go_ret
  exact ⟨ac (iE (by omega)),rfl⟩
theorem hexQ {s:ByteArray} (h:4≤s.size):((s.extract 0 4).toList==[104,101,120,58])=Lib.hasPrefix (bs s) (bs tn):=by
 rw [←Lib.hasPrefix_of_take,←Lib.size_eq,←Lib.size_eq]
 have e:tn.toList=[104,101,120,58]:=by rw [ByteArray.toList_eq];rfl
 have h4:tn.size=4:=rfl
 rw [←e,dn,Bool.eq_iff_iff]
 simp [h4,h,Lib.extract_data]
theorem hexN {s:ByteArray} (h:s.size<4):Lib.hasPrefix (bs s) (bs tn)=false:=by
 rw [←Lib.hasPrefix_of_take,←Lib.size_eq,←Lib.size_eq]
 have h4:tn.size=4:=rfl
 simp [h4]
 omega
theorem ec (s:ByteArray) (w:World) (hs:s.size≤maxLen) :
 Calls Tryz.prog 64 #[.string s] w fun e w'=>e=.returned (.bool (dW (bs s)))∧w=w':=by
 by_cases t1:1≤s.size∧s.size≤32
 rotate_left
 ·exact nc s w hs t1
 unfold maxLen at hs
 have hb:(s[0].toNat:Int)≤255:=by have:=s[0].toNat_lt;omega
 by_cases hl:eX s[0].toNat=true
 rotate_left
 ·simp only [Bool.not_eq_true] at hl
  go_enter Tryz.func64,Tryz.ntmps64
  go_wp2_with fail
  refine (cM _ w (by omega) (by omega)).mono ?_
  rintro e w1 ⟨rfl,rfl⟩
  rw [hl]
  go_wp2_with fail
  go_ret
  refine ⟨ac (iE fun h=>?_),rfl⟩
  have:=h.1.1 0 (by omega)
  rw [cW,hl] at this
  simp at this
 have HL0:=yW hl
 have key:(4≤s.size∧((s.extract 0 4).toList==[104,101,120,58])=true)∨(Lib.hasPrefix (bs s) (bs tn)=false∧4≤s.size∧((s.extract 0 4).toList==[104,101,120,58])=false)∨(Lib.hasPrefix (bs s) (bs tn)=false∧s.size<4):=by
  by_cases t4:4≤s.size
  ·cases hx:((s.extract 0 4).toList==[104,101,120,58])
   ·exact .inr (.inl ⟨by rw [←hexQ t4,hx],t4,rfl⟩)
   ·exact .inl ⟨t4,rfl⟩
  ·exact .inr (.inr ⟨hexN (by omega),by omega⟩)
 rcases key with ⟨t4,hx⟩ | hk
 ·have HX:=yW hx
  go_enter Tryz.func64,Tryz.ntmps64
  go_wp2_with fail
  refine (cM _ w (by omega) (by omega)).mono ?_
  rintro e w1 ⟨rfl,rfl⟩
  rw [hl]
  go_wp2_with fail
  go_ret
  refine ⟨ac (iE fun h=>?_),rfl⟩
  have h2:=h.2
  rw [←hexQ t4,HX.out] at h2
  cases h2
 have HP:=yW (show Lib.hasPrefix (bs s) (bs tn)=false by rcases hk with h | h<;>exact h.1)
 have hk':(4≤s.size∧((s.extract 0 4).toList==[104,101,120,58])=false)∨s.size<4:=by rcases hk with h | h<;>simp [h.2]
 clear hk
 rcases hk' with ⟨t4,hx⟩ | t4
 all_goals
  go_enter Tryz.func64,Tryz.ntmps64
  go_wp2_with fail
  refine (cM _ w (by omega) (by omega)).mono ?_
  rintro e w1 ⟨rfl,rfl⟩
  rw [hl]
  go_wp2_with fail
  go_loop [30] (fun i=>∃k:Nat,k≤s.size∧i=.int .i64 k∧(∀i,(h:i<k)→(h':i<s.size)→cW i s[i].toNat=true)) (fun i=>s.size-(intOf i).toNat)
  case atStart=>exact ⟨0,yZ _,rfl,fun i h=>by omega⟩
  case round=>
   obtain ⟨k,hk,rfl,hall⟩:=hrel
   have HA:=yW hall
   clear hall
   by_cases hlt:k<s.size
   ·have hbk:(s[k].toNat:Int)≤255:=by have:=s[k].toNat_lt;omega
    have HN:Hid (cW 1 s[k].toNat=true→cW k s[k].toNat=true):=by
     intro h1
     rcases Nat.eq_zero_or_pos k with rfl | hk0
     ·simp [cW,HL0.out]
     ·rw [dL] at h1 ⊢
      rcases h1 with h1 | h1
      ·exact .inl h1
      ·exact .inr ⟨by omega,h1.2⟩
    have HM:Hid (cW 1 s[k].toNat=false→¬cW k s[k].toNat=true):=by
     intro h1
     rw [Bool.eq_false_iff,ne_eq,dL] at h1
     rw [dL]
     intro h2
     apply h1
     rcases h2 with h2 | h2
     ·exact .inl h2
     ·exact .inr ⟨by omega,h2.2⟩
    go_wp2_with fail
    refine (oS _ w (by omega) (by omega)).mono ?_
    rintro e w1 ⟨rfl,rfl⟩
    by_cases hn:cW 1 s[k].toNat=true
    ·have HN2:=yW (HN.out hn)
     rw [hn]
     go_wp2_with fail
     go_round
     case rel=>exact ⟨k+1,by omega,by go_num,fun i h h'=>by
      rcases Nat.lt_or_ge i k with h1 | h1
      ·exact HA.out i h1 h'
      ·obtain rfl:i=k:=by omega
       exact HN2.out⟩
     case measure=>simp [intOf];omega
    ·simp only [Bool.not_eq_true] at hn
     have HN2:=yW (HM.out hn)
     rw [hn]
     go_wp2_with fail
     go_ret
     exact ⟨ac (iE fun h=>HN2.out (h.1.1 k hlt)),rfl⟩
   ·go_wp2_with fail
    go_ret
    refine ⟨ac ?_,rfl⟩
    show true=_
    rw [eq_comm,eK]
    exact ⟨⟨fun i hi=>HA.out i (by omega) hi,by omega,by omega⟩,HP.out⟩
theorem mM {x y:Int} (h:x≠y):cR x y=if x<y then -1 else 1:=by
 unfold cR
 split
 ·rfl
 ·rw [if_pos (by omega)]
theorem dO (x:Int):cR x x=0:=by
 unfold cR
 rw [if_neg (by omega),if_neg (by omega)]
theorem pJ {x y:List UInt8} (h:x≠y):cZ x y=if x<y then -1 else 1:=by
 unfold cZ
 split
 ·rfl
 ·rename_i h1
  rw [if_pos]
  rcases List.le_iff_lt_or_eq.1 (List.not_lt.1 h1) with h2 | h2
  ·exact h2
  ·exact absurd h2.symm h
theorem nH (x:List UInt8):cZ x x=0:=by
 unfold cZ
 rw [if_neg (List.lt_irrefl _),if_neg (List.lt_irrefl _)]
theorem pK {dp:Nat} {a b:Tm} (h:ik a b≠0):aU dp a b=ik a b:=by
 cases dp with
 | zero=>rfl
 | succ d=>unfold aU;rw [if_neg h]
theorem uh {dp:Nat} {a b:Tm} (h:a.kind≠b.kind):aU dp a b=if a.kind<b.kind then -1 else 1:=by
 have h1:cR a.kind b.kind≠0:=by rw [mM h];split<;>omega
 have h2:ik a b=cR a.kind b.kind:=by unfold ik or3;rw [if_neg h1]
 rw [pK (by rw [h2];exact h1),h2,mM h]
theorem cmpT_n {dp:Nat} {a b:Tm} (hk:a.kind=b.kind) (h:a.n≠b.n):aU dp a b=if a.n<b.n then -1 else 1:=by
 have h1:cR a.n b.n≠0:=by rw [mM h];split<;>omega
 have h2:ik a b=cR a.n b.n:=by unfold ik or3;rw [hk,dO,if_pos rfl,if_neg h1]
 rw [pK (by rw [h2];exact h1),h2,mM h]
theorem cmpT_s {dp:Nat} {a b:Tm} (hk:a.kind=b.kind) (hn:a.n=b.n) (h:bs a.s≠bs b.s):aU dp a b=if bs a.s<bs b.s then -1 else 1:=by
 have h1:cZ (bs a.s) (bs b.s)≠0:=by rw [pJ h];split<;>omega
 have h2:ik a b=cZ (bs a.s) (bs b.s):=by unfold ik or3;rw [hk,dO,if_pos rfl,hn,dO,if_pos rfl]
 rw [pK (by rw [h2];exact h1),h2,pJ h]
theorem tY {a b:Tm} (hk:a.kind=b.kind) (hn:a.n=b.n) (h:bs a.s=bs b.s):ik a b=0:=by
 unfold ik or3
 rw [hk,dO,if_pos rfl,hn,dO,if_pos rfl,h,nH]
theorem dt {m n:Int} (h:m=n):Ending.returned (.int .i64 m)=.returned (.int .i64 n):=by rw [h]
theorem iP (dp:Nat) (hdp:dp≤3)
 (ih:∀dp',dp=dp'+1→∀(d B:Nat) (a b:Tm) (va vb:List Value) (w:World),RTm w B d a va→RTm w B d b vb→B≤w.heap.size →
  Calls Tryz.prog 237 #[.agg va.toArray,.agg vb.toArray,.int .i64 (dp':Int)] w fun e w'=>e=.returned (.int .i64 (aU dp' a b))∧Below w.heap.size w w')
 (d B:Nat) (a b:Tm) (va vb:List Value) (w:World) (ha:RTm w B d a va) (hb:RTm w B d b vb) (hB:B≤w.heap.size) :
 Calls Tryz.prog 237 #[.agg va.toArray,.agg vb.toArray,.int .i64 (dp:Int)] w fun e w'=>e=.returned (.int .i64 (aU dp a b))∧Below w.heap.size w w':=by
 obtain ⟨Aa,ca,rfl,a1,a2,a3,a4,a5,hla⟩:=RTm.cells ha
 obtain ⟨Ab,cb,rfl,b1,b2,b3,b4,b5,hlb⟩:=RTm.cells hb
 have IH:=yW ih
 have HLA:=yW hla
 have HLB:=yW hlb
 have HW:=yW (((za w.heap.size w).alloc (yY _) (.cells #[.int .i64 a.kind,.int .i64 a.n,.string a.s,.slice Aa a.l.length ca] 79)).alloc (by simp) (.cells #[.int .i64 b.kind,.int .i64 b.n,.string b.s,.slice Ab b.l.length cb] 79))
 clear ih ha hb hla hlb
 by_cases k1:a.kind=b.kind
 rotate_left
 ·have K1:=yW k1
  have k1':(a.kind==b.kind)=false:=by simpa using k1
  clear k1
  go_enter Tryz.func237,Tryz.ntmps237
  go_wp2_with fail
  refine (ib _ _).mono ?_
  rintro e w1 ⟨rfl,rfl⟩
  go_wp2_with fail
  all_goals
   go_ret
   exact ⟨dt (by rw [uh K1.out];first | rw [if_pos (by assumption)] | rw [if_neg (by omega)]),HW.out⟩
 by_cases k2:a.n=b.n
 rotate_left
 ·have K1:=yW k1
  have K2:=yW k2
  have k1':(a.kind==b.kind)=true:=by simpa using k1
  have k2':(a.n==b.n)=false:=by simpa using k2
  clear k1 k2
  go_enter Tryz.func237,Tryz.ntmps237
  go_wp2_with fail
  refine (ib _ _).mono ?_
  rintro e w1 ⟨rfl,rfl⟩
  go_wp2_with fail
  all_goals
   go_ret
   exact ⟨dt (by rw [cmpT_n K1.out K2.out];first | rw [if_pos (by assumption)] | rw [if_neg (by omega)]),HW.out⟩
 by_cases k3:bs a.s=bs b.s
 rotate_left
 ·have K1:=yW k1
  have K2:=yW k2
  have K3:=yW k3
  have k1':(a.kind==b.kind)=true:=by simpa using k1
  have k2':(a.n==b.n)=true:=by simpa using k2
  have k3':(a.s.toList==b.s.toList)=false:=by rw [dn];simpa using k3
  clear k1 k2 k3
  go_enter Tryz.func237,Tryz.ntmps237
  go_wp2_with fail
  refine (ib _ _).mono ?_
  rintro e w1 ⟨rfl,rfl⟩
  go_wp2_with fail
  all_goals
   go_ret
   exact ⟨dt (by rw [cmpT_s K1.out K2.out K3.out];first | rw [if_pos ((iC _ _).1 (by assumption))] | rw [if_neg (fun h=>absurd ((iC _ _).2 h) (by assumption))]),HW.out⟩
 have K0:=yW (tY k1 k2 k3)
 have k1':(a.kind==b.kind)=true:=by simpa using k1
 have k2':(a.n==b.n)=true:=by simpa using k2
 have k3':(a.s.toList==b.s.toList)=true:=by rw [dn];simpa using k3
 clear k1 k2 k3
 rcases dp with _ | dp
 ·go_enter Tryz.func237,Tryz.ntmps237
  go_wp2_with fail
  go_ret
  exact ⟨dt K0.out.symm,HW.out⟩
 ·have hd1:(((dp+1:Nat):Int)==0)=false:=by simp;omega
  have HC:=yW (show aU (dp+1) a b=cF (aU dp) a.l b.l by unfold aU;rw [if_pos K0.out])
  clear HW
  go_enter Tryz.func237,Tryz.ntmps237
  go_wp2_with fail
  generalize hW:World.alloc _ _=W
  obtain ⟨hb,hz⟩:=al2 hW
  have ba:=n21 hW
  have bb:=n22 hW
  have HB:=yW hb
  have HZ:w.heap.size<W.heap.size:=by omega
  have HB1:B≤W.heap.size:=by omega
  clear hW hb hz
  go_loopw [52] (fun i wr=>∃k:Nat,k≤a.l.length∧i=.int .i64 k∧Below W.heap.size W wr∧Hid (cF (aU dp) a.l b.l=cF (aU dp) (a.l.drop k) (b.l.drop k))) (fun i _=>a.l.length-(intOf i).toNat)
  case atStart=>exact ⟨0,yZ _,rfl,za _ _,rfl⟩
  case round=>
   obtain ⟨k,hk,rfl,hbw,HE⟩:=hrel
   have ca:=(ba.later hbw).cell
   have cb:=(bb.later hbw).cell
   have la:=(ba.later hbw).lt
   have lb:=(bb.later hbw).lt
   have hfin:=yW (ab HB.out hbw)
   by_cases hlt:k<a.l.length
   ·have hla:=HLA.out.below HB.out hB
    have hlb:=HLB.out.below HB.out hB
    obtain ⟨oa,ofa,rfl,hoa⟩:=hla.base hbw HB1 (by omega)
    obtain ⟨x,Ax,cx,hx,c0,c1,c2,c3,hr⟩:=hla.at_ hbw HB1 hlt
    by_cases hlt2:k<b.l.length
    ·obtain ⟨ob,ofb,rfl,hob⟩:=hlb.base hbw HB1 (by omega)
     obtain ⟨y,Ay,cy,hy,e0,e1,e2,e3,hr'⟩:=hlb.at_ hbw HB1 hlt2
     have HL:=yW (And.intro hla hlb)
     have HR:=yW (And.intro hr hr')
     have HXY:=yW (And.intro hx hy)
     clear hla hlb hr hr' hx hy
     have hz:aU dp x y=0∨aU dp x y≠0:=by omega
     have HE2:Hid (cF (aU dp) a.l b.l=if aU dp x y=0 then cF (aU dp) (a.l.drop (k+1)) (b.l.drop (k+1)) else aU dp x y):=by
      obtain ⟨h1,h2⟩:=List.getElem?_eq_some_iff.1 HXY.out.1
      obtain ⟨h3,h4⟩:=List.getElem?_eq_some_iff.1 HXY.out.2
      have:=HE.out
      rw [List.drop_eq_getElem_cons h1,List.drop_eq_getElem_cons h3,h2,h4] at this
      exact this
     have hszr:=hbw.size
     have HZ2:=yW hz
     clear hz HE
     go_wp2_with fail
     generalize hW2:World.alloc _ _=W2
     obtain ⟨hb2,hz2⟩:=al1 hW2
     have q0:=(n11 hW2).regrown
     have q1:=((bb.later hbw).later hb2).regrown
     have q5:=cell_regrown ((hb2.cell (p:=⟨ob,ofb+k*4,none⟩) hob).trans e0)
     have q6:=cell_regrown ((hb2.cell (p:=⟨ob,ofb+k*4+1,none⟩) hob).trans e1)
     have q7:=cell_regrown ((hb2.cell (p:=⟨ob,ofb+k*4+2,none⟩) hob).trans e2)
     have q8:=cell_regrown ((hb2.cell (p:=⟨ob,ofb+k*4+3,none⟩) hob).trans e3)
     have HB2:=yW hb2
     have hB2:B≤W2.heap.size:=by omega
     have hwrap:IntKind.i64.wrap (((dp+1:Nat):Int)-1)=(dp:Int):=by
      rw [show (((dp+1:Nat):Int)-1)=(dp:Int) by omega]
      exact IntWalk.i64_in _ (by omega)
     clear hW2 hz2 hb2 ca cb la lb c0 c1 c2 c3 e0 e1 e2 e3
     refine wp_region_quiet_below (by kernel_rfl) (by kernel_rfl) ?_
     repeat (go_big_quiet_step ((go_at_call 237;exact Calls.regrown_of (IH.out dp rfl (d-1) B x y [_,_,_,_] [_,_,_,_] _ ((HR.out.1.below HB2.out (by omega)).below (below_regrown _ _ _) hB2) ((HR.out.2.below HB2.out (by omega)).below (below_regrown _ _ _) hB2) (yX hB2 (below_regrown _ _ _).size)))))
     refine wpQuiet_nil ?_
     intro w3 hw3
     have hb3:Below W2.heap.size W2 w3:=by obtain ⟨p,rfl⟩:=hw3;exact below_regrown _ _ _
     clear hw3 q0 q1 q5 q6 q7 q8
     have HB3:=yW (ab hbw (ab HB2.out hb3))
     have hfin3:=yW (ab HB.out HB3.out)
     clear hb3
     rcases HZ2.out with hz | hz
     ·have hz1:(aU dp x y !=0)=false:=by simpa using hz
      have HZ3:=yW hz
      clear hz
      go_wp2_with fail
      go_roundw
      case rel=>exact ⟨k+1,by omega,by go_num,HB3.out,by rw [HE2.out,if_pos HZ3.out];exact yW rfl⟩
      case measure=>simp [intOf];omega
     ·have hz1:(aU dp x y !=0)=true:=by simpa using hz
      have HZ3:=yW hz
      clear hz
      go_wp2_with fail
      go_ret
      exact ⟨dt (by rw [HC.out,HE2.out,if_neg HZ3.out]),hfin3.out⟩
    ·have HE2:Hid (cF (aU dp) a.l b.l=1):=by
      obtain ⟨h1,h2⟩:=List.getElem?_eq_some_iff.1 hx
      have:=HE.out
      rw [List.drop_eq_getElem_cons h1,List.drop_eq_nil_iff.2 (show b.l.length≤k by omega)] at this
      exact this
     have hfin2:=yW (fun o:Obj=>HB.out.trans ((hbw.alloc hbw.size o).mono HB.out.size))
     clear hx HE
     go_wp2_with fail
     go_ret
     exact ⟨dt (by rw [HC.out,HE2.out]),hfin2.out _⟩
   ·have hz:a.l.drop k=[]:=List.drop_eq_nil_iff.2 (by omega)
    have HE2:=HE.out
    rw [hz] at HE2
    have HE3:=yW HE2
    clear HE HE2 hz
    by_cases hlt2:a.l.length<b.l.length
    ·go_wp2_with fail
     go_ret
     obtain rfl:k=a.l.length:=by omega
     exact ⟨dt (by rw [HC.out,HE3.out,List.drop_eq_getElem_cons hlt2];rfl),hfin.out⟩
    ·go_wp2_with fail
     go_ret
     obtain rfl:k=a.l.length:=by omega
     exact ⟨dt (by rw [HC.out,HE3.out,List.drop_eq_nil_iff.2 (by omega)];rfl),hfin.out⟩
theorem lQ (dp:Nat):dp≤3→∀(d B:Nat) (a b:Tm) (va vb:List Value) (w:World),RTm w B d a va→RTm w B d b vb→B≤w.heap.size →
 Calls Tryz.prog 237 #[.agg va.toArray,.agg vb.toArray,.int .i64 (dp:Int)] w fun e w'=>e=.returned (.int .i64 (aU dp a b))∧Below w.heap.size w w':=by
 induction dp with
 | zero=>intro _ d B a b va vb w ha hb hB;exact iP 0 (by omega) (fun dp' h=>by omega) d B a b va vb w ha hb hB
 | succ dp ih=>intro h d B a b va vb w ha hb hB;exact iP (dp+1) h (fun dp' h'=>by obtain rfl:dp=dp':=(by omega);exact ih (by omega)) d B a b va vb w ha hb hB
theorem gO {d B:Nat} {a b:Tm} {va vb:List Value} {w:World} (ha:RTm w B d a va) (hb:RTm w B d b vb) (hB:B≤w.heap.size) :
 Calls Tryz.prog 189 #[.agg va.toArray,.agg vb.toArray] w fun e w'=>e=.returned (.int .i64 (aU 3 a b))∧Below w.heap.size w w':=by
 have HA:=yW (And.intro ha hb)
 obtain ⟨Aa,ca,rfl,a1,a2,a3,a4,a5,hla⟩:=RTm.cells ha
 obtain ⟨Ab,cb,rfl,b1,b2,b3,b4,b5,hlb⟩:=RTm.cells hb
 clear ha hb hla hlb
 go_enter Tryz.func189,Tryz.ntmps189
 go_wp2_with fail
 generalize hW:World.alloc _ _=W
 obtain ⟨hb,hz⟩:=al2 hW
 clear hW
 refine (lQ 3 (yY _) d B a b [_,_,_,_] [_,_,_,_] W (HA.out.1.below hb hB) (HA.out.2.below hb hB) (by omega)).mono ?_
 rintro e w1 ⟨rfl,hb1⟩
 have hfin:=yW (ab hb hb1)
 clear hb hb1 hz
 go_wp2_with fail
 go_ret
 exact ⟨rfl,hfin.out⟩
theorem cD (b:Bool) (w:World):Calls Tryz.prog 149 #[.bool b] w fun z w'=>z=.returned (.int .i64 (if b=true then -1 else 1))∧w=w':=by
 cases b
 all_goals
  go_enter Tryz.func149,Tryz.ntmps149
  go_wp2_with fail
  go_ret
  exact ⟨rfl,rfl⟩
theorem cmpL_at {f:Tm→Tm→Int} {xs ys:List Tm} {k:Nat} {x y:Tm} (hx:xs[k]? = some x) (hy:ys[k]? = some y):cF f (xs.drop k) (ys.drop k)=if f x y=0 then cF f (xs.drop (k+1)) (ys.drop (k+1)) else f x y:=by
 obtain ⟨h1,rfl⟩:=List.getElem?_eq_some_iff.1 hx
 obtain ⟨h2,rfl⟩:=List.getElem?_eq_some_iff.1 hy
 rw [List.drop_eq_getElem_cons h1,List.drop_eq_getElem_cons h2,cF]
theorem uf {f:Tm→Tm→Int} {xs ys:List Tm} {k:Nat} (h1:k<xs.length) (h2:ys.length≤k):cF f (xs.drop k) (ys.drop k)=1:=by
 rw [List.drop_eq_getElem_cons h1,List.drop_eq_nil_iff.2 h2,cF]
theorem ue {f:Tm→Tm→Int} {xs ys:List Tm} {k:Nat} (h1:xs.length≤k) (h2:k<ys.length):cF f (xs.drop k) (ys.drop k)=-1:=by
 rw [List.drop_eq_getElem_cons h2,List.drop_eq_nil_iff.2 h1,cF]
theorem wP {f:Tm→Tm→Int} {xs ys:List Tm} {k:Nat} (h1:xs.length≤k) (h2:ys.length≤k):cF f (xs.drop k) (ys.drop k)=0:=by
 rw [List.drop_eq_nil_iff.2 h1,List.drop_eq_nil_iff.2 h2,cF]
theorem oQ {d B c c':Nat} {xs ys:List Tm} {A A':Option Addr} {w:World} (hA:iU w B d xs A) (hA':iU w B d ys A') (hB:B≤w.heap.size) (hn:xs.length*40≤140737488351232) (hn':ys.length*40≤140737488351232) :
 Calls Tryz.prog 150 #[.slice A xs.length c,.slice A' ys.length c'] w fun z w'=>z=.returned (.int .i64 (cF (aU 3) xs ys))∧Below w.heap.size w w':=by
 have HA:=yW hA
 have HA':=yW hA'
 clear hA hA'
 go_enter Tryz.func150,Tryz.ntmps150
 go_wp2_with fail
 go_loopw [10] (fun u wr=>∃k:Nat,k≤xs.length∧u=.int .i64 k∧Hid (Below w.heap.size w wr)∧Hid (cF (aU 3) xs ys=cF (aU 3) (xs.drop k) (ys.drop k))) (fun u _=>xs.length-(intOf u).toNat)
 case atStart=>exact ⟨0,yZ _,rfl,yW (za _ _),yW rfl⟩
 case round=>
  obtain ⟨k,hk,rfl,HW,HE⟩:=hrel
  have hszr:=HW.out.size
  have hK0:(0:Int)≤(k:Int):=Int.natCast_nonneg _
  by_cases hlt:k<xs.length
  ·obtain ⟨b,off,x,Ax,cx,rfl,hb,hx,c0,c1,c2,c3,hr⟩:=HA.out.elem HW.out hB hlt
   have HX:=yW hr
   have HXX:=yW hx
   have hK1:(k:Int)<(xs.length:Int):=by omega
   clear hr hx
   go_upto_region 4 with fail
   generalize hWW:World.alloc _ _=w1
   obtain ⟨hb1,hz⟩:=al1 hWW
   have HA1:=yW (n11 hWW)
   have HW1:=yW hb1
   have hsz1:=hb1.size
   clear hWW hb1 hz c0 c1 c2 c3
   have k_x:=HA1.out.cell
   have l_x:=HA1.out.lt
   by_cases hlt2:k<ys.length
   ·obtain ⟨bq,oq,y,Ay,cy,rfl,hbq,hy,c0,c1,c2,c3,hr⟩:=HA'.out.elem (HW.out.trans (HW1.out.mono hszr)) hB hlt2
    have HY:=yW hr
    have HE2:Hid (cF (aU 3) xs ys=if aU 3 x y=0 then cF (aU 3) (xs.drop (k+1)) (ys.drop (k+1)) else aU 3 x y):=yW (HE.out.trans (cmpL_at HXX.out hy))
    have hK2:(k:Int)<(ys.length:Int):=by omega
    have hK3:¬((ys.length:Int)≤(k:Int)):=by omega
    clear hr hy
    go_upto_region 6 with fail
    have HSL:Hid (∀{w':World},Below w1.heap.size w1 w'→(w'.cell? ⟨wr.heap.size,0,none⟩=some (.int .i64 x.kind)∧w'.cell? ⟨wr.heap.size,1,none⟩=some (.int .i64 x.n)∧w'.cell? ⟨wr.heap.size,2,none⟩=some (.string x.s)∧w'.cell? ⟨wr.heap.size,3,none⟩=some (.slice Ax x.l.length cx)∧w'.cell? ⟨bq,oq+k*4,none⟩=some (.int .i64 y.kind)∧w'.cell? ⟨bq,oq+k*4+1,none⟩=some (.int .i64 y.n)∧w'.cell? ⟨bq,oq+k*4+2,none⟩=some (.string y.s)∧w'.cell? ⟨bq,oq+k*4+3,none⟩=some (.slice Ay y.l.length cy))):=yW (fun hb=>⟨(hb.cell l_x).trans (k_x 0),(hb.cell l_x).trans (k_x 1),(hb.cell l_x).trans (k_x 2),(hb.cell l_x).trans (k_x 3),(hb.cell hbq).trans c0,(hb.cell hbq).trans c1,(hb.cell hbq).trans c2,(hb.cell hbq).trans c3⟩)
    clear c0 c1 c2 c3 k_x
    refine aG (fun w'=>w'.cell? ⟨wr.heap.size,0,none⟩=some (.int .i64 x.kind)∧w'.cell? ⟨wr.heap.size,1,none⟩=some (.int .i64 x.n)∧w'.cell? ⟨wr.heap.size,2,none⟩=some (.string x.s)∧w'.cell? ⟨wr.heap.size,3,none⟩=some (.slice Ax x.l.length cx)∧w'.cell? ⟨bq,oq+k*4,none⟩=some (.int .i64 y.kind)∧w'.cell? ⟨bq,oq+k*4+1,none⟩=some (.int .i64 y.n)∧w'.cell? ⟨bq,oq+k*4+2,none⟩=some (.string y.s)∧w'.cell? ⟨bq,oq+k*4+3,none⟩=some (.slice Ay y.l.length cy)) (by kernel_rfl) (HSL.out (za _ _).drew) ?_
    refine aa (i:=0) (v:=?v1_) rfl (by kernel_rfl) (by kernel_rfl) (by kernel_rfl) ?hq1_ ?hw1_ ?hy1_ ?rest1_
    case hq1_=>exact fun _ _ _ h=>h
    case hw1_=>rfl
    case hy1_=>(intro w' hS';(try dsimp only at hS');go_simp;(try with_reducible rfl))
    refine aa (i:=1) (v:=?v2_) rfl (by kernel_rfl) (by kernel_rfl) (by kernel_rfl) ?hq2_ ?hw2_ ?hy2_ ?rest2_
    case hq2_=>exact fun _ _ _ h=>h
    case hw2_=>rfl
    case hy2_=>(intro w' hS';(try dsimp only at hS');go_simp;(try with_reducible rfl))
    refine aa (i:=2) (v:=?v3_) rfl (by kernel_rfl) (by kernel_rfl) (by kernel_rfl) ?hq3_ ?hw3_ ?hy3_ ?rest3_
    case hq3_=>exact fun _ _ _ h=>h
    case hw3_=>rfl
    case hy3_=>(intro w' hS';(try dsimp only at hS');go_simp;(try with_reducible rfl))
    refine aa (i:=3) (v:=?v4_) rfl (by kernel_rfl) (by kernel_rfl) (by kernel_rfl) ?hq4_ ?hw4_ ?hy4_ ?rest4_
    case hq4_=>exact fun _ _ _ h=>h
    case hw4_=>rfl
    case hy4_=>(intro w' hS';(try dsimp only at hS');go_simp;(try with_reducible rfl))
    refine aa (i:=4) (v:=?v5_) rfl (by kernel_rfl) (by kernel_rfl) (by kernel_rfl) ?hq5_ ?hw5_ ?hy5_ ?rest5_
    case hq5_=>exact fun _ _ _ h=>h
    case hw5_=>rfl
    case hy5_=>(intro w' hS';(try dsimp only at hS');go_simp;(try with_reducible rfl))
    generalize hD:World.drew w1=w2
    have HU:Hid (Below w1.heap.size w1 w2):=yW (hD▸(za w1.heap.size w1).drew)
    clear hD
    refine au (rs:=[5]) (by kernel_rfl) rfl ?_
    refine ak.cons rfl (fun K hK=>?_) ak.nil
    go_simp
    refine (gO (d:=d) (B:=B) (a:=x) (b:=y) (va:=[_,_,_,_]) (vb:=[_,_,_,_]) (HX.out.below (HW1.out.trans (HU.out.mono hsz1)) (by omega)) (HY.out.below HU.out (by omega)) (yX (by omega) HU.out.size)).mono ?_
    rintro z w3 ⟨rfl,hb3⟩
    have HU3:Hid (Below w1.heap.size w1 w3):=yW (HU.out.trans (hb3.mono HU.out.size))
    clear hb3
    refine hK.out _ _ (HSL.out HU3.out) ?_
    clear hK
    refine aa (i:=6) (v:=?v6_) rfl (by kernel_rfl) (by kernel_rfl) (by kernel_rfl) ?hq6_ ?hw6_ ?hy6_ ?rest6_
    case hq6_=>exact fun _ _ _ h=>h
    case hw6_=>rfl
    case hy6_=>(intro w' hS';(try dsimp only at hS');go_simp;(try with_reducible rfl))
    refine bG (by kernel_rfl) ?_
    have HW3:Hid (Below w.heap.size w w3):=yW (HW.out.trans ((HW1.out.trans (HU3.out.mono hsz1)).mono hszr))
    generalize aU 3 x y=n at *
    by_cases hn0:n=0
    ·subst hn0
     have HE3:Hid (cF (aU 3) xs ys=cF (aU 3) (xs.drop (k+1)) (ys.drop (k+1))):=yW (HE2.out.trans (if_pos rfl))
     go_wp2_with fail
     go_roundw
     case rel=>exact ⟨k+1,hlt,by go_num,HW3,HE3⟩
     case measure=>simp [intOf];omega
    ·have hn1:(n !=0)=true:=by simpa using hn0
     have HE3:Hid (cF (aU 3) xs ys=n):=yW (HE2.out.trans (if_neg hn0))
     clear HE2
     go_wp2_with fail
     go_ret
     exact ⟨ar HE3.out.symm,HW3.out⟩
   ·have hK2':ys.length≤k:=by omega
    have hK2:(ys.length:Int)≤(k:Int):=by omega
    have HE3:Hid (cF (aU 3) xs ys=1):=yW (HE.out.trans (uf hlt hK2'))
    go_wp2_with fail
    go_ret
    exact ⟨ar HE3.out.symm,HW.out.trans (HW1.out.mono hszr)⟩
  ·have hgd:decide ((k:Int)<(xs.length:Int))=false:=by simp;omega
   have hkx:k=xs.length:=by omega
   by_cases hll:(xs.length:Int)<(ys.length:Int)
   ·have HE3:Hid (cF (aU 3) xs ys=-1):=yW (HE.out.trans (ue (by omega) (by omega)))
    clear hkx
    go_wp2_with fail
    all_goals
     go_ret
     exact ⟨ar HE3.out.symm,HW.out⟩
   ·have HE3:Hid (cF (aU 3) xs ys=0):=yW (HE.out.trans (wP (by omega) (by omega)))
    clear hkx
    go_wp2_with fail
    all_goals
     go_ret
     exact ⟨ar HE3.out.symm,HW.out⟩
section
variable {a b:Fc}
theorem ur (h:(a.pr.name.toList==b.pr.name.toList)=false):(if Op.bytesLess a.pr.name.toList b.pr.name.toList=true then -1 else 1)=aW a b:=by
 rw [dn,decide_eq_false_iff_not] at h
 unfold aW
 have h1:=pJ h
 have h2:cZ (bs a.pr.name) (bs b.pr.name)≠0:=by rw [h1];split<;>omega
 simp only [orL]
 rw [if_neg h2,h1]
 by_cases h3:bs a.pr.name<bs b.pr.name
 ·rw [if_pos ((iC _ _).2 h3),if_pos h3]
 ·rw [if_neg (by rw [iC];exact h3),if_neg h3]
theorem ut (h:(a.pr.name.toList==b.pr.name.toList)=true):aW a b=orL [cR a.pr.terms.length b.pr.terms.length,cF (aU 3) a.pr.terms b.pr.terms,cR a.o b.o]:=by
 rw [dn,decide_eq_true_eq] at h
 unfold aW
 rw [orL,h,nH,if_pos rfl]
theorem yv {x y:Int} (h:x≠y):(if decide (x<y)=true then -1 else 1)=cR x y:=by
 unfold cR
 by_cases h1:x<y
 ·simp [h1]
 ·have h2:y<x:=by omega
  simp [h1,h2]
theorem yq (h:(a.pr.name.toList==b.pr.name.toList)=true) (hn:(a.pr.terms.length:Int)≠b.pr.terms.length):(if decide ((a.pr.terms.length:Int)<b.pr.terms.length)=true then -1 else 1)=aW a b:=by
 have h1:¬cR (a.pr.terms.length:Int) b.pr.terms.length=0:=fun e=>hn (io.1 e)
 rw [ut h,orL,if_neg h1,yv hn]
theorem fc_tms (h:(a.pr.name.toList==b.pr.name.toList)=true) (hn:a.pr.terms.length=b.pr.terms.length):aW a b=orL [cF (aU 3) a.pr.terms b.pr.terms,cR a.o b.o]:=by
 rw [ut h,orL,hn,dO,if_pos rfl]
theorem yr (ho:a.o≠b.o) (h:aW a b=orL [0,cR a.o b.o]):(if decide (a.o<b.o)=true then -1 else 1)=aW a b:=by
 have h1:¬cR a.o b.o=0:=fun e=>ho (io.1 e)
 rw [h,orL,if_pos rfl,orL,if_neg h1,yv ho]
end
theorem qq {d B:Nat} {a b:Fc} {va vb:List Value} {w:World} (hna:a.pr.terms.length*40≤140737488351232) (ha:(ax (d+1)).rd w B a va) (hb:(ax (d+1)).rd w B b vb) (hB:B≤w.heap.size) :
 Calls Tryz.prog 100 #[.agg va.toArray,.agg vb.toArray] w fun z w'=>z=.returned (.int .i64 (aW a b))∧Below w.heap.size w w':=by
 obtain ⟨A,c,rfl,hs,h1,h2,h3,hl,ho⟩:=aI ha
 obtain ⟨A',c',rfl,hs',h1',h2',h3',hl',ho'⟩:=aI hb
 have HL:=yW hl
 have HL':=yW hl'
 clear hl hl'
 go_enter Tryz.func100,Tryz.ntmps100
 go_upto_region 1 with fail
 generalize hWW:World.alloc _ _=w1
 obtain ⟨hb1,hz⟩:=al2 hWW
 have HA1:=yW (n21 hWW)
 have HA2:=yW (n22 hWW)
 have HB1:=yW hb1
 clear hWW hb1 hz
 have k_a:=HA1.out.cell
 have l_a:=HA1.out.lt
 have k_b:=HA2.out.cell
 have l_b:=HA2.out.lt
 go_region
 all_goals
  generalize hWW:World.alloc _ _=w2
  obtain ⟨hb2,hz2⟩:=al2 hWW
  have HP1:=yW (n21 hWW)
  have HP2:=yW (n22 hWW)
  generalize hD:World.drew w2=w3
  have HB3:Hid (Below w1.heap.size w1 w3):=yW (hD▸hb2.drew)
  have HD3:Hid (Below w2.heap.size w2 w3):=yW (hD▸(za _ _).drew)
  have HQ1:=yW (HP1.out.later HD3.out)
  have HQ2:=yW (HP2.out.later HD3.out)
  have HA3:=yW (HA1.out.later HB3.out)
  have HA4:=yW (HA2.out.later HB3.out)
  clear hWW hb2 hz2 hD HP1 HP2 HD3 k_a l_a k_b l_b
  have k_p:=HQ1.out.cell
  have l_p:=HQ1.out.lt
  have k_q:=HQ2.out.cell
  have l_q:=HQ2.out.lt
  by_cases hnm:(a.pr.name.toList==b.pr.name.toList)=true
  ·by_cases hln:a.pr.terms.length=b.pr.terms.length
   ·have hln':((a.pr.terms.length:Int) !=(b.pr.terms.length:Int))=false:=by simp [hln]
    have hni:((a.pr.terms.length:Int)=(b.pr.terms.length:Int)):=by omega
    have HFC:=yW (fc_tms hnm hln)
    have HLN:=yW hln
    clear hln
    go_wp2_with fail
    refine (oQ (d:=d+1) (B:=B) (HL.out.keep (HB1.out.trans (HB3.out.mono HB1.out.size)) hB) (HL'.out.keep (HB1.out.trans (HB3.out.mono HB1.out.size)) hB) (yX hB (yX HB1.out.size HB3.out.size)) hna (by have:=HLN.out;omega)).mono ?_
    rintro z w9 ⟨rfl,hb9⟩
    have HE9:Hid (Below w.heap.size w w9):=yW (HB1.out.trans ((HB3.out.trans (hb9.mono HB3.out.size)).mono HB1.out.size))
    have HA5:=yW (HA3.out.later hb9)
    have HA6:=yW (HA4.out.later hb9)
    clear hb9 k_p l_p k_q l_q
    have k_p:=HA5.out.cell
    have l_p:=HA5.out.lt
    have k_q:=HA6.out.cell
    have l_q:=HA6.out.lt
    generalize cF (aU 3) a.pr.terms b.pr.terms=n at *
    by_cases hn0:n=0
    ·subst hn0
     by_cases hoo:a.o=b.o
     ·have HV:Hid (aW a b=0):=yW (by rw [HFC.out,hoo];simp [orL,dO])
      go_wp2_with fail
      all_goals
       go_ret
       exact ⟨ar HV.out.symm,HE9.out⟩
     ·by_cases hd:a.o<b.o
      ·have HV:Hid (aW a b=-1):=yW (by rw [←yr hoo HFC.out];simp [hd])
       go_wp2_with fail
       refine (cD _ _).mono ?_
       rintro e w4 ⟨rfl,rfl⟩
       go_wp2_with fail
       all_goals
        go_ret
        exact ⟨ar HV.out.symm,HE9.out⟩
      ·have HV:Hid (aW a b=1):=yW (by rw [←yr hoo HFC.out];simp [hd])
       go_wp2_with fail
       refine (cD _ _).mono ?_
       rintro e w4 ⟨rfl,rfl⟩
       go_wp2_with fail
       all_goals
        go_ret
        exact ⟨ar HV.out.symm,HE9.out⟩
    ·have hn1:(n !=0)=true:=by simpa using hn0
     have HV:Hid (aW a b=n):=yW (by rw [HFC.out,orL,if_neg hn0])
     go_wp2_with fail
     all_goals
      go_ret
      exact ⟨ar HV.out.symm,HE9.out⟩
   ·by_cases hd:(a.pr.terms.length:Int)<(b.pr.terms.length:Int)
    ·have HV:Hid (aW a b=-1):=yW (by rw [←yq hnm (by omega)];simp [hd])
     go_wp2_with fail
     refine (cD _ _).mono ?_
     rintro e w4 ⟨rfl,rfl⟩
     go_wp2_with fail
     all_goals
      go_ret
      exact ⟨ar HV.out.symm,HB1.out.trans (HB3.out.mono HB1.out.size)⟩
    ·have HV:Hid (aW a b=1):=yW (by rw [←yq hnm (by omega)];simp [hd])
     go_wp2_with fail
     refine (cD _ _).mono ?_
     rintro e w4 ⟨rfl,rfl⟩
     go_wp2_with fail
     all_goals
      go_ret
      exact ⟨ar HV.out.symm,HB1.out.trans (HB3.out.mono HB1.out.size)⟩
  ·have hnm':(a.pr.name.toList==b.pr.name.toList)=false:=by rw [Bool.not_eq_true] at hnm;exact hnm
   by_cases hd:Op.bytesLess a.pr.name.toList b.pr.name.toList=true
   ·have HV:Hid (aW a b=-1):=yW (by rw [←ur hnm'];simp [hd])
    go_wp2_with fail
    refine (cD _ _).mono ?_
    rintro e w4 ⟨rfl,rfl⟩
    go_wp2_with fail
    all_goals
     go_ret
     exact ⟨ar HV.out.symm,HB1.out.trans (HB3.out.mono HB1.out.size)⟩
   ·have HV:Hid (aW a b=1):=yW (by rw [←ur hnm'];simp [hd])
    go_wp2_with fail
    refine (cD _ _).mono ?_
    rintro e w4 ⟨rfl,rfl⟩
    go_wp2_with fail
    all_goals
     go_ret
     exact ⟨ar HV.out.symm,HB1.out.trans (HB3.out.mono HB1.out.size)⟩
end Go.Proofs.YtdphibjibnffeaaGreat
