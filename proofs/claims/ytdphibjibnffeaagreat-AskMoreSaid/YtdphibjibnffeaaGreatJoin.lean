/- op.join. -/
import Derived.Test.YtdphibjibnffeaaGreatSet2
import Derived.Test.YtdphibjibnffeaaGreatSetLaw
import Derived.Test.YtdphibjibnffeaaGreatRLOne
set_option linter.unusedVariables false
set_option linter.unusedSimpArgs false
set_option maxRecDepth 100000
set_option maxHeartbeats 8000000
namespace Go.Proofs.YtdphibjibnffeaaGreat
open Go.ChangeShapes Go.WideShapes Go.ChangeAt Go.RowKit
structure MeetInv (d B R O S base:Nat) (bc:Array Value) (wr:World) (out:List Tm) (A:Option Addr) (c:Nat):Prop where
 res:Blk wr R wj
 side:Blk wr S bc
 set_:Blk wr O (set4 A out.length c)
 own:am (TmR d) 79 wr base B (.slice A out.length c) out
theorem MeetInv.later {d B R O S base c:Nat} {bc:Array Value} {w w':World} {out:List Tm} {A:Option Addr} (h:MeetInv d B R O S base bc w out A c) (hb:Below w.heap.size w w') (hB:B≤w.heap.size):MeetInv d B R O S base bc w' out A c:=
 ⟨h.res.later hb,h.side.later hb,h.set_.later hb,h.own.later hb hB⟩
theorem eW {p:Tm→Bool} {l:List Tm} {k:Nat} {x:Tm} (h:l[k]? = some x):(l.take (k+1)).filter p=(l.take k).filter p++(if p x then [x] else []):=by
 obtain ⟨hk,e⟩:=List.getElem?_eq_some_iff.1 h
 rw [List.take_succ_eq_append_getElem hk,List.filter_append,e]
 cases hp:p x<;>simp [List.filter_cons,hp]
theorem xw {d d' B:Nat} {a b:Tm} {vs ws:List Value} {w:World} (ha:RTm w B (d+1) a vs) (hb:RTm w B (d'+1) b ws) (hB:B≤w.heap.size) (hn:a.l.length≤16) (hlf:∀x∈a.l,lU x) :
 Calls Tryz.prog 283 #[.agg vs.toArray,.agg ws.toArray] w fun e w'=>iX d w w' (kY a b,0) e:=by
 obtain ⟨i0,hi0,hz0,hz1,hz2⟩:=info_parts iz
 have HS:=yW hb
 obtain ⟨As,cs,rfl,_⟩:=hb.cells
 obtain ⟨A,c,rfl,q1,q2,q3,q4,q5,hl⟩:=ha
 have HL:Hid (RL (TmR d) w B a.l A):=yW hl
 have HN:=yW hn
 clear hl hb hn
 go_enter Tryz.func283,Tryz.ntmps283
 go_wp2_with fail
 generalize hW:World.alloc _ _=w1
 obtain ⟨hb,hz⟩:=al4 hW
 have b_s:=n42 hW
 have b_r:=n43 hW
 have b_o:=n44 hW
 have HB1:=yW hb
 have HZ1:=yW hz
 clear hW hz hb
 have hB1:=yX hB HB1.out.size
 have HINV:=yW (show MeetInv d B (w.heap.size+2) (w.heap.size+3) (w.heap.size+1) w1.heap.size _ w1 [] none 0 from ⟨b_r,b_s,b_o,am.nil _ _ _ _ _⟩)
 clear b_s b_r b_o
 go_loopw [13] (fun i wr=>∃(k:Nat) (A2:Option Addr) (c2:Nat),k≤a.l.length∧i=.int .i64 k∧Hid (Below w.heap.size w wr)∧w1.heap.size≤wr.heap.size∧Hid (MeetInv d B (w.heap.size+2) (w.heap.size+3) (w.heap.size+1) w1.heap.size #[.int .i64 b.kind,.int .i64 b.n,.string b.s,.slice As b.l.length cs] wr ((a.l.take k).filter (jO b)) A2 c2)) (fun i _=>a.l.length-(intOf i).toNat)
 case atStart=>exact ⟨0,none,0,yZ _,rfl,HB1,yY _,HINV⟩
 case round=>
  obtain ⟨k,A2,c2,hk,rfl,HBW,hsz,HI⟩:=hrel
  have hBr:=yX hB1 hsz
  have hzw:=HZ1.out
  by_cases hlt:k<a.l.length
  ·have HLr:=yW (HL.out.keep HBW.out hB)
   obtain ⟨b_,off,rfl,hob⟩:=HLr.out.base (za _ _) hBr (by omega)
   obtain ⟨x,vs,hx,hlen,hcell,hr⟩:=HLr.out.at_ (za _ _) hBr hlt
   obtain ⟨Ax,cx,rfl,g1,g2,g3,g4,g5,_⟩:=RTm.cells (show RTm wr B d x vs from hr)
   have c0:wr.cell? ⟨b_,off+k*4,none⟩=some (.int .i64 x.kind):=hcell 0 _ rfl
   have c1:wr.cell? ⟨b_,off+k*4+1,none⟩=some (.int .i64 x.n):=hcell 1 _ rfl
   have c2:wr.cell? ⟨b_,off+k*4+2,none⟩=some (.string x.s):=hcell 2 _ rfl
   have c3:wr.cell? ⟨b_,off+k*4+3,none⟩=some (.slice Ax x.l.length cx):=hcell 3 _ rfl
   have HX:=yW hx
   have HR:Hid (RTm wr B d x _):=yW hr
   have kt:=HI.out.side.cell
   have lt:=HI.out.side.lt
   clear hcell hlen hx hr
   go_wp2_with fail
   generalize hW:World.alloc _ _=W
   obtain ⟨hb1,hz⟩:=al1 hW
   have bx:=n11 hW
   have HBa:=yW hb1
   have HIa:=yW (HI.out.later hb1 hBr)
   have kt3:=HIa.out.side.cell
   have hBa:=yX hBr hb1.size
   have HRa:=yW (HR.out.below hb1 hBr)
   clear hW hb1 hz c0 c1 c2 c3 kt lt
   go_wp2_with fail
   refine (kL (d:=d') (d':=d) (s:=b) (t:=x) (B:=B) (vs:=[_,_,_,_]) (ws:=[_,_,_,_]) (HS.out.below (ab HBW.out HBa.out) hB) (HRa.out) hBa).mono ?_
   rintro e w3 ⟨rfl,hb3⟩
   have HI3:=yW (HIa.out.later hb3 hBa)
   have bx3:=bx.later hb3
   have HR3:=yW (HRa.out.below hb3 hBa)
   have HB3:=yW (ab HBW.out (ab HBa.out hb3))
   have hsz3:=yX hsz (yX HBa.out.size hb3.size)
   have hB3:=yX hBa hb3.size
   clear hb3 kt3 bx
   by_cases hm:jO b x=true
   ·have HT:Hid ((a.l.take (k+1)).filter (jO b)=(a.l.take k).filter (jO b)++[x]):=yW (by rw [eW HX.out,if_pos hm])
    rw [hm]
    clear hm
    generalize hout:(a.l.take k).filter (jO b)=out at *
    have HLN:Hid (out.length≤16):=yW (by rw [←hout];exact yX (List.length_filter_le _ _) (by rw [List.length_take];have:=HN.out;omega))
    clear hout
    have k_o:=HI3.out.set_.cell
    have k_x:=bx3.cell
    have l_o:=HI3.out.set_.lt
    have l_x:=bx3.lt
    have HOW:=yW (And.intro (HI3.out.own.later ((za _ w3).alloc (yY _) (.cells #[.int .i64 x.kind,.int .i64 x.n,.string x.s,.slice Ax x.l.length cx] 79)) hB3) (Blk.src (R:=TmR d) (B:=B) (x:=x) (Blk.new w3 #[.int .i64 x.kind,.int .i64 x.n,.string x.s,.slice Ax x.l.length cx] 79) ((HR3.out.below ((za _ w3).alloc (yY _) (.cells #[.int .i64 x.kind,.int .i64 x.n,.string x.s,.slice Ax x.l.length cx] 79)) hB3))))
    go_wp2_with ((
     at_builtin
     refine av (R:=TmR d) (e:=79) (base:=w1.heap.size) (B:=B) (xs:=out) (ys:=[x]) rfl (.tmp 21) (.tmp 23) 23 rfl (bytes:=56) Tryz.underlying23 hi0 hz0 hz1 hz2 rfl (show 0<4 by omega) (ed d) rfl HOW.out.1 rfl HOW.out.2 rfl (by omega) (by have:=HLN.out;simp only [List.length_cons,List.length_nil];omega) (by omega) (by rw [World.size_alloc];omega) ?_
     intro v2 w7 hown2 hb2
     obtain ⟨A3,c3,rfl⟩:=hown2.form
     have hb3:=((za w1.heap.size w3).alloc hsz3 (.cells #[.int .i64 x.kind,.int .i64 x.n,.string x.s,.slice Ax x.l.length cx] 79)).trans hb2
     have b_o_7:=HI3.out.set_.keep hb3 (by omega)
     have H7:=yW (And.intro hown2 hb3)
     have B7:=yW b_o_7
     have f_7:=b_o_7.free
     have k_7:=b_o_7.cell
     clear hown2 hb2 hb3 b_o_7 k_o k_x l_o l_x bx3))
    go_roundw
    case rel=>
     have hb3:=H7.out.2
     have hle:=hb3.size
     have hw1:w.heap.size+3<w1.heap.size:=by omega
     refine ⟨k+1,A3,c3,by omega,by go_num,yW ((HB3.out.trans (hb3.mono (by omega))).setCell (by show w.heap.size≤w.heap.size+3;omega) _),by simp only [World.size_setCell];omega,yW ?_⟩
     rw [HT.out]
     refine ⟨(HI3.out.res.keep hb3 (by omega)).far (by omega) _ _,(HI3.out.side.keep hb3 (by omega)).far (by omega) _ _,?_,?_⟩
     ·rw [List.length_append];exact B7.out.set_ 3 _
     ·have h9:=H7.out.1.far (c:=w.heap.size+3) (i:=3) hw1 (by omega) (.slice A3 (out++[x]).length c3)
      first
       | exact h9
       | (simp only [List.length_append,List.length_cons,List.length_nil,Nat.zero_add] at h9 ⊢;exact h9)
    case measure=>simp [intOf];omega
   ·simp only [Bool.not_eq_true] at hm
    have HT:Hid ((a.l.take (k+1)).filter (jO b)=(a.l.take k).filter (jO b)):=yW (by rw [eW HX.out,hm];simp)
    rw [hm]
    clear hm
    go_wp2_with fail
    go_roundw
    case rel=>exact ⟨k+1,A2,_,by omega,by go_num,HB3,hsz3,yW (by rw [HT.out];exact HI3.out)⟩
    case measure=>simp [intOf];omega
  ·have HT:Hid ((a.l.take k).filter (jO b)=(kY a b).l):=yW (by rw [List.take_of_length_le (by omega)];rfl)
   have HLN:Hid ((kY a b).l.length≤16):=yW (yX (List.length_filter_le _ _) HN.out)
   rw [HT.out] at HI
   generalize hout:(kY a b).l=out at *
   have HO:=yW hout
   clear hout
   have kO:=HI.out.set_.cell
   have kR:=HI.out.res.cell
   have fR:=HI.out.res.free
   go_wp2_with fail
   have hbr:=dZ HI.out.res (.int .i64 7) (.int .i64 0) (.string ⟨#[]⟩) (.slice A2 out.length c2)
   have how:=(((HI.out.own.far (c:=w.heap.size+2) (i:=0) (by omega) (by omega) (.int .i64 7)).far (c:=w.heap.size+2) (i:=1) (by omega) (by omega) (.int .i64 0)).far (c:=w.heap.size+2) (i:=2) (by omega) (by omega) (.string ⟨#[]⟩)).far (c:=w.heap.size+2) (i:=3) (by omega) (by omega) (.slice A2 out.length c2)
   refine bodyPost_ret (ao rfl rfl hbr rfl) rfl ?_
   have hlm:(kY a b).l=out:=HO.out
   have hgl:∀t∈(kY a b).l,lU t:=fun t ht=>hlf t (List.mem_filter.1 ht).1
   refine ⟨⟨A2,c2,?_,?_,by simp [I64,kY],by simp [I64,kY],by show kx.size≤_;decide,by have:=HLN.out;rw [hlm];omega⟩,dC HBW.out (by omega) _ _ _ _⟩
   ·rw [hlm];rfl
   ·rw [hlm] at hgl ⊢;exact (how.leaves hgl).lower (by omega)
theorem tz {α:Type} {l:List α} {p:α→Bool} {k:Nat} (hk:l.length≤k) (h:∀i (hi:i<k) (hi':i<l.length),p l[i]=false):l.any p=false:=by
 rw [List.any_eq_false]
 intro x hx
 obtain ⟨i,hi,rfl⟩:=List.getElem_of_mem hx
 rw [h i (by omega) hi];simp
theorem wC {α:Type} {l:List α} {p:α→Bool} {k:Nat} {x:α} (h:l[k]? = some x) (hp:p x=true):l.any p=true:=List.any_eq_true.2 ⟨x,List.mem_of_getElem? h,hp⟩
theorem all_no {α:Type} {l:List α} {p:α→Bool} {k:Nat} {x:α} (h:l[k]? = some x) (hp:p x=false):l.all p=false:=by
 rw [Bool.eq_false_iff]
 intro h2
 rw [List.all_eq_true] at h2
 have:=h2 x (List.mem_of_getElem? h)
 rw [hp] at this;simp at this
theorem all_yes {α:Type} {l:List α} {p:α→Bool} {k:Nat} (hk:l.length≤k) (h:∀i (hi:i<k) (hi':i<l.length),p l[i]=true):l.all p=true:=by
 rw [List.all_eq_true]
 intro x hx
 obtain ⟨i,hi,rfl⟩:=List.getElem_of_mem hx
 exact h i (by omega) hi
theorem kv {d d' B:Nat} {s t:Tm} {vs ws:List Value} {w:World} (hs:RTm w B (d+1) s vs) (ht:RTm w B (d'+1) t ws) (hB:B≤w.heap.size) (h3:s.kind≠3) :
 Calls Tryz.prog 281 #[.agg vs.toArray,.agg ws.toArray] w fun e w'=>e=.returned (.bool (eD s t))∧Below w.heap.size w w':=by
 have HS:=yW hs
 have HT:=yW ht
 obtain ⟨As,cs,rfl,_⟩:=hs.cells
 obtain ⟨A,c,rfl,q1,q2,q3,q4,q5,hl⟩:=ht
 have HL:Hid (RL (TmR d') w B t.l A):=yW hl
 have hg3:(s.kind==3)=false:=by simp [h3]
 clear hl hs
 by_cases h7:t.kind=7
 ·have H7:=yW h7
  have hg:(t.kind !=7)=false:=by simp [h7]
  clear h7 h3
  go_enter Tryz.func281,Tryz.ntmps281
  go_wp2_with fail
  generalize hW:World.alloc _ _=w1
  obtain ⟨hb,hz⟩:=al2 hW
  have bs_:=n21 hW
  have bt:=n22 hW
  have HB1:=yW hb
  clear hW hz hb
  have HL1:=yW (HL.out.keep HB1.out hB)
  have hB1:=yX hB HB1.out.size
  go_loopw [26] (fun i wr=>∃k:Nat,k≤t.l.length∧i=.int .i64 k∧Below w1.heap.size w1 wr∧∀j (hj:j<k) (hj':j<t.l.length),jO s t.l[j]=true) (fun i _=>t.l.length-(intOf i).toNat)
  case atStart=>exact ⟨0,yZ _,rfl,za _ _,fun j hj=>absurd hj (by omega)⟩
  case round=>
   obtain ⟨k,hk,rfl,hbw,hall⟩:=hrel
   have HALL:=yW hall
   clear hall
   by_cases hlt:k<t.l.length
   ·obtain ⟨b,off,rfl,hob⟩:=HL1.out.base hbw hB1 (by omega)
    obtain ⟨x,vs,hx,hlen,hcell,hr⟩:=HL1.out.at_ hbw hB1 hlt
    obtain ⟨Ax,cx,rfl,g1,g2,g3,g4,g5,_⟩:=RTm.cells (show RTm wr B d' x vs from hr)
    have c0:wr.cell? ⟨b,off+k*4,none⟩=some (.int .i64 x.kind):=hcell 0 _ rfl
    have c1:wr.cell? ⟨b,off+k*4+1,none⟩=some (.int .i64 x.n):=hcell 1 _ rfl
    have c2:wr.cell? ⟨b,off+k*4+2,none⟩=some (.string x.s):=hcell 2 _ rfl
    have c3:wr.cell? ⟨b,off+k*4+3,none⟩=some (.slice Ax x.l.length cx):=hcell 3 _ rfl
    have HX:=yW hx
    have HR:Hid (RTm wr B d' x _):=yW hr
    have HBW:=yW hbw
    have bt2:=bs_.later hbw
    have hBr:B≤wr.heap.size:=yX hB1 hbw.size
    have kt:=bt2.cell
    have lt:=bt2.lt
    clear hcell hlen hx hr hbw
    go_wp2_with fail
    generalize hW:World.alloc _ _=W
    obtain ⟨hb1,hz⟩:=al1 hW
    have HBa:=yW hb1
    have bt3:=bt2.later hb1
    have kt3:=bt3.cell
    clear hW hb1 hz c0 c1 c2 c3 kt lt
    go_wp2_with fail
    refine (kL (d:=d) (d':=d') (s:=s) (t:=x) (B:=B) (vs:=[_,_,_,_]) (ws:=[_,_,_,_]) (HS.out.below (ab HB1.out (ab HBW.out HBa.out)) hB) (HR.out.below HBa.out hBr) (yX hBr HBa.out.size)).mono ?_
    rintro e w3 ⟨rfl,hb3⟩
    have HB3:=yW (ab HBW.out (ab HBa.out hb3))
    clear hb3 kt3
    by_cases hm:jO s x=true
    ·have HM:=yW hm
     rw [hm]
     clear hm
     go_wp2_with fail
     go_roundw
     case rel=>exact ⟨k+1,by omega,by go_num,HB3.out,fun j hj hj'=>by
      rcases Nat.lt_or_ge j k with h1 | h1
      ·exact HALL.out j h1 hj'
      ·obtain rfl:j=k:=by omega
       rw [(List.getElem?_eq_some_iff.1 HX.out).2];exact HM.out⟩
     case measure=>simp [intOf];omega
    ·simp only [Bool.not_eq_true] at hm
     have HM:=yW hm
     rw [hm]
     clear hm
     go_wp2_with fail
     go_ret
     refine ⟨ac ?_,ab HB1.out HB3.out⟩
     unfold eD
     rw [if_pos H7.out,all_no (p:=jO s) HX.out HM.out]
   ·go_wp2_with fail
    go_ret
    refine ⟨ac ?_,ab HB1.out hbw⟩
    unfold eD
    rw [if_pos H7.out,all_yes (p:=jO s) (show t.l.length≤k by omega) HALL.out]
 ·have hg:(t.kind !=7)=true:=by simp [h7]
  have H7:=yW h7
  clear h7 h3
  go_enter Tryz.func281,Tryz.ntmps281
  go_wp2_with fail
  generalize hW:World.alloc _ _=w1
  obtain ⟨hb,hz⟩:=al2 hW
  have HB1:=yW hb
  clear hW hz hb
  refine (kL (d:=d) (d':=d'+1) (s:=s) (t:=t) (B:=B) (vs:=[_,_,_,_]) (ws:=[_,_,_,_]) (HS.out.below HB1.out hB) (HT.out.below HB1.out hB) (yX hB HB1.out.size)).mono ?_
  rintro e w3 ⟨rfl,hb3⟩
  have HB3:=yW (ab HB1.out hb3)
  clear hb3
  go_wp2_with fail
  go_ret
  exact ⟨ac (by unfold eD;rw [if_neg H7.out]),HB3.out⟩
def fw (a b:Tm) (k:Nat):List Tm:=a.l++(b.l.take k).filter fun t=>!jO a t
theorem uM {a b:Tm} {k:Nat} (ha:a.l.length≤16) (hb:b.l.length≤16):(fw a b k).length≤32:=by
 unfold fw
 rw [List.length_append]
 have:=yX (List.length_filter_le (fun t=>!jO a t) (b.l.take k)) (by rw [List.length_take];exact Nat.min_le_right _ _)
 omega
theorem rf {a b:Tm} {k:Nat} {x:Tm} (h:b.l[k]? = some x) (hm:jO a x=true):fw a b (k+1)=fw a b k:=by
 unfold fw;rw [eW h,hm];simp
theorem oh {a b:Tm} {k:Nat} {x:Tm} (h:b.l[k]? = some x) (hm:jO a x=false):fw a b (k+1)=fw a b k++[x]:=by
 unfold fw;rw [eW h,hm];simp
theorem uL {a b:Tm} {k:Nat} (h:b.l.length≤k):fw a b k=fU a b:=by
 unfold fw fU;rw [List.take_of_length_le h]
theorem badJ_y {a b x:Tm} {ky:Int} (h:(x.kind !=ky)=true) (hk:dA b.l=ky):nq a b x=true:=by
 subst hk;unfold nq;simp only [bne_iff_ne,ne_eq] at h;simp [h]
theorem badJ_z {a b x:Tm} {kz:Int} (h:(x.kind !=kz)=true) (h0:0<a.l.length) (hk:dA a.l=kz):nq a b x=true:=by
 subst hk;unfold nq;simp only [bne_iff_ne,ne_eq] at h;have h1:decide (0<a.l.length)=true:=decide_eq_true h0;rw [h1];simp [h]
theorem badJ_n {a b x:Tm} {ky:Int} (h:(x.kind !=ky)=false) (hk:dA b.l=ky) (h0:¬0<a.l.length):nq a b x=false:=by
 subst hk;unfold nq;simp only [bne_eq_false_iff_eq] at h;have h1:decide (0<a.l.length)=false:=decide_eq_false h0;rw [h1,h];simp
theorem badJ_nz {a b x:Tm} {ky kz:Int} (h:(x.kind !=ky)=false) (hk:dA b.l=ky) (h':(x.kind !=kz)=false) (hk':dA a.l=kz):nq a b x=false:=by
 subst hk hk';unfold nq;simp only [bne_eq_false_iff_eq] at h h';simp [←h,←h']
theorem uN {a b:Tm} {k:Nat} {x:Tm} (h:b.l[k]? = some x) (hb:nq a b x=true):jh a b=(noT,7):=by
 unfold jh;rw [if_pos (wC (p:=nq a b) h hb)]
theorem xk {a b:Tm} {k:Nat} (hk:b.l.length≤k) (h:∀j (hj:j<k) (hj':j<b.l.length),nq a b b.l[j]=false):jh a b=if 16<(fU a b).length then (noT,4) else qB (fU a b):=by
 unfold jh;rw [if_neg (by rw [tz (p:=nq a b) hk h];simp)]
theorem xl {d d' B:Nat} {a b:Tm} {vs ws:List Value} {w:World} (ha:RTm w B (d+1) a vs) (hb:RTm w B (d+1) b ws) (hB:B≤w.heap.size) (hn:a.l.length≤16) (hn':b.l.length≤16) :
 Calls Tryz.prog 284 #[.agg vs.toArray,.agg ws.toArray] w fun e w'=>iX d w w' (jh a b) e:=by
 obtain ⟨i0,hi0,hz0,hz1,hz2⟩:=info_parts iz
 have HS:=yW ha
 obtain ⟨A,c,rfl,_,_,_,_,_,hl⟩:=ha
 obtain ⟨A',c',rfl,_,_,_,_,_,hl'⟩:=hb
 have HLa:Hid (RL (TmR d) w B a.l A):=yW hl
 have HLb:Hid (RL (TmR d) w B b.l A'):=yW hl'
 have HN:=yW hn
 have HN':=yW hn'
 clear hl hl' hn hn'
 go_enter Tryz.func284,Tryz.ntmps284
 have HSRC:=yW (HLa.out.keep (al3 (w:=w) (o1:=.cells #[.int .i64 a.kind,.int .i64 a.n,.string a.s,.slice A a.l.length c] 79) (o2:=.cells #[.int .i64 b.kind,.int .i64 b.n,.string b.s,.slice A' b.l.length c'] 79) (o3:=.cells wj 79) rfl).1 hB).src
 go_wp2_with ((
  at_builtin
  refine av (R:=TmR d) (e:=79) (base:=w.heap.size+3) (B:=B) (xs:=[]) (ys:=a.l) rfl (.const (.slice none 0 0)) (.tmp 10) 23 rfl (bytes:=56) Tryz.underlying23 hi0 hz0 hz1 hz2 rfl (show 0<4 by omega) (ed d) rfl (am.nil _ _ _ _ _) rfl HSRC.out rfl (by omega) (by have:=HN.out;simp only [List.length_nil];omega) (by omega) (by simp only [World.size_alloc];omega) ?_
  intro v1 w1 hown1 hb1
  obtain ⟨A1,c1,rfl⟩:=hown1.form
  have b_a:=Blk.keep (n31 rfl) hb1 (show w.heap.size<w.heap.size+3 by omega)
  have b_b:=Blk.keep (n32 rfl) hb1 (show w.heap.size+1<w.heap.size+3 by omega)
  have b_r:=Blk.keep (n33 rfl) hb1 (show w.heap.size+1+1<w.heap.size+3 by omega)
  have HB1:Hid (Below w.heap.size w w1):=yW ((al3 rfl).1.trans (hb1.mono (by omega)))
  have HO1:=yW hown1
  have hsz1:w.heap.size+3≤w1.heap.size:=by have:=hb1.size;simp only [World.size_alloc] at this;omega
  have k_b:=b_b.cell
  clear hown1 hb1))
 simp only [List.nil_append] at HO1 ⊢
 have hB1:=yX hB HB1.out.size
 clear k_b HSRC
 go_loopw [6,15] (fun v i wr=>∃(k:Nat) (A2:Option Addr) (c2:Nat),k≤b.l.length∧v=.slice A2 (fw a b k).length c2∧i=.int .i64 k∧Hid (Below (w.heap.size+3) w1 wr)∧Hid (am (TmR d) 79 wr (w.heap.size+3) B (.slice A2 (fw a b k).length c2) (fw a b k))∧Hid (∀j (hj:j<k) (hj':j<b.l.length),nq a b b.l[j]=false)) (fun _ i _=>b.l.length-(intOf i).toNat)
 case atStart=>
  have e:fw a b 0=a.l:=by simp [fw]
  exact ⟨0,A1,c1,yZ _,by rw [e],rfl,yW (za _ _),yW (by rw [e];exact HO1.out),yW (fun j hj=>absurd hj (by omega))⟩
 case round=>
  obtain ⟨k,A2,c2,hk,rfl,rfl,HBW,HOW,HALL⟩:=hrel
  have b_a2:=b_a.keep HBW.out (by omega)
  have b_b2:=b_b.keep HBW.out (by omega)
  have b_r2:=b_r.keep HBW.out (by omega)
  have hszr:w1.heap.size≤wr.heap.size:=HBW.out.size
  have hBr:=yX hB1 hszr
  have HBr:=yW (HB1.out.trans (HBW.out.mono (show w.heap.size≤w.heap.size+3 by omega)))
  have HJL:=yW (uM (k:=k) HN.out HN'.out)
  clear b_a b_b b_r
  by_cases hlt:k<b.l.length
  ·obtain ⟨bb,off,rfl,hob⟩:=HLb.out.base HBr.out hB (by omega)
   obtain ⟨x,vs,hx,hlen,hcell,hr⟩:=HLb.out.at_ HBr.out hB hlt
   obtain ⟨Ax,cx,rfl,_⟩:=RTm.cells (show RTm wr B d x vs from hr)
   have c0:wr.cell? ⟨bb,off+k*4,none⟩=some (.int .i64 x.kind):=hcell 0 _ rfl
   have c1:wr.cell? ⟨bb,off+k*4+1,none⟩=some (.int .i64 x.n):=hcell 1 _ rfl
   have c2:wr.cell? ⟨bb,off+k*4+2,none⟩=some (.string x.s):=hcell 2 _ rfl
   have c3:wr.cell? ⟨bb,off+k*4+3,none⟩=some (.slice Ax x.l.length cx):=hcell 3 _ rfl
   have HX:=yW hx
   have HR:Hid (RTm wr B d x _):=yW hr
   obtain ⟨y,ys,hy,_,hycell,hry⟩:=HLb.out.at_ (k:=0) HBr.out hB (by omega)
   obtain ⟨Ay,cy,rfl,_⟩:=RTm.cells (show RTm wr B d y ys from hry)
   have HKY:Hid (dA b.l=y.kind):=yW (by unfold dA;rw [List.head?_eq_getElem?,hy];rfl)
   have f0:wr.cell? ⟨bb,off,none⟩=some (.int .i64 y.kind):=by simpa using hycell 0 _ rfl
   clear hcell hlen hx hr hycell hry hy
   go_wp2_with fail
   generalize hW:World.alloc _ _=W
   obtain ⟨hb1,hz⟩:=al1 hW
   have b_x:=n11 hW
   have g0:=cell_regrown ((hb1.cell (p:=⟨bb,off,none⟩) (zb hob (by omega))).trans f0)
   have b_a3:=b_a2.later hb1
   have b_b3:=b_b2.later hb1
   have b_r3:=b_r2.later hb1
   have HBa:=yW (HBW.out.trans (hb1.mono (by omega)))
   have HBA:=yW (ab HBr.out hb1)
   have HOa:=yW (HOW.out.later hb1 hBr)
   have HRa:=yW (HR.out.below hb1 hBr)
   have hsza:=yX hszr hb1.size
   have hBa:=yX hBr hb1.size
   clear hW hb1 hz c0 c1 c2 c3 b_a2 b_b2 b_r2 HBW HBr HOW HR f0
   have q_x:=b_x.regrown
   have q_a:=b_a3.regrown
   have q_b:=b_b3.regrown
   have hfork:(((x.kind !=y.kind)=true∨((x.kind !=y.kind)=false∧∃z:Tm,∃q:Nat × Nat,(x.kind !=z.kind)=true∧0<a.l.length∧dA a.l=z.kind∧A=some ⟨q.1,q.2,none⟩∧q.1<W.heap.size∧W.cell? ⟨q.1,q.2,none⟩=some (.int .i64 z.kind)))∧nq a b x=true) ∨
    (((x.kind !=y.kind)=false∧(¬0<a.l.length∨∃z:Tm,∃q:Nat × Nat,(x.kind !=z.kind)=false∧0<a.l.length∧dA a.l=z.kind∧A=some ⟨q.1,q.2,none⟩∧q.1<W.heap.size∧W.cell? ⟨q.1,q.2,none⟩=some (.int .i64 z.kind)))∧nq a b x=false):=by
    rcases Bool.eq_false_or_eq_true (x.kind !=y.kind) with h1 | h1
    ·exact .inl ⟨.inl h1,badJ_y h1 HKY.out⟩
    ·by_cases h0:0<a.l.length
     ·obtain ⟨ba,offa,rfl,hoa⟩:=HLa.out.base HBA.out hB h0
      obtain ⟨z,zs,hz',_,hzcell,hrz⟩:=HLa.out.at_ (k:=0) HBA.out hB h0
      obtain ⟨Az,cz,rfl,_⟩:=RTm.cells (show RTm W B d z zs from hrz)
      have hkz:dA a.l=z.kind:=by unfold dA;rw [List.head?_eq_getElem?,hz'];rfl
      have e0:W.cell? ⟨ba,offa,none⟩=some (.int .i64 z.kind):=by simpa using hzcell 0 _ rfl
      rcases Bool.eq_false_or_eq_true (x.kind !=z.kind) with h2 | h2
      ·exact .inl ⟨.inr ⟨h1,z,(ba,offa),h2,h0,hkz,rfl,hoa,e0⟩,badJ_z h2 h0 hkz⟩
      ·exact .inr ⟨⟨h1,.inr ⟨z,(ba,offa),h2,h0,hkz,rfl,hoa,e0⟩⟩,badJ_nz h1 HKY.out h2 hkz⟩
     ·exact .inr ⟨⟨h1,.inl h0⟩,badJ_n h1 HKY.out h0⟩
   rcases hfork with ⟨h,hbad⟩ | ⟨⟨h1,h⟩,hbad⟩
   ·have HBAD:=yW (uN HX.out hbad)
    clear hbad
    rcases h with h1 | ⟨h1,z,⟨ba,offa⟩,h2,h0,hkz,rfl,hoa,e0⟩
    ·refine wp_region_quiet_below (by kernel_rfl) (by kernel_rfl) ?_
     repeat (go_big_quiet_step (fail))
     refine wpQuiet_nil ?_
     intro wc hw3
     have hb1:Below W.heap.size W wc:=by obtain ⟨p,rfl⟩:=hw3;exact below_regrown _ _ _
     clear hw3 q_x q_a q_b g0
     have b_r4:=b_r3.later hb1
     have HBB:=yW (ab HBA.out hb1)
     have kR:=b_r4.cell
     have fR:=b_r4.free
     clear hb1
     go_wp2_with fail
     have hbr:=dZ b_r4 (.int .i64 0) (.int .i64 0) (.string ⟨#[]⟩) (.slice none 0 0)
     refine bodyPost_ret (ao rfl rfl hbr rfl) rfl ?_
     rw [HBAD.out]
     exact ⟨⟨_,_,rfl,TmOwn.no⟩,dC HBB.out (by omega) _ _ _ _⟩
    ·have r0:=cell_regrown e0
     refine wp_region_quiet_below (by kernel_rfl) (by kernel_rfl) ?_
     repeat (go_big_quiet_step (fail))
     refine wpQuiet_nil ?_
     intro wc hw3
     have hb1:Below W.heap.size W wc:=by obtain ⟨p,rfl⟩:=hw3;exact below_regrown _ _ _
     clear hw3 q_x q_a q_b g0
     have b_r4:=b_r3.later hb1
     have HBB:=yW (ab HBA.out hb1)
     have kR:=b_r4.cell
     have fR:=b_r4.free
     clear hb1
     go_wp2_with fail
     have hbr:=dZ b_r4 (.int .i64 0) (.int .i64 0) (.string ⟨#[]⟩) (.slice none 0 0)
     refine bodyPost_ret (ao rfl rfl hbr rfl) rfl ?_
     rw [HBAD.out]
     exact ⟨⟨_,_,rfl,TmOwn.no⟩,dC HBB.out (by omega) _ _ _ _⟩
   ·have HNB:=yW hbad
    clear hbad
    rcases h with h0 | ⟨z,⟨ba,offa⟩,h2,h0,hkz,rfl,hoa,e0⟩
    ·refine wp_region_quiet_below (by kernel_rfl) (by kernel_rfl) ?_
     repeat (go_big_quiet_step (fail))
     refine wpQuiet_nil ?_
     intro wc hw3
     have hb1:Below W.heap.size W wc:=by obtain ⟨p,rfl⟩:=hw3;exact below_regrown _ _ _
     clear hw3 q_x q_a q_b g0
     have b_a4:=b_a3.later hb1
     have b_b4:=b_b3.later hb1
     have b_r4:=b_r3.later hb1
     have b_x4:=b_x.later hb1
     have HBb:=yW (HBa.out.trans (hb1.mono (by omega)))
     have HBB:=yW (ab HBA.out hb1)
     have HOb:=yW (HOa.out.later hb1 hBa)
     have HRb:=yW (HRa.out.below hb1 hBa)
     have hszb:=yX hsza hb1.size
     have hBb:=yX hBa hb1.size
     clear hb1 b_a3 b_b3 b_r3 b_x HBa HOa HRa HBA hsza hBa
     have k_a:=b_a4.cell
     have l_a:=b_a4.lt
     have k_x:=b_x4.cell
     have l_x:=b_x4.lt
     go_wp2_with fail
     clear k_a l_a k_x l_x
     refine (kL (d:=d) (d':=d) (s:=a) (t:=x) (B:=B) (vs:=[_,_,_,_]) (ws:=[_,_,_,_]) (HS.out.below HBB.out hB) HRb.out hBb).mono ?_
     rintro e wd ⟨rfl,hb3⟩
     have b_x5:=b_x4.later hb3
     have HBd:=yW (HBb.out.trans (hb3.mono (by omega)))
     have HOd:=yW (HOb.out.later hb3 hBb)
     have HRd:=yW (HRb.out.below hb3 hBb)
     have hszd:=yX hszb hb3.size
     have hBd:=yX hBb hb3.size
     clear hb3 b_a4 b_b4 b_r4 b_x4 HBb HOb HRb HBB hszb hBb
     have HALL2:Hid (∀j (hj:j<k+1) (hj':j<b.l.length),nq a b b.l[j]=false):=yW fun j hj hj'=>by
      rcases Nat.lt_or_ge j k with h3 | h3
      ·exact HALL.out j h3 hj'
      ·obtain rfl:j=k:=by omega
       rw [(List.getElem?_eq_some_iff.1 HX.out).2];exact HNB.out
     by_cases hm:jO a x=true
     ·have HE:=yW (rf HX.out hm)
      rw [hm]
      clear hm
      go_wp2_with fail
      go_roundw
      case rel=>exact ⟨k+1,A2,_,by omega,by rw [HE.out],by go_num,HBd,yW (by rw [HE.out];exact HOd.out),HALL2⟩
      case measure=>simp [intOf];omega
     ·simp only [Bool.not_eq_true] at hm
      have HE:=yW (oh HX.out hm)
      rw [hm]
      clear hm
      generalize hout:fw a b k=out at *
      clear hout
      have k_x:=b_x5.cell
      have l_x:=b_x5.lt
      have HOW:=yW (And.intro (HOd.out.later ((za _ wd).alloc (yY _) (.cells #[.int .i64 x.kind,.int .i64 x.n,.string x.s,.slice Ax x.l.length cx] 79)) hBd) (Blk.src (R:=TmR d) (B:=B) (x:=x) (Blk.new wd #[.int .i64 x.kind,.int .i64 x.n,.string x.s,.slice Ax x.l.length cx] 79) ((HRd.out.below ((za _ wd).alloc (yY _) (.cells #[.int .i64 x.kind,.int .i64 x.n,.string x.s,.slice Ax x.l.length cx] 79)) hBd))))
      go_wp2_with ((
       at_builtin
       refine av (R:=TmR d) (e:=79) (base:=w.heap.size+3) (B:=B) (xs:=out) (ys:=[x]) rfl (.tmp 50) (.tmp 52) 23 rfl (bytes:=56) Tryz.underlying23 hi0 hz0 hz1 hz2 rfl (show 0<4 by omega) (ed d) rfl HOW.out.1 rfl HOW.out.2 rfl (by omega) (by have:=HJL.out;simp only [List.length_cons,List.length_nil];omega) (by omega) (by rw [World.size_alloc];omega) ?_
       intro v2 w7 hown2 hb2
       obtain ⟨A3,c3,rfl⟩:=hown2.form
       have H7:=yW (And.intro hown2 (HBd.out.trans (((za (w.heap.size+3) wd).alloc (by omega) (.cells #[.int .i64 x.kind,.int .i64 x.n,.string x.s,.slice Ax x.l.length cx] 79)).trans hb2)))
       clear hown2 hb2 k_x l_x b_x5))
      go_roundw
      case rel=>exact ⟨k+1,A3,c3,by omega,by rw [HE.out,List.length_append];rfl,by go_num,yW H7.out.2,yW (by rw [HE.out];exact H7.out.1),HALL2⟩
      case measure=>simp [intOf];omega
    ·have r0:=cell_regrown e0
     refine wp_region_quiet_below (by kernel_rfl) (by kernel_rfl) ?_
     repeat (go_big_quiet_step (fail))
     refine wpQuiet_nil ?_
     intro wc hw3
     have hb1:Below W.heap.size W wc:=by obtain ⟨p,rfl⟩:=hw3;exact below_regrown _ _ _
     clear hw3 q_x q_a q_b g0
     have b_a4:=b_a3.later hb1
     have b_b4:=b_b3.later hb1
     have b_r4:=b_r3.later hb1
     have b_x4:=b_x.later hb1
     have HBb:=yW (HBa.out.trans (hb1.mono (by omega)))
     have HBB:=yW (ab HBA.out hb1)
     have HOb:=yW (HOa.out.later hb1 hBa)
     have HRb:=yW (HRa.out.below hb1 hBa)
     have hszb:=yX hsza hb1.size
     have hBb:=yX hBa hb1.size
     clear hb1 b_a3 b_b3 b_r3 b_x HBa HOa HRa HBA hsza hBa
     have k_a:=b_a4.cell
     have l_a:=b_a4.lt
     have k_x:=b_x4.cell
     have l_x:=b_x4.lt
     go_wp2_with fail
     clear k_a l_a k_x l_x
     refine (kL (d:=d) (d':=d) (s:=a) (t:=x) (B:=B) (vs:=[_,_,_,_]) (ws:=[_,_,_,_]) (HS.out.below HBB.out hB) HRb.out hBb).mono ?_
     rintro e wd ⟨rfl,hb3⟩
     have b_x5:=b_x4.later hb3
     have HBd:=yW (HBb.out.trans (hb3.mono (by omega)))
     have HOd:=yW (HOb.out.later hb3 hBb)
     have HRd:=yW (HRb.out.below hb3 hBb)
     have hszd:=yX hszb hb3.size
     have hBd:=yX hBb hb3.size
     clear hb3 b_a4 b_b4 b_r4 b_x4 HBb HOb HRb HBB hszb hBb
     have HALL2:Hid (∀j (hj:j<k+1) (hj':j<b.l.length),nq a b b.l[j]=false):=yW fun j hj hj'=>by
      rcases Nat.lt_or_ge j k with h3 | h3
      ·exact HALL.out j h3 hj'
      ·obtain rfl:j=k:=by omega
       rw [(List.getElem?_eq_some_iff.1 HX.out).2];exact HNB.out
     by_cases hm:jO a x=true
     ·have HE:=yW (rf HX.out hm)
      rw [hm]
      clear hm
      go_wp2_with fail
      go_roundw
      case rel=>exact ⟨k+1,A2,_,by omega,by rw [HE.out],by go_num,HBd,yW (by rw [HE.out];exact HOd.out),HALL2⟩
      case measure=>simp [intOf];omega
     ·simp only [Bool.not_eq_true] at hm
      have HE:=yW (oh HX.out hm)
      rw [hm]
      clear hm
      generalize hout:fw a b k=out at *
      clear hout
      have k_x:=b_x5.cell
      have l_x:=b_x5.lt
      have HOW:=yW (And.intro (HOd.out.later ((za _ wd).alloc (yY _) (.cells #[.int .i64 x.kind,.int .i64 x.n,.string x.s,.slice Ax x.l.length cx] 79)) hBd) (Blk.src (R:=TmR d) (B:=B) (x:=x) (Blk.new wd #[.int .i64 x.kind,.int .i64 x.n,.string x.s,.slice Ax x.l.length cx] 79) ((HRd.out.below ((za _ wd).alloc (yY _) (.cells #[.int .i64 x.kind,.int .i64 x.n,.string x.s,.slice Ax x.l.length cx] 79)) hBd))))
      go_wp2_with ((
       at_builtin
       refine av (R:=TmR d) (e:=79) (base:=w.heap.size+3) (B:=B) (xs:=out) (ys:=[x]) rfl (.tmp 50) (.tmp 52) 23 rfl (bytes:=56) Tryz.underlying23 hi0 hz0 hz1 hz2 rfl (show 0<4 by omega) (ed d) rfl HOW.out.1 rfl HOW.out.2 rfl (by omega) (by have:=HJL.out;simp only [List.length_cons,List.length_nil];omega) (by omega) (by rw [World.size_alloc];omega) ?_
       intro v2 w7 hown2 hb2
       obtain ⟨A3,c3,rfl⟩:=hown2.form
       have H7:=yW (And.intro hown2 (HBd.out.trans (((za (w.heap.size+3) wd).alloc (by omega) (.cells #[.int .i64 x.kind,.int .i64 x.n,.string x.s,.slice Ax x.l.length cx] 79)).trans hb2)))
       clear hown2 hb2 k_x l_x b_x5))
      go_roundw
      case rel=>exact ⟨k+1,A3,c3,by omega,by rw [HE.out,List.length_append];rfl,by go_num,yW H7.out.2,yW (by rw [HE.out];exact H7.out.1),HALL2⟩
      case measure=>simp [intOf];omega
  ·have HE:=yW (show fw a b k=fU a b from uL (by omega))
   have HOK:=yW (xk (show b.l.length≤k by omega) HALL.out)
   rw [HE.out] at HOW HJL ⊢
   generalize hout:fU a b=all at *
   have kR:=b_r2.cell
   have fR:=b_r2.free
   clear hout
   by_cases h16:16<all.length
   ·have hg:(16:Int)<(all.length:Int):=by omega
    have HR16:=yW (show jh a b=(noT,4) by rw [HOK.out,if_pos h16])
    go_wp2_with fail
    have hbr:=dZ b_r2 (.int .i64 0) (.int .i64 0) (.string ⟨#[]⟩) (.slice none 0 0)
    refine bodyPost_ret (ao rfl rfl hbr rfl) rfl ?_
    rw [HR16.out]
    exact ⟨⟨_,_,rfl,TmOwn.no⟩,dC HBr.out (by omega) _ _ _ _⟩
   ·have hg:¬(16:Int)<(all.length:Int):=by omega
    have HR16:=yW (show jh a b=qB all by rw [HOK.out,if_neg h16])
    obtain ⟨A3,c3,e3,r1,r2,r3⟩:=HOW.out.reads hBr (by have:=HJL.out;show all.length*(8*4)≤_;omega)
    simp only [Value.slice.injEq] at e3
    obtain ⟨rfl,_,rfl⟩:=e3
    have HRL:=yW r3
    clear r1 r2 r3 kR fR
    go_wp2_with fail
    refine (set_any (d:=d) (B:=wr.heap.size) (l:=all) (A:=A2) (c:=c2) HRL.out (yY _) (by have:=HJL.out;omega)).mono ?_
    rintro e w9 ⟨⟨A4,c4,rfl,hrd⟩,hb9⟩
    have b_r9:=b_r2.later hb9
    have HB9:=yW (ab HBr.out hb9)
    have HRD:=yW hrd
    have kR:=b_r9.cell
    have fR:=b_r9.free
    clear hrd hb9
    go_wp2_with fail
    have hbr:=dZ b_r9 (.int .i64 (qB all).1.kind) (.int .i64 (qB all).1.n) (.string (qB all).1.s) (.slice A4 (qB all).1.l.length c4)
    refine bodyPost_ret (ao rfl rfl hbr rfl) rfl ?_
    rw [HR16.out]
    exact ⟨⟨A4,c4,rfl,(HRD.out.put4 (by omega) _ _ _ _).lower (by omega)⟩,dC HB9.out (by omega) _ _ _ _⟩
end Go.Proofs.YtdphibjibnffeaaGreat
