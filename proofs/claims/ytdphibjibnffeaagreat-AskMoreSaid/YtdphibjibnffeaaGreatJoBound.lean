/- join.copied, join.bound. -/
import Derived.Test.YtdphibjibnffeaaGreatBind
import Derived.Test.YtdphibjibnffeaaGreatRule1
import Derived.Test.YtdphibjibnffeaaGreatStab
import Derived.RegionTactic
import Derived.Deep.RegionHeld3
import Derived.Deep.RegionLaw
import Derived.Deep.DeepCutAuto
import Derived.Test.YtdphibjibnffeaaGreatHeldA
set_option linter.unusedVariables false
set_option linter.unusedSimpArgs false
set_option maxRecDepth 100000
set_option maxHeartbeats 8000000
namespace Go.Proofs.YtdphibjibnffeaaGreat
open Go.ChangeShapes Go.WideShapes Go.ChangeAt Go.RowKit
def cv {α:Type} (L:List α) (p:Nat) (x:α):List α:=L.take p++x::L.drop p
section
variable {α:Type} {L:List α} {p k:Nat} {x y:α}
theorem bB (h:p≤L.length):(cv L p x).length=L.length+1:=by simp [cv];omega
theorem eu:y∈cv L p x↔y=x∨y∈L:=by
 unfold cv
 rw [List.mem_append,List.mem_cons]
 constructor
 ·rintro (h | h | h)
  ·exact .inr (List.mem_of_mem_take h)
  ·exact .inl h
  ·exact .inr (List.mem_of_mem_drop h)
 ·rintro (h | h)
  ·exact .inr (.inl h)
  ·rw [←List.take_append_drop p L,List.mem_append] at h
   rcases h with h | h
   ·exact .inl h
   ·exact .inr (.inr h)
end
section
variable {L:List aS} {t:aS} {k:Nat}
theorem na:ig L t≤L.length:=List.findIdx_le_length
theorem qm (hk:k<L.length) (h:k<ig L t):L[k]<t:=by
 have:=List.not_of_lt_findIdx h
 simpa using this
theorem sJ (hs:L.Pairwise (· < ·)) (hk:k<L.length) (h:ig L t≤k):¬L[k]<t:=by
 have hp:ig L t<L.length:=Nat.lt_of_le_of_lt h hk
 have h0:¬L[ig L t]<t:=by
  have:=List.findIdx_getElem (xs:=L) (p:=fun x=>!decide (x<t)) (w:=hp)
  have h2:(!decide (L[ig L t]<t))=true:=this
  simpa using h2
 rcases Nat.lt_or_eq_of_le h with h1 | h1
 ·intro h2
  exact h0 (List.lt_trans (List.pairwise_iff_getElem.1 hs _ k hp hk h1) h2)
 ·subst h1;exact h0
theorem mr (hs:L.Pairwise (· < ·)) (hk:k<L.length) (e:L[k]=t):ig L t=k:=by
 refine vv (Nat.le_of_lt hk) (fun j hj hjk=>?_) (fun j hj hkj=>?_)
 ·rw [←e];exact List.pairwise_iff_getElem.1 hs j k hj hk hjk
 ·rcases Nat.lt_or_ge k j with h1 | h1
  ·rw [←e]
   exact fun h2=>List.lt_asymm (List.pairwise_iff_getElem.1 hs k j hk hj h1) h2
  ·obtain rfl:j=k:=by omega
   rw [e];exact List.lt_irrefl t
theorem tS {a b:aS} (h1:¬a<b) (h2:a≠b):b<a:=by
 rcases List.le_iff_lt_or_eq.1 (List.not_lt.1 h1) with h | h
 ·exact h
 ·exact absurd h.symm h2
theorem xM (hs:L.Pairwise (· < ·)) (hn:t∉L):(cv L (ig L t) t).Pairwise (· < ·):=by
 have hb:∀a∈L.take (ig L t),a<t:=by
  intro a ha
  obtain ⟨i,hi,rfl⟩:=List.getElem_of_mem ha
  rw [List.length_take] at hi
  rw [List.getElem_take]
  exact qm (by omega) (by omega)
 have ha:∀a∈L.drop (ig L t),t<a:=by
  intro a ha
  obtain ⟨i,hi,rfl⟩:=List.getElem_of_mem ha
  rw [List.length_drop] at hi
  rw [List.getElem_drop]
  exact tS (sJ hs (by omega) (Nat.le_add_right _ _)) (fun e=>hn (e▸List.getElem_mem _))
 unfold cv
 rw [List.pairwise_append]
 refine ⟨hs.take,?_,fun a h1 b h2=>?_⟩
 ·rw [List.pairwise_cons]
  exact ⟨ha,hs.drop⟩
 ·rcases List.mem_cons.1 h2 with rfl | h2
  ·exact hb a h1
  ·exact List.lt_trans (hb a h1) (ha b h2)
end
structure OkN (b:Bd):Prop where
 len:b.names.length=b.terms.length
 rise:b.names.Pairwise (· < ·)
 may:∀n∈b.names,dW n=true
 fixed:∀t∈b.terms,af t=true
theorem fC {b:Bd}:cr b=true↔OkN b∧b.names.length≤32:=by
 constructor
 ·intro h
  obtain ⟨h1,h2⟩:=ko h
  exact ⟨⟨h1.len,h1.rise,h2,h1.fixed⟩,h1.few⟩
 ·rintro ⟨⟨h1,h2,h3,h4⟩,h5⟩
  unfold cr
  rw [Bool.and_eq_true,Bool.and_eq_true,List.all_eq_true]
  refine ⟨⟨decide_eq_true h1,decide_eq_true h5⟩,fun i hi=>?_⟩
  have hi:i<b.names.length:=by simpa using hi
  unfold ii
  rw [List.getElem?_eq_getElem hi,List.getElem?_eq_getElem (h1▸hi),List.getElem?_eq_getElem (show i-1<b.names.length by omega)]
  simp only [h3 _ (List.getElem_mem hi),h4 _ (List.getElem_mem (h1▸hi)),Bool.true_and,Bool.or_eq_true,decide_eq_true_eq]
  rcases Nat.eq_zero_or_pos i with h | h
  ·exact .inl h
  ·exact .inr (List.pairwise_iff_getElem.1 h2 (i-1) i (by omega) hi (by omega))
theorem OkN.bd {b:Bd} (h:OkN b) (h32:b.names.length≤32):cr b=true:=fC.2 ⟨h,h32⟩
def xi (b:Bd) (n:aS) (t:Tm):Bd:=⟨cv b.names (ig b.names n) n,cv b.terms (ig b.names n) t⟩
section
variable {b c:Bd} {n m:aS} {t u:Tm}
theorem uJ:(xi b n t).names.length=b.names.length+1:=bB na
theorem OkN.ins (h:OkN b) (hn:n∉b.names) (hm:dW n=true) (ht:af t=true):OkN (xi b n t):=by
 refine ⟨?_,xM h.rise hn,fun a ha=>?_,fun a ha=>?_⟩
 ·rw [uJ]
  show _=(cv b.terms (ig b.names n) t).length
  rw [bB (h.len▸na),h.len]
 ·rcases eu.1 ha with rfl | ha
  ·exact hm
  ·exact h.may a ha
 ·rcases eu.1 ha with rfl | ha
  ·exact ht
  ·exact h.fixed a ha
theorem xn (h:OkN b):ek b m=some u↔∃k:Nat,b.names[k]? = some m∧b.terms[k]? = some u:=by
 constructor
 ·intro e
  unfold ek at e
  split at e
  ·rename_i hm
   obtain ⟨k,hk,hkm⟩:=List.getElem_of_mem hm
   have hp:=mr h.rise hk hkm
   exact ⟨k,by rw [List.getElem?_eq_getElem hk,hkm],by rw [←hp];exact e⟩
  ·cases e
 ·rintro ⟨k,h1,h2⟩
  obtain ⟨hk,hkm⟩:=List.getElem?_eq_some_iff.1 h1
  unfold ek
  rw [if_pos (hkm▸List.getElem_mem hk),mr h.rise hk hkm]
  exact h2
theorem vc (h:OkN b):ek b m=none↔m∉b.names:=by
 constructor
 ·intro e hm
  obtain ⟨k,hk,hkm⟩:=List.getElem_of_mem hm
  have:ek b m=some (b.terms[k]'(h.len▸hk)):=(xn h).2 ⟨k,by rw [List.getElem?_eq_getElem hk,hkm],List.getElem?_eq_getElem _⟩
  rw [e] at this;cases this
 ·intro hm;unfold ek;rw [if_neg hm]
end
def wl (b:Bd) (x y:Tm):Option Bd:=
 if x.kind=1 then (match ek b (bs x.s) with | some z=>if ic z y=true then some b else none | none=>some (xi b (bs x.s) y))
 else if ic x y=true then some b else none
def ux:List Tm→List Tm→Bd→Option Bd
 | x::xs,y::ys,b=>match wl b x y with | some c=>ux xs ys c | none=>none
 | _,_,b=>some b
def okB (r:Option Bd):Option Bd:=match r with | some c=>if cr c=true then some c else none | none=>none
def gJ (p f:Pr) (b:Bd):Option Bd:=
 if p.name=f.name∧p.terms.length=f.terms.length then okB (ux p.terms f.terms b) else none
def rk (c:Bd) (x y:Tm):Prop:=if x.kind=1 then ∃z,ek c (bs x.s)=some z∧ic z y=true else ic x y=true
def Keeps (b c:Bd):Prop:=∀m u,ek b m=some u→ek c m=some u
theorem xv {x:Tm} (h:fx x=true) (h1:x.kind=1):dW (bs x.s)=true:=by
 unfold fx at h
 rw [if_neg (by rw [h1];decide)] at h
 unfold dS at h
 simp [h1] at h
 exact h.2.2
section
variable {b c:Bd} {x y:Tm}
theorem rk.keep (h:rk b x y) (hk:Keeps b c):rk c x y:=by
 unfold rk at h ⊢
 split
 ·rename_i h1
  rw [if_pos h1] at h
  obtain ⟨z,h2,h3⟩:=h
  exact ⟨z,hk _ _ h2,h3⟩
 ·rename_i h1
  rw [if_neg h1] at h
  exact h
end
theorem nW {xs ys:List Tm} {k:Nat} {b:Bd} (h1:k<xs.length) (h2:k<ys.length):ux (xs.drop k) (ys.drop k) b=match wl b xs[k] ys[k] with | some c=>ux (xs.drop (k+1)) (ys.drop (k+1)) c | none=>none:=by
 rw [List.drop_eq_getElem_cons h1,List.drop_eq_getElem_cons h2]
 rfl
theorem wX {xs ys:List Tm} {b:Bd} (k:Nat) (h1:xs.length≤k):ux (xs.drop k) (ys.drop k) b=some b:=by
 rw [List.drop_eq_nil_of_le h1]
 unfold ux;rfl
theorem ox {p:Pr} (h:aK p=true):p.terms.length≤8∧∀x∈p.terms,fx x=true:=by
 unfold aK at h
 simp only [Bool.and_eq_true,decide_eq_true_eq,List.all_eq_true] at h
 exact h.2
theorem sf {p:Pr} (h:gC p=true):aK p=true∧∀x∈p.terms,af x=true:=by
 unfold gC at h
 simp only [Bool.and_eq_true,decide_eq_true_eq,List.all_eq_true] at h
 exact ⟨h.1,h.2.2⟩
theorem jW:(Tryz.prog.info? 9).map (fun i=>(i.zero,i.size,i.bytes))=some (some (.string ⟨#[]⟩),1,16):=by kernel_rfl
theorem cw:dq cX:=fun h u hu=>by
 obtain ⟨rfl,_⟩:=h
 simp only [List.mem_cons,List.not_mem_nil,or_false] at hu
 subst hu;rfl
theorem nF {B c:Nat} {xs:List ByteArray} {A:Option Addr} {w:World} (hl:RL cX w B xs A) (hB:B≤w.heap.size) (hn:xs.length*16≤140737488351232) :
 Calls Tryz.prog 226 #[.slice A xs.length c] w fun e w'=>(∃v,e=.returned v∧am cX 9 w' w.heap.size B v xs)∧Below w.heap.size w w':=by
 obtain ⟨i0,hi0,hz0,hz1,hz2⟩:=info_parts jW
 have hsrc:=yW (hl.keep ((za w.heap.size w).alloc (yY _) (.cells #[] 9)) hB).src
 have hown:=yW (am.empty (base:=w.heap.size) cX 9 (w:=w.alloc (.cells #[] 9)) (b:=w.heap.size) (heap_alloc_new w _) (yY _) B)
 have HA:=yW ((za w.heap.size w).alloc (yY _) (.cells #[] 9))
 rcases A with _ | a
 ·have h0:xs=[]:=by
   rcases xs with _ | ⟨x,xs⟩
   ·rfl
   ·obtain ⟨_,_,e,_⟩:=hl (by simp)
    cases e
  subst h0
  clear hl
  have he:∀wx:World,(binOp BinOp.eql 44 (.slice none 0 c) (.slice none 0 0)).run Tryz.prog wx=.ok (.bool true) wx:=fun wx=>jz 44 9 0 c Tryz.underlying44 wx
  go_enter Tryz.func226,Tryz.ntmps226
  go_wp2_with fail
  go_ret
  exact ⟨⟨_,rfl,am.nil _ _ _ _ _⟩,za _ _⟩
 ·clear hl
  have he:∀wx:World,(binOp BinOp.eql 44 (.slice (some a) xs.length c) (.slice none 0 0)).run Tryz.prog wx=.ok (.bool false) wx:=fun wx=>iq 44 9 a xs.length c Tryz.underlying44 wx
  go_enter Tryz.func226,Tryz.ntmps226
  go_wp2_with ((
   at_builtin
   refine av (R:=cX) (e:=9) rfl (.tmp 5) (.tmp 6) 44 rfl (bytes:=16) Tryz.underlying44 hi0 hz0 hz1 hz2 rfl (show 0<1 by omega) cw rfl hown.out rfl hsrc.out rfl hB (by simp only [List.length_nil];omega) (by omega) HA.out.size ?_
   intro v1 w1 hown1 hb1
   have HO:=yW hown1
   have HB1:=yW (HA.out.trans hb1)
   clear hown1 hb1))
  go_ret
  exact ⟨⟨_,rfl,HO.out⟩,HB1.out⟩
theorem ret_bd {fn:Func} {tmps:Array Value} {p:Tmp} {g:Nat} {w:World} {cs:Array Value} (h:fn.results=#[.cell p 46]) (hp:tmps.getD p undef=.pointer (some ⟨g,0,none⟩)) (hb:Blk w g cs) (hn:cs.size=2) :
 (results fn tmps).run Tryz.prog w=.ok (.agg cs) w:=by
 obtain ⟨T,hb⟩:=hb
 exact results_cell_row h tmps w g T cs (0,0) _ hp hb Tryz.underlying46 rfl (by rw [hn];kernel_rfl)
theorem jl {fn:Func} {tmps:Array Value} {p u:Tmp} {g:Nat} {w:World} {cs:Array Value} (h:fn.results=#[.cell p 46,.tmp u]) (hp:tmps.getD p undef=.pointer (some ⟨g,0,none⟩)) (hb:Blk w g cs) (hn:cs.size=2) :
 (results fn tmps).run Tryz.prog w=.ok (.tuple #[.agg cs,tmps.getD u undef]) w:=by
 obtain ⟨T,hb⟩:=hb
 rw [results_cell_tmp h]
 have e:tmps[p]?.getD undef=.pointer (some ⟨g,0,none⟩):=by simpa using hp
 have e1:((asAddr (tmps.getD p undef)).run Tryz.prog w)=.ok ⟨g,0,none⟩ w:=by simp [e,asAddr]
 rw [e1,Result.andThen_ok,run_loadVar_row w g T 46 cs (0,0) _ hb Tryz.underlying46 rfl (by rw [hn];kernel_rfl),Result.andThen_ok]
theorem oM {w:World} {g:Nat} {a b:Value} (h:Blk w g #[a,b]) (v0 v1:Value):Blk ((w.setCell ⟨g,0,none⟩ v0).setCell ⟨g,1,none⟩ v1) g #[v0,v1]:=(h.set_ 0 v0).set_ 1 v1
theorem oN {w w2:World} {B g:Nat} (h:Below B w w2) (hg:B≤g) (v0 v1:Value):Below B w ((w2.setCell ⟨g,0,none⟩ v0).setCell ⟨g,1,none⟩ v1):=(h.setCell (p:=⟨g,0,none⟩) hg v0).setCell (p:=⟨g,1,none⟩) hg v1
theorem mc {d B:Nat} {t:Tm} {vs:List Value} {w:World} (ht:RTm w B (d+1) t vs) (hB:B≤w.heap.size) (hlf:∀x∈t.l,lU x) (hn:t.l.length≤16) :
 Calls Tryz.prog 69 #[.agg vs.toArray] w fun e w'=>(∃A c,e=.returned (.agg #[.int .i64 t.kind,.int .i64 t.n,.string t.s,.slice A t.l.length c])∧TmOwn d w.heap.size w' t A c)∧Below w.heap.size w w':=by
 obtain ⟨At,ct,rfl,q1,q2,q3,q4,q5,hl⟩:=ht
 have HL:Hid (RL (TmR d) w B t.l At):=yW hl
 have HQ:=yW (And.intro q3 (And.intro q4 q5))
 clear hl
 go_enter Tryz.func69,Tryz.ntmps69
 go_upto_region 1 with fail
 generalize hW:World.alloc _ _=w1
 obtain ⟨hb,hz⟩:=al2 hW
 have b_a:=n21 hW
 have b_r:=n22 hW
 have HB1:=yW hb
 have hsz1:=hb.size
 have hlr:=b_r.lt
 clear hW hz hb
 have hB1:=yX hB hsz1
 have HSR:=yW (HL.out.keep HB1.out hB)
 have k_a:=b_a.cell
 have l_a:=b_a.lt
 go_upto_region 2 with ((
  go_at_call 126
  refine (bM HSR.out hB1 (by omega)).mono ?_
  rintro e wn_ ⟨⟨v,rfl,hown⟩,hb⟩
  obtain ⟨An,cn,hv⟩:∃A c,v=.slice A t.l.length c:=hown.form
  subst hv
  have HON:=yW (hown.leaves hlf)
  have HBN:=yW hb
  have hszn:=hb.size
  clear k_a l_a
  have k_a:=(b_a.keep HBN.out (by omega)).cell
  have l_a:=(b_a.keep HBN.out (by omega)).lt
  have f_a:=(b_a.keep HBN.out (by omega)).free
  clear hown hb))
 have BA:=yW ((b_a.keep HBN.out (by omega)).set_ 3 (.slice An t.l.length cn))
 have BR:=yW ((b_r.keep HBN.out hlr).far (c:=w.heap.size) (by omega) 3 (.slice An t.l.length cn))
 have HO2:=yW (HON.out.far (c:=w.heap.size) (i:=3) (by omega) (yZ _) (.slice An t.l.length cn))
 have HB2:Hid (Below w.heap.size w (wn_.setCell ⟨w.heap.size,3,none⟩ (.slice An t.l.length cn))):=yW ((HB1.out.trans (HBN.out.mono hsz1)).setCell (yY _) _)
 clear k_a l_a f_a
 generalize wn_.setCell ⟨w.heap.size,3,none⟩ (.slice An t.l.length cn)=w2 at *
 have k_a:=BA.out.cell
 have l_a:=BA.out.lt
 have k_r:=BR.out.cell
 have l_r:=BR.out.lt
 have f_r:=BR.out.free
 go_wp2_with fail
 have hbr:=dZ BR.out (.int .i64 t.kind) (.int .i64 t.n) (.string t.s) (.slice An t.l.length cn)
 refine bodyPost_ret (oT rfl rfl hbr rfl) rfl ?_
 have hto:TmOwn d w1.heap.size w2 t An cn:=⟨HO2.out,HQ.out.2.1,HQ.out.2.2,HQ.out.1,by omega⟩
 exact ⟨⟨An,cn,rfl,(hto.put4 (by omega) _ _ _ _).lower (by omega)⟩,dC HB2.out (by omega) _ _ _ _⟩
structure BdQ (base D:Nat) (w:World) (b:Bd) (xs:List SV) (An:Option Addr) (cn:Nat) (At:Option Addr) (ct:Nat):Prop where
 tms:xs.map SV.t=b.terms
 nm:am cX 9 w base 0 (.slice An b.names.length cn) (b.names.map mkS)
 st:StkQ base D w xs At ct
 sep:∀x∈xs,∀a,x.a=some a→∀g,An=some g→a.block≠g.block
theorem StkQ.lower {base b0 D c:Nat} {w:World} {xs:List SV} {A:Option Addr} (h:StkQ base D w xs A c) (hb:b0≤base):StkQ b0 D w xs A c:=
 ⟨h.own.lower hb,h.tms,h.sep,fun x hx a ha=>⟨yX hb (h.lt x hx a ha).1,(h.lt x hx a ha).2⟩⟩
theorem StkQ.own_ge {base D c g:Nat} {w:World} {xs:List SV} {A:Option Addr} (h:StkQ base D w xs A c) (hg:g<base):(Value.slice A xs.length c).ownBlock≠some g:=by
 intro e
 rcases A with _ | a
 ·cases e
 ·simp only [Value.ownBlock,Option.some.injEq] at e
  have:=(h.row a rfl).1
  omega
theorem am.row_lt {α:Type} {R:Reader α} {e:TypeId} {w:World} {base B n c:Nat} {A:Option Addr} {xs:List α} (h:am R e w base B (.slice A n c) xs):∀g,A=some g→base≤g.block∧g.block<w.heap.size:=by
 intro g hg
 subst hg
 obtain ⟨cells,how,_⟩:=h
 exact how.lt g.block rfl
theorem am.grownN {α:Type} {R:Reader α} {e:TypeId} {w w':World} {base:Nat} {v:Value} {xs:List α} {row:Option Nat} (h:am R e w base 0 v xs) (hg:w.grownBy w' row) (hne:∀g,v.ownBlock=some g→some g≠row):am R e w' base 0 v xs:=by
 obtain ⟨cells,h,hf⟩:=h
 have hb:Below 0 w w':=(za 0 w).grown hg (yZ _) (fun k hk=>yZ _)
 refine ⟨cells,⟨h.1,?_⟩,hf.keep hb (yY _)⟩
 rcases h.2 with h2 | ⟨g,cap,cur,hv,hg0,hh,r⟩
 ·exact .inl h2
 ·refine .inr ⟨g,cap,cur,hv,hg0,?_,r⟩
  have hlt:g<w.heap.size:=by
   rcases Nat.lt_or_ge g w.heap.size with h' | h'
   ·exact h'
   ·rw [Array.getElem?_eq_none h'] at hh;cases hh
  exact (hg.block g hlt (hne g (by rw [hv];rfl))).trans hh
theorem oF {α β:Type} {R:Reader α} {R':Reader β} {e e':TypeId} {w:World} {base base' B B':Nat} {v v':Value} {xs:List α} {ys:List β} (h:am R e w base B v xs) (h':am R' e' w base' B' v' ys) (hT:e≠e'):∀g,v.ownBlock=some g→some g≠v'.ownBlock:=by
 intro g hg he
 obtain ⟨cells,h,_⟩:=h
 obtain ⟨cells',h',_⟩:=h'
 rcases h.2 with ⟨h1,_⟩ | ⟨g1,cap,cur,hv,_,hh,_⟩
 ·rw [h1] at hg;cases hg
 ·rw [hv] at hg
  simp only [Value.ownBlock,Option.some.injEq] at hg
  rcases h'.2 with ⟨h1,_⟩ | ⟨g2,cap',cur',hv',_,hh',_⟩
  ·rw [h1] at he;cases he
  ·rw [hv'] at he
   simp only [Value.ownBlock,Option.some.injEq] at he
   subst hg;subst he
   rw [hh] at hh'
   simp only [Option.some.injEq,Obj.cells.injEq] at hh'
   exact hT hh'.2.1
theorem StkQ.grownN {base D c:Nat} {w w':World} {xs:List SV} {A:Option Addr} {row:Option Nat} (h:StkQ base D w xs A c) (hg:w.grownBy w' row) (h1:∀x∈xs,∀a,x.a=some a→some a.block≠row) (h2:∀g,(Value.slice A xs.length c).ownBlock=some g→some g≠row):StkQ base D w' xs A c:=
 ⟨h.own.grownN hg h2,fun x hx=>(h.tms x hx).keep ((za 0 w).grown hg (yZ _) (fun k hk=>yZ _)) fun a ha=>hg.block _ (h.lt x hx a ha).2 (h1 x hx a ha),h.sep,fun x hx a ha=>⟨(h.lt x hx a ha).1,zb (h.lt x hx a ha).2 hg.size⟩⟩
theorem StkQ.put {base D c:Nat} {w w2:World} {xs zs:List SV} {x:SV} {A:Option Addr} (h:StkQ base D w xs A c) (hx:dl D w x) (hap:∀a,x.a=some a→∀b,A=some b→a.block≠b.block) (hlt:∀a,x.a=some a→base≤a.block∧a.block<w.heap.size) (hbase:base≤w.heap.size)
 (hz:∀y∈zs,y=x∨y∈xs) {A2:Option Addr} {c2:Nat} (ho:am SvR 79 w2 base 0 (.slice A2 zs.length c2) zs) (hg:w.grownBy w2 (Value.slice A xs.length c).ownBlock) (hf:bl w (.slice A xs.length c) (.slice A2 zs.length c2)) :
 StkQ base D w2 zs A2 c2∧Below base w w2:=by
 have hb:Below base w w2:=(za base w).grown hg hbase (fun k hk=>by
  obtain ⟨cells,how,_⟩:=h.own
  exact (how.lt k hk).1)
 have hb0:Below 0 w w2:=hb.mono (yZ _)
 have key:∀y,dl D w y→(∀a,y.a=some a→∀b,A=some b→a.block≠b.block)→(∀a,y.a=some a→base≤a.block∧a.block<w.heap.size)→dl D w2 y∧∀a,y.a=some a→(base≤a.block∧a.block<w2.heap.size)∧∀b,A2=some b→a.block≠b.block:=by
  intro y hy hs hl
  refine ⟨hy.keep hb0 fun a ha=>hg.block _ (hl a ha).2 ?_,fun a ha=>⟨⟨(hl a ha).1,zb (hl a ha).2 hb.size⟩,fun b hb2 e=>?_⟩⟩
  ·intro e
   rcases hA:A with _ | b
   ·rw [hA] at e;cases e
   ·rw [hA] at e
    simp only [Value.ownBlock,Option.some.injEq] at e
    exact hs a ha b hA e
  ·subst hb2
   rcases hf with hf | ⟨k,hk,hk2⟩
   ·rcases hA:A with _ | a2
    ·rw [hA] at hf;simp [Value.ownBlock] at hf
    ·rw [hA] at hf
     simp only [Value.ownBlock,Option.some.injEq] at hf
     exact hs a ha a2 hA (e.trans hf)
   ·simp only [Value.ownBlock,Option.some.injEq] at hk
    have:=(hl a ha).2
    omega
 have hall:∀y∈zs,dl D w2 y∧∀a,y.a=some a→(base≤a.block∧a.block<w2.heap.size)∧∀b,A2=some b→a.block≠b.block:=by
  intro y hy
  rcases hz y hy with h1 | h1
  ·subst h1
   exact key y hx hap hlt
  ·exact key y (h.tms y h1) (h.sep y h1) (h.lt y h1)
 exact ⟨⟨ho,fun y hy=>(hall y hy).1,fun y hy a ha=>((hall y hy).2 a ha).2,fun y hy a ha=>((hall y hy).2 a ha).1⟩,hb⟩
theorem BdQ.later {base D:Nat} {w w':World} {b:Bd} {xs:List SV} {An At:Option Addr} {cn ct:Nat} (h:BdQ base D w b xs An cn At ct) (hb:Below w.heap.size w w'):BdQ base D w' b xs An cn At ct:=
 ⟨h.tms,h.nm.later hb (yZ _),h.st.later hb,h.sep⟩
theorem StkQ.rl {base D c:Nat} {w:World} {xs:List SV} {A:Option Addr} (h:StkQ base D w xs A c) (hn:xs.length≤1000000):RL (TmR (D+1)) w w.heap.size (xs.map SV.t) A:=by
 obtain ⟨A3,c3,e3,_,_,r3⟩:=h.own.reads (yZ _) (by show xs.length*(8*4)≤_;omega)
 simp only [Value.slice.injEq] at e3
 obtain ⟨rfl,_,rfl⟩:=e3
 intro h0
 rw [List.length_map] at h0
 obtain ⟨b,off,e,hb,hc⟩:=r3 h0
 refine ⟨b,off,e,hb,fun i hi=>?_⟩
 rw [List.length_map] at hi
 obtain ⟨vs,hl,⟨x,hx,hr⟩,hv⟩:=hc i hi
 obtain rfl:vs=x.cs:=hr
 exact ⟨x.cs,hl,⟨x.t,by rw [List.getElem?_map,hx];rfl,(h.tms x (List.mem_of_getElem? hx)).1⟩,hv⟩
theorem tO {d B cn ct:Nat} {b:Bd} {An At:Option Addr} {w:World} (hn:RL cX w B (b.names.map mkS) An) (ht:RL (TmR (d+1)) w B b.terms At) (hfix:∀t∈b.terms,af t=true) (hn1:b.names.length≤1000) (ht1:b.terms.length≤1000) (hB:B≤w.heap.size) :
 Calls Tryz.prog 170 #[.agg (bdV An b.names.length cn At b.terms.length ct)] w fun z w'=>(∃An' cn' At' ct' xs,z=.returned (.agg #[.slice An' b.names.length cn',.slice At' b.terms.length ct'])∧BdQ w.heap.size d w' b xs An' cn' At' ct')∧Below w.heap.size w w':=by
 have HN:=yW hn
 have HT:=yW ht
 have HFX:=yW hfix
 clear hn ht hfix
 obtain ⟨i0,hi0,hz0,hz1,hz2⟩:=info_parts iz
 unfold bdV
 go_enter Tryz.func170,Tryz.ntmps170
 go_upto_region 1 with fail
 generalize hW:World.alloc _ _=w1
 obtain ⟨hb,hz⟩:=al2 hW
 have b_a:=n21 hW
 have b_r:=n22 hW
 have HB1:=yW hb
 have hsz1:=hb.size
 clear hW hb
 have hB1:=yX hB hsz1
 have HCL:=yW (nF (c:=cn) (xs:=b.names.map mkS) (HN.out.keep HB1.out hB) hB1 (by rw [List.length_map];omega))
 rw [List.length_map] at HCL
 have k_a:=b_a.cell
 have l_a:=b_a.lt
 go_upto_region 2 with ((
  go_at_call 226
  refine HCL.out.mono ?_
  rintro e w2 ⟨⟨v,rfl,hown⟩,hb⟩
  obtain ⟨A2,c2,hv⟩:∃A c,v=.slice A b.names.length c:=by have:=hown.form;rwa [List.length_map] at this
  subst hv
  have HON:=yW (show am cX 9 w2 w1.heap.size 0 (.slice A2 b.names.length c2) (b.names.map mkS) from (by
   obtain ⟨cells,h1,h2⟩:=hown
   exact ⟨cells,h1,h2.1,h2.2⟩))
  have HB2:=yW hb
  have BA2:=yW (b_a.later hb)
  have BR2:=yW (b_r.later hb)
  have hsz2:=hb.size
  clear k_a l_a hown hb))
 generalize hW:World.alloc _ _=w3
 obtain ⟨hb3,hz3⟩:=al1 hW
 have HBO3:=yW (n11 hW)
 have HB3:=yW hb3
 have BA3:=yW (BA2.out.later hb3)
 have BR3:=yW (BR2.out.later hb3)
 have HN3:=yW (HON.out.later hb3 (yZ _))
 have hsz3:=hb3.size
 clear hW hb3 HCL
 have k_a:=BA3.out.cell
 have l_a:=BA3.out.lt
 have HOL:=yW (HBO3.out.lt)
 clear b_a b_r
 go_upto_region 3 with fail
 go_loopw [13] (fun i wr=>∃(k:Nat) (xs:List SV) (A:Option Addr) (c:Nat),k≤b.terms.length∧i=.int .i64 k∧xs.length=k∧Hid (xs.map SV.t=b.terms.take k)∧Hid (Below w2.heap.size w2 wr)∧Hid (Blk wr w2.heap.size #[.slice A2 b.names.length c2,.slice A k c])∧Hid (StkQ w3.heap.size d wr xs A c)) (fun i _=>b.terms.length-(intOf i).toNat)
 case atStart=>exact ⟨0,[],none,0,yZ _,rfl,rfl,yW rfl,HB3,HBO3,yW (StkQ.nil _ _ _)⟩
 case round=>
  obtain ⟨k,xs,A,c,hk,rfl,hxl,HXT,HWR,HBO,HST⟩:=hrel
  subst hxl
  have hszr:=HWR.out.size
  have HBw:Hid (Below w.heap.size w wr):=yW (HB1.out.trans ((HB2.out.mono hsz1).trans (HWR.out.mono (by omega))))
  have hBr:B≤wr.heap.size:=by omega
  by_cases hlt:xs.length<b.terms.length
  ·obtain ⟨b_,off,rfl,hob⟩:=(HT.out.keep HBw.out hB).base (za _ _) hBr (by omega)
   obtain ⟨x,vs,hx,hlen,hcell,hr⟩:=(HT.out.keep HBw.out hB).at_ (za _ _) hBr hlt
   have HX:=yW hr
   obtain ⟨Ax,cx,rfl,g1,g2,g3,g4,g5,_⟩:=RTm.cells (show RTm wr B (d+1) x vs from hr)
   have c0:wr.cell? ⟨b_,off+xs.length*4,none⟩=some (.int .i64 x.kind):=hcell 0 _ rfl
   have c1:wr.cell? ⟨b_,off+xs.length*4+1,none⟩=some (.int .i64 x.n):=hcell 1 _ rfl
   have c2:wr.cell? ⟨b_,off+xs.length*4+2,none⟩=some (.string x.s):=hcell 2 _ rfl
   have c3:wr.cell? ⟨b_,off+xs.length*4+3,none⟩=some (.slice Ax x.l.length cx):=hcell 3 _ rfl
   have HXE:Hid (b.terms[xs.length]=x):=yW (by rw [List.getElem?_eq_getElem hlt] at hx;simpa using hx)
   have HF:Hid (af x=true):=yW (HFX.out x (List.mem_of_getElem? hx))
   obtain ⟨hle,hl16⟩:=cB HF.out
   have HLE:=yW hle
   clear hcell hlen hx hr hle k_a l_a
   go_upto_region 5 with fail
   generalize hW:World.alloc _ _=w4
   obtain ⟨hb4,hz4⟩:=al1 hW
   have HBQ:=yW (n11 hW)
   have HW4:=yW hb4
   have HBO4:=yW (HBO.out.later hb4)
   have HST4:=yW (HST.out.later hb4)
   have HX4:=yW (RTm.below hb4 hBr HX.out)
   have hB4:B≤w4.heap.size:=by omega
   have hsz4:=hb4.size
   clear hW hb4 c0 c1 c2 c3
   have HLO:=yW (HBO4.out.lt)
   have hlo:=HLO.out
   have HLQ:=yW (HBQ.out.lt)
   have hlq:=HLQ.out
   have hI0:(0:Int)≤(xs.length:Int):=Int.natCast_nonneg _
   have hk1:xs.length≤1000:=by omega
   have tok9:True:=trivial
   have HSL:Hid (∀{w':World},Below w4.heap.size w4 w'→(w'.cell? ⟨w2.heap.size,1,none⟩=some (.slice A xs.length c)∧w'.cell? ⟨wr.heap.size,0,none⟩=some (.int .i64 x.kind)∧w'.cell? ⟨wr.heap.size,1,none⟩=some (.int .i64 x.n)∧w'.cell? ⟨wr.heap.size,2,none⟩=some (.string x.s)∧w'.cell? ⟨wr.heap.size,3,none⟩=some (.slice Ax x.l.length cx))):=yW (fun hb=>have h:=(HBQ.out.later hb).cell;⟨(HBO4.out.later hb).cell 1,h 0,h 1,h 2,h 3⟩)
   go_upto_region 5 with fail
   refine ci (S:=fun w'=>w'.cell? ⟨w2.heap.size,1,none⟩=some (.slice A xs.length c)∧w'.cell? ⟨wr.heap.size,0,none⟩=some (.int .i64 x.kind)∧w'.cell? ⟨wr.heap.size,1,none⟩=some (.int .i64 x.n)∧w'.cell? ⟨wr.heap.size,2,none⟩=some (.string x.s)∧w'.cell? ⟨wr.heap.size,3,none⟩=some (.slice Ax x.l.length cx)) 7 (by kernel_rfl) (by kernel_rfl) (by kernel_rfl) (by kernel_rfl) (HSL.out (za _ _).drew) ?_
   refine al (i:=0) (v:=?v1_) (by simp only [List.getElem?_toArray,List.getElem?_cons_succ,List.getElem?_cons_zero];rfl) (by kernel_rfl) (by kernel_rfl) (by kernel_rfl) (by kernel_rfl) ?hq1_ ?hw1_ ?hy1_ ?rest1_
   case hq1_=>exact fun _ _ _ h=>h
   case hw1_=>rfl
   case hy1_=>(intro w' hS';(try dsimp only at hS');go_simp;(try with_reducible rfl))
   (try simp only [Act.put,List.setIfInBounds_toArray,List.set_cons_zero,List.set_cons_succ])
   refine al (i:=1) (v:=?v2_) (by simp only [List.getElem?_toArray,List.getElem?_cons_succ,List.getElem?_cons_zero];rfl) (by kernel_rfl) (by kernel_rfl) (by kernel_rfl) (by kernel_rfl) ?hq2_ ?hw2_ ?hy2_ ?rest2_
   case hq2_=>exact fun _ _ _ h=>h
   case hw2_=>rfl
   case hy2_=>(intro w' hS';(try dsimp only at hS');go_simp;(try with_reducible rfl))
   (try simp only [Act.put,List.setIfInBounds_toArray,List.set_cons_zero,List.set_cons_succ])
   refine al (i:=2) (v:=?v3_) (by simp only [List.getElem?_toArray,List.getElem?_cons_succ,List.getElem?_cons_zero];rfl) (by kernel_rfl) (by kernel_rfl) (by kernel_rfl) (by kernel_rfl) ?hq3_ ?hw3_ ?hy3_ ?rest3_
   case hq3_=>exact fun _ _ _ h=>h
   case hw3_=>rfl
   case hy3_=>(intro w' hS';(try dsimp only at hS');go_simp;(try with_reducible rfl))
   (try simp only [Act.put,List.setIfInBounds_toArray,List.set_cons_zero,List.set_cons_succ])
   refine aY (rs:=[3]) (by kernel_rfl) rfl (by kernel_rfl) ?_
   refine aL.cons (by simp only [List.getElem?_toArray,List.getElem?_cons_succ,List.getElem?_cons_zero];rfl) (fun K hK=>?_) aL.nil
   go_simp
   refine (mc (B:=B) (t:=x) (vs:=[_,_,_,_]) (RTm.below (za _ _).drew hB4 HX4.out) hB4 HLE.out hl16).mono ?_
   rintro e w5 ⟨⟨A5,c5,rfl,hown⟩,hb5⟩
   have HOWN:Hid (TmOwn d w4.heap.size w5 x A5 c5):=yW hown
   have HB5:Hid (Below w4.heap.size w4 w5):=yW ((za w4.heap.size w4).drew.trans hb5)
   have hsz5:=HB5.out.size
   clear hown hb5
   refine hK.out _ _ (HSL.out HB5.out) ?_
   clear hK
   (try simp only [Act.put,List.setIfInBounds_toArray,List.set_cons_zero,List.set_cons_succ])
   refine aY (rs:=[4]) (by kernel_rfl) rfl (by kernel_rfl) ?_
   refine aL.cons (by simp only [List.getElem?_toArray,List.getElem?_cons_succ,List.getElem?_cons_zero];rfl) (fun K hK=>?_) aL.nil
   go_simp
   refine hK.out _ _ (HSL.out (HB5.out.alloc hsz5 _)) ?_
   clear hK
   (try simp only [Act.put,List.setIfInBounds_toArray,List.set_cons_zero,List.set_cons_succ])
   refine aY (rs:=[5]) (by kernel_rfl) rfl (by kernel_rfl) ?_
   refine aL.cons (by simp only [List.getElem?_toArray,List.getElem?_cons_succ,List.getElem?_cons_zero];rfl) (fun K hK=>?_) aL.nil
   refine fh (R:=SvR) (e:=79) rfl (.tmp 18) (.tmp 21) 23 rfl (bytes:=56) Tryz.underlying23 hi0 hz0 hz1 hz2 rfl (show 0<4 by omega) dv rfl (base:=w3.heap.size) (xs:=xs) (ys:=[⟨x,A5,c5⟩]) (HST4.out.own.later (HB5.out.alloc hsz5 _) (yZ _)) rfl (sv_src (x:=⟨x,A5,c5⟩) hp11) rfl (by simp only [List.length_cons,List.length_nil];omega) (by omega) (by rw [World.size_alloc];omega) ?_
   intro v wn_ hown hg hf
   obtain ⟨An2,cn2,hv⟩:∃A c,v=.slice A (xs.length+1) c:=by have:=hown.form;rwa [List.length_append,List.length_singleton] at this
   subst hv
   have happ:=(HST4.out.later (HB5.out.alloc hsz5 _)).app (x:=⟨x,A5,c5⟩) (HOWN.out.at_.later ((za _ _).alloc (yY _) _)) (HST4.out.apart (yY _) fun a ha=>(HOWN.out.blk a ha).1) (fun a ha=>⟨by have:=(HOWN.out.blk a ha).1;omega,by have:=(HOWN.out.blk a ha).2;rw [World.size_alloc];omega⟩) (by rw [World.size_alloc];omega) hown hg hf
   have HQB:=yW (((HBQ.out.later (HB5.out.alloc hsz5 _)).grown hg (HST.out.own.own_lt (yY _)).symm).cell)
   have HBO9:=yW ((HBO4.out.later (HB5.out.alloc hsz5 _)).grown hg (HST.out.own_ge (by omega)).symm)
   have f_o:=HBO9.out.free
   have k_o9:=HBO9.out.cell
   have HAP:=yW happ.1
   have HWR9:Hid (Below w2.heap.size w2 wn_):=yW ((HWR.out.trans (HW4.out.mono (by omega))).trans (((HB5.out.alloc hsz5 _).mono (by omega)).trans (happ.2.mono (by omega))))
   clear hown hg hf happ
   refine hK.out _ _ (⟨HBO9.out.cell 1,HQB.out 0,HQB.out 1,HQB.out 2,HQB.out 3⟩) ?_
   clear hK
   (try simp only [Act.put,List.setIfInBounds_toArray,List.set_cons_zero,List.set_cons_succ])
   refine al (i:=6) (v:=?v4_) (by simp only [List.getElem?_toArray,List.getElem?_cons_succ,List.getElem?_cons_zero];rfl) (by kernel_rfl) (by kernel_rfl) (by kernel_rfl) (by kernel_rfl) ?hq4_ ?hw4_ ?hy4_ ?rest4_
   case hq4_=>exact fun _ _ _ h=>h
   case hw4_=>rfl
   case hy4_=>(intro w' hS';(try dsimp only at hS');go_simp;(try with_reducible rfl))
   (try simp only [Act.put,List.setIfInBounds_toArray,List.set_cons_zero,List.set_cons_succ])
   refine gg (by kernel_rfl) (by kernel_rfl) (by simp only [List.getElem?_toArray,List.getElem?_cons_succ,List.getElem?_cons_zero];rfl) (fun K hK=>?_)
   go_simp
   refine hK.out _ _ ?_
   (try simp only [Act.put,List.setIfInBounds_toArray,List.set_cons_zero,List.set_cons_succ])
   go_wp2_with fail
   go_roundw
   case rel=>exact ⟨xs.length+1,xs++[⟨x,A5,c5⟩],An2,cn2,by omega,by go_num,by rw [List.length_append,List.length_singleton],yW (by rw [List.map_append,HXT.out,←HXE.out,List.map_singleton];exact (List.take_append_getElem hlt)),yW (HWR9.out.setCell (p:=⟨w2.heap.size,1,none⟩) (yY _) _),yW (HBO9.out.set_ 1 _),yW (HAP.out.under (by omega) 1 _)⟩
   case measure=>simp [intOf];omega
  ·have HXL:Hid (xs.length=b.terms.length):=yW (by omega)
   have HXT2:Hid (xs.map SV.t=b.terms):=yW (by rw [HXT.out,HXL.out,List.take_length])
   have BRr:=yW (BR2.out.keep HWR.out (by omega))
   have k_o:=HBO.out.cell
   have k_r:=BRr.out.cell
   have f_r:=BRr.out.free
   have l_r:=BRr.out.lt
   clear k_a l_a
   go_wp2_with fail
   rw [HXL.out]
   refine bodyPost_ret (ret_bd rfl rfl (oM BRr.out (.slice A2 b.names.length c2) (.slice A b.terms.length c)) rfl) rfl ?_
   refine ⟨⟨A2,c2,A,c,xs,rfl,HXT2.out,?_,?_,fun x hx a ha g hg=>by have h1:=(HST.out.lt x hx a ha).1;have h2:=(HON.out.row_lt g hg).2;omega⟩,oN HBw.out (by omega) _ _⟩
   ·exact (((HON.out.later HWR.out (yZ _)).far (by omega) (yZ _) _).far (by omega) (yZ _) _).lower (by omega)
   ·exact ((HST.out.under (by omega) 0 _).under (by omega) 1 _).lower (by omega)
end Go.Proofs.YtdphibjibnffeaaGreat
