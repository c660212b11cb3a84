/- container/heap over any pile: whose Len, Less, Swap, Pop keep to PileG. Printed by mk_heapg.py. -/
import Derived.Test.YtjpndglegpcdnaaGreatFc1
import Derived.Test.YtjpndglegpcdnaaGreatSingle
import Derived.Test.YtjpndglegpcdnaaGreatUniq
import Derived.Laws.Cover3
set_option linter.unusedVariables false
set_option linter.unusedSimpArgs false
set_option maxRecDepth 100000
set_option maxHeartbeats 8000000
namespace Go.Proofs.YtjpndglegpcdnaaGreat
open Go.ChangeShapes Go.WideShapes Go.ChangeAt Go.RowKit
theorem zz {a b c:Nat}(h:a<b)(k:b≤c):a<c:=Nat.lt_of_lt_of_le h k
theorem zI {α:Type _}{a:α}{l:List α}:(a::l)[0]? = some a:=List.getElem?_cons_zero
theorem zJ {α:Type _}{a:α}{l:List α}:(a::l).length=l.length+1:=List.length_cons
def Exc (g:Nat) (w w':World):Prop:=Below g w w'∧∀b,b<w.heap.size→b≠g→w'.heap[b]? = w.heap[b]?
section
variable {g:Nat} {a b c:World}
theorem Exc.refl (g:Nat) (w:World):Exc g w w:=⟨zy _ _,fun _ _ _=>rfl⟩
theorem Exc.trans (h:Exc g a b) (k:Exc g b c):Exc g a c:=
 ⟨h.1.trans k.1,fun i hi hg=>(k.2 i (zz hi h.1.size) hg).trans (h.2 i hi hg)⟩
theorem Exc.of (hg:g≤a.heap.size) (h:Below a.heap.size a b):Exc g a b:=⟨h.mono hg,fun i hi _=>h.block i hi⟩
theorem Exc.then (h:Exc g a b) (hg:g≤a.heap.size) (k:Below b.heap.size b c):Exc g a c:=h.trans (Exc.of (zv hg h.1.size) k)
theorem Exc.set (h:Exc g a b) (i:Nat) (v:Value):Exc g a (b.setCell ⟨g,i,none⟩ v):=
 ⟨h.1.setCell (p:=⟨g,i,none⟩) (zw _) v,fun k hk hg=>(Below.heap_setCell b ⟨g,i,none⟩ v k hg).trans (h.2 k hk hg)⟩
theorem Exc.drew (h:Exc g a b):Exc g a b.drew:=⟨h.1.drew,h.2⟩
theorem Exc.blk {x:Nat} {vs:Array Value} (h:Exc g a b) (hx:x≠g) (hb:Blk a x vs):Blk b x vs:=by
 have hl:=hb.lt
 obtain ⟨T,hb⟩:=hb
 exact ⟨T,(h.2 x hl hx).trans hb⟩
end
theorem am.exc {α:Type} {R:Reader α} {e:TypeId} {w w':World} {base g:Nat} {v:Value} {xs:List α} (h:am R e w base 0 v xs) (he:Exc g w w') (hg:g<base):am R e w' base 0 v xs:=by
 obtain ⟨cells,h,hf⟩:=h
 refine ⟨cells,⟨h.1,?_⟩,hf.keep (he.1.mono (zx _)) (zw _)⟩
 rcases h.2 with h2 | ⟨g',cap,cur,hv,hg',hh,r⟩
 ·exact .inl h2
 ·refine .inr ⟨g',cap,cur,hv,hg',?_,r⟩
  have hlt:g'<w.heap.size:=by
   rcases Nat.lt_or_ge g' w.heap.size with h' | h'
   ·exact h'
   ·rw [Array.getElem?_eq_none h'] at hh;cases hh
  rw [he.2 g' hlt (by omega)];exact hh
theorem Exc.own {g base:Nat} {a b c:World} (h:Exc g a b) (k:Below base b c) (hb:a.heap.size≤base) (hg:g<base):Exc g a c:=
 ⟨h.1.trans (k.mono (by omega)),fun i hi hne=>(k.block i (by omega)).trans (h.2 i hi hne)⟩
def gt (g h:Nat) (w w':World):Prop:=Below (min g h) w w'∧∀b,b<w.heap.size→b≠g→b≠h→w'.heap[b]? = w.heap[b]?
section
variable {g h:Nat} {a b c:World}
theorem gt.refl (g h:Nat) (w:World):gt g h w w:=⟨zy _ _,fun _ _ _ _=>rfl⟩
theorem gt.trans (k:gt g h a b) (l:gt g h b c):gt g h a c:=
 ⟨k.1.trans l.1,fun i hi h1 h2=>(l.2 i (zz hi k.1.size) h1 h2).trans (k.2 i hi h1 h2)⟩
theorem Exc.left (k:Exc g a b) (h:Nat):gt g h a b:=⟨k.1.mono (Nat.min_le_left _ _),fun i hi h1 _=>k.2 i hi h1⟩
theorem Exc.right (k:Exc h a b) (g:Nat):gt g h a b:=⟨k.1.mono (Nat.min_le_right _ _),fun i hi _ h2=>k.2 i hi h2⟩
theorem gt.of (hg:min g h≤a.heap.size) (k:Below a.heap.size a b):gt g h a b:=⟨k.mono hg,fun i hi _ _=>k.block i hi⟩
theorem gt.then (k:gt g h a b) (hg:min g h≤a.heap.size) (l:Below b.heap.size b c):gt g h a c:=k.trans (gt.of (zv hg k.1.size) l)
theorem gt.blk {x:Nat} {vs:Array Value} (k:gt g h a b) (h1:x≠g) (h2:x≠h) (hb:Blk a x vs):Blk b x vs:=by
 have hl:=hb.lt
 obtain ⟨T,hb⟩:=hb
 exact ⟨T,(k.2 x hl h1 h2).trans hb⟩
end
theorem am.exc2 {α:Type} {R:Reader α} {e:TypeId} {w w':World} {base B g h:Nat} {v:Value} {xs:List α} (k:am R e w base B v xs) (he:gt g h w w') (hg:g<base) (hh:h<base) (hB:B≤min g h):am R e w' base B v xs:=by
 obtain ⟨cells,k,hf⟩:=k
 refine ⟨cells,⟨k.1,?_⟩,hf.keep he.1 hB⟩
 rcases k.2 with h2 | ⟨g',cap,cur,hv,hg',hh',r⟩
 ·exact .inl h2
 ·refine .inr ⟨g',cap,cur,hv,hg',?_,r⟩
  have hlt:g'<w.heap.size:=by
   rcases Nat.lt_or_ge g' w.heap.size with h' | h'
   ·exact h'
   ·rw [Array.getElem?_eq_none h'] at hh';cases hh'
  rw [he.2 g' hlt (by omega) (by omega)];exact hh'
theorem iA {P:Program} (t e:TypeId) (a:Addr) (l c:Nat) (h:P.underlying t=some (.slice e)) (w:World):(binOp .eql t (.slice (some a) l c) (.slice none 0 0)).run P w=.ok (.bool false) w:=by
 simp only [binOp]
 simp [run_equal_slice_nil w t e (some a) l c h]
theorem jI {P:Program} (t e:TypeId) (l c:Nat) (h:P.underlying t=some (.slice e)) (w:World):(binOp .eql t (.slice none l c) (.slice none 0 0)).run P w=.ok (.bool true) w:=by
 simp only [binOp]
 simp [run_equal_slice_nil w t e none l c h]
def il (a b:Tm):Bool:=decide (aV 3 a b=0)
def jV (s t:Tm):Bool:=decide (s.kind=7)&&s.l.any fun x=>il x t
theorem fm {d d' B:Nat} {a b:Tm} {vs ws:List Value} {w:World} (ha:RTm w B d a vs) (hb:RTm w B d' b ws) (hB:B≤w.heap.size) :
 Calls Tryz.prog 124 #[.agg vs.toArray,.agg ws.toArray] w fun e w'=>e=.returned (.bool (il a b))∧Below w.heap.size w w':=by
 have HA:=zu ha
 have HB_:=zu hb
 obtain ⟨A,c,rfl,_⟩:=ha.cells
 obtain ⟨A',c',rfl,_⟩:=hb.cells
 clear ha hb
 go_enter Tryz.func124,Tryz.ntmps124
 go_wp2_with fail
 generalize hW:World.alloc _ _=w1
 obtain ⟨hb,hz⟩:=al2 hW
 have HB1:=zu hb
 clear hW hz hb
 refine (di d d' a b [_,_,_,_] [_,_,_,_] B w1 (HA.out.below HB1.out hB) (HB_.out.below HB1.out hB) (zv hB HB1.out.size)).mono ?_
 rintro e w2 ⟨rfl,hb⟩
 have HB2:=zu (aa HB1.out hb)
 clear hb
 go_wp2_with fail
 go_ret
 exact ⟨rfl,HB2.out⟩
theorem sV {d d' B G:Nat} {t:Tm} {ws:List Value} {w:World} (hG:Blk w G ws.toArray) (ht:RTm w B d' t ws) (hB:B≤w.heap.size) :
 bW Tryz.prog (TmR d) cW B w 214 #[.pointer (some ⟨G,0,none⟩)] (fun x=>il x t):=by
 intro x vs w1 hb hr
 have HR:Hid (RTm w1 B d x vs):=zu hr
 obtain ⟨A,c,rfl,_⟩:=RTm.cells (show RTm w1 B d x vs from hr)
 have HT:=zu (ht.below hb hB)
 have hG1:=hG.later hb
 have hB1:=zv hB hb.size
 obtain ⟨A',c',rfl,_⟩:=ht.cells
 clear hr ht hb hG
 show Calls Tryz.prog 214 #[.agg #[_,_,_,_],.pointer (some ⟨G,0,none⟩)] w1 _
 have kG:=hG1.cell
 have lG:=hG1.lt
 go_enter Tryz.func214,Tryz.ntmps214
 go_wp2_with fail
 generalize hW:World.alloc _ _=w2
 obtain ⟨hb,hz⟩:=al1 hW
 have HB1:=zu hb
 clear hW hz hb kG lG
 refine (fm (d:=d) (d':=d') (a:=x) (b:=t) (vs:=[_,_,_,_]) (ws:=[_,_,_,_]) (B:=B) (HR.out.below HB1.out hB1) (HT.out.below HB1.out hB1) (zv hB1 HB1.out.size)).mono ?_
 rintro e w3 ⟨rfl,hb⟩
 have HB2:=zu (aa HB1.out hb)
 clear hb
 go_wp2_with fail
 go_ret
 exact ⟨rfl,HB2.out⟩
theorem lg {d d' B:Nat} {s t:Tm} {vs ws:List Value} {w:World} (hs:RTm w B (d+1) s vs) (ht:RTm w B d' t ws) (hB:B≤w.heap.size) :
 Calls Tryz.prog 207 #[.agg vs.toArray,.agg ws.toArray] w fun e w'=>e=.returned (.bool (jV s t))∧Below w.heap.size w w':=by
 obtain ⟨A,c,rfl,q1,q2,q3,q4,q5,hl⟩:=hs
 have HT:=zu ht
 obtain ⟨A',c',rfl,_⟩:=ht.cells
 have HL:Hid (RL (TmR d) w B s.l A):=zu hl
 clear hl ht
 by_cases h7:s.kind=7
 ·go_enter Tryz.func207,Tryz.ntmps207
  go_wp2_with fail
  generalize hW:World.alloc _ _=w1
  obtain ⟨hb,hz⟩:=al2 hW
  have bt:=n22 hW
  have HB1:=zu hb
  clear hW hz hb
  refine (bz d 214 _ _ s.l A _ B w1 (ent Tryz.func214 (by kernel_rfl) rfl) (HL.out.keep HB1.out hB) (zv hB HB1.out.size) (by omega) (sV (d':=d') (ws:=[_,_,_,_]) bt (HT.out.below HB1.out hB) (zv hB HB1.out.size))).mono ?_
  rintro e w2 ⟨rfl,hb⟩
  have HB2:=zu (aa HB1.out hb)
  clear hb
  go_wp2_with fail
  go_ret
  exact ⟨ac (by simp [jV,h7]),HB2.out⟩
 ·go_enter Tryz.func207,Tryz.ntmps207
  go_wp2_with fail
  go_ret
  exact ⟨ac (by simp [jV,h7]),((zy _ _).alloc (zw _) _).alloc (by simp) _⟩
theorem bU {d B c:Nat} {xs:List Tm} {A:Option Addr} {w:World} (hl:RL (TmR d) w B xs A) (hB:B≤w.heap.size) (hn:xs.length*56≤140737488351232) :
 Calls Tryz.prog 71 #[.slice A xs.length c] w fun e w'=>(∃v,e=.returned v∧am (TmR d) 29 w' w.heap.size B v xs)∧Below w.heap.size w w':=by
 obtain ⟨i0,hi0,hz0,hz1,hz2⟩:=info_parts gS
 have hsrc:=zu (hl.keep ((zy w.heap.size w).alloc (zw _) (.cells #[] 29)) hB).src
 have hown:=zu (am.empty (base:=w.heap.size) (TmR d) 29 (w:=w.alloc (.cells #[] 29)) (b:=w.heap.size) (heap_alloc_new w _) (zw _) B)
 have HA:=zu ((zy w.heap.size w).alloc (zw _) (.cells #[] 29))
 rcases A with _ | a
 ·have h0:xs=[]:=by
   rcases xs with _ | ⟨x,xs⟩
   ·rfl
   ·obtain ⟨_,_,e,_⟩:=hl (by simp)
    cases e
  subst h0
  clear hl
  have he:∀wx:World,(binOp BinOp.eql 24 (.slice none 0 c) (.slice none 0 0)).run Tryz.prog wx=.ok (.bool true) wx:=fun wx=>jI 24 29 0 c Tryz.underlying24 wx
  go_enter Tryz.func71,Tryz.ntmps71
  go_wp2_with fail
  go_ret
  exact ⟨⟨_,rfl,am.nil _ _ _ _ _⟩,zy _ _⟩
 ·clear hl
  have he:∀wx:World,(binOp BinOp.eql 24 (.slice (some a) xs.length c) (.slice none 0 0)).run Tryz.prog wx=.ok (.bool false) wx:=fun wx=>iA 24 29 a xs.length c Tryz.underlying24 wx
  go_enter Tryz.func71,Tryz.ntmps71
  go_wp2_with ((
   at_builtin
   refine aq (R:=TmR d) (e:=29) rfl (.tmp 5) (.tmp 6) 24 rfl (bytes:=56) Tryz.underlying24 hi0 hz0 hz1 hz2 rfl (show 0<4 by omega) (ek d) rfl hown.out rfl hsrc.out rfl hB (by simp only [List.length_nil];omega) (by omega) HA.out.size ?_
   intro v1 w1 hown1 hb1
   have HO:=zu hown1
   have HB1:=zu (HA.out.trans hb1)
   clear hown1 hb1))
  go_ret
  exact ⟨⟨_,rfl,HO.out⟩,HB1.out⟩
section
variable {α:Type} (z:α)
def atL (xs:List α) (k:Nat):α:=xs.getD k z
def sw (xs:List α) (i j:Nat):List α:=(xs.set i (atL z xs j)).set j (atL z xs i)
variable {z} {xs ys:List α} {i j k n:Nat}
theorem bO (h:k<xs.length):atL z xs k=xs[k]:=by simp [atL,h]
theorem cm:(sw z xs i j).length=xs.length:=by simp [sw]
theorem mi (hi:i<xs.length) (hj:j<xs.length):atL z (sw z xs i j) k=if k=j then atL z xs i else if k=i then atL z xs j else atL z xs k:=by
 by_cases hk:k<xs.length
 ·rw [bO (by rw [cm];exact hk)]
  simp only [sw,List.getElem_set]
  by_cases h1:j=k
  ·rw [if_pos h1,if_pos h1.symm]
  ·rw [if_neg h1,if_neg (Ne.symm h1)]
   by_cases h2:i=k
   ·rw [if_pos h2,if_pos h2.symm]
   ·rw [if_neg h2,if_neg (Ne.symm h2),bO hk]
 ·rw [if_neg (by omega),if_neg (by omega)]
  unfold atL
  rw [List.getD_eq_getElem?_getD,List.getD_eq_getElem?_getD,List.getElem?_eq_none (by rw [cm];omega),List.getElem?_eq_none (by omega)]
theorem nW (hi:i<xs.length) (hj:j<xs.length):(sw z xs i j).Perm xs:=by
 unfold sw
 rw [bO hi,bO hj]
 exact List.set_set_perm hi hj
end
section
variable {α:Type} {c:α→α→Int} {z:α}
def gK (c:α→α→Int) (g:Nat→α) (i0 n:Nat):Prop:=∀k,0<k→k<n→i0≤(k-1) / 2→c (g ((k-1) / 2)) (g k)≤0
theorem gK.least (hc:Ord3 c) {g:Nat→α} {n:Nat} (h:gK c g 0 n):∀k,k<n→c (g 0) (g k)≤0:=by
 intro k
 induction k using Nat.strongRecOn with
 | ind k ih=>
   intro hk
   rcases Nat.eq_zero_or_pos k with h0 | h0
   ·subst h0;have:=hc.self (g 0);omega
   ·exact hc.trans _ _ _ (ih ((k-1) / 2) (by omega) (by omega)) (h k h0 hk (zx _))
structure Sunk (c:α→α→Int) (z:α) (xs0 xs:List α) (i0 i n:Nat):Prop where
 perm:xs.Perm xs0
 out:∀k,n≤k→atL z xs k=atL z xs0 k
 ge:i0≤i
 path:i0<i→i0≤(i-1) / 2
 heap:∀k,0<k→k<n→i0≤(k-1) / 2→(k-1) / 2≠i→c (atL z xs ((k-1) / 2)) (atL z xs k)≤0
 up:∀k,0<k→k<n→(k-1) / 2=i→i0<i→c (atL z xs ((i-1) / 2)) (atL z xs k)≤0
theorem Sunk.start {xs:List α} {i0 n:Nat} (h:gK c (atL z xs) (i0+1) n):Sunk c z xs xs i0 i0 n:=
 ⟨List.Perm.refl _,fun _ _=>rfl,zw _,fun h=>by omega,fun k h0 h1 h2 h3=>h k h0 h1 (by omega),fun _ _ _ _ h=>by omega⟩
theorem Sunk.step (hc:Ord3 c) {xs0 xs:List α} {i0 i n j:Nat} (h:Sunk c z xs0 xs i0 i n) (hn:n≤xs.length) (hj:j<n) (hij:j=2*i+1∨j=2*i+2)
 (hmin:∀k,k<n→(k=2*i+1∨k=2*i+2)→c (atL z xs j) (atL z xs k)≤0) (hlt:c (atL z xs j) (atL z xs i)<0):Sunk c z xs0 (sw z xs i j) i0 j n:=by
 have hil:i<xs.length:=by omega
 have hjl:j<xs.length:=by omega
 have hpj:(j-1) / 2=i:=by omega
 have hge:=h.ge
 refine ⟨(nW hil hjl).trans h.perm,fun k hk=>?_,by omega,fun _=>by omega,fun k h0 h1 h2 h3=>?_,fun k h0 h1 h2 h3=>?_⟩
 ·rw [mi hil hjl,if_neg (by omega),if_neg (by omega),h.out k hk]
 ·rw [mi hil hjl,mi hil hjl,if_neg h3]
  by_cases hp:(k-1) / 2=i
  ·rw [if_pos hp]
   by_cases hk:k=j
   ·rw [if_pos hk];omega
   ·rw [if_neg hk,if_neg (by omega)]
    exact hmin k h1 (by omega)
  ·rw [if_neg hp,if_neg (by intro e;subst e;exact hp hpj)]
   by_cases hk:k=i
   ·rw [if_pos hk]
    subst hk
    exact h.up j (by omega) hj hpj (by omega)
   ·rw [if_neg hk]
    exact h.heap k h0 h1 h2 hp
 ·rw [mi hil hjl,mi hil hjl,hpj,if_neg (by omega),if_pos rfl,if_neg (by omega),if_neg (by omega)]
  have:=h.heap k h0 h1 (by omega) (by omega)
  rw [h2] at this
  exact this
theorem Sunk.stop {xs0 xs:List α} {i0 i n:Nat} (h:Sunk c z xs0 xs i0 i n) (hmin:∀k,k<n→(k=2*i+1∨k=2*i+2)→c (atL z xs i) (atL z xs k)≤0):gK c (atL z xs) i0 n:=by
 intro k h0 h1 h2
 by_cases hp:(k-1) / 2=i
 ·rw [hp];exact hmin k h1 (by omega)
 ·exact h.heap k h0 h1 h2 hp
structure Sank (c:α→α→Int) (z:α) (xs0 xs:List α) (i0 n:Nat):Prop where
 perm:xs.Perm xs0
 out:∀k,n≤k→atL z xs k=atL z xs0 k
 heap:gK c (atL z xs) i0 n
theorem Sunk.sank {xs0 xs:List α} {i0 i n:Nat} (h:Sunk c z xs0 xs i0 i n) (hmin:∀k,k<n→(k=2*i+1∨k=2*i+2)→c (atL z xs i) (atL z xs k)≤0):Sank c z xs0 xs i0 n:=⟨h.perm,h.out,h.stop hmin⟩
theorem gK.swapped {xs:List α} {n:Nat} (h:gK c (atL z xs) 0 (n+1)) (hn:n<xs.length):gK c (atL z (sw z xs 0 n)) 1 n:=by
 intro k h0 h1 h2
 rw [mi (by omega) hn,mi (by omega) hn,if_neg (by omega),if_neg (by omega),if_neg (by omega),if_neg (by omega)]
 exact h k h0 (by omega) (zx _)
theorem popped (hc:Ord3 c) {xs zs:List α} {n:Nat} (hx:xs.length=n+1) (h:gK c (atL z xs) 0 (n+1)) (hs:Sank c z (sw z xs 0 n) zs 0 n) :
 zs.length=n+1∧atL z zs n=atL z xs 0∧xs.Perm (atL z zs n::zs.take n)∧gK c (atL z (zs.take n)) 0 n∧∀b∈zs.take n,c (atL z zs n) b≤0:=by
 have hl:zs.length=n+1:=by rw [hs.perm.length_eq,cm,hx]
 have h1:atL z zs n=atL z xs 0:=by
  rw [hs.out n (zw _),mi (by omega) (by omega),if_pos rfl]
 have h2:xs.Perm (atL z zs n::zs.take n):=by
  have e:zs=zs.take n++[atL z zs n]:=by
   rw [bO (by omega),←List.take_succ_eq_append_getElem (by omega:n<zs.length),List.take_of_length_le (by omega)]
  have p:xs.Perm zs:=((nW (z:=z) (xs:=xs) (by omega) (by omega)).symm).trans hs.perm.symm
  refine p.trans ?_
  conv=>lhs;rw [e]
  exact List.perm_append_singleton _ _
 refine ⟨hl,h1,h2,?_,?_⟩
 ·intro k h0 h1 h2
  have e:∀m,m<n→atL z (zs.take n) m=atL z zs m:=fun m hm=>by
   rw [bO (by rw [zK];omega),bO (by omega),List.getElem_take]
  rw [e _ (by omega),e _ h1]
  exact hs.heap k h0 h1 h2
 ·intro b hb
  rw [h1]
  have hb':b∈xs:=h2.symm.subset (List.mem_cons_of_mem _ hb)
  obtain ⟨k,hk,rfl⟩:=List.getElem_of_mem hb'
  rw [←bO hk]
  exact h.least hc k (by omega)
structure Piled (c:α→α→Int) (z:α) (l out xs:List α):Prop where
 heap:gK c (atL z xs) 0 xs.length
 sorted:out.Pairwise (fun a b=>c a b<0)
 le:∀a∈out,∀b∈xs,c a b≤0
 mem:∀t,(t∈out∨t∈xs)↔t∈l
 len:out.length+xs.length≤l.length
theorem Piled.more (hc:Ord3 c) {l out xs rest:List α} {x:α} (h:Piled c z l out xs) (hp:xs.Perm (x::rest)) (hh:gK c (atL z rest) 0 rest.length) (hm:∀b∈rest,c x b≤0)
 (hlast:∀y,out.getLast? = some y→c y x≠0):Piled c z l (out++[x]) rest:=by
 have hx:x∈xs:=hp.symm.subset (by simp)
 refine ⟨hh,?_,?_,fun t=>?_,?_⟩
 ·rw [List.pairwise_append]
  refine ⟨h.sorted,by simp,fun a ha b hb=>?_⟩
  obtain rfl:b=x:=by simpa using hb
  rcases List.eq_nil_or_concat out with e | ⟨o,y,e⟩
  ·subst e;simp at ha
  ·rw [List.concat_eq_append] at e
   subst e
   have hy:c y b<0:=by
    have:=h.le y (by simp) b hx
    have:=hlast y (by simp)
    omega
   rcases List.mem_append.1 ha with ha | ha
   ·have:=(List.pairwise_append.1 h.sorted).2.2 a ha y (by simp)
    exact hc.lt_le this (by omega)
   ·obtain rfl:a=y:=by simpa using ha
    exact hy
 ·intro a ha b hb
  rcases List.mem_append.1 ha with ha | ha
  ·exact h.le a ha b (hp.symm.subset (List.mem_cons_of_mem _ hb))
  ·obtain rfl:a=x:=by simpa using ha
   exact hm b hb
 ·rw [←h.mem t,hp.mem_iff,List.mem_append,List.mem_singleton,List.mem_cons,or_assoc]
 ·have:=h.len;have:=hp.length_eq
  simp only [zA,zJ,List.length_nil] at *;omega
theorem Piled.skip {l out xs rest:List α} {x y:α} (h:Piled c z l out xs) (hp:xs.Perm (x::rest)) (hh:gK c (atL z rest) 0 rest.length) (hlast:out.getLast? = some y) (he:y=x):Piled c z l out rest:=by
 subst he
 have hy:y∈out:=List.mem_of_getLast? hlast
 refine ⟨hh,h.sorted,fun a ha b hb=>h.le a ha b (hp.symm.subset (List.mem_cons_of_mem _ hb)),fun t=>?_,?_⟩
 ·rw [←h.mem t,hp.mem_iff,List.mem_cons]
  constructor
  ·rintro (k | k)
   ·exact .inl k
   ·exact .inr (.inr k)
  ·rintro (k | k | k)
   ·exact .inl k
   ·subst k;exact .inl hy
   ·exact .inr k
 ·have:=h.len;have:=hp.length_eq
  simp only [zJ] at *;omega
def pX (c:α→α→Int) (t:α):List α→List α
 | []=>[t]
 | x::xs=>if c x t<0 then x::pX c t xs else if c x t=0 then x::xs else t::x::xs
def setL (c:α→α→Int) (l:List α):List α:=l.foldl (fun out t=>pX c t out) []
theorem nI {t:α}:∀{xs:List α},(∀x∈xs,c x t=0→x=t)→∀u,u∈pX c t xs↔u=t∨u∈xs
 | [],_,u=>by simp [pX]
 | x::xs,h,u=>by
   unfold pX
   split
   ·rw [List.mem_cons,nI (fun y hy=>h y (by simp [hy])),List.mem_cons]
    constructor
    ·rintro (k | k | k)
     ·exact .inr (.inl k)
     ·exact .inl k
     ·exact .inr (.inr k)
    ·rintro (k | k | k)
     ·exact .inr (.inl k)
     ·exact .inl k
     ·exact .inr (.inr k)
   ·split
    ·rename_i h0
     have:=h x (by simp) h0
     subst this
     simp
    ·simp
theorem lj (hc:Ord3 c) {t:α}:∀{xs:List α},xs.Pairwise (fun a b=>c a b<0)→(∀x∈xs,c x t=0→x=t)→(pX c t xs).Pairwise (fun a b=>c a b<0)
 | [],_,_=>by simp [pX]
 | x::xs,h,he=>by
   obtain ⟨h1,h2⟩:=List.pairwise_cons.1 h
   unfold pX
   split
   ·rename_i hlt
    rw [List.pairwise_cons]
    refine ⟨fun a ha=>?_,lj hc h2 (fun y hy=>he y (by simp [hy]))⟩
    rcases (nI (fun y hy=>he y (by simp [hy])) a).1 ha with e | e
    ·rw [e];exact hlt
    ·exact h1 a e
   ·split
    ·exact h
    ·rename_i h3 h4
     rw [List.pairwise_cons]
     refine ⟨fun a ha=>?_,h⟩
     have ht:c t x<0:=by have:=hc.anti x t;omega
     rcases List.mem_cons.1 ha with e | e
     ·rw [e];exact ht
     ·exact hc.lt_le ht (by have:=h1 a e;omega)
theorem nU (hc:Ord3 c):∀(l out:List α),(∀a,(a∈out∨a∈l)→∀b,(b∈out∨b∈l)→c a b=0→a=b)→out.Pairwise (fun a b=>c a b<0) →
 (l.foldl (fun out t=>pX c t out) out).Pairwise (fun a b=>c a b<0)∧∀t,t∈l.foldl (fun out t=>pX c t out) out↔t∈out∨t∈l
 | [],out,_,h=>⟨h,fun t=>by simp⟩
 | x::l,out,he,h=>by
   have hx:∀y∈out,c y x=0→y=x:=fun y hy=>he y (.inl hy) x (.inr (by simp))
   have hm:=nI (c:=c) hx
   obtain ⟨h1,h2⟩:=nU hc l (pX c x out) (fun a ha b hb=>by
    refine he a ?_ b ?_
    ·rw [hm] at ha
     rcases ha with (k | k) | k
     ·exact .inr (by simp [k])
     ·exact .inl k
     ·exact .inr (by simp [k])
    ·rw [hm] at hb
     rcases hb with (k | k) | k
     ·exact .inr (by simp [k])
     ·exact .inl k
     ·exact .inr (by simp [k])) (lj hc h hx)
   refine ⟨h1,fun t=>?_⟩
   rw [List.foldl_cons,h2,hm,List.mem_cons]
   constructor
   ·rintro ((k | k) | k)
    ·exact .inr (.inl k)
    ·exact .inl k
    ·exact .inr (.inr k)
   ·rintro (k | k | k)
    ·exact .inl (.inr k)
    ·exact .inl (.inl k)
    ·exact .inr k
theorem lL (hc:Ord3 c) {l:List α} (he:∀a∈l,∀b∈l,c a b=0→a=b):(setL c l).Pairwise (fun a b=>c a b<0):=
 (nU hc l [] (fun a ha b hb=>he a (by simpa using ha) b (by simpa using hb)) (by simp)).1
theorem sf (hc:Ord3 c) {l:List α} (he:∀a∈l,∀b∈l,c a b=0→a=b) (t:α):t∈setL c l↔t∈l:=by
 have:=(nU hc l [] (fun a ha b hb=>he a (by simpa using ha) b (by simpa using hb)) (by simp)).2 t
 simpa [setL] using this
theorem lN (hc:Ord3 c):∀{xs ys:List α},xs.Pairwise (fun a b=>c a b<0)→ys.Pairwise (fun a b=>c a b<0)→(∀t,t∈xs↔t∈ys)→xs=ys
 | [],[],_,_,_=>rfl
 | [],y::ys,_,_,h=>absurd ((h y).2 (by simp)) (by simp)
 | x::xs,[],_,_,h=>absurd ((h x).1 (by simp)) (by simp)
 | x::xs,y::ys,hx,hy,h=>by
   obtain ⟨x1,x2⟩:=List.pairwise_cons.1 hx
   obtain ⟨y1,y2⟩:=List.pairwise_cons.1 hy
   have e:x=y:=by
    rcases List.mem_cons.1 ((h x).1 (by simp)) with e | e
    ·exact e
    ·rcases List.mem_cons.1 ((h y).2 (by simp)) with e' | e'
     ·exact e'.symm
     ·have a:=y1 x e
      have b:=x1 y e'
      have:=hc.anti x y
      omega
   subst e
   rw [lN hc x2 y2 fun t=>?_]
   have hn:∀{zs:List α},(∀a∈zs,c x a<0)→x∉zs:=fun hz hm=>by
    have:=hz x hm
    have:=hc.self x
    omega
   constructor
   ·intro k
    rcases List.mem_cons.1 ((h t).1 (by simp [k])) with e | e
    ·subst e;exact absurd k (hn x1)
    ·exact e
   ·intro k
    rcases List.mem_cons.1 ((h t).2 (by simp [k])) with e | e
    ·subst e;exact absurd k (hn y1)
    ·exact e
theorem Piled.done (hc:Ord3 c) {l out:List α} (he:∀a∈l,∀b∈l,c a b=0→a=b) (h:Piled c z l out []):out=setL c l:=
 lN hc h.sorted (lL hc he) fun t=>by
  rw [sf hc he,←h.mem t];simp
theorem rg (hc:Ord3 c) {l:List α} (he:∀a∈l,∀b∈l,c a b=0→a=b):(setL c l).length≤l.length:=by
 have key:∀(l out:List α),(l.foldl (fun out t=>pX c t out) out).length≤out.length+l.length:=by
  have one:∀(t:α) (xs:List α),(pX c t xs).length≤xs.length+1:=by
   intro t xs
   induction xs with
   | nil=>simp [pX]
   | cons x xs ih=>unfold pX;split<;>(try split)<;>simp<;>omega
  intro l
  induction l with
  | nil=>simp
  | cons x l ih=>intro out;have:=ih (pX c x out);have:=one x out;simp only [List.foldl_cons,zJ];omega
 simpa [setL] using key l []
end
structure TV where
 t:Tm
 a:Option Addr
 c:Nat
def TV.cs (x:TV):List Value:=[.int .i64 x.t.kind,.int .i64 x.t.n,.string x.t.s,.slice x.a 0 x.c]
def tv0:TV:=⟨⟨0,0,⟨#[]⟩,[]⟩,none,0⟩
def cTV (x y:TV):Int:=aV 3 x.t y.t
theorem cTV_ord:Ord3 cTV:=(eZ 3).by TV.t
def rq (cur:Array Value) (xs:List TV):Prop:=∀k,k<xs.length→∀b,b<4→cur[k*4+b]? = (atL tv0 xs k).cs[b]?
def tv (cur:Array Value) (o:Nat) (x:TV):Array Value:=
 (((cur.setIfInBounds o (.int .i64 x.t.kind)).setIfInBounds (o+1) (.int .i64 x.t.n)).setIfInBounds (o+2) (.string x.t.s)).setIfInBounds (o+3) (.slice x.a 0 x.c)
theorem pB {cur:Array Value} {i k b:Nat} {x:TV} (h:i*4+3<cur.size) (hb:b<4):(tv cur (i*4) x)[k*4+b]? = if k=i then x.cs[b]? else cur[k*4+b]?:=by
 unfold tv
 simp only [Array.getElem?_setIfInBounds,Array.size_setIfInBounds]
 by_cases hk:k=i
 ·subst hk
  have h4:b=0∨b=1∨b=2∨b=3:=by omega
  rcases h4 with rfl | rfl | rfl | rfl
  ·rw [if_neg (by omega),if_neg (by omega),if_neg (by omega),if_pos (by omega),if_pos (by omega),if_pos rfl];rfl
  ·rw [if_neg (by omega),if_neg (by omega),if_pos (by omega),if_pos (by omega),if_pos rfl];rfl
  ·rw [if_neg (by omega),if_pos (by omega),if_pos (by omega),if_pos rfl];rfl
  ·rw [if_pos (by omega),if_pos (by omega),if_pos rfl];rfl
 ·rw [if_neg (by omega),if_neg (by omega),if_neg (by omega),if_neg (by omega),if_neg hk]
theorem tw {cur:Array Value} {o:Nat} {x:TV}:(tv cur o x).size=cur.size:=by simp [tv]
theorem rq.size {cur:Array Value} {xs:List TV} (h:rq cur xs) {k:Nat} (hk:k<xs.length):k*4+3<cur.size:=by
 have:=h k hk 3 (by omega)
 rcases Nat.lt_or_ge (k*4+3) cur.size with h1 | h1
 ·exact h1
 ·rw [Array.getElem?_eq_none h1] at this;cases this
theorem rq.swap {cur:Array Value} {xs:List TV} {i j:Nat} (h:rq cur xs) (hi:i<xs.length) (hj:j<xs.length) :
 rq (tv (tv cur (i*4) (atL tv0 xs j)) (j*4) (atL tv0 xs i)) (sw tv0 xs i j):=by
 intro k hk b hb
 rw [cm] at hk
 rw [pB (by rw [tw];exact h.size hj) hb,mi hi hj]
 by_cases h1:k=j
 ·rw [if_pos h1,if_pos h1]
 ·rw [if_neg h1,if_neg h1,pB (h.size hi) hb]
  by_cases h2:k=i
  ·rw [if_pos h2,if_pos h2]
  ·rw [if_neg h2,if_neg h2];exact h k hk b hb
theorem rq.take {cur:Array Value} {xs:List TV} (h:rq cur xs) (n:Nat):rq cur (xs.take n):=by
 intro k hk b hb
 rw [zK] at hk
 rw [h k (by omega) b hb]
 congr 2
 rw [bO (by omega),bO (by rw [zK];omega),List.getElem_take]
def PAt (w:World) (P G:Nat) (xs:List TV) (c:Nat):Prop:=Blk w P #[.slice (some ⟨G,0,none⟩) xs.length c]∧∃cur,Blk w G cur∧rq cur xs
def PRd (w:World) (B d:Nat) (xs:List TV):Prop:=∀x∈xs,RTm w B d x.t x.cs
theorem PRd.below {w w':World} {B C d:Nat} {xs:List TV} (h:PRd w B d xs) (hb:Below C w w') (hB:B≤C):PRd w' B d xs:=fun x hx=>(h x hx).below hb hB
theorem qd {α:Type} {z:α} {xs:List α} {k:Nat} (h:k<xs.length):atL z xs k∈xs:=by rw [bO h];exact List.getElem_mem h
theorem eh (A:Option Addr) (n c:Nat) (w:World) :
 Calls Tryz.prog 219 #[.slice A n c] w fun e w'=>e=.returned (.int .i64 n)∧w=w':=by
 go_enter Tryz.func219,Tryz.ntmps219
 go_wp2_with fail
 go_ret
 exact ⟨rfl,rfl⟩
theorem pu {w:World} {G c B d i j:Nat} {xs:List TV} {cur:Array Value} (hG:Blk w G cur) (hr:rq cur xs) (hd:PRd w B d xs) (hB:B≤w.heap.size) (hi:i<xs.length) (hj:j<xs.length) (hn:xs.length≤1000000) :
 Calls Tryz.prog 262 #[.slice (some ⟨G,0,none⟩) xs.length c,.int .i64 i,.int .i64 j] w fun e w'=>e=.returned (.bool (decide (cTV (atL tv0 xs i) (atL tv0 xs j)<0)))∧Below w.heap.size w w':=by
 have hx:=hd _ (qd (z:=tv0) hi)
 have hy:=hd _ (qd (z:=tv0) hj)
 have i0:=hr i hi 0 (by omega)
 have i1:=hr i hi 1 (by omega)
 have i2:=hr i hi 2 (by omega)
 have i3:=hr i hi 3 (by omega)
 have j0:=hr j hj 0 (by omega)
 have j1:=hr j hj 1 (by omega)
 have j2:=hr j hj 2 (by omega)
 have j3:=hr j hj 3 (by omega)
 unfold cTV
 generalize atL tv0 xs i=x at *
 generalize atL tv0 xs j=y at *
 simp only [TV.cs,zI,List.getElem?_cons_succ,Nat.add_zero] at i0 i1 i2 i3 j0 j1 j2 j3
 have HX:=zu hx
 have HY:=zu hy
 clear hx hy
 have q_G:=hG.regrown
 go_enter Tryz.func262,Tryz.ntmps262
 have k_G:=hG.cell
 go_wp2_with fail
 refine wp_region_quiet_below (by kernel_rfl) (by kernel_rfl) ?_
 repeat (go_big_quiet_step ((go_at_call 55;exact Calls.regrown_of (di d d x.t y.t x.cs y.cs B _ (HX.out.below (below_regrown _ _ _) hB) (HY.out.below (below_regrown _ _ _) hB) (zv hB (below_regrown _ _ _).size)))))
 refine wpQuiet_nil ?_
 intro w1 hw1
 have hb1:Below w.heap.size w w1:=by obtain ⟨p,rfl⟩:=hw1;exact below_regrown _ _ _
 clear hw1 q_G k_G
 go_wp2_with fail
 go_ret
 exact ⟨rfl,hb1⟩
theorem pv {w:World} {G c i j:Nat} {xs:List TV} {cur:Array Value} (hG:Blk w G cur) (hr:rq cur xs) (hi:i<xs.length) (hj:j<xs.length) (hn:xs.length≤1000000) :
 Calls Tryz.prog 263 #[.slice (some ⟨G,0,none⟩) xs.length c,.int .i64 i,.int .i64 j] w fun e w'=>e=.returned (.tuple #[])∧Exc G w w'∧∃cur',Blk w' G cur'∧rq cur' (sw tv0 xs i j):=by
 have HS:=zu (hr.swap hi hj)
 have i0:=hr i hi 0 (by omega)
 have i1:=hr i hi 1 (by omega)
 have i2:=hr i hi 2 (by omega)
 have i3:=hr i hi 3 (by omega)
 have j0:=hr j hj 0 (by omega)
 have j1:=hr j hj 1 (by omega)
 have j2:=hr j hj 2 (by omega)
 have j3:=hr j hj 3 (by omega)
 generalize hxe:atL tv0 xs i=x at *
 generalize hye:atL tv0 xs j=y at *
 simp only [TV.cs,zI,List.getElem?_cons_succ,Nat.add_zero] at i0 i1 i2 i3 j0 j1 j2 j3
 go_enter Tryz.func263,Tryz.ntmps263
 have k_G:=hG.cell
 have f_G:=hG.free
 by_cases e:j=i
 ·subst e
  obtain rfl:x=y:=by rw [←hxe,←hye]
  go_wp2_with fail
  go_region
  all_goals go_end0
  all_goals exact ⟨rfl,((((((((((Exc.refl G w).set _ _).set _ _).set _ _).set _ _).set _ _).set _ _).set _ _).set _ _)).drew,_,((((((((hG.set_ _ _).set_ _ _).set_ _ _).set_ _ _).set_ _ _).set_ _ _).set_ _ _).set_ _ _).drew,HS.out⟩
 ·have n00:¬(j*4=i*4):=by omega
  have n01:¬(j*4=i*4+1):=by omega
  have n02:¬(j*4=i*4+2):=by omega
  have n03:¬(j*4=i*4+3):=by omega
  have n10:¬(j*4+1=i*4):=by omega
  have n11:¬(j*4+1=i*4+1):=by omega
  have n12:¬(j*4+1=i*4+2):=by omega
  have n13:¬(j*4+1=i*4+3):=by omega
  have n20:¬(j*4+2=i*4):=by omega
  have n21:¬(j*4+2=i*4+1):=by omega
  have n22:¬(j*4+2=i*4+2):=by omega
  have n23:¬(j*4+2=i*4+3):=by omega
  have n30:¬(j*4+3=i*4):=by omega
  have n31:¬(j*4+3=i*4+1):=by omega
  have n32:¬(j*4+3=i*4+2):=by omega
  have n33:¬(j*4+3=i*4+3):=by omega
  go_wp2_with fail
  go_region
  all_goals go_end0
  all_goals exact ⟨rfl,((((((((((Exc.refl G w).set _ _).set _ _).set _ _).set _ _).set _ _).set _ _).set _ _).set _ _)).drew,_,((((((((hG.set_ _ _).set_ _ _).set_ _ _).set_ _ _).set_ _ _).set_ _ _).set_ _ _).set_ _ _).drew,HS.out⟩
theorem xo {P:Program} (t:TypeId) (a:Addr) (x y:ByteArray) (w:World):(Builtin.ssaWrapNilChk_ #[t] t #[.pointer (some a),.string x,.string y]).run P w=.ok (.pointer (some a)) w:=rfl
theorem wL {P:Program} {t e:TypeId} {name:String} {f:FuncId} (hu:P.underlying t=some (.pointer e)) (hm:((P.info? t).bind fun i=>(i.methods.find? (·.name==name)).map fun m=>(m.path.toList,m.func))=some ([],some (f,false)))
 (fuel:Nat) {w:World} {a:Addr} {v:Value} (h:(loadVar e a).run P w=.ok v w) :
 (method (fuel+1) t (.pointer (some a)) name).run P w=.ok (f,v) w:=by
 obtain ⟨i,hi,h2⟩:=Option.bind_eq_some_iff.1 hm
 obtain ⟨m,h3,h4⟩:=Option.map_eq_some_iff.1 h2
 simp only [Prod.mk.injEq] at h4
 have hp:m.path.isEmpty=true:=by have h:=h4.1;simp only [Array.toList_eq_nil_iff] at h;rw [h];rfl
 have ht:(typeInfo t).run P w=.ok i w:=by simp [typeInfo,hi]
 unfold method
 simp only [Sem.run_bind,ht,Result.andThen_ok,h3,h4.1,h4.2,follow,Sem.run_pure,hp,receiverAt,run_underlying hu,Place.get,if_true,strVal,xo,asAddr,h]
theorem wK {P:Program} {t e:TypeId} {name:String} {f:FuncId} (hu:P.underlying t=some (.pointer e)) (hm:((P.info? t).bind fun i=>(i.methods.find? (·.name==name)).map fun m=>(m.path.toList,m.func))=some ([],some (f,true)))
 (fuel:Nat) {w:World} {a:Addr} :
 (method (fuel+1) t (.pointer (some a)) name).run P w=.ok (f,.pointer (some a)) w:=by
 obtain ⟨i,hi,h2⟩:=Option.bind_eq_some_iff.1 hm
 obtain ⟨m,h3,h4⟩:=Option.map_eq_some_iff.1 h2
 simp only [Prod.mk.injEq] at h4
 have ht:(typeInfo t).run P w=.ok i w:=by simp [typeInfo,hi]
 unfold method
 simp only [Sem.run_bind,ht,Result.andThen_ok,h3,h4.1,h4.2,follow,Sem.run_pure,receiverAt,run_underlying hu,Place.get]
def AnyBool (e:Ending):Prop:=∃q:Bool,e=.returned (.bool q)
structure PileG {α:Type} (c:α→α→Int) (z:α) (T:TypeId) (P G:Nat) (St:World→List α→Prop) (rcv:List α→Value) (out:α→Value) (fLen fLess fSwap fPop:FuncId) (Q:Nat→Prop):Prop where
 ord:Ord3 c
 few:∀{w xs},St w xs→xs.length≤1000000000000
 later:∀{w w' xs},St w xs→Below w.heap.size w w'→St w' xs
 gw:∀{w xs},St w xs→G≤w.heap.size
 mlen:∀{w xs},St w xs→∀fuel,(method (fuel+1) T (.pointer (some ⟨P,0,none⟩)) "Len").run Tryz.prog w=.ok (fLen,rcv xs) w
 mless:∀{w xs},St w xs→∀fuel,(method (fuel+1) T (.pointer (some ⟨P,0,none⟩)) "Less").run Tryz.prog w=.ok (fLess,rcv xs) w
 mswap:∀{w xs},St w xs→∀fuel,(method (fuel+1) T (.pointer (some ⟨P,0,none⟩)) "Swap").run Tryz.prog w=.ok (fSwap,rcv xs) w
 mpop:∀(w:World) (fuel:Nat),(method (fuel+1) T (.pointer (some ⟨P,0,none⟩)) "Pop").run Tryz.prog w=.ok (fPop,.pointer (some ⟨P,0,none⟩)) w
 elen:∀args (w:World),(callFunc fLen args).run Tryz.prog w=.ok (.enter fLen args) w
 eless:∀args (w:World),(callFunc fLess args).run Tryz.prog w=.ok (.enter fLess args) w
 eswap:∀args (w:World),(callFunc fSwap args).run Tryz.prog w=.ok (.enter fSwap args) w
 epop:∀args (w:World),(callFunc fPop args).run Tryz.prog w=.ok (.enter fPop args) w
 len:∀{w xs},St w xs→Calls Tryz.prog fLen #[rcv xs] w fun e w'=>e=.returned (.int .i64 xs.length)∧w=w'
 less:∀{w xs} {i j:Nat},St w xs→i<xs.length→j<xs.length→Calls Tryz.prog fLess #[rcv xs,.int .i64 i,.int .i64 j] w fun e w'=>e=.returned (.bool (decide (c (atL z xs i) (atL z xs j)<0)))∧Below w.heap.size w w'
 swap:∀{w xs} {i j:Nat},St w xs→i<xs.length→j<xs.length→Calls Tryz.prog fSwap #[rcv xs,.int .i64 i,.int .i64 j] w fun e w'=>e=.returned (.tuple #[])∧Exc G w w'∧St w' (sw z xs i j)
 pop:∀{w xs n},St w xs→xs.length=n+1→Q n→Calls Tryz.prog fPop #[.pointer (some ⟨P,0,none⟩)] w fun e w'=>e=.returned (out (atL z xs n))∧Exc P w w'∧St w' (xs.take n)
section
variable {α:Type} {c:α→α→Int} {z:α} {T:TypeId} {P G:Nat} {St:World→List α→Prop} {rcv:List α→Value} {out:α→Value} {fLen fLess fSwap fPop:FuncId} {Q:Nat→Prop} (hP:PileG c z T P G St rcv out fLen fLess fSwap fPop Q)
theorem least2 (hc:Ord3 c) {ys:List α} {k n:Nat} (h1:¬2*k+2<n):∀m,m<n→(m=2*k+1∨m=2*k+2)→c (atL z ys (2*k+1)) (atL z ys m)≤0:=fun m hm h=>by
 obtain rfl:m=2*k+1:=by omega
 have:=hc.self (atL z ys (2*k+1));omega
theorem least_r (hc:Ord3 c) {ys:List α} {k n:Nat} (h1:c (atL z ys (2*k+2)) (atL z ys (2*k+1))<0):∀m,m<n→(m=2*k+1∨m=2*k+2)→c (atL z ys (2*k+2)) (atL z ys m)≤0:=fun m hm h=>by
 rcases h with rfl | rfl
 ·omega
 ·have:=hc.self (atL z ys (2*k+2));omega
theorem least_l (hc:Ord3 c) {ys:List α} {k n:Nat} (h1:¬c (atL z ys (2*k+2)) (atL z ys (2*k+1))<0):∀m,m<n→(m=2*k+1∨m=2*k+2)→c (atL z ys (2*k+1)) (atL z ys m)≤0:=fun m hm h=>by
 rcases h with rfl | rfl
 ·have:=hc.self (atL z ys (2*k+1));omega
 ·have:=hc.anti (atL z ys (2*k+2)) (atL z ys (2*k+1));omega
theorem qJ (hc:Ord3 c) {ys:List α} {j k n:Nat} (h:∀m,m<n→(m=2*k+1∨m=2*k+2)→c (atL z ys j) (atL z ys m)≤0) (h1:¬c (atL z ys j) (atL z ys k)<0):∀m,m<n→(m=2*k+1∨m=2*k+2)→c (atL z ys k) (atL z ys m)≤0:=fun m hm hc'=>by
 have:=hc.anti (atL z ys j) (atL z ys k)
 exact hc.trans _ _ _ (by omega) (h m hm hc')
include hP
theorem downG {w:World} {n i0:Nat} {xs:List α} (hs:St w xs) (hn:n≤xs.length) (hi0:i0≤n) (hh:gK c (atL z xs) (i0+1) n) :
 Calls Tryz.prog 59 #[.iface T (.pointer (some ⟨P,0,none⟩)),.int .i64 i0,.int .i64 n] w fun e w'=>AnyBool e∧Exc G w w'∧∃ys,Sank c z xs ys i0 n∧St w' ys:=by
 have hGw:=hP.gw hs
 have hnn:n≤1000000000000:=zv hn (hP.few hs)
 have HXN:=zu hn
 have HS0:=zu (Sunk.start hh)
 have HP0:=zu hs
 have HG:=zu hP
 have HOR:=zu hP.ord
 have ye:=hP.eless
 have ys_:=hP.eswap
 clear hn hh hs hP
 go_enter Tryz.func59,Tryz.ntmps59
 go_wp2_with fail
 go_loopw [7] (fun i wr=>∃(k:Nat) (ys:List α),k≤n∧i=.int .i64 k∧Hid (Sunk c z xs ys i0 k n)∧Hid (Exc G w wr)∧Hid (St wr ys)) (fun i _=>n-(intOf i).toNat)
 case atStart=>exact ⟨i0,xs,hi0,rfl,HS0,zu (Exc.refl _ _),HP0⟩
 case round=>
  obtain ⟨k,ys,hk,rfl,HS,HE,HP⟩:=hrel
  have HL:Hid (n≤ys.length):=zu (by rw [HS.out.perm.length_eq];exact HXN.out)
  by_cases h1:2*k+1<n
  ·have h1i:2*(k:Int)+1<n:=by omega
   have HEr:=HE
   have HPr:=HP
   by_cases h2:2*k+2<n
   ·have h2i:2*(k:Int)+2<n:=by omega
    have ir_less:=HG.out.mless HPr.out
    go_wp2_with fail
    refine (HG.out.less HPr.out (i:=2*k+2) (j:=2*k+1) (by have:=HL.out;omega) (by have:=HL.out;omega)).mono ?_
    rintro e wa ⟨rfl,hb⟩
    have HEa:=zu (HEr.out.then hGw hb)
    have HPa:=zu (HG.out.later HPr.out hb)
    clear hb ir_less
    by_cases c1:c (atL z ys (2*k+2)) (atL z ys (2*k+1))<0
    ·rw [decide_eq_true c1]
     have HC1:=zu c1
     clear c1
     have ia_less:=HG.out.mless HPa.out
     go_wp2_with fail
     have HLE:=zu (least_r HOR.out HC1.out (n:=n))
     refine (HG.out.less HPa.out (i:=2*k+2) (j:=k) (by have:=HL.out;omega) (by have:=HL.out;omega)).mono ?_
     rintro e wb ⟨rfl,hb⟩
     have HEb:=zu (HEa.out.then hGw hb)
     have HPb:=zu (HG.out.later HPa.out hb)
     clear hb ia_less
     by_cases c2:c (atL z ys (2*k+2)) (atL z ys k)<0
     ·rw [decide_eq_true c2]
      have HC2:=zu c2
      clear c2
      have ib_swap:=HG.out.mswap HPb.out
      go_wp2_with fail
      refine (HG.out.swap HPb.out (i:=k) (j:=2*k+2) (by have:=HL.out;omega) (by have:=HL.out;omega)).mono ?_
      rintro e wc ⟨rfl,he,hcur⟩
      have HSc:=zu (HS.out.step HOR.out HL.out (by omega) (by omega) HLE.out HC2.out)
      have HPc:=zu hcur
      have HEc:=zu (HEb.out.trans he)
      clear he hcur ib_swap
      go_wp2_with fail
      go_roundw
      case rel=>exact ⟨2*k+2,_,by omega,by go_num,HSc,HEc,HPc⟩
      case measure=>simp [intOf];omega
     ·rw [decide_eq_false c2]
      have HC2:=zu c2
      clear c2
      go_wp2_with fail
      go_ret
      exact ⟨⟨_,rfl⟩,HEb.out,ys,HS.out.sank (qJ HOR.out (j:=2*k+2) HLE.out (by have:=HC2.out;omega)),HPb.out⟩
    ·rw [decide_eq_false c1]
     have HC1:=zu c1
     clear c1
     have ia_less:=HG.out.mless HPa.out
     go_wp2_with fail
     have HLE:=zu (least_l (z:=z) (ys:=ys) (k:=k) HOR.out (Int.not_lt.2 HC1.out) (n:=n))
     refine (HG.out.less HPa.out (i:=2*k+1) (j:=k) (by have:=HL.out;omega) (by have:=HL.out;omega)).mono ?_
     rintro e wb ⟨rfl,hb⟩
     have HEb:=zu (HEa.out.then hGw hb)
     have HPb:=zu (HG.out.later HPa.out hb)
     clear hb ia_less
     by_cases c2:c (atL z ys (2*k+1)) (atL z ys k)<0
     ·rw [decide_eq_true c2]
      have HC2:=zu c2
      clear c2
      have ib_swap:=HG.out.mswap HPb.out
      go_wp2_with fail
      refine (HG.out.swap HPb.out (i:=k) (j:=2*k+1) (by have:=HL.out;omega) (by have:=HL.out;omega)).mono ?_
      rintro e wc ⟨rfl,he,hcur⟩
      have HSc:=zu (HS.out.step HOR.out HL.out (by omega) (by omega) HLE.out HC2.out)
      have HPc:=zu hcur
      have HEc:=zu (HEb.out.trans he)
      clear he hcur ib_swap
      go_wp2_with fail
      go_roundw
      case rel=>exact ⟨2*k+1,_,by omega,by go_num,HSc,HEc,HPc⟩
      case measure=>simp [intOf];omega
     ·rw [decide_eq_false c2]
      have HC2:=zu c2
      clear c2
      go_wp2_with fail
      go_ret
      exact ⟨⟨_,rfl⟩,HEb.out,ys,HS.out.sank (qJ HOR.out (j:=2*k+1) HLE.out (by have:=HC2.out;omega)),HPb.out⟩
   ·have h2i:¬2*(k:Int)+2<n:=by omega
    have ir_less:=HG.out.mless HPr.out
    go_wp2_with fail
    have HLE:=zu (least2 (z:=z) HOR.out (ys:=ys) h2)
    refine (HG.out.less HPr.out (i:=2*k+1) (j:=k) (by have:=HL.out;omega) (by have:=HL.out;omega)).mono ?_
    rintro e wb ⟨rfl,hb⟩
    have HEb:=zu (HEr.out.then hGw hb)
    have HPb:=zu (HG.out.later HPr.out hb)
    clear hb ir_less
    by_cases c2:c (atL z ys (2*k+1)) (atL z ys k)<0
    ·rw [decide_eq_true c2]
     have HC2:=zu c2
     clear c2
     have ib_swap:=HG.out.mswap HPb.out
     go_wp2_with fail
     refine (HG.out.swap HPb.out (i:=k) (j:=2*k+1) (by have:=HL.out;omega) (by have:=HL.out;omega)).mono ?_
     rintro e wc ⟨rfl,he,hcur⟩
     have HSc:=zu (HS.out.step HOR.out HL.out (by omega) (by omega) HLE.out HC2.out)
     have HPc:=zu hcur
     have HEc:=zu (HEb.out.trans he)
     clear he hcur ib_swap
     go_wp2_with fail
     go_roundw
     case rel=>exact ⟨2*k+1,_,by omega,by go_num,HSc,HEc,HPc⟩
     case measure=>simp [intOf];omega
    ·rw [decide_eq_false c2]
     have HC2:=zu c2
     clear c2
     go_wp2_with fail
     go_ret
     exact ⟨⟨_,rfl⟩,HEb.out,ys,HS.out.sank (qJ HOR.out (j:=2*k+1) HLE.out (by have:=HC2.out;omega)),HPb.out⟩
  ·have h1i:¬2*(k:Int)+1<n:=by omega
   go_wp2_with fail
   go_ret
   exact ⟨⟨_,rfl⟩,HE.out,ys,HS.out.sank (fun m hm hc=>by omega),HP.out⟩
omit hP in
theorem gK.halfG (g:Nat→α) (n:Nat):gK c g (n / 2) n:=fun k h0 h1 h2=>by omega
theorem initG {w:World} {xs:List α} (hs:St w xs) :
 Calls Tryz.prog 37 #[.iface T (.pointer (some ⟨P,0,none⟩))] w fun e w'=>e=.returned (.tuple #[])∧Exc G w w'∧∃ys,ys.Perm xs∧gK c (atL z ys) 0 ys.length∧St w' ys:=by
 have hGw:=hP.gw hs
 have hxn:=hP.few hs
 have HP0:=zu hs
 have HG:=zu hP
 have i0:=hP.mlen hs
 have ye:=hP.elen
 clear hP hs
 go_enter Tryz.func37,Tryz.ntmps37
 go_wp2_with fail
 refine (HG.out.len HP0.out).mono ?_
 rintro e wz ⟨rfl,rfl⟩
 go_wp2_with fail
 go_loopw [3] (fun i wr=>∃(m:Nat) (ys:List α),m≤xs.length / 2∧i=.int .i64 ((m:Int)-1)∧ys.Perm xs∧Hid (gK c (atL z ys) m xs.length)∧Hid (Exc G w wr)∧Hid (St wr ys)) (fun i _=>(intOf i+1).toNat)
 case atStart=>
  refine ⟨xs.length / 2,xs,zw _,?_,List.Perm.refl _,zu (gK.halfG _ _),zu (Exc.refl _ _),HP0⟩
  congr 1<;>omega
 case round=>
  obtain ⟨m,ys,hm,rfl,hpm,HH,HE,HP⟩:=hrel
  have hl:=hpm.length_eq
  rcases Nat.eq_zero_or_pos m with h0 | h0
  ·subst h0
   go_wp2_with fail
   go_end0
   exact ⟨rfl,HE.out,ys,hpm,by rw [hl];exact HH.out,HP.out⟩
  ·obtain ⟨k,rfl⟩:∃k,m=k+1:=⟨m-1,by omega⟩
   have e1:((k+1:Nat):Int)-1=k:=by omega
   rw [e1]
   have HM:=zu hpm
   clear hpm
   go_wp2_with fail
   refine (downG HG.out HP.out (by omega) (by omega) HH.out).mono ?_
   rintro e wa ⟨⟨_,rfl⟩,he,zs,hs,hz⟩
   have HE2:=zu (HE.out.trans he)
   have HM2:=hs.perm.trans HM.out
   have HH2:=zu hs.heap
   have HP2:=zu hz
   clear he hs hz
   go_wp2_with fail
   go_roundw
   case rel=>exact ⟨k,zs,by omega,by go_num,HM2,HH2,HE2,HP2⟩
   case measure=>simp [intOf]
theorem popG {w:World} {n:Nat} {xs:List α} (hs:St w xs) (hx:xs.length=n+1) (hq:Q n) (hh:gK c (atL z xs) 0 (n+1)) :
 Calls Tryz.prog 39 #[.iface T (.pointer (some ⟨P,0,none⟩))] w fun e w'=>e=.returned (out (atL z xs 0))∧gt P G w w' ∧
  ∃rest:List α,rest.length=n∧xs.Perm (atL z xs 0::rest)∧gK c (atL z rest) 0 n∧(∀b∈rest,c (atL z xs 0) b≤0)∧St w' rest:=by
 have HX:=zu hx
 have HH:=zu hh
 have hl:=hP.gw hs
 have hn1:n+1≤1000000000000:=by rw [←hx];exact hP.few hs
 have k0:=hP.mlen hs
 have k1:=hP.mswap hs
 have y0:=hP.elen
 have y1:=hP.eswap
 have y2:=hP.epop
 have HP:=zu hs
 have HG:=zu hP
 have HOR:=zu hP.ord
 clear hx hh hs hP
 go_enter Tryz.func39,Tryz.ntmps39
 go_wp2_with fail
 refine (HG.out.len HP.out).mono ?_
 rintro e wz ⟨rfl,rfl⟩
 rw [HX.out]
 go_wp2_with fail
 refine (HG.out.swap HP.out (i:=0) (j:=n) (by rw [HX.out];omega) (by rw [HX.out];omega)).mono ?_
 rintro e wa ⟨rfl,he,hcur⟩
 have HPa:=zu hcur
 have HEa:=zu he
 have HS:=zu (HH.out.swapped (by rw [HX.out];omega))
 have HL:Hid ((sw z xs 0 n).length=n+1):=zu (by rw [cm,HX.out])
 clear he hcur k0 k1
 go_wp2_with fail
 refine (downG HG.out (i0:=0) (n:=n) HPa.out (by rw [HL.out];omega) (by omega) HS.out).mono ?_
 rintro e wb ⟨⟨_,rfl⟩,he,ys,hs,hpb⟩
 have HEb:=zu (HEa.out.trans he)
 have HPb:=zu hpb
 have HZ:=zu (popped HOR.out HX.out HH.out hs)
 have k2:=HG.out.mpop wb
 clear he hs hpb
 go_wp2_with fail
 refine (HG.out.pop HPb.out HZ.out.1 hq).mono ?_
 rintro e wc ⟨rfl,he,hpc⟩
 have HEc:=zu ((HEb.out.right P).trans (he.left G))
 have HPc:=zu hpc
 clear he hpc
 go_wp2_with fail
 go_ret
 obtain ⟨z1,z2,z3,z4,z5⟩:=HZ.out
 rw [z2] at z3 z5 ⊢
 exact ⟨rfl,HEc.out,ys.take n,by rw [zK];omega,z3,z4,z5,HPc.out⟩
omit hP in
theorem initG0 {w:World} {fL:FuncId} {A:Option Addr} {cp:Nat} (hm:∀fuel,(method (fuel+1) T (.pointer (some ⟨P,0,none⟩)) "Len").run Tryz.prog w=.ok (fL,.slice A 0 cp) w) (he:∀args (w:World),(callFunc fL args).run Tryz.prog w=.ok (.enter fL args) w)
 (hl:Calls Tryz.prog fL #[.slice A 0 cp] w fun e w'=>e=.returned (.int .i64 (0:Nat))∧w=w') :
 Calls Tryz.prog 37 #[.iface T (.pointer (some ⟨P,0,none⟩))] w fun e w'=>e=.returned (.tuple #[])∧w=w':=by
 have HL:=zu hl
 clear hl
 go_enter Tryz.func37,Tryz.ntmps37
 go_wp2_with fail
 refine HL.out.mono ?_
 rintro e wz ⟨rfl,rfl⟩
 go_wp2_with fail
 go_loopw [3] (fun i wr=>i=.int .i64 (-1)∧w=wr) (fun i _=>0)
 case atStart=>exact ⟨rfl,rfl⟩
 case round=>
  obtain ⟨rfl,rfl⟩:=hrel
  go_wp2_with fail
  go_end0
  exact ⟨rfl,rfl⟩
end
end Go.Proofs.YtjpndglegpcdnaaGreat
