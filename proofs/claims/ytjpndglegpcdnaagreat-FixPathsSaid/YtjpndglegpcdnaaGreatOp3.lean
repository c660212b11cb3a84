/- op.compares, op.add, op.Binary on numbers and texts: what each arm tells. -/
import Derived.Test.YtjpndglegpcdnaaGreatTmAt
import Derived.Test.YtjpndglegpcdnaaGreatStab
import Derived.Test.YtjpndglegpcdnaaGreatHeldA
import Derived.Deep.RegionLaw
import Derived.Test.YtjpndglegpcdnaaGreatBSearch
set_option linter.unusedVariables false
set_option linter.unusedSimpArgs false
set_option maxRecDepth 100000
set_option maxHeartbeats 8000000
namespace Go.Proofs.YtjpndglegpcdnaaGreat
open Go.ChangeShapes Go.WideShapes Go.ChangeAt Go.RowKit
def sW:SV:=⟨⟨0,0,⟨#[]⟩,[]⟩,none,0⟩
theorem StkE.push {S base D c:Nat} {bn bt:Value} {w w':World} {xs:List SV} {x:SV} {next:Int} {A A':Option Addr} {c':Nat} (h:StkE S base D bn bt w xs next A c) (hx:dh D w x) (hap:mK S A x) (hlt:∀a,x.a=some a→base≤a.block∧a.block<w.heap.size)
 (hb:Below 0 w w') (hk:∀b,b<w.heap.size→b≠S→(∀a,A=some a→a.block≠b)→w'.heap[b]? = w.heap[b]?)
 (hd:bN w' S #[bn,bt,.slice A' (xs++[x]).length c',.int .i64 next] 219) (ho:am SvR 29 w' base 0 (.slice A' (xs++[x]).length c') (xs++[x]))
 (hf:∀b,A'=some b→(∃a,A=some a∧a.block=b.block)∨w.heap.size≤b.block):StkE S base D bn bt w' (xs++[x]) next A' c':=by
 have key:∀y,dh D w y→(∀a,y.a=some a→a.block≠S∧∀b,A=some b→a.block≠b.block)→(∀a,y.a=some a→base≤a.block∧a.block<w.heap.size)→dh D w' y∧∀a,y.a=some a→(base≤a.block∧a.block<w'.heap.size)∧a.block≠S∧∀b,A'=some b→a.block≠b.block:=by
  intro y hy hs hl
  refine ⟨hy.keep hb fun a ha=>hk _ (hl a ha).2 (hs a ha).1 fun b hb2 e=>(hs a ha).2 b hb2 e.symm,fun a ha=>⟨⟨(hl a ha).1,yr (hl a ha).2 hb.size⟩,(hs a ha).1,fun b hb2 e=>?_⟩⟩
  rcases hf b hb2 with ⟨a2,h2,e2⟩ | h2
  ·exact (hs a ha).2 a2 h2 (e.trans e2.symm)
  ·have:=(hl a ha).2
   omega
 have hall:∀y∈xs++[x],dh D w' y∧∀a,y.a=some a→(base≤a.block∧a.block<w'.heap.size)∧a.block≠S∧∀b,A'=some b→a.block≠b.block:=by
  intro y hy
  rcases List.mem_append.1 hy with h1 | h1
  ·exact key y (h.tms y h1) (h.sep y h1) (h.lt y h1)
  ·rw [List.mem_singleton] at h1
   subst h1
   exact key y hx hap hlt
 exact ⟨hd,ho,fun y hy=>(hall y hy).1,fun y hy a ha=>((hall y hy).2 a ha).2,fun y hy a ha=>((hall y hy).2 a ha).1⟩
structure BelX (B S:Nat) (w w':World):Prop where
 os:w'.os=w.os
 tape:w'.tape=w.tape
 output:w'.output=w.output
 size:w.heap.size≤w'.heap.size
 block:∀k,k<B→k≠S→w'.heap[k]? = w.heap[k]?
section
variable {B S:Nat} {w w' w'':World}
theorem BelX.of (h:Below B w w'):BelX B S w w':=⟨h.os,h.tape,h.output,h.size,fun k hk _=>h.block k hk⟩
theorem BelX.exc (h:Exc S w w') (hb:B≤w.heap.size):BelX B S w w':=⟨h.1.os,h.1.tape,h.1.output,h.1.size,fun k hk hne=>h.2 k (yr hk hb) hne⟩
theorem BelX.refl (B S:Nat) (w:World):BelX B S w w:=.of (.refl _ _)
theorem BelX.trans (h:BelX B S w w') (k:BelX B S w' w''):BelX B S w w'':=⟨k.os.trans h.os,k.tape.trans h.tape,k.output.trans h.output,yn h.size k.size,fun i hi hne=>(k.block i hi hne).trans (h.block i hi hne)⟩
theorem BelX.setCell (h:BelX B S w w') {p:Addr} (hp:B≤p.block) (v:Value):BelX B S w (w'.setCell p v):=h.trans (.of ((yq B w').setCell hp v))
theorem BelX.setS (h:BelX B S w w') (i:Nat) (v:Value):BelX B S w (w'.setCell ⟨S,i,none⟩ v):=
 have k:=(yq 0 w').setCell (p:=⟨S,i,none⟩) (yp _) v
 h.trans ⟨k.os,k.tape,k.output,k.size,fun b _ hne=>Below.heap_setCell w' ⟨S,i,none⟩ v b hne⟩
theorem BelX.drew (h:BelX B S w w'):BelX B S w w'.drew:=h.trans (.of (yq B w').drew)
theorem BelX.zero (h:BelX B S w w'):Below 0 w w':=⟨h.os,h.tape,h.output,h.size,fun k hk=>absurd hk (Nat.not_lt_zero _)⟩
theorem BelX.mono {B':Nat} (h:BelX B S w w') (hB:B'≤B):BelX B' S w w':=⟨h.os,h.tape,h.output,h.size,fun k hk=>h.block k (by omega)⟩
theorem BelX.low (h:BelX B S w w') (hB:B≤S):Below B w w':=⟨h.os,h.tape,h.output,h.size,fun k hk=>h.block k hk (by omega)⟩
end
theorem rm {S base D c g2 c2:Nat} {bn bt:Value} {w wA w2 wf:World} {xs:List SV} {x:SV} {next:Int} {A:Option Addr} (h:StkE S base D bn bt w xs next A c) (hx:dh D w x) (hap:mK S A x) (hlt:∀a,x.a=some a→base≤a.block∧a.block<w.heap.size) (hb:base≤w.heap.size)
 (hA:Below w.heap.size w wA) (hg:wA.grownBy w2 (Value.slice A xs.length c).ownBlock) (hf:bC wA (.slice A xs.length c) (.slice (some ⟨g2,0,none⟩) (xs.length+1) c2)) (hg2:base≤g2)
 (hfin:∀b,b≠S→b≠g2→wf.heap[b]? = w2.heap[b]?) (hbf:BelX base S w2 wf)
 (hd:bN wf S #[bn,bt,.slice (some ⟨g2,0,none⟩) (xs.length+1) c2,.int .i64 next] 219) (ho:am SvR 29 wf base 0 (.slice (some ⟨g2,0,none⟩) (xs.length+1) c2) (xs++[x])) :
 BelX base S w wf∧∃A' c',StkE S base D bn bt wf (xs++[x]) next A' c':=by
 have hAb:∀k,(Value.slice A xs.length c).ownBlock=some k→base≤k:=by
  obtain ⟨cells,how,_⟩:=h.own
  exact fun k hk=>(how.lt k hk).1
 have hsz:=hA.size
 have hB2:Below base wA w2:=(yq base wA).grown hg (by omega) hAb
 have hB:BelX base S w wf:=(BelX.of ((hA.mono hb).trans hB2)).trans hbf
 have e1:xs.length+1=(xs++[x]).length:=by simp
 rw [e1] at hd ho
 refine ⟨hB,_,_,h.push hx hap hlt hB.zero (fun b hbl hbS2 hne=>?_) hd ho fun b hb2=>?_⟩
 ·have hnr:some b≠(Value.slice A xs.length c).ownBlock:=by
   rcases A with _ | a
   ·simp [Value.ownBlock]
   ·simp only [Value.ownBlock,ne_eq,yz]
    exact fun e=>hne a rfl e.symm
  have hng:b≠g2:=by
   rcases hf with hf | ⟨k,hk,hk2⟩
   ·intro e
    subst e
    exact hnr hf
   ·simp only [Value.ownBlock,yz] at hk
    omega
  rw [hfin b hbS2 hng,hg.block b (yr hbl hsz) hnr,hA.block b hbl]
 ·simp only [yz] at hb2
  subst hb2
  rcases hf with hf | ⟨k,hk,hk2⟩
  ·rcases A with _ | a
   ·simp [Value.ownBlock] at hf
   ·simp only [Value.ownBlock,yz] at hf
    exact .inl ⟨a,rfl,hf.symm⟩
  ·simp only [Value.ownBlock,yz] at hk
   subst hk
   exact .inr (by show w.heap.size≤g2;omega)
theorem uk {w2:World} {base g2 c2:Nat} {xs:List SV} (ho:am SvR 29 w2 base 0 (.slice (some ⟨g2,0,none⟩) (xs.length+1) c2) (xs++[sW])) (x:SV):am SvR 29 ((((w2.setCell ⟨g2,xs.length*4,none⟩ (.int .i64 x.t.kind)).setCell ⟨g2,xs.length*4+1,none⟩ (.int .i64 x.t.n)).setCell ⟨g2,xs.length*4+2,none⟩ (.string x.t.s)).setCell ⟨g2,xs.length*4+3,none⟩ (.slice x.a x.t.l.length x.c)) base 0 (.slice (some ⟨g2,0,none⟩) (xs.length+1) c2) (xs++[x]):=by
 obtain ⟨g3,c3,e3,_,_,_,_,_,_,hp3⟩:=ho.last
 simp only [yB,yz,Addr.mk.injEq,and_true,true_and] at e3
 obtain ⟨rfl,rfl⟩:=e3
 exact hp3 x
theorem uK {S base D c g2 c2:Nat} {bn bt:Value} {w wA w2:World} {xs:List SV} {x:SV} {next:Int} {A:Option Addr} (h:StkE S base D bn bt w xs next A c) (hx:dh D w x) (hap:mK S A x) (hlt:∀a,x.a=some a→base≤a.block∧a.block<w.heap.size) (hb:base≤w.heap.size)
 (hA:Below w.heap.size w wA) (ho:am SvR 29 w2 base 0 (.slice (some ⟨g2,0,none⟩) (xs.length+1) c2) (xs++[sW])) (hg:wA.grownBy w2 (Value.slice A xs.length c).ownBlock) (hf:bC wA (.slice A xs.length c) (.slice (some ⟨g2,0,none⟩) (xs.length+1) c2)) (hg2:base≤g2) (hne:S≠g2) (hd:bN w2 S #[bn,bt,.slice A xs.length c,.int .i64 next] 219) :
 BelX base S w (((((w2.setCell ⟨g2,xs.length*4,none⟩ (.int .i64 x.t.kind)).setCell ⟨g2,xs.length*4+1,none⟩ (.int .i64 x.t.n)).setCell ⟨g2,xs.length*4+2,none⟩ (.string x.t.s)).setCell ⟨g2,xs.length*4+3,none⟩ (.slice x.a x.t.l.length x.c)).setCell ⟨S,2,none⟩ (.slice (some ⟨g2,0,none⟩) (xs.length+1) c2))∧∃A' c',StkE S base D bn bt (((((w2.setCell ⟨g2,xs.length*4,none⟩ (.int .i64 x.t.kind)).setCell ⟨g2,xs.length*4+1,none⟩ (.int .i64 x.t.n)).setCell ⟨g2,xs.length*4+2,none⟩ (.string x.t.s)).setCell ⟨g2,xs.length*4+3,none⟩ (.slice x.a x.t.l.length x.c)).setCell ⟨S,2,none⟩ (.slice (some ⟨g2,0,none⟩) (xs.length+1) c2)) (xs++[x]) next A' c':=by
 have d1:=hd.far hne (xs.length*4) (.int .i64 x.t.kind)
 have d2:=d1.far hne (xs.length*4+1) (.int .i64 x.t.n)
 have d3:=d2.far hne (xs.length*4+2) (.string x.t.s)
 have d4:=d3.far hne (xs.length*4+3) (.slice x.a x.t.l.length x.c)
 have b1:=(yq base w2).setCell (p:=⟨g2,xs.length*4,none⟩) hg2 (.int .i64 x.t.kind)
 have b2:=b1.setCell (p:=⟨g2,xs.length*4+1,none⟩) hg2 (.int .i64 x.t.n)
 have b3:=b2.setCell (p:=⟨g2,xs.length*4+2,none⟩) hg2 (.string x.t.s)
 have b4:=b3.setCell (p:=⟨g2,xs.length*4+3,none⟩) hg2 (.slice x.a x.t.l.length x.c)
 have b5:=(BelX.of (S:=S) b4).setS 2 (.slice (some ⟨g2,0,none⟩) (xs.length+1) c2)
 refine rm h hx hap hlt hb hA hg hf hg2 (fun b h1 h2=>?_) b5 (d4.set_ 2 (.slice (some ⟨g2,0,none⟩) (xs.length+1) c2)) ((uk ho x).farT d4 yf 2 (.slice (some ⟨g2,0,none⟩) (xs.length+1) c2))
 rw [Below.heap_setCell _ ⟨S,2,none⟩ _ b h1,Below.heap_setCell _ ⟨g2,xs.length*4+3,none⟩ _ b h2,Below.heap_setCell _ ⟨g2,xs.length*4+2,none⟩ _ b h2,Below.heap_setCell _ ⟨g2,xs.length*4+1,none⟩ _ b h2,Below.heap_setCell _ ⟨g2,xs.length*4,none⟩ _ b h2]
theorem uL {S base D c g2 c2:Nat} {bn bt:Value} {w wA w2:World} {xs:List SV} {x:SV} {next:Int} {A:Option Addr} (h:StkE S base D bn bt w xs next A c) (hx:dh D w x) (hap:mK S A x) (hlt:∀a,x.a=some a→base≤a.block∧a.block<w.heap.size) (hb:base≤w.heap.size)
 (hA:Below w.heap.size w wA) (ho:am SvR 29 w2 base 0 (.slice (some ⟨g2,0,none⟩) (xs.length+1) c2) (xs++[sW])) (hg:wA.grownBy w2 (Value.slice A xs.length c).ownBlock) (hf:bC wA (.slice A xs.length c) (.slice (some ⟨g2,0,none⟩) (xs.length+1) c2)) (hg2:base≤g2) (hne:S≠g2) (hd:bN w2 S #[bn,bt,.slice A xs.length c,.int .i64 next] 219) :
 BelX base S w (((((w2.setCell ⟨S,2,none⟩ (.slice (some ⟨g2,0,none⟩) (xs.length+1) c2)).setCell ⟨g2,xs.length*4,none⟩ (.int .i64 x.t.kind)).setCell ⟨g2,xs.length*4+1,none⟩ (.int .i64 x.t.n)).setCell ⟨g2,xs.length*4+2,none⟩ (.string x.t.s)).setCell ⟨g2,xs.length*4+3,none⟩ (.slice x.a x.t.l.length x.c))∧∃A' c',StkE S base D bn bt (((((w2.setCell ⟨S,2,none⟩ (.slice (some ⟨g2,0,none⟩) (xs.length+1) c2)).setCell ⟨g2,xs.length*4,none⟩ (.int .i64 x.t.kind)).setCell ⟨g2,xs.length*4+1,none⟩ (.int .i64 x.t.n)).setCell ⟨g2,xs.length*4+2,none⟩ (.string x.t.s)).setCell ⟨g2,xs.length*4+3,none⟩ (.slice x.a x.t.l.length x.c)) (xs++[x]) next A' c':=by
 have d0:=hd.set_ 2 (.slice (some ⟨g2,0,none⟩) (xs.length+1) c2)
 have d1:=d0.far hne (xs.length*4) (.int .i64 x.t.kind)
 have d2:=d1.far hne (xs.length*4+1) (.int .i64 x.t.n)
 have d3:=d2.far hne (xs.length*4+2) (.string x.t.s)
 have d4:=d3.far hne (xs.length*4+3) (.slice x.a x.t.l.length x.c)
 have b0:=(BelX.refl base S w2).setS 2 (.slice (some ⟨g2,0,none⟩) (xs.length+1) c2)
 have b1:=b0.setCell (p:=⟨g2,xs.length*4,none⟩) hg2 (.int .i64 x.t.kind)
 have b2:=b1.setCell (p:=⟨g2,xs.length*4+1,none⟩) hg2 (.int .i64 x.t.n)
 have b3:=b2.setCell (p:=⟨g2,xs.length*4+2,none⟩) hg2 (.string x.t.s)
 have b4:=b3.setCell (p:=⟨g2,xs.length*4+3,none⟩) hg2 (.slice x.a x.t.l.length x.c)
 refine rm h hx hap hlt hb hA hg hf hg2 (fun b h1 h2=>?_) b4 d4 (uk (ho.farT hd yf 2 (.slice (some ⟨g2,0,none⟩) (xs.length+1) c2)) x)
 rw [Below.heap_setCell _ ⟨g2,xs.length*4+3,none⟩ _ b h2,Below.heap_setCell _ ⟨g2,xs.length*4+2,none⟩ _ b h2,Below.heap_setCell _ ⟨g2,xs.length*4+1,none⟩ _ b h2,Below.heap_setCell _ ⟨g2,xs.length*4,none⟩ _ b h2,Below.heap_setCell _ ⟨S,2,none⟩ _ b h1]
theorem push_ok {S base D c:Nat} {bn bt:Value} {w:World} {xs:List SV} {x:SV} {next:Int} {A:Option Addr} (h:StkE S base D bn bt w xs next A c) (hx:dh D w x) (hap:mK S A x) (hlt:∀a,x.a=some a→base≤a.block∧a.block<w.heap.size) (hb:base≤w.heap.size) (hn:xs.length≤100000) :
 Calls Tryz.prog 187 #[.pointer (some ⟨S,0,none⟩),.agg x.cs.toArray,.int .i64 0] w fun e w'=>e=.returned (.int .i64 0)∧BelX base S w w'∧∃A' c',StkE S base D bn bt w' (xs++[x]) next A' c':=by
 obtain ⟨i0,hi0,hz0,hz1,hz2⟩:=info_parts gJ
 have HS:=ym h
 have HX:=ym (And.intro hx (And.intro hap hlt))
 have hSlt:=h.hd.blk.lt
 clear h hx hap hlt
 unfold SV.cs
 go_enter Tryz.func187,Tryz.ntmps187
 go_wp2_with fail
 generalize hW:World.alloc _ _=w1
 obtain ⟨hb1,hz⟩:=al1 hW
 have BX:=ym (show bN w1 w.heap.size #[.int .i64 x.t.kind,.int .i64 x.t.n,.string x.t.s,.slice x.a x.t.l.length x.c] 29 from hW▸heap_alloc_new w _)
 have HS1:=ym (HS.out.later hb1)
 have HB1:=ym hb1
 clear hW hb1
 have s1:w1.drew.cell? ⟨S,2,none⟩=some (.slice A xs.length c):=HS1.out.hd.blk.cell 2
 have s2:w1.drew.cell? ⟨w.heap.size,0,none⟩=some (.int .i64 x.t.kind):=BX.out.blk.cell 0
 have s3:w1.drew.cell? ⟨w.heap.size,1,none⟩=some (.int .i64 x.t.n):=BX.out.blk.cell 1
 have s4:w1.drew.cell? ⟨w.heap.size,2,none⟩=some (.string x.t.s):=BX.out.blk.cell 2
 have s5:w1.drew.cell? ⟨w.heap.size,3,none⟩=some (.slice x.a x.t.l.length x.c):=BX.out.blk.cell 3
 clear s1 s2 s3 s4 s5
 have k_s:=HS1.out.hd.blk.cell
 have k_x:=BX.out.blk.cell
 have hXlt:w.heap.size<w1.heap.size:=by omega
 have hS1:S<w1.heap.size:=by omega
 have hsrc:=(Blk.src (R:=SvR) (B:=0) (x:=sW) (Blk.drew (Blk.new w1 #[.int .i64 0,.int .i64 0,.string ⟨#[]⟩,.slice none 0 0] 29)) rfl)
 rw [hz] at hsrc
 have HN:=ym (And.intro (HS1.out.own.later ((ar (w:=w1) (o:=.cells #[.int .i64 0,.int .i64 0,.string ⟨#[]⟩,.slice none 0 0] 29) rfl).drew) (yp _)) hsrc)
 clear hsrc
 have hii:(xs.length:Int)<(xs.length:Int)+1:=by omega
 go_region_law (
  refine cO (R:=SvR) (e:=29) (base:=base) (xs:=xs) (ys:=[sW]) rfl (.tmp 12) (.tmp 15) 24 rfl (bytes:=56) Tryz.underlying24 hi0 hz0 hz1 hz2 rfl (show 0<4 by omega) cj rfl HN.out.1 rfl HN.out.2 rfl (by simp only [yE,List.length_nil];omega) (by omega) (by rw [World.size_drew,World.size_alloc];omega) ?_
  intro v2 w2 hown2 hg2 hf2
  have HO2:Hid (am SvR 29 w2 base 0 v2 (xs++[sW])∧World.grownBy (w1.alloc (.cells #[.int .i64 0,.int .i64 0,.string ⟨#[]⟩,.slice none 0 0] 29)).drew w2 (Value.slice A xs.length c).ownBlock∧bC (w1.alloc (.cells #[.int .i64 0,.int .i64 0,.string ⟨#[]⟩,.slice none 0 0] 29)).drew (.slice A xs.length c) v2):=ym ⟨hown2,hg2,hf2⟩
  have bd:=((HS1.out.hd.later (ar (w:=w1) (o:=.cells #[.int .i64 0,.int .i64 0,.string ⟨#[]⟩,.slice none 0 0] 29) rfl)).drew).grown hg2 (HN.out.1.ne ((HS1.out.hd.later (ar (w:=w1) (o:=.cells #[.int .i64 0,.int .i64 0,.string ⟨#[]⟩,.slice none 0 0] 29) rfl)).drew) yf)
  have hne2:=hown2.ne bd yf
  have ks2:=bd.blk.cell 2
  have fs2:=bd.blk.free
  have BD:=ym bd
  obtain ⟨g2,c2,rfl,hg2lt,hg2b,hn2,hc2,hcell2,hfr2,hput2⟩:=hown2.last
  simp only [Value.ownBlock,ne_eq,yz] at hne2
  have hne3:S≠g2:=fun e=>hne2 e.symm
  have HP2:=ym hput2
  clear bd
  have e0:w2.cell? ⟨g2,xs.length*4,none⟩=some (.int .i64 0):=hcell2 0 _ rfl
  have e1:w2.cell? ⟨g2,xs.length*4+1,none⟩=some (.int .i64 0):=hcell2 1 _ rfl
  have e2:w2.cell? ⟨g2,xs.length*4+2,none⟩=some (.string ⟨#[]⟩):=hcell2 2 _ rfl
  have e3:w2.cell? ⟨g2,xs.length*4+3,none⟩=some (.slice none 0 0):=hcell2 3 _ rfl
  clear hown2 hg2 hf2 hput2 hcell2)
 all_goals
  go_wp2_with fail
  go_ret
  obtain ⟨hx,hap,hlt⟩:=HX.out
  have hwA:Below w.heap.size w (w1.alloc (.cells #[.int .i64 0,.int .i64 0,.string ⟨#[]⟩,.slice none 0 0] 29)).drew:=(HB1.out.alloc HB1.out.size _).drew
  refine ⟨rfl,?_⟩
  first
   | (with_reducible exact uK HS.out hx hap hlt hb hwA HO2.out.1 HO2.out.2.1 HO2.out.2.2 hg2b hne3 BD.out)
   | (with_reducible exact uL HS.out hx hap hlt hb hwA HO2.out.1 HO2.out.2.1 HO2.out.2.2 hg2b hne3 BD.out)
def xX (S base D:Nat) (bn bt:Value) (w:World) (xs:List SV) (x:SV) (next e:Int):Prop:=
 (e=0∧∃A c,StkE S base D bn bt w (xs++[x]) next A c)∨(e≠0∧∃A c,StkE S base D bn bt w xs next A c)
theorem fU {S base D c:Nat} {bn bt:Value} {w:World} {xs:List SV} {x:SV} {next e0:Int} {A:Option Addr} (h:StkE S base D bn bt w xs next A c) (hx:dh D w x) (hap:mK S A x) (hlt:∀a,x.a=some a→base≤a.block∧a.block<w.heap.size) (hb:base≤w.heap.size) (hn:xs.length≤100000) :
 Calls Tryz.prog 187 #[.pointer (some ⟨S,0,none⟩),.agg x.cs.toArray,.int .i64 e0] w fun e w'=>e=.returned (.int .i64 e0)∧BelX base S w w'∧xX S base D bn bt w' xs x next e0:=by
 by_cases he:e0=0
 ·subst he
  exact (push_ok h hx hap hlt hb hn).mono fun _ _ ⟨h1,h2,h3⟩=>⟨h1,h2,.inl ⟨rfl,h3⟩⟩
 ·have HS:=ym h
  have hq:(e0==0)=false:=by simpa using he
  have HE:=ym he
  clear h hx hap hlt he
  unfold SV.cs
  go_enter Tryz.func187,Tryz.ntmps187
  go_wp2_with fail
  go_ret
  have hb1:=ar (w:=w) (o:=.cells #[.int .i64 x.t.kind,.int .i64 x.t.n,.string x.t.s,.slice x.a x.t.l.length x.c] 29) rfl
  exact ⟨rfl,.of (hb1.mono hb),.inr ⟨HE.out,A,c,HS.out.later hb1⟩⟩
abbrev bM (k n:Int) (s:ByteArray) (e:Int):Ending:=.returned (.tuple #[.agg #[.int .i64 k,.int .i64 n,.string s,.slice none 0 0],.int .i64 e])
abbrev emp:ByteArray:=⟨#[]⟩
theorem rE {code x y k n e:Int} {d d' B:Nat} {s s':ByteArray} {l l':List Tm} {vs ws:List Value} {w:World} (ha:RTm w B d ⟨2,x,s,l⟩ vs) (hb:RTm w B d' ⟨2,y,s',l'⟩ ws) (hB:B≤w.heap.size) (fa:af ⟨2,x,s,l⟩=true) (fb:af ⟨2,y,s',l'⟩=true) (hc:code=7∨code=8∨code=9∨code=10) (hr:mD code x y=(k,n,e)) :
 Calls Tryz.prog 189 #[.int .i64 code,.agg vs.toArray,.agg ws.toArray] w fun z w'=>z=bM k n emp e∧Below w.heap.size w w':=by
 obtain ⟨A,c,rfl,q1,q2,q3,q4,q5,_⟩:=ha.cells
 obtain ⟨A',c',rfl,r1,r2,r3,r4,r5,_⟩:=hb.cells
 have HA:=ym ha
 have HB_:=ym hb
 have FA:=ym fa
 have FB:=ym fb
 simp only at q2 q3 q4 q5 r2 r3 r4 r5
 clear ha hb fa fb
 have HR:=ym hr
 have HK:Hid (aG code 2 2=true):=ym (by rcases hc with rfl | rfl | rfl | rfl<;>decide)
 clear hr
 rcases hc with rfl | rfl | rfl | rfl
 all_goals
  go_enter Tryz.func189,Tryz.ntmps189
  go_wp2_with fail
  generalize hW:World.alloc _ _=w1
  obtain ⟨hb,hz⟩:=al3 hW
  have b_a_1:=n31 hW
  have b_b_1:=n32 hW
  have b_r_1:=n33 hW
  have HB1:=ym hb
  clear hW hz hb
  refine (ai (t:=⟨2,x,s,l⟩) (vs:=[_,_,_,_]) (HA.out.below HB1.out hB) (yn hB HB1.out.size)).mono ?_
  rintro x w2 ⟨rfl,hb⟩
  have b_a_2:=b_a_1.later hb
  have b_b_2:=b_b_1.later hb
  have b_r_2:=b_r_1.later hb
  have HB2:=ym (ac HB1.out hb)
  clear b_a_1 b_b_1 b_r_1
  clear hb
  rw [FA.out]
  have k_a:=b_a_2.cell
  have k_b:=b_b_2.cell
  have k_r:=b_r_2.cell
  go_wp2_with fail
  clear k_a k_b k_r
  refine (ai (t:=⟨2,y,s',l'⟩) (vs:=[_,_,_,_]) (HB_.out.below HB2.out hB) (yn hB HB2.out.size)).mono ?_
  rintro x w3 ⟨rfl,hb⟩
  have b_a_3:=b_a_2.later hb
  have b_b_3:=b_b_2.later hb
  have b_r_3:=b_r_2.later hb
  have HB3:=ym (ac HB2.out hb)
  clear b_a_2 b_b_2 b_r_2
  clear hb
  rw [FB.out]
  have k_a:=b_a_3.cell
  have k_b:=b_b_3.cell
  have k_r:=b_r_3.cell
  go_wp2_with fail
  clear k_a k_b k_r
  refine (aU _ 2 2 _).mono ?_
  rintro x w4 ⟨rfl,hb⟩
  have b_a_4:=b_a_3.later hb
  have b_b_4:=b_b_3.later hb
  have b_r_4:=b_r_3.later hb
  have HB4:=ym (ac HB3.out hb)
  clear b_a_3 b_b_3 b_r_3
  clear hb
  rw [HK.out]
  have k_a:=b_a_4.cell
  have k_b:=b_b_4.cell
  have k_r:=b_r_4.cell
  go_wp2_with fail
  clear k_a k_b k_r
  refine (mE _ x y k n e (by omega) q5 r5 HR.out _).mono ?_
  rintro x w5 ⟨rfl,hb⟩
  have b_a_5:=b_a_4.later hb
  have b_b_5:=b_b_4.later hb
  have b_r_5:=b_r_4.later hb
  have HB5:=ym (ac HB4.out hb)
  clear b_a_4 b_b_4 b_r_4
  clear hb
  have k_a:=b_a_5.cell
  have k_b:=b_b_5.cell
  have k_r:=b_r_5.cell
  have f_r:=b_r_5.free
  go_wp2_with fail
  refine bodyPost_ret (al rfl rfl (put4 b_r_5 HB5.out (by omega)).1 rfl) rfl ?_
  exact ⟨rfl,(put4 b_r_5 HB5.out (by omega)).2⟩
theorem bin_and {x y:Int} {d d' B:Nat} {s s':ByteArray} {l l':List Tm} {vs ws:List Value} {w:World} (ha:RTm w B d ⟨2,x,s,l⟩ vs) (hb:RTm w B d' ⟨2,y,s',l'⟩ ws) (hB:B≤w.heap.size) (fa:af ⟨2,x,s,l⟩=true) (fb:af ⟨2,y,s',l'⟩=true)  :
 Calls Tryz.prog 189 #[.int .i64 17,.agg vs.toArray,.agg ws.toArray] w fun z w'=>z=bM 2 (bits .and .i64 x y) emp 0∧Below w.heap.size w w':=by
 obtain ⟨A,c,rfl,q1,q2,q3,q4,q5,_⟩:=ha.cells
 obtain ⟨A',c',rfl,r1,r2,r3,r4,r5,_⟩:=hb.cells
 have HA:=ym ha
 have HB_:=ym hb
 have FA:=ym fa
 have FB:=ym fb
 simp only at q2 q3 q4 q5 r2 r3 r4 r5
 clear ha hb fa fb
 have HK:Hid (aG 17 2 2=true):=ym (by decide)
 go_enter Tryz.func189,Tryz.ntmps189
 go_wp2_with fail
 generalize hW:World.alloc _ _=w1
 obtain ⟨hb,hz⟩:=al3 hW
 have b_a_1:=n31 hW
 have b_b_1:=n32 hW
 have b_r_1:=n33 hW
 have HB1:=ym hb
 clear hW hz hb
 refine (ai (t:=⟨2,x,s,l⟩) (vs:=[_,_,_,_]) (HA.out.below HB1.out hB) (yn hB HB1.out.size)).mono ?_
 rintro x w2 ⟨rfl,hb⟩
 have b_a_2:=b_a_1.later hb
 have b_b_2:=b_b_1.later hb
 have b_r_2:=b_r_1.later hb
 have HB2:=ym (ac HB1.out hb)
 clear b_a_1 b_b_1 b_r_1
 clear hb
 rw [FA.out]
 have k_a:=b_a_2.cell
 have k_b:=b_b_2.cell
 have k_r:=b_r_2.cell
 go_wp2_with fail
 clear k_a k_b k_r
 refine (ai (t:=⟨2,y,s',l'⟩) (vs:=[_,_,_,_]) (HB_.out.below HB2.out hB) (yn hB HB2.out.size)).mono ?_
 rintro x w3 ⟨rfl,hb⟩
 have b_a_3:=b_a_2.later hb
 have b_b_3:=b_b_2.later hb
 have b_r_3:=b_r_2.later hb
 have HB3:=ym (ac HB2.out hb)
 clear b_a_2 b_b_2 b_r_2
 clear hb
 rw [FB.out]
 have k_a:=b_a_3.cell
 have k_b:=b_b_3.cell
 have k_r:=b_r_3.cell
 go_wp2_with fail
 clear k_a k_b k_r
 refine (aU 17 2 2 _).mono ?_
 rintro x w4 ⟨rfl,hb⟩
 have b_a_4:=b_a_3.later hb
 have b_b_4:=b_b_3.later hb
 have b_r_4:=b_r_3.later hb
 have HB4:=ym (ac HB3.out hb)
 clear b_a_3 b_b_3 b_r_3
 clear hb
 rw [HK.out]
 have k_a:=b_a_4.cell
 have k_b:=b_b_4.cell
 have k_r:=b_r_4.cell
 go_wp2_with fail
 clear k_a k_b k_r
 refine (bp _ _).mono ?_
 rintro x w5 ⟨rfl,hb⟩
 have b_a_5:=b_a_4.later hb
 have b_b_5:=b_b_4.later hb
 have b_r_5:=b_r_4.later hb
 have HB5:=ym (ac HB4.out hb)
 clear b_a_4 b_b_4 b_r_4
 clear hb
 have k_a:=b_a_5.cell
 have k_b:=b_b_5.cell
 have k_r:=b_r_5.cell
 have f_r:=b_r_5.free
 go_wp2_with fail
 refine bodyPost_ret (al rfl rfl (put4 b_r_5 HB5.out (by omega)).1 rfl) rfl ?_
 exact ⟨rfl,(put4 b_r_5 HB5.out (by omega)).2⟩
theorem bin_or {x y:Int} {d d' B:Nat} {s s':ByteArray} {l l':List Tm} {vs ws:List Value} {w:World} (ha:RTm w B d ⟨2,x,s,l⟩ vs) (hb:RTm w B d' ⟨2,y,s',l'⟩ ws) (hB:B≤w.heap.size) (fa:af ⟨2,x,s,l⟩=true) (fb:af ⟨2,y,s',l'⟩=true)  :
 Calls Tryz.prog 189 #[.int .i64 18,.agg vs.toArray,.agg ws.toArray] w fun z w'=>z=bM 2 (bits .or .i64 x y) emp 0∧Below w.heap.size w w':=by
 obtain ⟨A,c,rfl,q1,q2,q3,q4,q5,_⟩:=ha.cells
 obtain ⟨A',c',rfl,r1,r2,r3,r4,r5,_⟩:=hb.cells
 have HA:=ym ha
 have HB_:=ym hb
 have FA:=ym fa
 have FB:=ym fb
 simp only at q2 q3 q4 q5 r2 r3 r4 r5
 clear ha hb fa fb
 have HK:Hid (aG 18 2 2=true):=ym (by decide)
 go_enter Tryz.func189,Tryz.ntmps189
 go_wp2_with fail
 generalize hW:World.alloc _ _=w1
 obtain ⟨hb,hz⟩:=al3 hW
 have b_a_1:=n31 hW
 have b_b_1:=n32 hW
 have b_r_1:=n33 hW
 have HB1:=ym hb
 clear hW hz hb
 refine (ai (t:=⟨2,x,s,l⟩) (vs:=[_,_,_,_]) (HA.out.below HB1.out hB) (yn hB HB1.out.size)).mono ?_
 rintro x w2 ⟨rfl,hb⟩
 have b_a_2:=b_a_1.later hb
 have b_b_2:=b_b_1.later hb
 have b_r_2:=b_r_1.later hb
 have HB2:=ym (ac HB1.out hb)
 clear b_a_1 b_b_1 b_r_1
 clear hb
 rw [FA.out]
 have k_a:=b_a_2.cell
 have k_b:=b_b_2.cell
 have k_r:=b_r_2.cell
 go_wp2_with fail
 clear k_a k_b k_r
 refine (ai (t:=⟨2,y,s',l'⟩) (vs:=[_,_,_,_]) (HB_.out.below HB2.out hB) (yn hB HB2.out.size)).mono ?_
 rintro x w3 ⟨rfl,hb⟩
 have b_a_3:=b_a_2.later hb
 have b_b_3:=b_b_2.later hb
 have b_r_3:=b_r_2.later hb
 have HB3:=ym (ac HB2.out hb)
 clear b_a_2 b_b_2 b_r_2
 clear hb
 rw [FB.out]
 have k_a:=b_a_3.cell
 have k_b:=b_b_3.cell
 have k_r:=b_r_3.cell
 go_wp2_with fail
 clear k_a k_b k_r
 refine (aU 18 2 2 _).mono ?_
 rintro x w4 ⟨rfl,hb⟩
 have b_a_4:=b_a_3.later hb
 have b_b_4:=b_b_3.later hb
 have b_r_4:=b_r_3.later hb
 have HB4:=ym (ac HB3.out hb)
 clear b_a_3 b_b_3 b_r_3
 clear hb
 rw [HK.out]
 have k_a:=b_a_4.cell
 have k_b:=b_b_4.cell
 have k_r:=b_r_4.cell
 go_wp2_with fail
 clear k_a k_b k_r
 refine (bp _ _).mono ?_
 rintro x w5 ⟨rfl,hb⟩
 have b_a_5:=b_a_4.later hb
 have b_b_5:=b_b_4.later hb
 have b_r_5:=b_r_4.later hb
 have HB5:=ym (ac HB4.out hb)
 clear b_a_4 b_b_4 b_r_4
 clear hb
 have k_a:=b_a_5.cell
 have k_b:=b_b_5.cell
 have k_r:=b_r_5.cell
 have f_r:=b_r_5.free
 go_wp2_with fail
 refine bodyPost_ret (al rfl rfl (put4 b_r_5 HB5.out (by omega)).1 rfl) rfl ?_
 exact ⟨rfl,(put4 b_r_5 HB5.out (by omega)).2⟩
theorem bin_xor {x y:Int} {d d' B:Nat} {s s':ByteArray} {l l':List Tm} {vs ws:List Value} {w:World} (ha:RTm w B d ⟨2,x,s,l⟩ vs) (hb:RTm w B d' ⟨2,y,s',l'⟩ ws) (hB:B≤w.heap.size) (fa:af ⟨2,x,s,l⟩=true) (fb:af ⟨2,y,s',l'⟩=true)  :
 Calls Tryz.prog 189 #[.int .i64 19,.agg vs.toArray,.agg ws.toArray] w fun z w'=>z=bM 2 (bits .xor .i64 x y) emp 0∧Below w.heap.size w w':=by
 obtain ⟨A,c,rfl,q1,q2,q3,q4,q5,_⟩:=ha.cells
 obtain ⟨A',c',rfl,r1,r2,r3,r4,r5,_⟩:=hb.cells
 have HA:=ym ha
 have HB_:=ym hb
 have FA:=ym fa
 have FB:=ym fb
 simp only at q2 q3 q4 q5 r2 r3 r4 r5
 clear ha hb fa fb
 have HK:Hid (aG 19 2 2=true):=ym (by decide)
 go_enter Tryz.func189,Tryz.ntmps189
 go_wp2_with fail
 generalize hW:World.alloc _ _=w1
 obtain ⟨hb,hz⟩:=al3 hW
 have b_a_1:=n31 hW
 have b_b_1:=n32 hW
 have b_r_1:=n33 hW
 have HB1:=ym hb
 clear hW hz hb
 refine (ai (t:=⟨2,x,s,l⟩) (vs:=[_,_,_,_]) (HA.out.below HB1.out hB) (yn hB HB1.out.size)).mono ?_
 rintro x w2 ⟨rfl,hb⟩
 have b_a_2:=b_a_1.later hb
 have b_b_2:=b_b_1.later hb
 have b_r_2:=b_r_1.later hb
 have HB2:=ym (ac HB1.out hb)
 clear b_a_1 b_b_1 b_r_1
 clear hb
 rw [FA.out]
 have k_a:=b_a_2.cell
 have k_b:=b_b_2.cell
 have k_r:=b_r_2.cell
 go_wp2_with fail
 clear k_a k_b k_r
 refine (ai (t:=⟨2,y,s',l'⟩) (vs:=[_,_,_,_]) (HB_.out.below HB2.out hB) (yn hB HB2.out.size)).mono ?_
 rintro x w3 ⟨rfl,hb⟩
 have b_a_3:=b_a_2.later hb
 have b_b_3:=b_b_2.later hb
 have b_r_3:=b_r_2.later hb
 have HB3:=ym (ac HB2.out hb)
 clear b_a_2 b_b_2 b_r_2
 clear hb
 rw [FB.out]
 have k_a:=b_a_3.cell
 have k_b:=b_b_3.cell
 have k_r:=b_r_3.cell
 go_wp2_with fail
 clear k_a k_b k_r
 refine (aU 19 2 2 _).mono ?_
 rintro x w4 ⟨rfl,hb⟩
 have b_a_4:=b_a_3.later hb
 have b_b_4:=b_b_3.later hb
 have b_r_4:=b_r_3.later hb
 have HB4:=ym (ac HB3.out hb)
 clear b_a_3 b_b_3 b_r_3
 clear hb
 rw [HK.out]
 have k_a:=b_a_4.cell
 have k_b:=b_b_4.cell
 have k_r:=b_r_4.cell
 go_wp2_with fail
 clear k_a k_b k_r
 refine (bp _ _).mono ?_
 rintro x w5 ⟨rfl,hb⟩
 have b_a_5:=b_a_4.later hb
 have b_b_5:=b_b_4.later hb
 have b_r_5:=b_r_4.later hb
 have HB5:=ym (ac HB4.out hb)
 clear b_a_4 b_b_4 b_r_4
 clear hb
 have k_a:=b_a_5.cell
 have k_b:=b_b_5.cell
 have k_r:=b_r_5.cell
 have f_r:=b_r_5.free
 go_wp2_with fail
 refine bodyPost_ret (al rfl rfl (put4 b_r_5 HB5.out (by omega)).1 rfl) rfl ?_
 exact ⟨rfl,(put4 b_r_5 HB5.out (by omega)).2⟩
end Go.Proofs.YtjpndglegpcdnaaGreat
