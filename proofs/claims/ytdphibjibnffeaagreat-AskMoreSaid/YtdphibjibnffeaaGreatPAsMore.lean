/- AskMore: for every input the call returns true, and each argument reads afterwards as it read before. No conditions: every input of the given row. -/
import Derived.Test.YtdphibjibnffeaaGreatLJoTurned
import Derived.Test.YtdphibjibnffeaaGreatAwJ
import Derived.Test.YtdphibjibnffeaaGreatPosts
import Derived.Test.YtdphibjibnffeaaGreatOpen
import Derived.Test.YtdphibjibnffeaaGreatShelf
import Derived.HandedShaped
import Derived.Shelf.Vars
import Derived.ChangeMaps5
import Derived.Test.YtdphibjibnffeaaGreatRows
import Derived.ProofKit
set_option linter.unusedVariables false
set_option linter.unusedSimpArgs false
set_option maxRecDepth 100000
set_option maxHeartbeats 8000000
namespace Go.Proofs.YtdphibjibnffeaaGreat
open Go.ChangeShapes Go.WideShapes Go.ChangeAt Go.RowKit
def awE:List OpD:=[⟨1,awV,0,0⟩,⟨1,awT 2,0,0⟩,⟨3,⟨0,0,⟨#[]⟩,[]⟩,1,0⟩]
def awQ:Ru:=⟨⟨⟨#[]⟩,[]⟩,[⟨awS,[awV]⟩],[awE],[]⟩
theorem tH:stL [awF 1,awF 2]=[awF 1,awF 2]:=by kernel_rfl
theorem pt:aB awQ=true:=by kernel_rfl
theorem awq_run:cU [awF 1,awF 2] 1 [awE] [⟨awS,[awV]⟩] gG ⟨0,[],0⟩=⟨2,[awA 1],0⟩:=by kernel_rfl
theorem wE:cU [awF 1,awF 2] 1 [] [⟨awS,[awV]⟩] gG ⟨0,[],0⟩=⟨2,[awA 1,awA 2],0⟩:=by kernel_rfl
theorem aw1_one:eA (awA 1).b [awE] true=(true,0):=by kernel_rfl
theorem aw1_no:eA (awA 1).b [awE] false=(false,0):=by kernel_rfl
theorem aw2_one:eA (awA 2).b [awE] true=(false,0):=by kernel_rfl
theorem aw2_no:eA (awA 2).b [awE] false=(false,0):=by kernel_rfl
theorem tG:aV (stL [awF 1,awF 2]) 1 awQ=(true,0):=by
 have h:pi (stL [awF 1,awF 2]) 1 awQ=⟨2,[awA 1],0⟩:=by rw [tH];exact awq_run
 have h2:aA (stL [awF 1,awF 2]) 1 awQ=([awA 1],0):=by
  rw [dM,if_pos (by rw [pt,Bool.or_true]),h,if_pos rfl,vR]
 unfold aV
 rw [if_pos pt,h2]
 rfl
theorem nU:∀{L:List Ans} {a:Bool},(∀x∈L,x=awA 1∨x=awA 2)→awA 2∈L∨a=false→fv [awE] L a=(false,0)
 | [],a,h,h2=>by
   obtain h2 | h2:=h2
   ·cases h2
   ·rw [h2];rfl
 | x::xs,a,h,h2=>by
   have hxs:∀y∈xs,y=awA 1∨y=awA 2:=fun y hy=>h y (List.mem_cons_of_mem _ hy)
   obtain rfl | rfl:=h x List.mem_cons_self
   ·cases a
    ·rw [fv,aw1_no];exact nU hxs (.inr rfl)
    ·rw [fv,aw1_one]
     refine nU hxs (.inl ?_)
     obtain h2 | h2:=h2
     ·obtain e | h2:=List.mem_cons.1 h2
      ·exact absurd e (by simp [awA,awT])
      ·exact h2
     ·cases h2
   ·cases a
    ·rw [fv,aw2_no];exact nU hxs (.inr rfl)
    ·rw [fv,aw2_one];exact nU hxs (.inr rfl)
theorem tF:cV (stL [awF 1,awF 2]) 1 awQ=(false,0):=by
 have hm:(bj (cH awQ)||aB (cH awQ))=true:=by kernel_rfl
 have h:pi (stL [awF 1,awF 2]) 1 (cH awQ)=⟨2,[awA 1,awA 2],0⟩:=by rw [tH];exact wE
 have h2:bH (stL [awF 1,awF 2]) 1 awQ=(lx [awA 1,awA 2],0):=by
  unfold bH
  rw [if_neg (by simp [awQ]),dM,if_pos hm,h,if_pos rfl]
 obtain ⟨_,h3,h4⟩:=di [awA 1,awA 2]
 unfold cV
 rw [if_pos pt,h2,if_neg (by simp)]
 refine nU (fun x hx=>by have:=h4 x hx;simpa using this) (.inl ?_)
 obtain ⟨y,hy,e⟩:=h3 (awA 2) (by simp)
 obtain rfl | rfl:=(show y=awA 1∨y=awA 2 by have:=h4 y hy;simpa using this)
 ·exact absurd e (of_decide_eq_false (by kernel_rfl))
 ·exact hy
theorem jj {n:Int} {w:World}:Calls Tryz.prog 75 #[.int .i64 n] w fun z w'=>z=.returned (.agg #[.int .i64 2,.int .i64 n,.string ⟨#[]⟩,.slice none 0 0])∧Below w.heap.size w w':=by
 go_enter Tryz.func75,Tryz.ntmps75
 go_upto_region 1 with fail
 generalize hW:World.alloc _ _=w1
 obtain ⟨hb1,hz⟩:=al1 hW
 have HS1:=yW (n11 hW)
 have HB1:=yW hb1
 clear hW hb1 hz
 have f_s:=HS1.out.free
 have k_s:=HS1.out.cell
 have l_s:=HS1.out.lt
 go_wp2_with fail
 refine bodyPost_ret (oT rfl rfl ((((HS1.out.set_ 0 (.int .i64 2)).set_ 1 (.int .i64 n)).set_ 2 (.string ⟨#[]⟩)).set_ 3 (.slice none 0 0)) rfl) rfl ?_
 exact ⟨rfl,(((HB1.out.setCell (p:=⟨w.heap.size,0,none⟩) (yY _) _).setCell (p:=⟨w.heap.size,1,none⟩) (yY _) _).setCell (p:=⟨w.heap.size,2,none⟩) (yY _) _).setCell (p:=⟨w.heap.size,3,none⟩) (yY _) _⟩
theorem Blk.rlTwo {α:Type} {R:Reader α} {w:World} {B b:Nat} {x y:α} {us vs:List Value} {cells:Array Value} (h:Blk w b cells) (hc:cells.toList=us++vs) (hx:R.rd w B x us) (hy:R.rd w B y vs) (hb:b<B):RL R w B [x,y] (some ⟨b,0,none⟩):=fun _=>
 ⟨b,0,rfl,hb,fun i hi=>by
  have hi0:i=0∨i=1:=by simp at hi;omega
  have l1:=R.len hx
  rcases hi0 with rfl | rfl
  ·refine ⟨us,l1,⟨x,rfl,hx⟩,fun j v hj=>?_⟩
   have hl:=(List.getElem?_eq_some_iff.1 hj).1
   have e:0+0*R.k+j=j:=by omega
   rw [e,h.cell,←Array.getElem?_toList,hc,List.getElem?_append_left hl,hj]
  ·refine ⟨vs,R.len hy,⟨y,rfl,hy⟩,fun j v hj=>?_⟩
   have e:0+1*R.k+j=us.length+j:=by omega
   rw [e,h.cell,←Array.getElem?_toList,hc,List.getElem?_append_right (by omega),Nat.add_sub_cancel_left,hj]⟩
theorem aw_row2 {w:World} {T U G:Nat} (hT:Blk w T #[.int .i64 2,.int .i64 1,.string ⟨#[]⟩,.slice none 0 0]) (hU:Blk w U #[.int .i64 2,.int .i64 2,.string ⟨#[]⟩,.slice none 0 0]) (hG:Blk w G #[.string awS,.slice (some ⟨T,0,none⟩) 1 1,.int .u32 1,.string awS,.slice (some ⟨U,0,none⟩) 1 1,.int .u32 1]):RL (ax 2) w w.heap.size [awF 1,awF 2] (some ⟨G,0,none⟩):=
 Blk.rlTwo hG (R:=ax 2) (us:=[_,_,_]) (vs:=[_,_,_]) rfl (yx (f:=awF 1) (uX (by decide) (kW (R:=TmR 2) (c:=1) (hT.rl (R:=TmR 2) (x:=awT 1) (uY (by unfold I64;omega) (by unfold I64;omega) (by decide)) hT.lt) (by simp) (by simp [TmR]) (by omega))) (by unfold U32;simp [awF]))
  (yx (f:=awF 2) (uX (by decide) (kW (R:=TmR 2) (c:=1) (hU.rl (R:=TmR 2) (x:=awT 2) (uY (by unfold I64;omega) (by unfold I64;omega) (by decide)) hU.lt) (by simp) (by simp [TmR]) (by omega))) (by unfold U32;simp [awF])) hG.lt
def Rw1 (w:World) (v:Value):Prop:=∃b,v=.slice (some ⟨b,0,none⟩) 1 1∧Blk w b #[.int .i64 1,.int .i64 0,.string awX,.slice none 0 0]
def Rw2 (w:World) (v:Value):Prop:=∃b u,v=.slice (some ⟨b,0,none⟩) 1 1∧Blk w b #[.string awS,u]∧Rw1 w u
def Rw3 (w:World) (v:Value):Prop:=∃b,v=.slice (some ⟨b,0,none⟩) 3 3∧Blk w b #[.int .i64 1,.int .i64 1,.int .i64 0,.string awX,.slice none 0 0,.int .i64 0,.int .i64 0,.int .i64 1,.int .i64 2,.int .i64 2,.string ⟨#[]⟩,.slice none 0 0,.int .i64 0,.int .i64 0,.int .i64 3,.int .i64 0,.int .i64 0,.string ⟨#[]⟩,.slice none 0 0,.int .i64 1,.int .i64 0]
def Rw4 (w:World) (v:Value):Prop:=∃b u,v=.slice (some ⟨b,0,none⟩) 1 1∧Blk w b #[u]∧Rw3 w u
def tE (B:Nat) (i:Nat) (v:Value) (w:World):Prop:=match i with
 | 0=>v=.agg #[.int .i64 1,.int .i64 0,.string awX,.slice none 0 0]
 | 1=>Rw1 w v
 | 2=>∃u,v=.agg #[.string awS,u]∧Rw1 w u
 | 3=>Rw2 w v
 | 4=>v=.agg #[.int .i64 1,.int .i64 0,.string awX,.slice none 0 0]
 | 5=>v=.agg #[.int .i64 1,.int .i64 1,.int .i64 0,.string awX,.slice none 0 0,.int .i64 0,.int .i64 0]
 | 6=>v=.agg #[.int .i64 2,.int .i64 2,.string ⟨#[]⟩,.slice none 0 0]
 | 7=>v=.agg #[.int .i64 1,.int .i64 2,.int .i64 2,.string ⟨#[]⟩,.slice none 0 0,.int .i64 0,.int .i64 0]
 | 8=>v=.agg #[.int .i64 3,.int .i64 0,.int .i64 0,.string ⟨#[]⟩,.slice none 0 0,.int .i64 1,.int .i64 0]
 | 9=>Rw3 w v
 | 10=>∃u,v=.agg #[u]∧Rw3 w u
 | 11=>Rw4 w v
 | 12=>∃u1 u2,v=.agg #[.string ⟨#[]⟩,.slice none 0 0,u1,u2,.slice none 0 0]∧Rw2 w u1∧Rw4 w u2
 | 13=>∃p,v=.pointer (some ⟨p,0,none⟩)∧B≤p∧Blk w p #[.string ⟨#[]⟩,.slice none 0 0,.slice none 0 0,.slice none 0 0,.slice none 0 0]
 | _=>True
theorem Rw1.later {w w':World} {v:Value} (h:Rw1 w v) (hb:Below w.heap.size w w'):Rw1 w' v:=by obtain ⟨b,e,h⟩:=h;exact ⟨b,e,h.later hb⟩
theorem Rw2.later {w w':World} {v:Value} (h:Rw2 w v) (hb:Below w.heap.size w w'):Rw2 w' v:=by obtain ⟨b,u,e,h,h2⟩:=h;exact ⟨b,u,e,h.later hb,h2.later hb⟩
theorem Rw3.later {w w':World} {v:Value} (h:Rw3 w v) (hb:Below w.heap.size w w'):Rw3 w' v:=by obtain ⟨b,e,h⟩:=h;exact ⟨b,e,h.later hb⟩
theorem Rw4.later {w w':World} {v:Value} (h:Rw4 w v) (hb:Below w.heap.size w w'):Rw4 w' v:=by obtain ⟨b,u,e,h,h2⟩:=h;exact ⟨b,u,e,h.later hb,h2.later hb⟩
theorem po (B:Nat):∀i v w w',tE B i v w→Below w.heap.size w w'→tE B i v w'
 | 0,_,_,_,h,_=>h
 | 1,_,_,_,h,hb=>Rw1.later h hb
 | 2,_,_,_,⟨u,e,h⟩,hb=>⟨u,e,h.later hb⟩
 | 3,_,_,_,h,hb=>Rw2.later h hb
 | 4,_,_,_,h,_=>h
 | 5,_,_,_,h,_=>h
 | 6,_,_,_,h,_=>h
 | 7,_,_,_,h,_=>h
 | 8,_,_,_,h,_=>h
 | 9,_,_,_,h,hb=>Rw3.later h hb
 | 10,_,_,_,⟨u,e,h⟩,hb=>⟨u,e,h.later hb⟩
 | 11,_,_,_,h,hb=>Rw4.later h hb
 | 12,_,_,_,⟨u1,u2,e,h,h2⟩,hb=>⟨u1,u2,e,h.later hb,h2.later hb⟩
 | 13,_,_,_,⟨p,e,h,h2⟩,hb=>⟨p,e,h,h2.later hb⟩
 | _+14,_,_,_,_,_=>trivial
theorem Blk.rlAll {α:Type} {R:Reader α} {w:World} {B b:Nat} {xs:List α} {cells:Array Value} (h:Blk w b cells) (hf:bg R w B xs cells.toList) (hb:b<B):RL R w B xs (some ⟨b,0,none⟩):=fun _=>
 ⟨b,0,rfl,hb,fun i hi=>⟨_,R.len (hf.2 i hi),⟨xs[i],List.getElem?_eq_getElem hi,hf.2 i hi⟩,fun j v hj=>by
  rw [List.getElem?_take] at hj
  split at hj
  ·rw [List.getElem?_drop] at hj
   rw [Nat.zero_add,h.cell,←Array.getElem?_toList]
   exact hj
  ·cases hj⟩⟩
theorem pq {w:World} {B:Nat} {o:OpD} (d:Nat) (h1:I64 o.kind) (h2:I64 o.code) (h3:I64 o.skip) (k1:I64 o.term.kind) (k2:I64 o.term.n) (k3:o.term.s.size≤140737488351232) (k4:o.term.l=[]):(OpR (d+1)).rd w B o [.int .i64 o.kind,.int .i64 o.term.kind,.int .i64 o.term.n,.string o.term.s,.slice none 0 0,.int .i64 o.code,.int .i64 o.skip]:=by
 obtain ⟨k,⟨tk,n,s,l⟩,c,sk⟩:=o
 simp only at k4
 subst k4
 exact ⟨[.int .i64 tk,.int .i64 n,.string s,.slice none 0 0],rfl,h1,h2,h3,none,0,rfl,yY _,⟨by simp,by omega⟩,k3,k1,k2,fun h=>absurd h (by simp)⟩
theorem Blk.sep {w:World} {b p:Nat} {vs us:Array Value} (h:Blk w b vs) (h2:Blk w p us) (hs:vs.size≠us.size):b≠p:=by
 rintro rfl
 obtain ⟨T,h⟩:=h
 obtain ⟨U,h2⟩:=h2
 rw [h] at h2
 simp only [Option.some.injEq,Obj.cells.injEq] at h2
 exact hs (by rw [h2.1])
theorem aw_ops {w:World} {b:Nat} (h:Blk w b #[.int .i64 1,.int .i64 1,.int .i64 0,.string awX,.slice none 0 0,.int .i64 0,.int .i64 0,.int .i64 1,.int .i64 2,.int .i64 2,.string ⟨#[]⟩,.slice none 0 0,.int .i64 0,.int .i64 0,.int .i64 3,.int .i64 0,.int .i64 0,.string ⟨#[]⟩,.slice none 0 0,.int .i64 1,.int .i64 0]):RL (OpR 2) w w.heap.size awE (some ⟨b,0,none⟩):=by
 have k1:(OpR 2).rd w w.heap.size ⟨1,awV,0,0⟩ _:=pq 1 (by unfold I64;simp) (by unfold I64;simp) (by unfold I64;simp) (by unfold I64;simp [awV]) (by unfold I64;simp [awV]) (by simp [awV,awX];decide) rfl
 have k2:(OpR 2).rd w w.heap.size ⟨1,awT 2,0,0⟩ _:=pq 1 (by unfold I64;simp) (by unfold I64;simp) (by unfold I64;simp) (by unfold I64;simp [awT]) (by unfold I64;simp [awT]) (by simp [awT];decide) rfl
 have k3:(OpR 2).rd w w.heap.size ⟨3,⟨0,0,⟨#[]⟩,[]⟩,1,0⟩ _:=pq 1 (by unfold I64;simp) (by unfold I64;simp) (by unfold I64;simp) (by unfold I64;simp) (by unfold I64;simp) (by simp;decide) rfl
 refine h.rlAll ⟨rfl,fun i hi=>?_⟩ h.lt
 match i,hi with
 | 0,_=>exact k1
 | 1,_=>exact k2
 | 2,_=>exact k3
theorem wD {B:Nat} {w w':World} {p b4 b6 b32 b34:Nat} {Z:Array Value} (hZ:Z.size=5) (hP:Blk w' p Z) (h4:Blk w' b4 #[.int .i64 1,.int .i64 0,.string awX,.slice none 0 0]) (h6:Blk w' b6 #[.string awS,.slice (some ⟨b4,0,none⟩) 1 1]) (h32:Blk w' b32 #[.int .i64 1,.int .i64 1,.int .i64 0,.string awX,.slice none 0 0,.int .i64 0,.int .i64 0,.int .i64 1,.int .i64 2,.int .i64 2,.string ⟨#[]⟩,.slice none 0 0,.int .i64 0,.int .i64 0,.int .i64 3,.int .i64 0,.int .i64 0,.string ⟨#[]⟩,.slice none 0 0,.int .i64 1,.int .i64 0]) (h34:Blk w' b34 #[.slice (some ⟨b32,0,none⟩) 3 3]) (hp:B≤p) (hb:Below B w w') {w4:World} (hw:w4=((((w'.setCell ⟨p,0,none⟩ (.string ⟨#[]⟩)).setCell ⟨p,1,none⟩ (.slice none 0 0)).setCell ⟨p,2,none⟩ (.slice (some ⟨b6,0,none⟩) 1 1)).setCell ⟨p,3,none⟩ (.slice (some ⟨b34,0,none⟩) 1 1)).setCell ⟨p,4,none⟩ (.slice none 0 0)) :
 (RuR 2).rd w4 w4.heap.size awQ [.string ⟨#[]⟩,.slice none 0 0,.slice (some ⟨b6,0,none⟩) 1 1,.slice (some ⟨b34,0,none⟩) 1 1,.slice none 0 0]∧Blk w4 p (((((Z.setIfInBounds 0 (.string ⟨#[]⟩)).setIfInBounds 1 (.slice none 0 0)).setIfInBounds 2 (.slice (some ⟨b6,0,none⟩) 1 1)).setIfInBounds 3 (.slice (some ⟨b34,0,none⟩) 1 1)).setIfInBounds 4 (.slice none 0 0))∧Below B w w4:=by
 have far:∀{b:Nat} {vs:Array Value},Blk w' b vs→vs.size≠5→Blk w4 b vs:=fun {b vs} h hs=>by
  have hne:b≠p:=h.sep hP (by rw [hZ];exact hs)
  rw [hw]
  exact ((((h.far hne 0 _).far hne 1 _).far hne 2 _).far hne 3 _).far hne 4 _
 have k4:=far h4 (by simp)
 have k6:=far h6 (by simp)
 have k32:=far h32 (by simp)
 have k34:=far h34 (by simp)
 refine ⟨?_,?_,?_⟩
 ·exact lit_ru (r:=awQ) (by decide) eY (kW (R:=PrR 2) (c:=1) (k6.rl (R:=PrR 2) (x:=⟨awS,[awV]⟩) (uX (by decide) (kW (R:=TmR 2) (c:=1) (k4.rl (R:=TmR 2) (x:=awV) (uY (by unfold I64;omega) (by unfold I64;omega) (by decide)) k4.lt) (by simp) (by simp [TmR]) (by omega))) k6.lt) (by simp [awQ]) (by simp [awQ,PrR]) (by omega))
   (kW (R:=ExR 2) (c:=1) (k34.rl (R:=ExR 2) (x:=awE) ⟨_,rfl,kW (R:=OpR 2) (c:=3) (xs:=awE) (aw_ops k32) (by simp [awE]) (by simp [awE,OpR]) (by omega)⟩ k34.lt) (by simp [awQ]) (by simp [awQ,ExR]) (by omega)) eY
 ·rw [hw]
  exact ((((hP.set_ 0 _).set_ 1 _).set_ 2 _).set_ 3 _).set_ 4 _
 ·rw [hw]
  exact ((((hb.setCell (p:=⟨p,0,none⟩) hp _).setCell (p:=⟨p,1,none⟩) hp _).setCell (p:=⟨p,2,none⟩) hp _).setCell (p:=⟨p,3,none⟩) hp _).setCell (p:=⟨p,4,none⟩) hp _
theorem pp {w:World} {m:Int} (hm:w.cell? ⟨0,0,none⟩=some (.int .i64 m)) (hp:0<w.heap.size):Calls Tryz.prog 26 #[] w fun z w'=>z=.returned (.bool true)∧Below w.heap.size w w':=by
 have HM:=yW hm
 clear hm
 go_enter Tryz.func26,Tryz.ntmps26
 go_wp2_with fail
 refine jj.mono ?_
 rintro e wa ⟨rfl,hba⟩
 have HBa:=yW hba
 clear hba
 go_wp2_with fail
 generalize hW:World.alloc _ _=wb
 obtain ⟨hbb,hzb⟩:=al1 hW
 have HTb:=yW (n11 hW)
 have HBb:=yW (ab HBa.out hbb)
 clear hW hbb hzb
 refine jj.mono ?_
 rintro e wc ⟨rfl,hbc⟩
 have HBc:=yW (ab HBb.out hbc)
 have HTc:=yW (HTb.out.later hbc)
 clear hbc
 go_wp2_with fail
 generalize hWa:wc.alloc _=wd
 obtain ⟨hbd,hzd⟩:=al1 hWa
 have HUd:=yW (n11 hWa)
 have HTd:=yW (HTc.out.later hbd)
 have HBd:=yW (ab HBc.out hbd)
 clear hWa hbd
 rw [show wc.heap.size+1=wd.heap.size from hzd.symm]
 generalize hWa:wd.alloc _=we
 obtain ⟨hbe,hze⟩:=al1 hWa
 have HGe:=yW (n11 hWa)
 have HTe:=yW (HTd.out.later hbe)
 have HUe:=yW (HUd.out.later hbe)
 have HBe:=yW (ab HBd.out hbe)
 clear hWa hbe hzd hze
 refine (qa (d:=1) (B:=we.heap.size) (l:=[awF 1,awF 2]) (c:=2) (aw_row2 HTe.out HUe.out HGe.out) (yY _) (by simp)).mono ?_
 rintro e w2 ⟨S,M,xs,As,cs,ys,Am,cm,rfl,hT,hx,hy,hb2⟩
 have HT2:=yW hT
 have HX2:=yW hx
 have HB2:=yW (ab HBe.out hb2)
 clear hT hx hy hb2
 clear HTb HTc HTd HTe HUd HUe HGe HBa HBb HBc HBd HBe
 go_upto_region 3 with fail
 generalize hW:World.alloc _ _=w3
 obtain ⟨hb3,hz3⟩:=al1 hW
 have HX3:=yW (n11 hW)
 have HT3:=yW (HT2.out.later hb3)
 have HB3:=yW (ab HB2.out hb3)
 clear hW hb3 hz3
 refine lB 14 (tE w3.heap.size) (by kernel_rfl) (by kernel_rfl) (by kernel_rfl) (by kernel_rfl) (by kernel_rfl) rfl (po _) (ae (ae (ae (ae (ae (ae (ae (ae (ae (ae (ae (ae (ae (ae iK ?op0_) ?op1_) ?op2_) ?op3_) ?op4_) ?op5_) ?op6_) ?op7_) ?op8_) ?op9_) ?op10_) ?op11_) ?op12_) ?op13_) ?last_
 case op0_=>
  refine ⟨_,rfl,fun T w' hk hb hd K hK=>?_⟩
  rw [if_pos (show Region.wanted _ _=true from rfl)]
  have h3:T.getD 3 undef=.pointer (some ⟨w2.heap.size,0,none⟩):=hk.2 3 (by kernel_rfl)
  rw [Array.getD_eq_getD_getElem?] at h3
  have k_x:=(HX3.out.drew.later hb).cell
  have f_x:=(HX3.out.drew.later hb).free
  have l_x:=(HX3.out.drew.later hb).lt
  clear hk hd
  go_simp
  exact hK.out _ _ (za _ _) rfl
 case op1_=>
  refine ⟨_,rfl,fun T w' hk hb hd K hK=>?_⟩
  rw [if_pos (show Region.wanted _ _=true from rfl)]
  have d0:=hd 0 (of_decide_eq_true (by kernel_rfl))
  replace d0:T.getD 23 undef=.agg #[.int .i64 1,.int .i64 0,.string awX,.slice none 0 0]:=d0
  rw [Array.getD_eq_getD_getElem?] at d0
  clear hk hd
  go_simp
  generalize hW:World.alloc _ _=w4
  obtain ⟨hb4,hz4⟩:=al1 hW
  have HN4:=n11 hW
  clear hW
  exact hK.out _ _ hb4 ⟨_,rfl,HN4⟩
 case op2_=>
  refine ⟨_,rfl,fun T w' hk hb hd K hK=>?_⟩
  rw [if_pos (show Region.wanted _ _=true from rfl)]
  have d1:=hd 1 (of_decide_eq_true (by kernel_rfl))
  obtain ⟨b1,e1,r1⟩:=(show Rw1 w' (T.getD 24 undef) from d1)
  clear d1
  rw [Array.getD_eq_getD_getElem?] at e1
  clear hk hd
  go_simp
  exact hK.out _ _ (za _ _) ⟨_,rfl,_,rfl,r1⟩
 case op3_=>
  refine ⟨_,rfl,fun T w' hk hb hd K hK=>?_⟩
  rw [if_pos (show Region.wanted _ _=true from rfl)]
  have d2:=hd 2 (of_decide_eq_true (by kernel_rfl))
  obtain ⟨u,e2,r2⟩:=(show ∃u,T.getD 25 undef=.agg #[.string awS,u]∧Rw1 w' u from d2)
  clear d2
  rw [Array.getD_eq_getD_getElem?] at e2
  clear hk hd
  go_simp
  generalize hW:World.alloc _ _=w4
  obtain ⟨hb4,hz4⟩:=al1 hW
  have HN4:=n11 hW
  clear hW
  exact hK.out _ _ hb4 ⟨_,u,rfl,HN4,r2.later hb4⟩
 case op4_=>
  refine ⟨_,rfl,fun T w' hk hb hd K hK=>?_⟩
  rw [if_pos (show Region.wanted _ _=true from rfl)]
  have h3:T.getD 3 undef=.pointer (some ⟨w2.heap.size,0,none⟩):=hk.2 3 (by kernel_rfl)
  rw [Array.getD_eq_getD_getElem?] at h3
  have k_x:=(HX3.out.drew.later hb).cell
  have f_x:=(HX3.out.drew.later hb).free
  have l_x:=(HX3.out.drew.later hb).lt
  clear hk hd
  go_simp
  exact hK.out _ _ (za _ _) rfl
 case op5_=>
  refine ⟨_,rfl,fun T w' hk hb hd K hK=>?_⟩
  rw [if_pos (show Region.wanted _ _=true from rfl)]
  have d4:=hd 4 (of_decide_eq_true (by kernel_rfl))
  replace d4:T.getD 27 undef=.agg #[.int .i64 1,.int .i64 0,.string awX,.slice none 0 0]:=d4
  rw [Array.getD_eq_getD_getElem?] at d4
  clear hk hd
  go_simp
  exact hK.out _ _ (za _ _) rfl
 case op6_=>
  refine ⟨_,rfl,fun T w' hk hb hd K hK=>?_⟩
  rw [if_pos (show Region.wanted _ _=true from rfl)]
  clear hk hd
  go_simp
  refine jj.mono ?_
  rintro e w4 ⟨rfl,hb4⟩
  exact hK.out _ _ hb4 rfl
 case op7_=>
  refine ⟨_,rfl,fun T w' hk hb hd K hK=>?_⟩
  rw [if_pos (show Region.wanted _ _=true from rfl)]
  have d6:=hd 6 (of_decide_eq_true (by kernel_rfl))
  replace d6:T.getD 29 undef=.agg #[.int .i64 2,.int .i64 2,.string ⟨#[]⟩,.slice none 0 0]:=d6
  rw [Array.getD_eq_getD_getElem?] at d6
  clear hk hd
  go_simp
  exact hK.out _ _ (za _ _) rfl
 case op8_=>
  refine ⟨_,rfl,fun T w' hk hb hd K hK=>?_⟩
  rw [if_pos (show Region.wanted _ _=true from rfl)]
  clear hk hd
  go_simp
  exact hK.out _ _ (za _ _) rfl
 case op9_=>
  refine ⟨_,rfl,fun T w' hk hb hd K hK=>?_⟩
  rw [if_pos (show Region.wanted _ _=true from rfl)]
  have d5:=hd 5 (of_decide_eq_true (by kernel_rfl))
  replace d5:T.getD 28 undef=.agg #[.int .i64 1,.int .i64 1,.int .i64 0,.string awX,.slice none 0 0,.int .i64 0,.int .i64 0]:=d5
  rw [Array.getD_eq_getD_getElem?] at d5
  have d7:=hd 7 (of_decide_eq_true (by kernel_rfl))
  replace d7:T.getD 30 undef=.agg #[.int .i64 1,.int .i64 2,.int .i64 2,.string ⟨#[]⟩,.slice none 0 0,.int .i64 0,.int .i64 0]:=d7
  rw [Array.getD_eq_getD_getElem?] at d7
  have d8:=hd 8 (of_decide_eq_true (by kernel_rfl))
  replace d8:T.getD 31 undef=.agg #[.int .i64 3,.int .i64 0,.int .i64 0,.string ⟨#[]⟩,.slice none 0 0,.int .i64 1,.int .i64 0]:=d8
  rw [Array.getD_eq_getD_getElem?] at d8
  clear hk hd
  go_simp
  generalize hW:World.alloc _ _=w4
  obtain ⟨hb4,hz4⟩:=al1 hW
  have HN4:=n11 hW
  clear hW
  exact hK.out _ _ hb4 ⟨_,rfl,HN4⟩
 case op10_=>
  refine ⟨_,rfl,fun T w' hk hb hd K hK=>?_⟩
  rw [if_pos (show Region.wanted _ _=true from rfl)]
  have d9:=hd 9 (of_decide_eq_true (by kernel_rfl))
  obtain ⟨b1,e1,r1⟩:=(show Rw3 w' (T.getD 32 undef) from d9)
  clear d9
  rw [Array.getD_eq_getD_getElem?] at e1
  clear hk hd
  go_simp
  exact hK.out _ _ (za _ _) ⟨_,rfl,_,rfl,r1⟩
 case op11_=>
  refine ⟨_,rfl,fun T w' hk hb hd K hK=>?_⟩
  rw [if_pos (show Region.wanted _ _=true from rfl)]
  have d10:=hd 10 (of_decide_eq_true (by kernel_rfl))
  obtain ⟨u,e10,r10⟩:=(show ∃u,T.getD 33 undef=.agg #[u]∧Rw3 w' u from d10)
  clear d10
  rw [Array.getD_eq_getD_getElem?] at e10
  clear hk hd
  go_simp
  generalize hW:World.alloc _ _=w4
  obtain ⟨hb4,hz4⟩:=al1 hW
  have HN4:=n11 hW
  clear hW
  exact hK.out _ _ hb4 ⟨_,u,rfl,HN4,r10.later hb4⟩
 case op12_=>
  refine ⟨_,rfl,fun T w' hk hb hd K hK=>?_⟩
  rw [if_pos (show Region.wanted _ _=true from rfl)]
  have d3:=hd 3 (of_decide_eq_true (by kernel_rfl))
  obtain ⟨b1,u1,e1,r1,r2⟩:=(show Rw2 w' (T.getD 26 undef) from d3)
  clear d3
  rw [Array.getD_eq_getD_getElem?] at e1
  have d11:=hd 11 (of_decide_eq_true (by kernel_rfl))
  obtain ⟨b3,u3,e3,r3,r4⟩:=(show Rw4 w' (T.getD 34 undef) from d11)
  clear d11
  rw [Array.getD_eq_getD_getElem?] at e3
  clear hk hd
  go_simp
  exact hK.out _ _ (za _ _) ⟨_,_,rfl,⟨_,_,rfl,r1,r2⟩,_,_,rfl,r3,r4⟩
 case op13_=>
  refine ⟨_,rfl,fun T w' hk hb hd K hK=>?_⟩
  rw [if_pos (show Region.wanted _ _=true from rfl)]
  clear hk hd
  go_simp
  generalize hW:World.alloc _ _=w4
  obtain ⟨hb4,hz4⟩:=al1 hW
  have HN4:=n11 hW
  clear hW
  exact hK.out _ _ hb4 ⟨_,rfl,hb.size,HN4⟩
 case last_=>
  refine ⟨_,rfl,fun T w' hk hb hd K hK=>?_⟩
  rw [if_pos (show Region.wanted _ _=true from rfl)]
  have d12:=hd 12 (by omega)
  have d13:=hd 13 (by omega)
  obtain ⟨u1,u2,e12,r2,r4⟩:=(show ∃u1 u2,T.getD 35 undef=.agg #[.string ⟨#[]⟩,.slice none 0 0,u1,u2,.slice none 0 0]∧Rw2 w' u1∧Rw4 w' u2 from d12)
  obtain ⟨p,e13,hp3,hP⟩:=(show ∃p,T.getD 4 undef=.pointer (some ⟨p,0,none⟩)∧w3.heap.size≤p∧Blk w' p #[.string ⟨#[]⟩,.slice none 0 0,.slice none 0 0,.slice none 0 0,.slice none 0 0] from d13)
  have h1:T.getD 1 undef=.pointer (some ⟨S,0,none⟩):=hk.2 1 (by kernel_rfl)
  have hT:=kg hk.1
  clear d12 d13 hk hd
  obtain ⟨f,hf⟩:∃f:Nat→Value,(fun t=>T.getD t undef)=f:=⟨_,rfl⟩
  rw [hf] at hT
  have e12:f 35=_:=(congrFun hf 35).symm.trans e12
  have e13:f 4=_:=(congrFun hf 4).symm.trans e13
  have h1:f 1=_:=(congrFun hf 1).symm.trans h1
  replace hT:T=#[f 0,f 1,f 2,f 3,f 4,f 5,f 6,f 7,f 8,f 9,f 10,f 11,f 12,f 13,f 14,f 15,f 16,f 17,f 18,f 19,f 20,f 21,f 22,f 23,f 24,f 25,f 26,f 27,f 28,f 29,f 30,f 31,f 32,f 33,f 34,f 35,f 36,f 37,f 38,f 39,f 40,f 41,f 42,f 43,f 44,f 45,f 46,f 47,f 48,f 49,f 50,f 51,f 52,f 53,f 54,f 55,f 56,f 57,f 58,f 59,f 60]:=hT
  clear hf
  subst hT
  obtain ⟨b6,ua,rfl,hb6,b4,rfl,hb4⟩:=r2
  obtain ⟨b34,uc,rfl,hb34,b32,rfl,hb32⟩:=r4
  have k_p:=hP.cell
  have f_p:=hP.free
  have l_p:=hP.lt
  go_simp
  have hS:=wD rfl hP hb4 hb6 hb32 hb34 hp3 hb rfl
  clear hP hb4 hb6 hb32 hb34 hb l_p f_p k_p
  generalize World.setCell (World.setCell (World.setCell (World.setCell (World.setCell w' _ _) _ _) _ _) _ _) _ _=w4 at hS ⊢
  obtain ⟨hR,hP,hb⟩:=hS
  replace hb:=((za w3.heap.size w3).drew).trans hb
  have HR:=yW hR
  have HB4:=yW (ab HB3.out hb)
  have HT4:=yW (HT3.out.later hb)
  have k_p:=hP.cell
  have f_p:=hP.free
  have l_p:=hP.lt
  clear hR hP hb
  have HFW:Hid (xs.length≤100000):=yW (by
   have h:=congrArg List.length HX2.out
   rw [tH,List.length_map] at h
   simp at h
   omega)
  refine hK.out _ _ ?_
  clear hK
  go_wp2_with fail
  have hq:=iN (d:=1) (B:=w4.heap.size) (r:=awQ) (vr:=[_,_,_,_,_]) (tr:=1) HR.out (yY _) HT4.out.s HFW.out ((HB4.out.cell (p:=⟨0,0,none⟩) hp).trans HM.out) (zb hp HB4.out.size)
  rw [HX2.out,tG] at hq
  refine hq.mono ?_
  rintro e w5 ⟨rfl,hb5⟩
  have HB5:=yW (ab HB4.out hb5)
  have HT5:=yW (HT4.out.later hb5)
  have HR5:=yW ((RuR 2).keep hb5 (yY _) HR.out)
  have hsz5:=hb5.size
  have HP5:Hid (∀o,w5.cell? ⟨p,o,none⟩=w4.cell? ⟨p,o,none⟩):=yW (fun o=>hb5.cell l_p)
  have k_5:=fun o=>(HP5.out o).trans (k_p o)
  clear hb5 k_p f_p hq
  go_wp2_with fail
  have hq:=nV (d:=1) (B:=w4.heap.size) (r:=awQ) (vr:=[_,_,_,_,_]) (tr:=1) HR5.out hsz5 HT5.out.s HFW.out ((HB5.out.cell (p:=⟨0,0,none⟩) hp).trans HM.out) (zb hp HB5.out.size)
  rw [HX2.out,tF] at hq
  refine hq.mono ?_
  rintro e w6 ⟨rfl,hb6⟩
  have HB6:=yW (ab HB5.out hb6)
  clear hb6 hq
  go_wp2_with fail
  go_ret
  exact ⟨rfl,HB6.out⟩
theorem tU:Tryz.prog.cellsOf 31=1:=by kernel_rfl
theorem mb:Tryz.prog.cellsOf 33=3:=by kernel_rfl
theorem u32_wf {n:Int} (hwf:(Lit.int .u32 n).wf=true):U32 n:=by
 simp only [Lit.wf] at hwf
 unfold U32
 revert hwf
 have e1:IntKind.u32.signed=false:=rfl
 have e2:IntKind.u32.bits=32:=rfl
 simp [IntKind.min,IntKind.max,e1,e2]
 omega
section
variable {H:Type} {enc:TypeId × Value→H} {w:World} {base:Nat} {held:Bool}
theorem qX {n D:Nat} {cs:List Value} {x:DataW H × List MemPlace} (h:DataW.trod enc Tryz.prog w base (fun _=>true) held n 33 cs=some x) (ho:Ok Tryz.prog 33 x.1) (hD:n≤D):∃f,(ax D).rd w w.heap.size f cs:=by
 obtain ⟨hc,n',hn,hf⟩:=cu (Tryz.underlying33) h ho
 have hcl:=hc.trans mb
 match cs,hcl with
 | [c0,c1,c2],_=>
   obtain ⟨_,h0,o0⟩:=hf 0 _ _ _ _ rfl rfl rfl gr
   obtain ⟨_,h1,_⟩:=hf 1 _ _ _ _ rfl rfl rfl tU
   obtain ⟨p,hp⟩:=ln (D:=D) h0 o0 (by omega)
   obtain ⟨m,e1,_,hwf⟩:=DataW.trod_int (Tryz.underlying31) h1
   replace hp:(PrR D).rd w w.heap.size p [c0,c1]:=hp
   replace e1:[c2]=_:=e1
   have hp':=hp
   obtain ⟨v0,e0,gs,g0⟩:=hp
   simp only [List.cons.injEq,and_true] at e0 e1
   obtain ⟨rfl,rfl⟩:=e0
   subst e1
   exact ⟨⟨p,m⟩,_,rfl,hp',u32_wf hwf⟩
theorem uq {n D:Nat} {cs:List Value} {x:DataW H × List MemPlace} (h:DataW.trod enc Tryz.prog w base (fun _=>true) held n 22 cs=some x) (ho:Ok Tryz.prog 22 x.1) (hD:n≤D):∃(ts:List Fc) (A:Option Addr) (c:Nat),cs=[.slice A ts.length c]∧ts.length*48≤140737488351232∧RL (ax D) w w.heap.size ts A:=by
 obtain ⟨xs,A,c,e,h1,h2,h3⟩:=lg (ax D) (D:=D) (B:=48) (Tryz.underlying22) mb (by simp [ax]) (by kernel_rfl) h ho (by omega) (fun m hm cs x hx ho=>qX hx ho hm)
 exact ⟨xs,A,c,e,by omega,h3⟩
end
theorem own:ownKnob Tryz.prog.godebug=none:=by kernel_rfl
theorem pV:laidOutB Tryz.prog=true:=by kernel_rfl
theorem yN {H:Type} {P:Program} {ts:List TypeId} {ds:List (DataW H)} (h:(DataW.weightsEach P ts ds).all (·≤reachBytes)=true) {j:Nat} {t:TypeId} {d:DataW H} (ht:ts[j]? = some t) (hd:ds[j]? = some d):Ok P t d:=fun n hn=>by
 have:=List.all_eq_true.1 h n (DataW.weights_mem_each ht hd n hn)
 simpa using this
theorem lF (os:Os) (started:os.Started) (H:Type) (enc:TypeId × Value→H) :
 ReturnsInHanded {} Tryz.checked os 6 .any (Rows.askMoreSpec.pre6 enc Tryz.prog Tryz.f6 Rows.askMoreRow.domain false) (Rows.askMoreSpec.post enc Tryz.prog Tryz.f6 false true false false):=by
 refine returnsInHanded_of_change_shaped (C:=Tryz.checked) own started (by kernel_rfl) Tryz.func6
  (ChangeSpec.witness6 (enc:=enc) (C:=Tryz.checked) false ⟨#[],#[.slice none 0 0,.agg #[.string ⟨#[]⟩,.slice none 0 0,.slice none 0 0,.slice none 0 0,.slice none 0 0],.agg #[.string ⟨#[]⟩,.slice none 0 0,.int .u32 0]],[]⟩ 8 (by kernel_rfl) (by kernel_rfl) (by kernel_rfl) (by kernel_rfl)) ?_
 intro W base args ds gs before hval0 hW _ hsz0 hsh _
 have hsz:(DataW.weightsEach Tryz.prog (Tryz.f6.params.toList++Rows.askMoreSpec.plain.varTypes Tryz.prog) (ds++gs)).all (·≤reachBytes)=true:=hsz0
 clear hsz0
 have hval:∀(j:Nat) t v,Tryz.f6.params[j]? = some t→args[j]? = some v→Value.okWide Tryz.prog W .any base t v:=hval0
 have hW':=hW
 obtain ⟨p,q,hA0,hV,rfl,hfz,hnd⟩:=hW
 have hA:DataW.TrodAll enc Tryz.prog W 0 (fun _=>true) true Tryz.f6.params.toList args.toList ds p:=hA0
 rw [Tryz.params6] at hA hval hsz
 obtain ⟨v0,v1,v2,d0,d1,d2,p0,p1,p2,rfl,rfl,rfl,h0,h1,h2⟩:=trodAll_three hA
 obtain ⟨rfl,rfl⟩:=trodVars_none hV
 obtain ⟨A0,l0,c0,rfl⟩:=okWide_slice Tryz.underlying22 (hval 0 22 v0 rfl rfl)
 obtain ⟨cs1,rfl,_⟩:=okWide_struct Tryz.underlying30 (hval 1 30 v1 rfl rfl)
 obtain ⟨cs2,rfl,_⟩:=okWide_struct Tryz.underlying33 (hval 2 33 v2 rfl rfl)
 have k0:=h0
 have lt0:∀x∈(p0:List MemPlace),x.block<W.heap.size:=by obtain ⟨m,hm⟩:=k0;exact DataW.trod_lt m _ _ _ hm
 have k1:=h1
 have lt1:∀x∈(p1:List MemPlace),x.block<W.heap.size:=by obtain ⟨m,hm⟩:=k1;exact DataW.trod_lt m _ _ _ hm
 have k2:=h2
 have lt2:∀x∈(p2:List MemPlace),x.block<W.heap.size:=by obtain ⟨m,hm⟩:=k2;exact DataW.trod_lt m _ _ _ hm
 obtain ⟨n0,t0⟩:=h0
 obtain ⟨n1,t1⟩:=h1
 obtain ⟨n2,t2⟩:=h2
 obtain ⟨D,hD⟩:∃D,n0≤D+1∧n1≤D+1∧n2≤D+1:=⟨(max (max n0 n1) n2),by omega⟩
 obtain ⟨xs0,Ax0,cx0,ee0,hb0,hr0⟩:=uq (D:=D+1) t0 (yN hsz (j:=0) rfl rfl) (by omega)
 have ee0':(Value.slice A0 l0 c0).cells.toList=[.slice A0 l0 c0]:=rfl
 rw [ee0'] at ee0
 simp only [List.cons.injEq,Value.slice.injEq,and_true] at ee0
 obtain ⟨rfl,rfl,rfl⟩:=ee0
 obtain ⟨r1,hr1⟩:=vG (D:=D+1) t1 (yN hsz (j:=1) rfl rfl) (by omega)
 obtain ⟨r2,hr2⟩:=qX (D:=D+1) t2 (yN hsz (j:=2) rfl rfl) (by omega)
 obtain ⟨m0,hm0⟩:=cell_of_shapedOpen_int (g:=0) (t:=3) (zero:=#[.int .i64 0]) hsh (of_decide_eq_true (by kernel_rfl)) (by kernel_rfl) rfl (by kernel_rfl) (by kernel_rfl) Tryz.underlying3
 have h00:0<W.heap.size:=block_lt_of_cell hm0
 clear hA0 hval0
 obtain ⟨cs1⟩:=cs1
 obtain ⟨cs2⟩:=cs2
 refine (rG (fun w1 hb1=>pp ((hb1.cell (p:=⟨0,0,none⟩) h00).trans hm0) (zb h00 hb1.size)) hr0 (by omega) hr1 hr2 (yY _) hm0 h00).mono fun e W' ⟨he,bel⟩=>?_
 subst he
 exact ⟨_,rfl,_,_,_,[],_,[],hW',trodAll_mk1 (shut_bool Tryz.underlying4 _),trodAll_mk3 (Below.trod pV (by kernel_rfl) (of_decide_eq_true (by kernel_rfl)) k0 bel lt0) (Below.trod pV (by kernel_rfl) (of_decide_eq_true (by kernel_rfl)) k1 bel lt1) (Below.trod pV (by kernel_rfl) (of_decide_eq_true (by kernel_rfl)) k2 bel lt2),rfl,bel.frame _,fun h=>by cases h⟩
theorem jf_a:(Rows.askMoreRow.inPlace==Tryz.prog.inPlace 6)=true:=by kernel_rfl
theorem jf_b:(Rows.askMoreRow.unfollowed==Tryz.prog.unfollowed 6)=true:=by kernel_rfl
theorem jf_c:(Rows.askMoreRow.recurses==Tryz.prog.recurses 6)=true:=by kernel_rfl
theorem jf_d:(Rows.askMoreRow.named==Tryz.prog.varsNamed 6)=true:=by kernel_rfl
theorem jf_all:joinedFacts Tryz.prog 6 Tryz.f6 Rows.askMoreSpec Rows.askMoreRow=true:=by
 unfold joinedFacts
 rw [jf_a,jf_b,jf_c,jf_d]
 kernel_rfl
theorem nA:Rows.askMoreRow.holds Tryz.pinned (OpenSpec.ofChange Rows.askMoreSpec):=
 OpenClaim.holds_of_wide 6 Tryz.f6 rfl rfl rfl rfl rfl rfl rfl ⟨rfl,rfl,rfl,rfl,rfl⟩ rfl rfl rfl rfl rfl (by kernel_rfl) Tryz.func6 jf_all
  (of_decide_eq_true (by kernel_rfl)) (by unfold Func.isWrapper;first | (rw [if_pos (by decide +kernel)];kernel_rfl) | (rw [if_neg (by decide +kernel)];exact ⟨rfl,rfl⟩))
  (fun os started H enc _=>lF os started H enc)
theorem askMore_holds:Rows.AskMoreSaid:=nA
end Go.Proofs.YtdphibjibnffeaaGreat
