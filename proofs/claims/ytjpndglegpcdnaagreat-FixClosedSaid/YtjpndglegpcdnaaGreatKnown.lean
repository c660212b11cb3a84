/- rule.known. -/
import Derived.Test.YtjpndglegpcdnaaGreatJoIns
import Derived.Test.YtjpndglegpcdnaaGreatFc3
import Derived.Test.YtjpndglegpcdnaaGreatFc4
import Derived.Test.YtjpndglegpcdnaaGreatRead2
import Derived.Test.YtjpndglegpcdnaaGreatOp1
set_option linter.unusedVariables false
set_option linter.unusedSimpArgs false
set_option maxRecDepth 100000
set_option maxHeartbeats 8000000
namespace Go.Proofs.YtjpndglegpcdnaaGreat
open Go.ChangeShapes Go.WideShapes Go.ChangeAt Go.RowKit
theorem tG {base B g c i G n:Nat} {w:World} {xs:List FV} {y:FV} {ys cur:Array Value} {T:TypeId} (hn:xs.length=n) (hbg:base≤g) (hh:w.heap[g]? = some (.cells cur 33 (0,0))) (hroom:n+1≤c) (hc:c≤9223372036854775807) (hs:cur.size=c*3)
 (hf:bu FvR w B xs (cur.toList.take (n*3))) (hy:(FvR).rd w B y ys.toList) (hG:bS w G ys T) (hne:G≠g) (hi:i<n) (hB:B≤base) :
 Calls Tryz.prog 48 #[.slice (some ⟨g,0,none⟩) n c,.int .i64 i,.slice (some ⟨G,0,none⟩) 1 1] w fun z w'=>z=.returned (.slice (some ⟨g,0,none⟩) (n+1) c)∧aq FvR 33 w' base B (.slice (some ⟨g,0,none⟩) (n+1) c) (cM xs i y)∧w.grownBy w' (some g):=by
 have hyl:ys.size=3:=by have h:ys.toList.length=3:=(FvR).len hy;simpa using h
 have hsz:(Tryz.prog.info? 33).map (·.size)=some 3:=by
  obtain ⟨i0,hi0,h0,h1,h2⟩:=info_parts fh
  rw [hi0];simp [h1]
 have hgs:w.shape? g=some (33,cur.size):=by simp [World.shape?,hh]
 have hGs:w.shape? G=some (T,ys.size):=by simp [World.shape?,show w.heap[G]? = some (.cells ys T (0,0)) from hG]
 have hGf:∀o,w.frozen? ⟨G,o,none⟩=false:=fun o=>Blk.free (show Blk w G ys from ⟨T,hG⟩) o
 have hov:∀off lb cb,(callFunc 69 #[.slice (some ⟨G,0,none⟩) 1 1,.slice (some ⟨g,off,none⟩) lb cb]).run Tryz.prog w=.ok (.value (.bool false)) w:=fun off lb cb=>by
  rw [run_callFunc_extern Tryz.func69 (by kernel_rfl) (by kernel_rfl) (by kernel_rfl) (e:=Extern.SlicesOverlaps.overlaps #[23,23] #[4]) (by kernel_rfl),
   Lib.run_overlaps_apart w 23 4 33 Tryz.underlying23 3 (by intro w;kernel_rfl) ⟨G,0,none⟩ ⟨g,off,none⟩ 1 1 lb cb hne T 33 ys.size cur.size hGs hgs (by rw [hs];omega) (hGf 0) (hGf _)]
  rfl
 have hcl:((cur.toList.drop (i*3)).take ((n-i)*3)).length=(n-i)*3:=by rw [AW,List.length_drop,AQ,hs];omega
 obtain ⟨row1,hrow1⟩:∃r:Array Value,r=(splice cur.toList ((i+1)*3) ((cur.toList.drop (i*3)).take ((n-i)*3))).toArray:=⟨_,rfl⟩
 have hone:∀v∈cur.toList.take (n*3),v.oneCell'=true:=hf.single bC
 have hcp1:∀ty dc sc,(Builtin.copy_ #[23,23] ty #[.slice (some ⟨g,(i+1)*3,none⟩) (n-i) dc,.slice (some ⟨g,i*3,none⟩) (n+1-i) sc]).run Tryz.prog w.drew=.ok (goInt ((n-i:Nat):Int)) (w.drew.setRow g row1):=fun ty dc sc=>by
  have h:=aN (P:=Tryz.prog) w.drew 23 23 ty 33 3 g ((i+1)*3) (n+1-(i+1)) dc ⟨g,i*3,none⟩ (n+1-i) sc cur 33 ((cur.toList.drop (i*3)).take ((n-i)*3)) Tryz.underlying23 hsz hh
   (by rw [hcl,nj hi]) (fun j v hj=>by
    rw [Addr.add_lit]
    refine (cell_of_row w g _ cur 33 (0,0) hh).trans ?_
    rw [List.getElem?_take] at hj
    split at hj
    ·rw [List.getElem?_drop] at hj;simpa using hj
    ·cases hj) (by rw [hcl,hs];omega) (fun v hv=>hone v (by
     have e:cur.toList.take (n*3)=cur.toList.take (i*3)++(cur.toList.drop (i*3)).take ((n-i)*3):=by
      rw [←List.take_add];congr 1;omega
     rw [e];exact List.mem_append_right _ hv))
  rw [nj hi,←hrow1,show n+1-(i+1)=n-i by omega] at h
  exact h
 have hr1:row1.size=cur.size:=by rw [hrow1,List.size_toArray,length_splice _ _ _ (by rw [hcl,AQ,hs];omega),AQ]
 have hcp2:∀(W:World),W.heap=(w.setRow g row1).heap→∀ty dc,(Builtin.copy_ #[23,23] ty #[.slice (some ⟨g,i*3,none⟩) (n+1-i) dc,.slice (some ⟨G,0,none⟩) 1 1]).run Tryz.prog W=.ok (goInt 1) (W.setRow g (splice row1.toList (i*3) ys.toList).toArray):=fun W hW ty dc=>by
  have hWg:W.heap[g]? = some (.cells row1 33 (0,0)):=by rw [hW];exact setRow_heap w g cur row1 33 (0,0) hh
  have hWG:W.heap[G]? = some (.cells ys T (0,0)):=by rw [hW,setRow_other w g G row1 hne];exact hG
  have h1:Nat.min 1 (n+1-i)=1:=by simp only [Nat.min_def];split<;>omega
  have h:=aN (P:=Tryz.prog) W 23 23 ty 33 3 g (i*3) (n+1-i) dc ⟨G,0,none⟩ 1 1 row1 33 ys.toList Tryz.underlying23 hsz hWg
   (by rw [h1,AQ,hyl]) (fun j v hj=>by
    rw [Addr.add_lit]
    refine (cell_of_row W G _ ys T (0,0) hWG).trans ?_
    simpa using hj) (by rw [AQ,hyl,hr1,hs];omega) (bu.single bC (bu.one hy))
  rw [h1] at h
  exact h
 have hw1:IntKind.i64.wrap ((i:Int)+1)=(i:Int)+1:=by rw [IntKind.wrap_i64];omega
 have hw2:IntKind.i64.wrap ((n:Int)+1)=(n:Int)+1:=by rw [IntKind.wrap_i64];omega
 have hz2:¬((i:Int)=(n:Int)):=by omega
 have hz3:¬((c:Int)<(n:Int)+1):=by omega
 have hb1:(0:Int)≤(i:Int)+1:=by omega
 have hin:i≤n:=by omega
 have htn:((i:Int)+1).toNat=i+1:=by omega
 have hb2:¬(c=i+1):=by omega
 have hb3:(i:Int)≤(n:Int)+1:=by omega
 have hb4:¬(c=i):=by omega
 have mixed:Tryz.prog.follows .mixedOrders=true:=by kernel_rfl
 have HF:=AE hf
 have HROW:=AE hrow1
 have hrow:(splice row1.toList (i*3) ys.toList).take ((n+1)*3)=(cur.toList.take (n*3)).take (i*3)++ys.toList++(cur.toList.take (n*3)).drop (i*3):=by
  have e:=gi (cur:=cur.toList) (ys:=ys.toList) (a:=i*3) (b:=(n-i)*3) (k:=3) (by rw [AQ,hyl]) (by rw [AQ,hs];omega)
  rw [show i*3+3+(n-i)*3=(n+1)*3 by omega,show i*3+3=(i+1)*3 by omega] at e
  rw [hrow1,e,List.take_take,Nat.min_eq_left (by omega),List.drop_take,show n*3-i*3=(n-i)*3 by omega]
 have hsz2:(splice row1.toList (i*3) ys.toList).length=c*3:=by rw [length_splice _ _ _ (by rw [AQ,AQ,hyl,hr1,hs];omega),AQ,hr1,hs]
 have HEND:Hid (aq FvR 33 ((w.drew.setRow g row1).setRow g (splice row1.toList (i*3) ys.toList).toArray) base B (.slice (some ⟨g,0,none⟩) (n+1) c) (cM xs i y)∧w.grownBy ((w.drew.setRow g row1).setRow g (splice row1.toList (i*3) ys.toList).toArray) (some g)):=AE (by
  have hgr:w.grownBy ((w.drew.setRow g row1).setRow g (splice row1.toList (i*3) ys.toList).toArray) (some g):=⟨rfl,rfl,rfl,by simp [World.setRow],fun k hk hne=>(setRow_other (w.drew.setRow g row1) g k _ (fun e=>hne (by rw [e]))).trans (setRow_other w.drew g k row1 (fun e=>hne (by rw [e])))⟩
  refine ⟨?_,hgr⟩
  subst hn
  exact aq.laid (R:=FvR) (cells:=cur.toList.take (xs.length*3)) (ys:=ys.toList) hbg (setRow_heap (w.drew.setRow g row1) g row1 _ 33 (0,0) (setRow_heap w.drew g cur row1 33 (0,0) hh)) hroom hc (by rw [List.size_toArray];exact hsz2) hf hy (Nat.le_of_lt hi) hrow ((AI B w).grown hgr (AF hB (AF hbg (Nat.le_of_lt (Array.getElem?_eq_some_iff.1 hh).1))) (fun k hk=>by simp only [AP] at hk;omega)))
 clear hrow1 hrow hsz2
 have HONE:=AE hone
 clear hf hone hcl hgs hGs hGf
 go_enter Tryz.func48,Tryz.ntmps48
 go_wp2_with (simp only [hov])
 go_region_law_o (refine dq rfl _ _ 23 23 rfl _ _ (by simp [Act.eval,Act.put]) (by simp [Act.eval,Act.put]) (hcp1 _ _ _) ?_)
 go_wp2_with (refine cd _ rfl _ _ 23 23 rfl _ _ rfl rfl (hcp2 _ (by rfl) _ _) ?_)
 go_ret
 exact ⟨rfl,HEND.out⟩
theorem tF {base B g c i G n:Nat} {w:World} {xs:List FV} {y:FV} {ys cur:Array Value} {T:TypeId} (hn:xs.length=n) (hbg:base≤g) (hh:w.heap[g]? = some (.cells cur 33 (0,0))) (hnc:n≤c) (hroom:c<n+1) (hbig:(n+1)*48≤140737488355328) (hs:cur.size=c*3)
 (hf:bu FvR w B xs (cur.toList.take (n*3))) (hy:(FvR).rd w B y ys.toList) (hG:bS w G ys T) (hi:i<n) (hB:B≤base) :
 Calls Tryz.prog 48 #[.slice (some ⟨g,0,none⟩) n c,.int .i64 i,.slice (some ⟨G,0,none⟩) 1 1] w fun z w'=>∃c',z=.returned (.slice (some ⟨w.heap.size,0,none⟩) (n+1) c')∧aq FvR 33 w' base B (.slice (some ⟨w.heap.size,0,none⟩) (n+1) c') (cM xs i y)∧w.grownBy w' (some g):=by
 obtain ⟨i0,hi0,hz0,hzs,hzb⟩:=info_parts fh
 have hyl:ys.size=3:=by have h:ys.toList.length=3:=(FvR).len hy;simpa using h
 have hsz:(Tryz.prog.info? 33).map (·.size)=some 3:=by rw [hi0];simp [hzs]
 have hgl:g<w.heap.size:=(Array.getElem?_eq_some_iff.1 hh).1
 have hGl:G<w.heap.size:=(Array.getElem?_eq_some_iff.1 hG).1
 have hkk:(n:Int)+1-(i:Int)=((n+1-i:Nat):Int):=by omega
 have hik:i+(n+1-i)=n+1:=by omega
 obtain ⟨cells,hcells⟩:∃cells,cells=cur.toList.take (n*3):=⟨_,rfl⟩
 rw [←hcells] at hf
 have hcl:cells.length=n*3:=by rw [hcells,AW,AQ,hs];omega
 have hcs:∀j v,cells[j]? = some v→w.cell? ⟨g,j,none⟩=some v:=fun j v hj=>by
  rw [hcells,List.getElem?_take] at hj
  split at hj
  ·exact (cell_of_row w g _ cur 33 (0,0) hh).trans (by simpa using hj)
  ·cases hj
 have hold:(Builtin.firstCells i0.size i (.slice (some ⟨g,0,none⟩) i c)).run Tryz.prog w.drew=.ok (cells.take (i*3)).toArray w.drew:=by
  rw [hzs]
  exact run_firstCells_some w.drew 3 i ⟨g,0,none⟩ i c (cells.take (i*3)) (by rw [AW,hcl];omega) (fun j v hj=>by
   rw [Addr.add_lit]
   rw [List.getElem?_take] at hj
   split at hj
   ·simpa using hcs j v hj
   ·cases hj)
 have hrz:∀ty,(Builtin.append_ #[23,3] ty #[.slice (some ⟨g,0,none⟩) i c,.int .i64 ((n:Int)+1-(i:Int))]).run Tryz.prog w =
  .ok (.slice (some ⟨w.heap.size,0,none⟩) (n+1) (grownCap w (n+1) c 33)) (w.drew.alloc (.cells ((cells.take (i*3)).toArray++Builtin.zeroCells (Value.agg #[.string ⟨#[]⟩,.slice none 0 0,.int .u32 0]).cells (n+1-i)++Builtin.zeroCells (Value.agg #[.string ⟨#[]⟩,.slice none 0 0,.int .u32 0]).cells (grownCap w (n+1) c 33-(n+1))) 33)):=fun ty=>by
  have h:=Lib.run_append_grow_zeros w 23 3 ty 33 i0 _ .i64 .i64 Tryz.underlying23 Tryz.underlying3 hi0 hz0 (some ⟨g,0,none⟩) i c (cells.take (i*3)) hold (n+1-i) (by omega) (by omega) (by omega) (by omega) (by rw [hzb];omega) (by rw [hzb,hik];exact growslice_fits hroom hbig)
  rw [hik] at h
  rw [hkk]
  exact h
 obtain ⟨Gc,hGc⟩:∃Gc,Gc=grownCap w (n+1) c 33:=⟨_,rfl⟩
 obtain ⟨Z,hZ⟩:∃Z,Z=(Builtin.zeroCells (Value.agg #[.string ⟨#[]⟩,.slice none 0 0,.int .u32 0]).cells (n+1-i)).toList++(Builtin.zeroCells (Value.agg #[.string ⟨#[]⟩,.slice none 0 0,.int .u32 0]).cells (Gc-(n+1))).toList:=⟨_,rfl⟩
 obtain ⟨row0,hrow0⟩:∃r:Array Value,r=(cells.take (i*3)).toArray++Builtin.zeroCells (Value.agg #[.string ⟨#[]⟩,.slice none 0 0,.int .u32 0]).cells (n+1-i)++Builtin.zeroCells (Value.agg #[.string ⟨#[]⟩,.slice none 0 0,.int .u32 0]).cells (Gc-(n+1)):=⟨_,rfl⟩
 rw [←hGc,←hrow0] at hrz
 have hGn:n+1≤Gc:=by rw [hGc];exact grownCap_ge w _ _ _
 have hG63:Gc≤9223372036854775807:=by
  have:=grownCap_le_maxLen w (n+1) c 33 (by unfold maxLen;omega)
  rw [←hGc] at this
  unfold maxLen at this
  omega
 have hl0:row0.toList=cells.take (i*3)++Z:=by rw [hrow0,hZ];simp
 have hs0:row0.size=Gc*3:=by
  rw [hrow0,Array.size_append,Array.size_append,size_zeroCells,size_zeroCells,List.size_toArray,AW,hcl,show (Value.agg #[.string ⟨#[]⟩,.slice none 0 0,.int .u32 0]).cells.size=3 from rfl]
  omega
 have h0l:row0.toList.length=Gc*3:=by rw [AQ];exact hs0
 have hyl2:ys.toList.length=3:=by rw [AQ];exact hyl
 obtain ⟨rowA,hrowA⟩:∃r:Array Value,r=(splice row0.toList (i*3) ys.toList).toArray:=⟨_,rfl⟩
 have hsA:rowA.size=Gc*3:=by rw [hrowA,List.size_toArray,length_splice _ _ _ (by rw [hyl2,h0l];omega),h0l]
 have hAl:rowA.toList.length=Gc*3:=by rw [AQ];exact hsA
 have hdl:(cells.drop (i*3)).length=(n-i)*3:=by rw [List.length_drop,hcl];omega
 obtain ⟨rowB,hrowB⟩:∃r:Array Value,r=(splice rowA.toList ((i+1)*3) (cells.drop (i*3))).toArray:=⟨_,rfl⟩
 have hsB:rowB.size=Gc*3:=by rw [hrowB,List.size_toArray,length_splice _ _ _ (by rw [hAl,hdl];omega),hAl]
 have hone:∀v∈cells,v.oneCell'=true:=hf.single bC
 have hcpA:∀(W:World),W.heap=(w.alloc (.cells row0 33)).heap→∀ty dc,(Builtin.copy_ #[23,23] ty #[.slice (some ⟨w.heap.size,i*3,none⟩) (n+1-i) dc,.slice (some ⟨G,0,none⟩) 1 1]).run Tryz.prog W=.ok (goInt 1) (W.setRow w.heap.size rowA):=fun W hW ty dc=>by
  have hWg:W.heap[w.heap.size]? = some (.cells row0 33 (0,0)):=by rw [hW];exact heap_alloc_new w _
  have hWG:W.heap[G]? = some (.cells ys T (0,0)):=by rw [hW];exact (Below.heap_alloc _ _ _ hGl).trans hG
  have h1:Nat.min 1 (n+1-i)=1:=by simp only [Nat.min_def];split<;>omega
  have h:=aN (P:=Tryz.prog) W 23 23 ty 33 3 w.heap.size (i*3) (n+1-i) dc ⟨G,0,none⟩ 1 1 row0 33 ys.toList Tryz.underlying23 hsz hWg
   (by rw [h1,hyl2]) (fun j v hj=>by
    rw [Addr.add_lit]
    refine (cell_of_row W G _ ys T (0,0) hWG).trans ?_
    simpa using hj) (by rw [hyl2,hs0];omega) (bu.single bC (bu.one hy))
  rw [h1,←hrowA] at h
  exact h
 have hmm:(n-i).min (n-i)=n-i:=Nat.min_self _
 have hcpB:∀(W:World),W.heap=((w.alloc (.cells row0 33)).setRow w.heap.size rowA).heap→∀ty dc sc,(Builtin.copy_ #[23,23] ty #[.slice (some ⟨w.heap.size,(i+1)*3,none⟩) (n-i) dc,.slice (some ⟨g,i*3,none⟩) (n-i) sc]).run Tryz.prog W=.ok (goInt ((n-i:Nat):Int)) (W.setRow w.heap.size rowB):=fun W hW ty dc sc=>by
  have hWg:W.heap[w.heap.size]? = some (.cells rowA 33 (0,0)):=by rw [hW];exact setRow_heap _ w.heap.size row0 rowA 33 (0,0) (heap_alloc_new w _)
  have hWo:W.heap[g]? = some (.cells cur 33 (0,0)):=by rw [hW,setRow_other _ w.heap.size g rowA (by omega)];exact (Below.heap_alloc _ _ _ hgl).trans hh
  have h:=aN (P:=Tryz.prog) W 23 23 ty 33 3 w.heap.size ((i+1)*3) (n-i) dc ⟨g,i*3,none⟩ (n-i) sc rowA 33 (cells.drop (i*3)) Tryz.underlying23 hsz hWg
   (by rw [hdl,hmm]) (fun j v hj=>by
    rw [Addr.add_lit]
    rw [List.getElem?_drop,hcells,List.getElem?_take] at hj
    split at hj
    ·exact (cell_of_row W g _ cur 33 (0,0) hWo).trans (by simpa using hj)
    ·cases hj) (by rw [hdl,hsA];omega) (fun v hv=>hone v (List.mem_of_mem_drop hv))
  rw [hmm,←hrowB] at h
  exact h
 have hw1:IntKind.i64.wrap ((i:Int)+1)=(i:Int)+1:=by rw [IntKind.wrap_i64];omega
 have hw2:IntKind.i64.wrap ((n:Int)+1)=(n:Int)+1:=by rw [IntKind.wrap_i64];omega
 have hw3:IntKind.i64.wrap ((n:Int)+1-(i:Int))=(n:Int)+1-(i:Int):=by rw [IntKind.wrap_i64];omega
 have hz2:¬((i:Int)=(n:Int)):=by omega
 have hz3:(c:Int)<(n:Int)+1:=by omega
 have hb1:(0:Int)≤(i:Int)+1:=by omega
 have hin:i≤n:=by omega
 have hin1:i+1≤n+1:=by omega
 have hic:i≤c:=by omega
 have htn:((i:Int)+1).toNat=i+1:=by omega
 have hGi:¬(Gc=i):=by omega
 have hGim:¬(Gc=i+1):=by omega
 have hci:¬(c=i):=by omega
 have hb3:(i:Int)≤(n:Int):=by omega
 have mixed:Tryz.prog.follows .mixedOrders=true:=by kernel_rfl
 have hrow:rowB.toList.take ((n+1)*3)=cells.take (i*3)++ys.toList++cells.drop (i*3):=by
  have e:=gj (A:=cells.take (i*3)) (Z:=Z) (ys:=ys.toList) (D:=cells.drop (i*3)) (a:=i*3) (k:=3) (by rw [AW,hcl];omega) hyl2 (by rw [←hl0,h0l,hdl];omega)
  rw [hdl,show i*3+3+(n-i)*3=(n+1)*3 by omega,show i*3+3=(i+1)*3 by omega,←hl0] at e
  rw [hrowB,hrowA]
  exact e
 have HEND:Hid (∀W':World,W'.heap=(((w.alloc (.cells row0 33)).setRow w.heap.size rowA).setRow w.heap.size rowB).heap→W'.os=w.os→W'.tape=w.tape→W'.output=w.output→aq FvR 33 W' base B (.slice (some ⟨w.heap.size,0,none⟩) (n+1) Gc) (cM xs i y)∧w.grownBy W' (some g)):=AE (fun W' e1 e2 e3 e4=>by
  have hgr:w.grownBy W' (some g):=⟨e2,e3,e4,by rw [e1];simp [World.setRow],fun k hk hne=>by
   rw [e1]
   exact (setRow_other _ w.heap.size k _ (by omega)).trans ((setRow_other _ w.heap.size k _ (by omega)).trans (Below.heap_alloc _ _ _ hk))⟩
  refine ⟨?_,hgr⟩
  subst hn
  exact aq.laid (R:=FvR) (cells:=cells) (ys:=ys.toList) (AF hbg (Nat.le_of_lt hgl)) (by rw [e1];exact setRow_heap _ w.heap.size rowA _ 33 (0,0) (setRow_heap _ w.heap.size row0 rowA 33 (0,0) (heap_alloc_new w _))) hGn hG63 hsB hf hy (Nat.le_of_lt hi) hrow ((AI B w).grown hgr (AF hB (AF hbg (Nat.le_of_lt hgl))) (fun k hk=>by simp only [AP] at hk;omega)))
 clear h0l hyl2 hAl hrow hsB hdl hsA hs0 hl0 hrow0 hrowA hrowB hZ hGc hold hkk hik hone hcs hcl hcells hf
 go_enter Tryz.func48,Tryz.ntmps48
 go_wp2_with (first
  | (at_builtin;refine Lib.wpList_append_run _ rfl _ _ _ _ rfl _ _ rfl rfl _ _ (hrz _) ?_)
  | (refine cd _ rfl _ _ 23 23 rfl _ _ rfl rfl (hcpA _ (by rfl) _ _) ?_))
 go_region_law_o (refine dq rfl _ _ 23 23 rfl (.slice (some ⟨w.heap.size,(i+1)*3,none⟩) (n-i) (Gc-(i+1))) (.slice (some ⟨g,i*3,none⟩) (n-i) (c-i)) (by simp [Act.eval,Act.put]) (by simp [Act.eval,Act.put]) (hcpB _ (by rfl) _ _ _) ?_)
 go_wp2
 go_ret
 exact ⟨Gc,rfl,HEND.out _ rfl rfl rfl rfl⟩
theorem vY {base i G n c:Nat} {A:Option Addr} {w:World} {xs:List FV} {y:FV} {ys:Array Value} {T:TypeId} (hn:xs.length=n) (hown:aq FvR 33 w base 0 (.slice A n c) xs) (hbase:base≤w.heap.size) (hbig:(n+1)*48≤140737488355328)
 (hy:(FvR).rd w 0 y ys.toList) (hG:bS w G ys T) (hne:some G≠(Value.slice A n c).ownBlock) (hi:i≤n) :
 Calls Tryz.prog 48 #[.slice A n c,.int .i64 i,.slice (some ⟨G,0,none⟩) 1 1] w fun z w'=>∃A' c',z=.returned (.slice A' (n+1) c')∧aq FvR 33 w' base 0 (.slice A' (n+1) c') (cM xs i y)∧w.grownBy w' (Value.slice A n c).ownBlock∧bk w (.slice A n c) (.slice A' (n+1) c'):=by
 by_cases hend:i=n
 ·subst hend
  have HOWN:=AE hown
  have HSRC:Hid (fy FvR w 0 (some ⟨G,0,none⟩) [y]):=AE (zm hG (bu.one hy))
  have HPUT:Hid (cM xs i y=xs++[y]):=AE (by unfold cM;rw [List.take_of_length_le (by omega),List.drop_of_length_le (by omega)])
  obtain ⟨i0,hi0,hz0,hz1,hz2⟩:=info_parts fh
  have hform:(A=none∧i=0∧c=0)∨∃g,A=some ⟨g,0,none⟩∧i≤c∧c≤9223372036854775807:=by
   obtain ⟨cells,h,_⟩:=hown
   rcases h.2 with ⟨h1,h2⟩ | ⟨g,cap,cur,hv,hg,hh,k1,k2,_⟩
   ·simp only [AR] at h1
    exact .inl ⟨h1.1,h1.2.1,h1.2.2⟩
   ·simp only [AR] at hv
    obtain ⟨rfl,_,rfl⟩:=hv
    rw [hn] at k1
    exact .inr ⟨g,rfl,k1,k2⟩
  clear hown hG hne hy
  rcases hform with ⟨rfl,rfl,rfl⟩ | ⟨g,rfl,hic,hc63⟩
  ·go_enter Tryz.func48,Tryz.ntmps48
   go_wp2_with ((
    at_builtin
    refine bE (R:=FvR) (e:=33) (base:=base) (xs:=xs) (ys:=[y]) rfl (.tmp 23) (.tmp 24) 23 rfl (bytes:=48) Tryz.underlying23 hi0 hz0 hz1 hz2 rfl (show 0<3 by omega) bC rfl HOWN.out rfl HSRC.out rfl (by simp only [AV,List.length_nil];omega) (by omega) hbase ?_
    intro v wn hown hg hf
    obtain ⟨A2,c2,hv⟩:∃A2 c2,v=.slice A2 (0+1) c2:=by have:=hown.form;rwa [AK,List.length_singleton,hn] at this
    subst hv
    have HOUT:Hid (_∧_∧_):=AE (And.intro hown (And.intro hg hf))
    clear hown hg hf))
   go_ret
   rw [HPUT.out]
   exact ⟨A2,c2,rfl,HOUT.out.1,HOUT.out.2.1,HOUT.out.2.2⟩
  ·go_enter Tryz.func48,Tryz.ntmps48
   go_wp2_with ((
    at_builtin
    refine bE (R:=FvR) (e:=33) (base:=base) (xs:=xs) (ys:=[y]) rfl (.tmp 23) (.tmp 24) 23 rfl (bytes:=48) Tryz.underlying23 hi0 hz0 hz1 hz2 rfl (show 0<3 by omega) bC rfl HOWN.out rfl HSRC.out rfl (by simp only [AV,List.length_nil];omega) (by omega) hbase ?_
    intro v wn hown hg hf
    obtain ⟨A2,c2,hv⟩:∃A2 c2,v=.slice A2 (i+1) c2:=by have:=hown.form;rwa [AK,List.length_singleton,hn] at this
    subst hv
    have HOUT:Hid (_∧_∧_):=AE (And.intro hown (And.intro hg hf))
    clear hown hg hf))
   all_goals
    go_ret
    rw [HPUT.out]
    exact ⟨A2,c2,rfl,HOUT.out.1,HOUT.out.2.1,HOUT.out.2.2⟩
 ·have hlt:i<n:=by omega
  obtain ⟨cells,⟨hl,h⟩,hf⟩:=hown
  rcases h with ⟨h1,h2⟩ | ⟨g,cap,cur,hv,hg,hh,k1,k2,k3,k4⟩
  ·omega
  ·simp only [AR] at hv
   obtain ⟨rfl,_,rfl⟩:=hv
   have hGg:G≠g:=fun e=>hne (by rw [e];rfl)
   have k3:cur.size=c*3:=k3
   have hf:bu FvR w 0 xs (cur.toList.take (n*3)):=by
    have e:cur.toList.take (n*3)=cells:=by rw [←hn];exact k4
    rw [e];exact hf
   rw [hn] at k1
   by_cases hroom:n+1≤c
   ·exact (tG hn hg hh hroom k2 k3 hf hy hG hGg hlt (AH _)).mono fun z w' ⟨h1,h2,h3⟩=>⟨_,_,h1,h2,h3,.inl rfl⟩
   ·exact (tF hn hg hh k1 (by omega) hbig k3 hf hy hG hlt (AH _)).mono fun z w' ⟨c',h1,h2,h3⟩=>⟨_,_,h1,h2,h3,.inr ⟨_,rfl,AG _⟩⟩
theorem orL2 (x y:Int):orL [x,y]=if x=0 then y else x:=by simp [orL];split<;>simp_all
theorem cmpL_by:Ord3 (fun a b:Fc=>bM (aV 3) a.pr.terms b.pr.terms):=(nK (ff 3)).by fun f:Fc=>f.pr.terms
theorem aW:Ord3 aF:=by
 have h:=Ord3.andThen (kH.by fun f:Fc=>bs f.pr.name) (Ord3.andThen (gJ.by fun f:Fc=>(f.pr.terms.length:Int)) (Ord3.andThen cmpL_by (gJ.by fun f:Fc=>f.o)))
 have e:aF=jR (fun a b:Fc=>dh (bs a.pr.name) (bs b.pr.name)) (jR (fun a b:Fc=>cW a.pr.terms.length b.pr.terms.length) (jR (fun a b:Fc=>bM (aV 3) a.pr.terms b.pr.terms) (fun a b:Fc=>cW a.o b.o))):=by
  funext a b
  simp only [aF,jR,orL]
  split<;>(try rfl)
  split<;>(try rfl)
  split<;>(try rfl)
  split<;>simp_all
 rw [e];exact h
theorem oB:∀{a b:List Tm},(∀x∈a,Two x)→(∀x∈b,Two x)→bM (aV 3) a b=0→a=b
 | [],[],_,_,_=>rfl
 | [],_::_,_,_,h=>by simp [bM] at h
 | _::_,[],_,_,h=>by simp [bM] at h
 | x::a,y::b,ha,hb,h=>by
   rw [bM] at h
   split at h
   ·rename_i h0
    rw [two_eq (ha x (by simp)) (hb y (by simp)) h0,oB (fun z hz=>ha z (by simp [hz])) (fun z hz=>hb z (by simp [hz])) h]
   ·rename_i h0;exact absurd h h0
theorem gI {a b:Fc} (ha:FcOk a) (hb:FcOk b):aF a b=0↔a=b:=by
 constructor
 ·intro h
  simp only [aF,orL] at h
  split at h
  ·rename_i h1
   split at h
   ·rename_i h2
    split at h
    ·rename_i h3
     split at h
     ·rename_i h4
      obtain ⟨⟨an,at_⟩,ao⟩:=a
      obtain ⟨⟨bn,bt⟩,bo⟩:=b
      have e1:an=bn:=oO (fT.1 h1)
      have e3:at_=bt:=oB (fun x hx=>(aO (ha.fix x hx)).1) (fun x hx=>(aO (hb.fix x hx)).1) h3
      have e4:ao=bo:=eb.1 h4
      rw [e1,e3,e4]
     ·exact absurd h ‹_›
    ·exact absurd h ‹_›
   ·exact absurd h ‹_›
  ·exact absurd h ‹_›
 ·rintro rfl;exact aW.self a
def aD (f:Fc):Bool:=decide (f.o≠0)&&(dQ (bs f.pr.name)&&(decide (f.pr.terms.length≤8)&&f.pr.terms.all af))
def csF (fs:List Fc) (f:Fc) (i:Nat):Int:=match fs[i]? with | some x=>aF x f | none=>0
def jg (fs:List Fc) (f:Fc):Nat:=pT fs.length (csF fs f)
def fe (fs:List Fc) (f:Fc):Bool:=decide (jg fs f<fs.length)&&decide (csF fs f (jg fs f)=0)
def mv (fs:List Fc) (f:Fc):Bool:=aD f&&!fe fs f
def fd (fs:List Fc) (f:Fc):List Fc:=if mv fs f=true then cM fs (jg fs f) f else fs
def bH (fs:List Fc):Prop:=fs.Pairwise (fun a b=>aF a b<0)
section
variable {fs:List Fc} {f x:Fc} {i j:Nat}
theorem iN (h:i<fs.length):csF fs f i=aF fs[i] f:=by unfold csF;rw [AO h]
theorem nN (hs:bH fs) (hij:i≤j) (hj:j<fs.length) (h:csF fs f j<0):csF fs f i<0:=by
 rcases Nat.lt_or_eq_of_le hij with h1 | rfl
 ·rw [iN (by omega)]
  rw [iN hj] at h
  exact aW.lt_le (List.pairwise_iff_getElem.1 hs i j (by omega) hj h1) (by omega)
 ·exact h
theorem lX:jg fs f≤fs.length:=wX _ _
theorem lW (h:i<jg fs f):aF (fs[i]'(AJ h lX)) f<0:=by
 have:=lV h
 rwa [iN (AJ h lX)] at this
theorem nq (hs:bH fs) (hi:i<fs.length) (h:jg fs f≤i):¬aF fs[i] f<0:=by
 intro h1
 have h2:csF fs f i<0:=by rw [iN hi];exact h1
 have h3:=nN hs h hi h2
 exact wW (Nat.lt_of_le_of_lt h hi) h3
theorem nU (hs:bH fs):fe fs f=true↔∃x∈fs,aF x f=0:=by
 unfold fe
 rw [AN,AT,AT]
 constructor
 ·rintro ⟨h1,h2⟩
  exact ⟨fs[jg fs f],List.getElem_mem h1,by rw [←iN h1];exact h2⟩
 ·rintro ⟨x,hx,h0⟩
  obtain ⟨i,hi,rfl⟩:=List.getElem_of_mem hx
  have hle:jg fs f≤i:=by
   rcases Nat.lt_or_ge i (jg fs f) with h | h
   ·have:=lW h;omega
   ·exact h
  have hlt:jg fs f<fs.length:=by omega
  refine ⟨hlt,?_⟩
  rw [iN hlt]
  have h1:=nq (f:=f) hs hlt (AG _)
  rcases Nat.lt_or_eq_of_le hle with h | h
  ·have h2:=aW.lt_le (List.pairwise_iff_getElem.1 hs _ i hlt hi h) (by omega:aF fs[i] f≤0)
   omega
  ·simp only [h];exact h0
theorem sr (hs:bH fs) (ho:∀x∈fs,FcOk x) (hf:FcOk f):fe fs f=true↔f∈fs:=by
 rw [nU hs]
 constructor
 ·rintro ⟨x,hx,h⟩
  rw [←(gI (ho x hx) hf).1 h];exact hx
 ·intro h;exact ⟨f,h,aW.self f⟩
theorem jp (h:aD f=true) (hs:f.pr.name.size≤140737488351232) (ho:U32 f.o):FcOk f:=by
 unfold aD at h
 simp only [AN,AT,List.all_eq_true] at h
 exact ⟨hs,ho,h.2.2.1,h.2.2.2⟩
theorem jQ (hs:bH fs) (hn:fe fs f=false):bH (cM fs (jg fs f) f):=by
 have hb:∀a∈fs.take (jg fs f),aF a f<0:=by
  intro a ha
  obtain ⟨i,hi,rfl⟩:=List.getElem_of_mem ha
  rw [AW] at hi
  rw [List.getElem_take]
  exact lW (by omega)
 have ha:∀a∈fs.drop (jg fs f),aF f a<0:=by
  intro a ha
  obtain ⟨i,hi,rfl⟩:=List.getElem_of_mem ha
  rw [List.length_drop] at hi
  rw [List.getElem_drop]
  have h1:=nq (f:=f) hs (show jg fs f+i<fs.length by omega) (Nat.le_add_right _ _)
  have h2:aF (fs[jg fs f+i]'(by omega)) f≠0:=fun h=>by
   have:=(nU (f:=f) hs).2 ⟨_,List.getElem_mem (show jg fs f+i<fs.length by omega),h⟩
   rw [hn] at this;cases this
  have h3:=aW.anti f (fs[jg fs f+i]'(by omega))
  omega
 unfold bH cM
 rw [List.pairwise_append]
 refine ⟨hs.take,?_,fun a h1 b h2=>?_⟩
 ·rw [List.pairwise_cons]
  exact ⟨ha,hs.drop⟩
 ·rcases List.mem_cons.1 h2 with rfl | h2
  ·exact hb a h1
  ·exact aW.lt_le (hb a h1) (by have:=ha b h2;omega)
theorem qA (hs:bH fs):bH (fd fs f):=by
 unfold fd
 split
 ·rename_i h
  unfold mv at h
  exact jQ hs (by simp only [AN,Bool.not_eq_true'] at h;exact h.2)
 ·exact hs
end
theorem kN {α β:Type} (f:α→β) (L:List α) (p:Nat) (x:α):(cM L p x).map f=cM (L.map f) p (f x):=by simp [cM,List.map_take,List.map_drop]
def StM (S:Nat) (v:Value) (k:Nat):Prop:=k=S∨v.ownBlock=some k
def StD (base:Nat) (v:Value) (k:Nat):Prop:=k<base∨v.ownBlock=some k
theorem StM.d {S base k:Nat} {v:Value} (h:StM S v k) (hS:S<base):StD base v k:=by
 rcases h with rfl | h
 ·exact .inl hS
 ·exact .inr h
structure StA (base d:Nat) (w:World) (S:Nat) (xs:List FV) (A:Option Addr) (c:Nat):Prop where
 hd:Blk w S #[.slice A xs.length c]
 lt:S<base
 bw:base≤w.heap.size
 row:aq FvR 33 w base 0 (.slice A xs.length c) xs
 ok:∀x∈xs,FcOk x.f
 deep:∀x∈xs,fJ (StD base (.slice A xs.length c)) w (fun w'=>(ay (d+1)).rd w' w'.heap.size x.f x.cs)
 sort:bH (xs.map FV.f)
section
variable {base d S c:Nat} {w w':World} {xs:List FV} {A:Option Addr} {M:Nat→Prop}
theorem StA.agree (h:StA base d w S xs A c) (ha:al M w w') (hM:∀k,M k→k<w.heap.size→¬StM S (.slice A xs.length c) k) (hD:∀k,M k→k<w.heap.size→StD base (.slice A xs.length c) k):StA base d w' S xs A c:=
 ⟨ha.blk h.hd (fun hm=>hM S hm h.hd.lt (.inl rfl)),h.lt,AF h.bw ha.size,h.row.agree ha (fun k hk hm=>hM k hm (h.row.lt k hk).2 (.inr hk)),h.ok,fun x hx=>(h.deep x hx).next ha (fun k hk hm=>hD k hm hk) (fun k hk hm=>hm),h.sort⟩
theorem StA.later (h:StA base d w S xs A c) (hb:Below w.heap.size w w'):StA base d w' S xs A c:=h.agree (M:=fun _=>False) (al.of_below hb) (fun _ h=>h.elim) (fun _ h=>h.elim)
theorem StA.rl (h:StA base d w S xs A c) (hn:xs.length≤1000000):RL (ay (d+1)) w w.heap.size (xs.map FV.f) A:=by
 obtain ⟨A3,c3,e3,h1,h2,r3⟩:=h.row.reads (AH _) (by show xs.length*(8*3)≤_;omega)
 simp only [AR] at e3
 obtain ⟨rfl,_,rfl⟩:=e3
 intro h0
 rw [AM] at h0
 obtain ⟨b,off,e,hb,hc⟩:=r3 h0
 refine ⟨b,off,e,hb,fun i hi=>?_⟩
 rw [AM] at hi
 obtain ⟨vs,hl,⟨x,hx,hr⟩,hv⟩:=hc i hi
 obtain rfl:vs=x.cs:=hr
 exact ⟨x.cs,hl,⟨x.f,by rw [List.getElem?_map,hx];rfl,(h.deep x (List.mem_of_getElem? hx)).here⟩,hv⟩
end
def zD (base d S:Nat) (w w':World) (xs:List FV) (A:Option Addr) (c:Nat) (f:Fc) (z:Ending):Prop:=
 ∃xs' A' c',z=.returned (.bool (mv (xs.map FV.f) f))∧xs'.map FV.f=fd (xs.map FV.f) f∧StA base d w' S xs' A' c'∧al (StM S (.slice A xs.length c)) w w'∧bk w (.slice A xs.length c) (.slice A' xs'.length c')
theorem zD.no {base d S:Nat} {w w':World} {xs:List FV} {A:Option Addr} {c:Nat} {f:Fc} (h:StA base d w S xs A c) (hb:Below w.heap.size w w') (hn:mv (xs.map FV.f) f=false):zD base d S w w' xs A c f (.returned (.bool false)):=
 ⟨xs,A,c,by rw [hn],by unfold fd;rw [hn];rfl,h.later hb,al.of_below hb,.inl rfl⟩
theorem gq {fs:List Fc} {f:Fc} (h:aD f=false):mv fs f=false:=by unfold mv;rw [h];rfl
theorem oH {d B:Nat} {w:World} (hB:B≤w.heap.size):bW Tryz.prog (TmR d) cY B w 46 #[] (fun x=>!af x):=by
 intro x vs w1 hb hr
 have HR:Hid (RTm w1 B d x vs):=AE hr
 obtain ⟨A,c,rfl,_⟩:=RTm.cells (show RTm w1 B d x vs from hr)
 have hB1:=AF hB hb.size
 clear hr hb
 show Calls Tryz.prog 46 #[.agg #[_,_,_,_]] w1 _
 go_enter Tryz.func46,Tryz.ntmps46
 go_wp2_with fail
 generalize hW:World.alloc _ _=w2
 obtain ⟨hb,hz⟩:=al1 hW
 have HB2:=AE hb
 clear hW hb hz
 refine (aj (d:=d) (vs:=[_,_,_,_]) (RTm.below HB2.out hB1 HR.out) (AF hB1 HB2.out.size)).mono ?_
 rintro e w3 ⟨rfl,hb⟩
 have HB3:=AE (aa HB2.out hb)
 clear hb
 go_wp2_with fail
 go_ret
 exact ⟨rfl,HB3.out⟩
theorem mh {base d B S c:Nat} {xs:List FV} {A:Option Addr} {f:Fc} {vf:List Value} {w:World} (hs:StA base d w S xs A c) (hf:(ay (d+1)).rd w B f vf) (hB:B≤w.heap.size) (hn:xs.length≤100000) :
 Calls Tryz.prog 24 #[.pointer (some ⟨S,0,none⟩),.agg vf.toArray] w fun z w'=>zD base d S w w' xs A c f z:=by
 obtain ⟨Af,cf,rfl,hsz,h1,h2,h3,hl,ho⟩:=aG hf
 have HS:=AE hs
 have HF:=AE hf
 have HL:=AE hl
 have HO:=AE ho
 have hSl:=hs.hd.lt
 clear hs hf hl ho
 go_enter Tryz.func24,Tryz.ntmps24
 go_upto_region 1 with fail
 generalize hW:World.alloc _ _=w1
 obtain ⟨hb,hz⟩:=al1 hW
 have HBA1:=AE (n11 hW)
 have HB1:=AE hb
 have hsz1:=hb.size
 clear hW hb
 have hB1:B≤w1.heap.size:=by omega
 have k_a:=HBA1.out.cell
 have l_a:=HBA1.out.lt
 have HSB:Hid (aD f=(decide (f.o≠0)&&(dQ (bs f.pr.name)&&(decide (f.pr.terms.length≤8)&&f.pr.terms.all af)))):=AE rfl
 by_cases g1:f.o=0
 ·have hno:aD f=false:=by rw [HSB.out];simp [g1]
  have q1:(f.o==0)=true:=by simpa using g1
  have HNO:=AE hno
  clear g1 hno
  go_wp2_with fail
  go_ret
  exact zD.no HS.out HB1.out (gq HNO.out)
 have q1:(f.o==0)=false:=by simpa using g1
 have G1:=AE g1
 clear g1
 go_wp2_with fail
 refine (fl f.pr.name w1 (by unfold maxLen;omega)).mono ?_
 rintro e w2 ⟨rfl,rfl⟩
 by_cases g2:dQ (bs f.pr.name)=true
 rotate_left
 ·have hno:aD f=false:=by rw [HSB.out];simp [g2]
  simp only [Bool.not_eq_true] at g2
  have HNO:=AE hno
  clear hno
  rw [g2]
  go_wp2_with fail
  go_ret
  exact zD.no HS.out HB1.out (gq HNO.out)
 have G2:=AE g2
 rw [g2]
 clear g2
 by_cases g3:f.pr.terms.length≤8
 rotate_left
 ·have hno:aD f=false:=by rw [HSB.out];simp [g3]
  have q3:decide ((f.pr.terms.length:Int) > 8)=true:=by simp;omega
  have q3':decide ((8:Int)<(f.pr.terms.length:Int))=true:=by simp;omega
  have HNO:=AE hno
  clear hno g3
  go_wp2_with fail
  go_ret
  exact zD.no HS.out HB1.out (gq HNO.out)
 have q3:decide ((f.pr.terms.length:Int) > 8)=false:=by simp;omega
 have q3':decide ((8:Int)<(f.pr.terms.length:Int))=false:=by simp;omega
 have hen:=ent Tryz.func46 (by kernel_rfl) rfl
 have HC:=AE (bA (d+1) 46 #[] (fun x=>!af x) f.pr.terms Af cf B w1 hen (HL.out.keep HB1.out hB) hB1 (by omega) (oH hB1))
 clear hen
 go_wp2_with fail
 refine HC.out.mono ?_
 rintro e w2 ⟨rfl,hb⟩
 have HB2:=AE (aa HB1.out hb)
 have HBA2:=AE (HBA1.out.later hb)
 have hsz2:=hb.size
 clear k_a l_a hb q3 q3'
 have k_a:=HBA2.out.cell
 have l_a:=HBA2.out.lt
 by_cases g4:f.pr.terms.all af=true
 rotate_left
 ·have hno:aD f=false:=by rw [HSB.out];simp [g4]
  have hany:(f.pr.terms.any fun x=>!af x)=true:=by
   rw [List.any_eq_true]
   simp only [Bool.not_eq_true,List.all_eq_false] at g4
   obtain ⟨x,hx,h⟩:=g4
   exact ⟨x,hx,by simp [h]⟩
  rw [hany]
  have HNO:=AE hno
  clear hno g4 hany
  go_wp2_with fail
  go_ret
  exact zD.no HS.out HB2.out (gq HNO.out)
 have hany:(f.pr.terms.any fun x=>!af x)=false:=by
  rw [List.any_eq_false]
  rw [List.all_eq_true] at g4
  intro x hx
  simp [g4 x hx]
 rw [hany]
 have HSY:Hid (aD f=true):=AE (by rw [HSB.out,G2.out,g4];simp [G1.out,g3])
 have HFO:=AE (jp HSY.out hsz HO.out)
 clear hany g4
 go_upto_region 3 with fail
 clear k_a l_a
 have HS2:=AE (HS.out.later HB2.out)
 have HRL:=AE (HS2.out.rl (by omega))
 have hlm:(xs.map FV.f).length=xs.length:=AM _
 have HLM:=AE hlm
 have HPN:Hid (jg (xs.map FV.f) f≤xs.length):=AE (by have:=lX (fs:=xs.map FV.f) (f:=f);omega)
 have HF2:=AE ((ay (d+1)).keep HB2.out hB HF.out)
 have hB2:B≤w2.heap.size:=by omega
 clear hlm
 have HBS:Hid (∀w9,Below w2.heap.size w2 w9→Calls Tryz.prog 34 #[.slice A xs.length c,.agg #[.string f.pr.name,.slice Af f.pr.terms.length cf,.int .u32 f.o],.func (.func 35) #[] #[]] w9 fun z w'=>z=.returned (.tuple #[.int .i64 (jg (xs.map FV.f) f),.bool (fe (xs.map FV.f) f)])∧Below w9.heap.size w9 w'):=AE (fun w9 hb9=>by
  have h:=lh (d:=d) (e:=d) (B:=w2.heap.size) (c:=c) (fs:=xs.map FV.f) (t:=f) (vt:=[_,_,_]) (A:=A) (w:=w9) (HRL.out.keep hb9 (AG _)) ((ay (d+1)).keep hb9 (AG _) ((ay (d+1)).wide hB2 HF2.out)) (fun x hx=>by
   obtain ⟨y,hy,rfl⟩:=List.mem_map.1 hx
   exact HS.out.ok y hy) (by omega) (by rw [HLM.out];omega) hb9.size (csF (xs.map FV.f) f) (fun i hi=>iN hi) (fun i j hij hj h=>nN HS.out.sort hij hj h)
  rw [HLM.out] at h
  refine h.mono fun z w' ⟨h1,h2⟩=>⟨?_,h2⟩
  rw [h1]
  unfold fe jg
  rw [HLM.out,Bool.decide_and])
 have q_s:=HS2.out.hd.regrown
 have q_a:=HBA2.out.regrown
 generalize hp:jg (xs.map FV.f) f=p at *
 generalize hq:fe (xs.map FV.f) f=q at *
 have HP:=AE hp
 have HQ:=AE hq
 clear hp hq
 refine wp_region_quiet_below (by kernel_rfl) (by kernel_rfl) ?_
 repeat (go_big_quiet_step ((go_at_call 34;exact Calls.regrown_of (HBS.out _ (below_regrown _ _ _)))))
 refine wpQuiet_nil ?_
 intro w3 hw_
 have hb:Below w2.heap.size w2 w3:=by obtain ⟨p_,rfl⟩:=hw_;exact below_regrown _ _ _
 clear hw_ q_s q_a
 have HBA3:=AE (HBA2.out.later hb)
 have HS3:=AE (HS2.out.later hb)
 have HB3:=AE (aa HB2.out hb)
 have hsz3:=hb.size
 have HF3:=AE ((ay (d+1)).keep hb hB2 HF2.out)
 clear hb
 cases q
 rotate_left
 ·have HNO:Hid (mv (xs.map FV.f) f=false):=AE (by unfold mv;rw [HQ.out];simp)
  go_wp2_with fail
  go_ret
  exact zD.no HS.out HB3.out HNO.out
 have hpn:=HPN.out
 go_upto_region 6 with fail
 have HSL:Hid (∀{w':World},Below w3.heap.size w3 w'→(w'.cell? ⟨S,0,none⟩=some (.slice A xs.length c)∧w'.cell? ⟨w.heap.size,0,none⟩=some (.string f.pr.name)∧w'.cell? ⟨w.heap.size,1,none⟩=some (.slice Af f.pr.terms.length cf)∧w'.cell? ⟨w.heap.size,2,none⟩=some (.int .u32 f.o))):=AE (fun hb=>have h:=(HBA3.out.later hb).cell;⟨(HS3.out.hd.later hb).cell 0,h 0,h 1,h 2⟩)
 refine bv (S:=fun w'=>w'.cell? ⟨S,0,none⟩=some (.slice A xs.length c)∧w'.cell? ⟨w.heap.size,0,none⟩=some (.string f.pr.name)∧w'.cell? ⟨w.heap.size,1,none⟩=some (.slice Af f.pr.terms.length cf)∧w'.cell? ⟨w.heap.size,2,none⟩=some (.int .u32 f.o)) 12 (by kernel_rfl) (by kernel_rfl) (by kernel_rfl) (by kernel_rfl) (HSL.out (AI _ _).drew) ?_
 refine ax 0 ?_
 refine ax 1 ?_
 refine ax 2 ?_
 refine ax 3 ?_
 refine ax 4 ?_
 refine ax 5 ?_
 refine ax 6 ?_
 refine aJ (rs:=[7]) (by kernel_rfl) rfl (by kernel_rfl) ?_
 refine aB.cons rfl (fun K hK=>?_) aB.nil
 go_simp
 refine (kg (d:=d) (B:=B) (f:=f) (vf:=[_,_,_]) ((ay (d+1)).keep (AI w3.heap.size w3).drew (by omega) HF3.out) HFO.out (by show B≤w3.heap.size;omega)).mono ?_
 rintro z w6 ⟨⟨A5,c5,rfl,how⟩,hb6⟩
 have HOW:Hid (bT w3.heap.size d w6 f A5 c5):=AE how
 have HB6:Hid (Below w3.heap.size w3 w6):=AE ((AI w3.heap.size w3).drew.trans hb6)
 have hsz6:=HB6.out.size
 unfold fcV
 clear how hb6
 refine hK.out _ _ (HSL.out HB6.out) ?_
 clear hK
 refine aJ (rs:=[8]) (by kernel_rfl) rfl (by kernel_rfl) ?_
 refine aB.cons rfl (fun K hK=>?_) aB.nil
 go_simp
 generalize hW:World.alloc _ _=w8
 have HG8:Hid (bS w8 w6.heap.size #[.string f.pr.name,.slice A5 f.pr.terms.length c5,.int .u32 f.o] 33):=AE (hW▸heap_alloc_new w6 _)
 obtain ⟨hb8,hz8⟩:=al1 hW
 have HB8:Hid (Below w3.heap.size w3 w8):=AE (HB6.out.trans (hb8.mono hsz6))
 have hsz8:=hb8.size
 have HOW8:=AE (HOW.out.later hb8)
 have HS8:=AE (HS3.out.later HB8.out)
 have hgl:w6.heap.size<w8.heap.size:=by rw [hz8];omega
 clear hW hb8 hz8
 refine hK.out _ _ (HSL.out HB8.out) ?_
 clear hK
 refine aJ (rs:=[9]) (by kernel_rfl) rfl (by kernel_rfl) ?_
 refine aB.cons rfl (fun K hK=>?_) aB.nil
 go_simp
 refine (vY (base:=base) (i:=p) (G:=w6.heap.size) (n:=xs.length) (c:=c) (A:=A) (xs:=xs) (y:=⟨f,A5,c5⟩) rfl HS8.out.row HS8.out.bw (by omega) rfl HG8.out (fun e=>by have:=(HS3.out.row.lt w6.heap.size e.symm).2;omega) hpn).mono ?_
 rintro z w9 ⟨A9,c9,rfl,hown,hg,hf⟩
 have HOWN:=AE hown
 have HG:=AE hg
 have HFV:=AE hf
 have hsz9:=hg.size
 have HA9:Hid (al (StM S (.slice A xs.length c)) w8 w9):=AE ((al.grown hg).mono fun k _ hk=>.inr hk.symm)
 have hSne:some S≠(Value.slice A xs.length c).ownBlock:=fun e=>by have h1:=(HS8.out.row.lt S e.symm).1;have h2:=HS8.out.lt;omega
 have HHD:=AE (HS8.out.hd.grown hg hSne)
 have HBA9:=AE ((HBA3.out.later HB8.out).grown hg (fun e=>by have h1:=(HS.out.row.lt w.heap.size e.symm).2;omega))
 have f_s:=HHD.out.free
 have k_s:=HHD.out.cell
 clear hown hg hf hSne
 refine hK.out _ _ (⟨HHD.out.cell 0,HBA9.out.cell 0,HBA9.out.cell 1,HBA9.out.cell 2⟩) ?_
 clear hK
 refine ax 10 ?_
 refine ax 11 ?_
 refine eu (by kernel_rfl) (by kernel_rfl) rfl (fun K hK=>?_)
 go_simp
 refine hK.out _ _ ?_
 clear f_s k_s
 have HLP:Hid ((cM xs p (⟨f,A5,c5⟩:FV)).length=xs.length+1):=AE (bJ hpn)
 have HAD:Hid (mv (xs.map FV.f) f=true):=AE (by unfold mv;rw [HSY.out,HQ.out];rfl)
 go_wp2_with fail
 go_ret
 have HAF:Hid (al (StM S (.slice A xs.length c)) w8 (w9.setCell ⟨S,0,none⟩ (.slice A9 (xs.length+1) c9))):=AE (HA9.out.set_ (fun _=>.inl rfl) 0 _)
 have HMM:Hid (∀k,k<w8.heap.size→StM S (.slice A9 (cM xs p (⟨f,A5,c5⟩:FV)).length c9) k→StM S (.slice A xs.length c) k):=AE (fun k hk hm=>by
  rcases hm with hm | hm
  ·exact .inl hm
  ·right
   rw [HLP.out] at hm
   rcases HFV.out with h | ⟨k',h4,h5⟩
   ·rw [←h];exact hm
   ·rw [h4] at hm
    simp only [AP] at hm
    omega)
 have HMD:Hid (∀k,k<w8.heap.size→StD base (.slice A9 (cM xs p (⟨f,A5,c5⟩:FV)).length c9) k→StD base (.slice A xs.length c) k):=AE (fun k hk hm=>by
  rcases hm with hm | hm
  ·exact .inl hm
  ·exact (HMM.out k hk (.inr hm)).d HS.out.lt)
 have HML:Hid (∀k,StD base (.slice A xs.length c) k→k<w3.heap.size):=AE (fun k hm=>by
  have hb:=HS.out.bw
  have hl:=HS.out.lt
  have hs2:=HB3.out.size
  rcases hm with hm | hm
  ·omega
  ·have:=(HS.out.row.lt k hm).2;omega)
 refine ⟨cM xs p ⟨f,A5,c5⟩,A9,c9,ac HAD.out.symm,?_,⟨by rw [HLP.out];exact HHD.out.set_ 0 _,HS.out.lt,?_,by rw [HLP.out];exact HOWN.out.far HS.out.lt (AH _) _,fun x hx=>?_,fun x hx=>?_,?_⟩,?_,?_⟩
 ·unfold fd
  rw [if_pos HAD.out,kN FV.f,HP.out]
 ·have h1:=HAF.out.size
  have h2:=HS8.out.bw
  omega
 ·rcases dv.1 hx with rfl | hx
  ·exact HFO.out
  ·exact HS.out.ok x hx
 ·rcases dv.1 hx with rfl | hx
  ·exact (HOW8.out.stab (M:=fun k=>k<w3.heap.size) HFO.out (fun k h1 h2=>by omega)).next HAF.out (fun k _ hm=>HML.out k (hm.d HS.out.lt)) (fun k hk hm=>HML.out k (HMD.out k hk hm))
  ·exact (HS8.out.deep x hx).next HAF.out (fun _ _ h=>h.d HS.out.lt) HMD.out
 ·rw [kN FV.f,←HP.out]
  exact jQ HS.out.sort HQ.out
 ·exact (((al.of_below HB3.out).trans (N:=fun _=>False) (al.of_below HB8.out) (fun _ _ h=>h.elim)).trans HA9.out (fun _ _ h=>h)).set_ (fun _=>.inl rfl) 0 _
 ·rw [HLP.out]
  rcases HFV.out with h | ⟨k,h4,h5⟩
  ·exact .inl h
  ·exact .inr ⟨k,h4,by omega⟩
def cA (ts:List Tm):List aZ:=(ts.filter (fun t=>decide (t.kind=1))).map (fun t=>bs t.s)
def az (ps:List Pr):List aZ:=ps.flatMap (fun p=>cA p.terms)
theorem oC (ts us:List Tm):cA (ts++us)=cA ts++cA us:=by simp [cA]
theorem mM (ps qs:List Pr):az (ps++qs)=az ps++az qs:=by simp [az]
theorem mo (ts:List Tm) (j:Nat):(cA (ts.take j)).length≤(cA ts).length:=by
 have e:=oC (ts.take j) (ts.drop j)
 rw [List.take_append_drop] at e
 rw [e];simp
theorem qp (ps:List Pr) (k:Nat):(az (ps.take k)).length≤(az ps).length:=by
 have e:=mM (ps.take k) (ps.drop k)
 rw [List.take_append_drop] at e
 rw [e];simp
theorem qn {ps:List Pr} {k:Nat} {p:Pr} (h:ps[k]? = some p):az (ps.take (k+1))=az (ps.take k)++cA p.terms:=by
 obtain ⟨h1,h2⟩:=List.getElem?_eq_some_iff.1 h
 rw [List.take_succ_eq_append_getElem h1,h2];simp [az]
theorem rQ {ts:List Tm} {k:Nat} {t:Tm} (h:ts[k]? = some t):cA (ts.take (k+1))=cA (ts.take k)++(if t.kind=1 then [bs t.s] else []):=by
 obtain ⟨h1,h2⟩:=List.getElem?_eq_some_iff.1 h
 rw [List.take_succ_eq_append_getElem h1,h2]
 by_cases hk:t.kind=1<;>simp [cA,hk]
theorem vX:(Tryz.prog.info? 9).map (fun i=>(i.zero,i.size,i.bytes))=some (some (.string ⟨#[]⟩),1,16):=by kernel_rfl
theorem jW.later {w w':World} {base:Nat} {v:Value} {L:List aZ} (h:jW w base v L) (hb:Below w.heap.size w w'):jW w' base v L:=by
 refine ⟨h.1,?_⟩
 rcases h.2 with h2 | ⟨g,cap,cur,hv,hg,hh,r⟩
 ·exact .inl h2
 ·refine .inr ⟨g,cap,cur,hv,hg,?_,r⟩
  have hlt:g<w.heap.size:=by
   rcases Nat.lt_or_ge g w.heap.size with h' | h'
   ·exact h'
   ·rw [Array.getElem?_eq_none h'] at hh;cases hh
  rw [hb.block g hlt];exact hh
theorem jW.reads {w:World} {base:Nat} {v:Value} {L:List aZ} (h:jW w base v L) (hl:∀l∈L,l.length≤140737488351232) (hn:L.length≤1000000):∃A c,v=.slice A L.length c∧L.length≤c∧RL cX w w.heap.size (L.map mkS) A:=by
 rcases h.2 with ⟨h1,h2⟩ | ⟨g,cap,cur,hv,hg,hh,h1,h2,h3,h4⟩
 ·refine ⟨none,0,by rw [h1,h2],by omega,?_⟩
  intro h0
  simp [h2] at h0
 ·refine ⟨_,cap,hv,h1,fun _=>⟨g,0,rfl,?_,fun i hi=>?_⟩⟩
  ·rcases Nat.lt_or_ge g w.heap.size with h' | h'
   ·exact h'
   ·rw [Array.getElem?_eq_none h'] at hh;cases hh
  ·have hi':i<L.length:=by simpa using hi
   refine ⟨[.string (mkS L[i])],rfl,⟨mkS L[i],by simp [hi'],rfl,?_⟩,fun j v hj=>?_⟩
   ·have:=hl L[i] (List.getElem_mem hi')
    show (mkS L[i]).size≤_
    rw [Lib.size_eq]
    simpa [mkS] using this
   ·match j,hj with
    | 0,hj=>
      have hj:Value.string (mkS L[i])=v:=by simpa using hj
      subst hj
      have hc:cur[i]? = some (encStr L[i]):=by
       have:(cur.toList.take (L.length*1))[i]? = (L.map encStr)[i]?:=by rw [h4]
       rw [List.getElem?_take,if_pos (by omega),List.getElem?_map,AO hi'] at this
       simpa using this
      show World.cell? w ⟨g,0+i*1+0,none⟩=_
      simp [World.cell?,hh,hc,encStr,mkS]
theorem lT (d:Nat) (ps:List Pr) (A:Option Addr) (c B:Nat) (w:World) (hl:RL (PrR d) w B ps A) (hB:B≤w.heap.size) (hn:ps.length≤140737488351232) (hcount:(az ps).length≤1000000) :
 Calls Tryz.prog 90 #[.slice A ps.length c] w fun e w'=>∃v,e=.returned v∧jW w' w.heap.size v (eB (az ps))∧Below w.heap.size w w':=by
 obtain ⟨i0,hi,hz0,hz1,hz2⟩:=info_parts vX
 go_enter Tryz.func90,Tryz.ntmps90
 go_wp2_with fail
 go_loopw [3,10] (fun v i wr=>∃k:Nat,k≤ps.length∧i=.int .i64 k∧jW wr w.heap.size v (az (ps.take k))∧Below w.heap.size w wr) (fun _ i _=>ps.length-(intOf i).toNat)
 case atStart=>exact ⟨0,AH _,rfl,World.ownsRow_nil _ _ _ _,AI _ _⟩
 case round=>
  obtain ⟨k,hk,rfl,hown,hbw⟩:=hrel
  by_cases hlt:k<ps.length
  ·obtain ⟨b,off,rfl,hb⟩:=hl.base hbw hB (by omega)
   obtain ⟨p,vs,hx,hlen,hcell,hr⟩:=hl.at0 hbw hB hlt
   obtain ⟨_,rfl,hs,A',c',rfl,hc1,hc2,hl'⟩:=hr
   have c0:wr.cell? ⟨b,off+k*2,none⟩=some (.string p.name):=hcell 0 _ rfl
   have c1:wr.cell? ⟨b,off+k*2+1,none⟩=some (.slice A' p.terms.length c'):=hcell 1 _ rfl
   simp only [TmR] at hc2
   have HX:=AE (qn hx)
   have HT:=AE (qp ps (k+1))
   clear hcell hlen hx
   go_wp2_with fail
   have hbw2:Below w.heap.size w (wr.alloc (.cells #[.string p.name,.slice A' p.terms.length c'] 26)):=hbw.alloc hbw.size _
   have hown2:jW (wr.alloc (.cells #[.string p.name,.slice A' p.terms.length c'] 26)) w.heap.size u3 (az (ps.take k)):=hown.alloc _
   have hsz2:wr.heap.size<(wr.alloc (.cells #[.string p.name,.slice A' p.terms.length c'] 26)).heap.size:=by simp
   have hsz:=hbw.size
   clear hbw hown c0 c1 hl
   generalize (wr.alloc (.cells #[.string p.name,.slice A' p.terms.length c'] 26))=W at *
   go_loopw [3,17] (fun v i wr2=>∃j:Nat,j≤p.terms.length∧i=.int .i64 j∧jW wr2 w.heap.size v (az (ps.take k)++cA (p.terms.take j))∧Below w.heap.size w wr2) (fun _ i _=>p.terms.length-(intOf i).toNat)
   case atStart=>exact ⟨0,AH _,rfl,by simpa [cA] using hown2,hbw2⟩
   case round=>
    obtain ⟨j,hj,rfl,hown3,hbw3⟩:=hrel
    by_cases hlt2:j<p.terms.length
    ·obtain ⟨b',off',rfl,hb'⟩:=hl'.base hbw3 hB (by omega)
     obtain ⟨x,vs,hx,hlen,hcell,hr⟩:=hl'.at0 hbw3 hB hlt2
     obtain ⟨Ax,cx,rfl,_⟩:=RTm.cells hr
     have c0:wr.cell? ⟨b',off'+j*4,none⟩=some (.int .i64 x.kind):=hcell 0 _ rfl
     have c1:wr.cell? ⟨b',off'+j*4+1,none⟩=some (.int .i64 x.n):=hcell 1 _ rfl
     have c2:wr.cell? ⟨b',off'+j*4+2,none⟩=some (.string x.s):=hcell 2 _ rfl
     have c3:wr.cell? ⟨b',off'+j*4+3,none⟩=some (.slice Ax x.l.length cx):=hcell 3 _ rfl
     have HX2:=AE (rQ hx)
     have HT2:=AE (mo p.terms (j+1))
     have HO:=AE hown3
     have HG:=AE (fun g (hg:u3.ownBlock=some g)=>((HO.out.lt g hg).1:w.heap.size≤g))
     have HL:Hid ((az (ps.take k)).length+(cA (p.terms.take j)).length≤1000000):=by
      have h1:=HT.out
      rw [HX.out,AK] at h1
      have h2:=mo p.terms j
      exact (by omega:(az (ps.take k)).length+(cA (p.terms.take j)).length≤1000000)
     have hszr:=hbw3.size
     clear hcell hlen hx hr hown3
     by_cases hk1:(x.kind==1)=true
     ·have HK:=AE hk1
      go_wp2_with (at_builtin;refine wpList_append_own _ rfl (.tmp 24) (.tmp 27) 112 rfl w.heap.size 9 i0 (.string ⟨#[]⟩) 1 16 Tryz.underlying112 hi hz0 hz1 hz2 rfl (by decide) _ _ _ rfl (World.ownsRow.alloc (World.ownsRow.alloc HO.out _) _) ⟨wr.heap.size+1,0,none⟩ 1 1 [.string x.s] rfl rfl ?c1 ?c2 ?c3 ?c4 ?c5 ?_)
      case c1=>
       intro i u hi
       match i,hi with
       | 0,hi=>
         simp only [AU,AP] at hi
         subst hi
         simp [Addr.add]
      case c2=>intro u hu;simp at hu;subst hu;rfl
      case c3=>have:=HL.out;unfold maxLen;rw [AK];omega
      case c4=>have:=HL.out;rw [AK];omega
      case c5=>simp;omega
      intro v' w' hown' hgrow _
      have hnew:jW w' w.heap.size v' (az (ps.take k)++cA (p.terms.take (j+1))):=by
       have:=HK.out
       rw [beq_iff_eq] at this
       rw [HX2.out,if_pos this]
       unfold jW
       simpa [pj,Nat.add_assoc] using hown'
      have hbelow:Below w.heap.size w w':=by
       refine Below.grown (w:=(wr.alloc _).alloc _) ((hbw3.alloc hszr _).alloc (by simp;omega) _) hgrow (by simp;omega) ?_
       intro g hg
       exact HG.out g hg
      clear hown' hgrow
      go_wp2
      go_roundw
      case rel=>exact ⟨j+1,by omega,by go_num,hnew,hbelow⟩
      case measure=>simp [intOf];omega
     ·have hk1:(x.kind==1)=false:=by simpa using hk1
      have HK:=AE hk1
      have hnew:jW (wr.alloc (.cells #[.int .i64 x.kind,.int .i64 x.n,.string x.s,.slice Ax x.l.length cx] 29)) w.heap.size u3 (az (ps.take k)++cA (p.terms.take (j+1))):=by
       have:=HK.out
       rw [beq_eq_false_iff_ne] at this
       rw [HX2.out,if_neg this,List.append_nil]
       exact World.ownsRow.alloc HO.out _
      have HN:=AE hnew
      have HBel:=AE (fun o:Obj=>hbw3.alloc hszr o)
      clear hnew
      go_wp2_with fail
      go_roundw
      case rel=>exact ⟨j+1,by omega,by go_num,HN.out,HBel.out _⟩
      case measure=>simp [intOf];omega
    ·go_wp2_with fail
     go_roundw
     case rel=>exact ⟨k+1,by omega,by go_num,by
      rw [HX.out]
      rw [List.take_of_length_le (l:=p.terms) (by omega)] at hown3
      exact hown3,hbw3⟩
     case measure=>simp [intOf];omega
  ·have hown':jW wr w.heap.size u3 (az ps):=by rwa [List.take_of_length_le (by omega)] at hown
   have HO:=AE hown'
   clear hown hown'
   go_wp2_with fail
   refine (qg _ w.heap.size _ _ HO.out hbw.size (by omega)).mono ?_
   rintro e w1 ⟨rfl,hs1,hb1⟩
   have HS:=AE hs1
   have HB1:=AE (hbw.trans hb1)
   clear hs1 hb1
   go_wp2_with fail
   refine (jZ _ w.heap.size _ _ HS.out (by rw [cJ];omega)).mono ?_
   rintro e w2 ⟨v',rfl,hs2,hb2⟩
   have HS2:=AE hs2
   have HB2:=AE (HB1.out.trans hb2)
   clear hs2 hb2
   go_wp2_with fail
   go_ret
   exact ⟨_,rfl,HS2.out,HB2.out⟩
def iY (names others:List aZ):Bool:=names.all (fun s=>decide (s∈others))
theorem pz (L:List aZ) (A:Option Addr) (c B G:Nat) (w:World) (hl:RL cX w B (L.map mkS) A) (hB:B≤w.heap.size) (hn:L.length≤1000000) (hs:L.Pairwise (· < ·))
 (hG:w.cell? ⟨G,0,none⟩=some (.slice A L.length c)) :
 bW Tryz.prog cX Aj B w 116 #[.pointer (some ⟨G,0,none⟩)] (fun s=>!decide (bs s∈L)):=by
 intro s vs w1 hb hr
 obtain ⟨rfl,hsz⟩:=hr
 have hGl:G<w.heap.size:=block_lt_of_cell hG
 have hG1:w1.cell? ⟨G,0,none⟩=some (.slice A L.length c):=(hb.cell (p:=⟨G,0,none⟩) hGl).trans hG
 have hGl1:G<w1.heap.size:=by have:=hb.size;omega
 have HL:=AE (hl.keep hb hB)
 have hB1:B≤w1.heap.size:=by have:=hb.size;omega
 clear hl hG
 show Calls Tryz.prog 116 #[.string s,.pointer (some ⟨G,0,none⟩)] w1 _
 go_enter Tryz.func116,Tryz.ntmps116
 go_wp2_with (go_at_call 117;refine (ik L A c B s _ HL.out hB1 hn hs).mono ?_;rintro e w' ⟨rfl,rfl⟩)
 go_ret
 exact ⟨rfl,AI _ _⟩
theorem pB (M L:List aZ) (A' A:Option Addr) (c' c B:Nat) (w:World) (hm:RL cX w B (M.map mkS) A') (hl:RL cX w B (L.map mkS) A) (hB:B≤w.heap.size) (hn':M.length≤1000000) (hn:L.length≤1000000) (hs:L.Pairwise (· < ·)) :
 Calls Tryz.prog 89 #[.slice A' M.length c',.slice A L.length c] w fun e w'=>e=.returned (.bool (iY M L))∧Below w.heap.size w w':=by
 have HB:=AE (fun o:Obj=>(AI w.heap.size w).alloc (AG _) o)
 have HM:=AE hm
 have HL:=AE hl
 clear hm hl
 go_enter Tryz.func89,Tryz.ntmps89
 go_wp2_with fail
 have h:=fH 116 #[.pointer (some ⟨w.heap.size,0,none⟩)] (fun s=>!decide (bs s∈L)) (M.map mkS) A' c' B (w.alloc (.cells #[.slice A L.length c] 112)) (ent Tryz.func116 (by kernel_rfl) rfl)
  (HM.out.keep (HB.out _) hB) (AF hB (HB.out _).size) (by simp;omega) (pz L A c B w.heap.size _ (HL.out.keep (HB.out _) hB) (AF hB (HB.out _).size) hn hs (by go_simp))
 rw [AM] at h
 refine h.mono ?_
 clear h
 rintro e w1 ⟨rfl,hb1⟩
 have hfin:=AE ((HB.out _).trans (hb1.mono (HB.out _).size))
 clear hb1
 go_wp2_with fail
 go_ret
 exact ⟨ac (by simp [iY,List.all_eq_not_any_not,List.any_map,Function.comp_def,jX]),hfin.out⟩
end Go.Proofs.YtjpndglegpcdnaaGreat
