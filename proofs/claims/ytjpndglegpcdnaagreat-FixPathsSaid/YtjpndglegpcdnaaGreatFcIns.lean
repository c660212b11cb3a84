/- slices.Insert, one element, at facts. -/
import Derived.Test.YtjpndglegpcdnaaGreatJoIns
import Derived.Test.YtjpndglegpcdnaaGreatFc3
set_option linter.unusedVariables false
set_option linter.unusedSimpArgs false
set_option maxRecDepth 100000
set_option maxHeartbeats 8000000
namespace Go.Proofs.YtjpndglegpcdnaaGreat
open Go.ChangeShapes Go.WideShapes Go.ChangeAt Go.RowKit
theorem sa {base B g c i G n:Nat} {w:World} {xs:List FV} {y:FV} {ys cur:Array Value} {T:TypeId} (hn:xs.length=n) (hbg:base≤g) (hh:w.heap[g]? = some (.cells cur 33 (0,0))) (hroom:n+1≤c) (hc:c≤9223372036854775807) (hs:cur.size=c*3)
 (hf:bA FvR w B xs (cur.toList.take (n*3))) (hy:(FvR).rd w B y ys.toList) (hG:bN w G ys T) (hne:G≠g) (hi:i<n) (hB:B≤base) :
 Calls Tryz.prog 48 #[.slice (some ⟨g,0,none⟩) n c,.int .i64 i,.slice (some ⟨G,0,none⟩) 1 1] w fun z w'=>z=.returned (.slice (some ⟨g,0,none⟩) (n+1) c)∧am FvR 33 w' base B (.slice (some ⟨g,0,none⟩) (n+1) c) (du xs i y)∧w.grownBy w' (some g):=by
 have hyl:ys.size=3:=by have h:ys.toList.length=3:=(FvR).len hy;simpa using h
 have hsz:(Tryz.prog.info? 33).map (·.size)=some 3:=by
  obtain ⟨i0,hi0,h0,h1,h2⟩:=info_parts eR
  rw [hi0];simp [h1]
 have hgs:w.shape? g=some (33,cur.size):=by simp [World.shape?,hh]
 have hGs:w.shape? G=some (T,ys.size):=by simp [World.shape?,show w.heap[G]? = some (.cells ys T (0,0)) from hG]
 have hGf:∀o,w.frozen? ⟨G,o,none⟩=false:=fun o=>Blk.free (show Blk w G ys from ⟨T,hG⟩) o
 have hov:∀off lb cb,(callFunc 69 #[.slice (some ⟨G,0,none⟩) 1 1,.slice (some ⟨g,off,none⟩) lb cb]).run Tryz.prog w=.ok (.value (.bool false)) w:=fun off lb cb=>by
  rw [run_callFunc_extern Tryz.func69 (by kernel_rfl) (by kernel_rfl) (by kernel_rfl) (e:=Extern.SlicesOverlaps.overlaps #[23,23] #[4]) (by kernel_rfl),
   Lib.run_overlaps_apart w 23 4 33 Tryz.underlying23 3 (by intro w;kernel_rfl) ⟨G,0,none⟩ ⟨g,off,none⟩ 1 1 lb cb hne T 33 ys.size cur.size hGs hgs (by rw [hs];omega) (hGf 0) (hGf _)]
  rfl
 have hcl:((cur.toList.drop (i*3)).take ((n-i)*3)).length=(n-i)*3:=by rw [yF,List.length_drop,yA,hs];omega
 obtain ⟨row1,hrow1⟩:∃r:Array Value,r=(splice cur.toList ((i+1)*3) ((cur.toList.drop (i*3)).take ((n-i)*3))).toArray:=⟨_,rfl⟩
 have hone:∀v∈cur.toList.take (n*3),v.oneCell'=true:=hf.single bQ
 have hcp1:∀ty dc sc,(Builtin.copy_ #[23,23] ty #[.slice (some ⟨g,(i+1)*3,none⟩) (n-i) dc,.slice (some ⟨g,i*3,none⟩) (n+1-i) sc]).run Tryz.prog w.drew=.ok (goInt ((n-i:Nat):Int)) (w.drew.setRow g row1):=fun ty dc sc=>by
  have h:=aI (P:=Tryz.prog) w.drew 23 23 ty 33 3 g ((i+1)*3) (n+1-(i+1)) dc ⟨g,i*3,none⟩ (n+1-i) sc cur 33 ((cur.toList.drop (i*3)).take ((n-i)*3)) Tryz.underlying23 hsz hh
   (by rw [hcl,mw hi]) (fun j v hj=>by
    rw [Addr.add_lit]
    refine (cell_of_row w g _ cur 33 (0,0) hh).trans ?_
    rw [List.getElem?_take] at hj
    split at hj
    ·rw [List.getElem?_drop] at hj;simpa using hj
    ·cases hj) (by rw [hcl,hs];omega) (fun v hv=>hone v (by
     have e:cur.toList.take (n*3)=cur.toList.take (i*3)++(cur.toList.drop (i*3)).take ((n-i)*3):=by
      rw [←List.take_add];congr 1;omega
     rw [e];exact List.mem_append_right _ hv))
  rw [mw hi,←hrow1,show n+1-(i+1)=n-i by omega] at h
  exact h
 have hr1:row1.size=cur.size:=by rw [hrow1,List.size_toArray,length_splice _ _ _ (by rw [hcl,yA,hs];omega),yA]
 have hcp2:∀(W:World),W.heap=(w.setRow g row1).heap→∀ty dc,(Builtin.copy_ #[23,23] ty #[.slice (some ⟨g,i*3,none⟩) (n+1-i) dc,.slice (some ⟨G,0,none⟩) 1 1]).run Tryz.prog W=.ok (goInt 1) (W.setRow g (splice row1.toList (i*3) ys.toList).toArray):=fun W hW ty dc=>by
  have hWg:W.heap[g]? = some (.cells row1 33 (0,0)):=by rw [hW];exact setRow_heap w g cur row1 33 (0,0) hh
  have hWG:W.heap[G]? = some (.cells ys T (0,0)):=by rw [hW,setRow_other w g G row1 hne];exact hG
  have h1:Nat.min 1 (n+1-i)=1:=by simp only [Nat.min_def];split<;>omega
  have h:=aI (P:=Tryz.prog) W 23 23 ty 33 3 g (i*3) (n+1-i) dc ⟨G,0,none⟩ 1 1 row1 33 ys.toList Tryz.underlying23 hsz hWg
   (by rw [h1,yA,hyl]) (fun j v hj=>by
    rw [Addr.add_lit]
    refine (cell_of_row W G _ ys T (0,0) hWG).trans ?_
    simpa using hj) (by rw [yA,hyl,hr1,hs];omega) (bA.single bQ (bA.one hy))
  rw [h1] at h
  exact h
 have hw1:IntKind.i64.wrap ((i:Int)+1)=(i:Int)+1:=by rw [IntKind.wrap_i64];omega
 have hw2:IntKind.i64.wrap ((n:Int)+1)=(n:Int)+1:=by rw [IntKind.wrap_i64];omega
 have hz2:¬((i:Int)=(n:Int)):=by omega
 have hz3:¬((c:Int)<(n:Int)+1):=by omega
 have hb1:(0:Int)≤(i:Int)+1:=by omega
 have hin:i≤n:=by omega
 have htn:((i:Int)+1).toNat=i+1:=by omega
 have hb2:¬(c=i+1):=by omega
 have hb3:(i:Int)≤(n:Int)+1:=by omega
 have hb4:¬(c=i):=by omega
 have mixed:Tryz.prog.follows .mixedOrders=true:=by kernel_rfl
 have HF:=ym hf
 have HROW:=ym hrow1
 have hrow:(splice row1.toList (i*3) ys.toList).take ((n+1)*3)=(cur.toList.take (n*3)).take (i*3)++ys.toList++(cur.toList.take (n*3)).drop (i*3):=by
  have e:=fK (cur:=cur.toList) (ys:=ys.toList) (a:=i*3) (b:=(n-i)*3) (k:=3) (by rw [yA,hyl]) (by rw [yA,hs];omega)
  rw [show i*3+3+(n-i)*3=(n+1)*3 by omega,show i*3+3=(i+1)*3 by omega] at e
  rw [hrow1,e,List.take_take,Nat.min_eq_left (by omega),List.drop_take,show n*3-i*3=(n-i)*3 by omega]
 have hsz2:(splice row1.toList (i*3) ys.toList).length=c*3:=by rw [length_splice _ _ _ (by rw [yA,yA,hyl,hr1,hs];omega),yA,hr1,hs]
 have HEND:Hid (am FvR 33 ((w.drew.setRow g row1).setRow g (splice row1.toList (i*3) ys.toList).toArray) base B (.slice (some ⟨g,0,none⟩) (n+1) c) (du xs i y)∧w.grownBy ((w.drew.setRow g row1).setRow g (splice row1.toList (i*3) ys.toList).toArray) (some g)):=ym (by
  have hgr:w.grownBy ((w.drew.setRow g row1).setRow g (splice row1.toList (i*3) ys.toList).toArray) (some g):=⟨rfl,rfl,rfl,by simp [World.setRow],fun k hk hne=>(setRow_other (w.drew.setRow g row1) g k _ (fun e=>hne (by rw [e]))).trans (setRow_other w.drew g k row1 (fun e=>hne (by rw [e])))⟩
  refine ⟨?_,hgr⟩
  subst hn
  exact am.laid (R:=FvR) (cells:=cur.toList.take (xs.length*3)) (ys:=ys.toList) hbg (setRow_heap (w.drew.setRow g row1) g row1 _ 33 (0,0) (setRow_heap w.drew g cur row1 33 (0,0) hh)) hroom hc (by rw [List.size_toArray];exact hsz2) hf hy (Nat.le_of_lt hi) hrow ((yq B w).grown hgr (yn hB (yn hbg (Nat.le_of_lt (Array.getElem?_eq_some_iff.1 hh).1))) (fun k hk=>by simp only [yz] at hk;omega)))
 clear hrow1 hrow hsz2
 have HONE:=ym hone
 clear hf hone hcl hgs hGs hGf
 go_enter Tryz.func48,Tryz.ntmps48
 go_wp2_with (simp only [hov])
 go_region_law_o (refine df rfl _ _ 23 23 rfl _ _ (by simp [Act.eval,Act.put]) (by simp [Act.eval,Act.put]) (hcp1 _ _ _) ?_)
 go_wp2_with (refine bZ _ rfl _ _ 23 23 rfl _ _ rfl rfl (hcp2 _ (by rfl) _ _) ?_)
 go_ret
 exact ⟨rfl,HEND.out⟩
theorem rZ {base B g c i G n:Nat} {w:World} {xs:List FV} {y:FV} {ys cur:Array Value} {T:TypeId} (hn:xs.length=n) (hbg:base≤g) (hh:w.heap[g]? = some (.cells cur 33 (0,0))) (hnc:n≤c) (hroom:c<n+1) (hbig:(n+1)*48≤140737488355328) (hs:cur.size=c*3)
 (hf:bA FvR w B xs (cur.toList.take (n*3))) (hy:(FvR).rd w B y ys.toList) (hG:bN w G ys T) (hi:i<n) (hB:B≤base) :
 Calls Tryz.prog 48 #[.slice (some ⟨g,0,none⟩) n c,.int .i64 i,.slice (some ⟨G,0,none⟩) 1 1] w fun z w'=>∃c',z=.returned (.slice (some ⟨w.heap.size,0,none⟩) (n+1) c')∧am FvR 33 w' base B (.slice (some ⟨w.heap.size,0,none⟩) (n+1) c') (du xs i y)∧w.grownBy w' (some g):=by
 obtain ⟨i0,hi0,hz0,hzs,hzb⟩:=info_parts eR
 have hyl:ys.size=3:=by have h:ys.toList.length=3:=(FvR).len hy;simpa using h
 have hsz:(Tryz.prog.info? 33).map (·.size)=some 3:=by rw [hi0];simp [hzs]
 have hgl:g<w.heap.size:=(Array.getElem?_eq_some_iff.1 hh).1
 have hGl:G<w.heap.size:=(Array.getElem?_eq_some_iff.1 hG).1
 have hkk:(n:Int)+1-(i:Int)=((n+1-i:Nat):Int):=by omega
 have hik:i+(n+1-i)=n+1:=by omega
 obtain ⟨cells,hcells⟩:∃cells,cells=cur.toList.take (n*3):=⟨_,rfl⟩
 rw [←hcells] at hf
 have hcl:cells.length=n*3:=by rw [hcells,yF,yA,hs];omega
 have hcs:∀j v,cells[j]? = some v→w.cell? ⟨g,j,none⟩=some v:=fun j v hj=>by
  rw [hcells,List.getElem?_take] at hj
  split at hj
  ·exact (cell_of_row w g _ cur 33 (0,0) hh).trans (by simpa using hj)
  ·cases hj
 have hold:(Builtin.firstCells i0.size i (.slice (some ⟨g,0,none⟩) i c)).run Tryz.prog w.drew=.ok (cells.take (i*3)).toArray w.drew:=by
  rw [hzs]
  exact run_firstCells_some w.drew 3 i ⟨g,0,none⟩ i c (cells.take (i*3)) (by rw [yF,hcl];omega) (fun j v hj=>by
   rw [Addr.add_lit]
   rw [List.getElem?_take] at hj
   split at hj
   ·simpa using hcs j v hj
   ·cases hj)
 have hrz:∀ty,(Builtin.append_ #[23,3] ty #[.slice (some ⟨g,0,none⟩) i c,.int .i64 ((n:Int)+1-(i:Int))]).run Tryz.prog w =
  .ok (.slice (some ⟨w.heap.size,0,none⟩) (n+1) (grownCap w (n+1) c 33)) (w.drew.alloc (.cells ((cells.take (i*3)).toArray++Builtin.zeroCells (Value.agg #[.string ⟨#[]⟩,.slice none 0 0,.int .u32 0]).cells (n+1-i)++Builtin.zeroCells (Value.agg #[.string ⟨#[]⟩,.slice none 0 0,.int .u32 0]).cells (grownCap w (n+1) c 33-(n+1))) 33)):=fun ty=>by
  have h:=Lib.run_append_grow_zeros w 23 3 ty 33 i0 _ .i64 .i64 Tryz.underlying23 Tryz.underlying3 hi0 hz0 (some ⟨g,0,none⟩) i c (cells.take (i*3)) hold (n+1-i) (by omega) (by omega) (by omega) (by omega) (by rw [hzb];omega) (by rw [hzb,hik];exact growslice_fits hroom hbig)
  rw [hik] at h
  rw [hkk]
  exact h
 obtain ⟨Gc,hGc⟩:∃Gc,Gc=grownCap w (n+1) c 33:=⟨_,rfl⟩
 obtain ⟨Z,hZ⟩:∃Z,Z=(Builtin.zeroCells (Value.agg #[.string ⟨#[]⟩,.slice none 0 0,.int .u32 0]).cells (n+1-i)).toList++(Builtin.zeroCells (Value.agg #[.string ⟨#[]⟩,.slice none 0 0,.int .u32 0]).cells (Gc-(n+1))).toList:=⟨_,rfl⟩
 obtain ⟨row0,hrow0⟩:∃r:Array Value,r=(cells.take (i*3)).toArray++Builtin.zeroCells (Value.agg #[.string ⟨#[]⟩,.slice none 0 0,.int .u32 0]).cells (n+1-i)++Builtin.zeroCells (Value.agg #[.string ⟨#[]⟩,.slice none 0 0,.int .u32 0]).cells (Gc-(n+1)):=⟨_,rfl⟩
 rw [←hGc,←hrow0] at hrz
 have hGn:n+1≤Gc:=by rw [hGc];exact grownCap_ge w _ _ _
 have hG63:Gc≤9223372036854775807:=by
  have:=grownCap_le_maxLen w (n+1) c 33 (by unfold maxLen;omega)
  rw [←hGc] at this
  unfold maxLen at this
  omega
 have hl0:row0.toList=cells.take (i*3)++Z:=by rw [hrow0,hZ];simp
 have hs0:row0.size=Gc*3:=by
  rw [hrow0,Array.size_append,Array.size_append,size_zeroCells,size_zeroCells,List.size_toArray,yF,hcl,show (Value.agg #[.string ⟨#[]⟩,.slice none 0 0,.int .u32 0]).cells.size=3 from rfl]
  omega
 have h0l:row0.toList.length=Gc*3:=by rw [yA];exact hs0
 have hyl2:ys.toList.length=3:=by rw [yA];exact hyl
 obtain ⟨rowA,hrowA⟩:∃r:Array Value,r=(splice row0.toList (i*3) ys.toList).toArray:=⟨_,rfl⟩
 have hsA:rowA.size=Gc*3:=by rw [hrowA,List.size_toArray,length_splice _ _ _ (by rw [hyl2,h0l];omega),h0l]
 have hAl:rowA.toList.length=Gc*3:=by rw [yA];exact hsA
 have hdl:(cells.drop (i*3)).length=(n-i)*3:=by rw [List.length_drop,hcl];omega
 obtain ⟨rowB,hrowB⟩:∃r:Array Value,r=(splice rowA.toList ((i+1)*3) (cells.drop (i*3))).toArray:=⟨_,rfl⟩
 have hsB:rowB.size=Gc*3:=by rw [hrowB,List.size_toArray,length_splice _ _ _ (by rw [hAl,hdl];omega),hAl]
 have hone:∀v∈cells,v.oneCell'=true:=hf.single bQ
 have hcpA:∀(W:World),W.heap=(w.alloc (.cells row0 33)).heap→∀ty dc,(Builtin.copy_ #[23,23] ty #[.slice (some ⟨w.heap.size,i*3,none⟩) (n+1-i) dc,.slice (some ⟨G,0,none⟩) 1 1]).run Tryz.prog W=.ok (goInt 1) (W.setRow w.heap.size rowA):=fun W hW ty dc=>by
  have hWg:W.heap[w.heap.size]? = some (.cells row0 33 (0,0)):=by rw [hW];exact heap_alloc_new w _
  have hWG:W.heap[G]? = some (.cells ys T (0,0)):=by rw [hW];exact (Below.heap_alloc _ _ _ hGl).trans hG
  have h1:Nat.min 1 (n+1-i)=1:=by simp only [Nat.min_def];split<;>omega
  have h:=aI (P:=Tryz.prog) W 23 23 ty 33 3 w.heap.size (i*3) (n+1-i) dc ⟨G,0,none⟩ 1 1 row0 33 ys.toList Tryz.underlying23 hsz hWg
   (by rw [h1,hyl2]) (fun j v hj=>by
    rw [Addr.add_lit]
    refine (cell_of_row W G _ ys T (0,0) hWG).trans ?_
    simpa using hj) (by rw [hyl2,hs0];omega) (bA.single bQ (bA.one hy))
  rw [h1,←hrowA] at h
  exact h
 have hmm:(n-i).min (n-i)=n-i:=Nat.min_self _
 have hcpB:∀(W:World),W.heap=((w.alloc (.cells row0 33)).setRow w.heap.size rowA).heap→∀ty dc sc,(Builtin.copy_ #[23,23] ty #[.slice (some ⟨w.heap.size,(i+1)*3,none⟩) (n-i) dc,.slice (some ⟨g,i*3,none⟩) (n-i) sc]).run Tryz.prog W=.ok (goInt ((n-i:Nat):Int)) (W.setRow w.heap.size rowB):=fun W hW ty dc sc=>by
  have hWg:W.heap[w.heap.size]? = some (.cells rowA 33 (0,0)):=by rw [hW];exact setRow_heap _ w.heap.size row0 rowA 33 (0,0) (heap_alloc_new w _)
  have hWo:W.heap[g]? = some (.cells cur 33 (0,0)):=by rw [hW,setRow_other _ w.heap.size g rowA (by omega)];exact (Below.heap_alloc _ _ _ hgl).trans hh
  have h:=aI (P:=Tryz.prog) W 23 23 ty 33 3 w.heap.size ((i+1)*3) (n-i) dc ⟨g,i*3,none⟩ (n-i) sc rowA 33 (cells.drop (i*3)) Tryz.underlying23 hsz hWg
   (by rw [hdl,hmm]) (fun j v hj=>by
    rw [Addr.add_lit]
    rw [List.getElem?_drop,hcells,List.getElem?_take] at hj
    split at hj
    ·exact (cell_of_row W g _ cur 33 (0,0) hWo).trans (by simpa using hj)
    ·cases hj) (by rw [hdl,hsA];omega) (fun v hv=>hone v (List.mem_of_mem_drop hv))
  rw [hmm,←hrowB] at h
  exact h
 have hw1:IntKind.i64.wrap ((i:Int)+1)=(i:Int)+1:=by rw [IntKind.wrap_i64];omega
 have hw2:IntKind.i64.wrap ((n:Int)+1)=(n:Int)+1:=by rw [IntKind.wrap_i64];omega
 have hw3:IntKind.i64.wrap ((n:Int)+1-(i:Int))=(n:Int)+1-(i:Int):=by rw [IntKind.wrap_i64];omega
 have hz2:¬((i:Int)=(n:Int)):=by omega
 have hz3:(c:Int)<(n:Int)+1:=by omega
 have hb1:(0:Int)≤(i:Int)+1:=by omega
 have hin:i≤n:=by omega
 have hin1:i+1≤n+1:=by omega
 have hic:i≤c:=by omega
 have htn:((i:Int)+1).toNat=i+1:=by omega
 have hGi:¬(Gc=i):=by omega
 have hGim:¬(Gc=i+1):=by omega
 have hci:¬(c=i):=by omega
 have hb3:(i:Int)≤(n:Int):=by omega
 have mixed:Tryz.prog.follows .mixedOrders=true:=by kernel_rfl
 have hrow:rowB.toList.take ((n+1)*3)=cells.take (i*3)++ys.toList++cells.drop (i*3):=by
  have e:=fM (A:=cells.take (i*3)) (Z:=Z) (ys:=ys.toList) (D:=cells.drop (i*3)) (a:=i*3) (k:=3) (by rw [yF,hcl];omega) hyl2 (by rw [←hl0,h0l,hdl];omega)
  rw [hdl,show i*3+3+(n-i)*3=(n+1)*3 by omega,show i*3+3=(i+1)*3 by omega,←hl0] at e
  rw [hrowB,hrowA]
  exact e
 have HEND:Hid (∀W':World,W'.heap=(((w.alloc (.cells row0 33)).setRow w.heap.size rowA).setRow w.heap.size rowB).heap→W'.os=w.os→W'.tape=w.tape→W'.output=w.output→am FvR 33 W' base B (.slice (some ⟨w.heap.size,0,none⟩) (n+1) Gc) (du xs i y)∧w.grownBy W' (some g)):=ym (fun W' e1 e2 e3 e4=>by
  have hgr:w.grownBy W' (some g):=⟨e2,e3,e4,by rw [e1];simp [World.setRow],fun k hk hne=>by
   rw [e1]
   exact (setRow_other _ w.heap.size k _ (by omega)).trans ((setRow_other _ w.heap.size k _ (by omega)).trans (Below.heap_alloc _ _ _ hk))⟩
  refine ⟨?_,hgr⟩
  subst hn
  exact am.laid (R:=FvR) (cells:=cells) (ys:=ys.toList) (yn hbg (Nat.le_of_lt hgl)) (by rw [e1];exact setRow_heap _ w.heap.size rowA _ 33 (0,0) (setRow_heap _ w.heap.size row0 rowA 33 (0,0) (heap_alloc_new w _))) hGn hG63 hsB hf hy (Nat.le_of_lt hi) hrow ((yq B w).grown hgr (yn hB (yn hbg (Nat.le_of_lt hgl))) (fun k hk=>by simp only [yz] at hk;omega)))
 clear h0l hyl2 hAl hrow hsB hdl hsA hs0 hl0 hrow0 hrowA hrowB hZ hGc hold hkk hik hone hcs hcl hcells hf
 go_enter Tryz.func48,Tryz.ntmps48
 go_wp2_with (first
  | (at_builtin;refine Lib.wpList_append_run _ rfl _ _ _ _ rfl _ _ rfl rfl _ _ (hrz _) ?_)
  | (refine bZ _ rfl _ _ 23 23 rfl _ _ rfl rfl (hcpA _ (by rfl) _ _) ?_))
 go_region_law_o (refine df rfl _ _ 23 23 rfl (.slice (some ⟨w.heap.size,(i+1)*3,none⟩) (n-i) (Gc-(i+1))) (.slice (some ⟨g,i*3,none⟩) (n-i) (c-i)) (by simp [Act.eval,Act.put]) (by simp [Act.eval,Act.put]) (hcpB _ (by rfl) _ _ _) ?_)
 go_wp2
 go_ret
 exact ⟨Gc,rfl,HEND.out _ rfl rfl rfl rfl⟩
theorem ua {base i G n c:Nat} {A:Option Addr} {w:World} {xs:List FV} {y:FV} {ys:Array Value} {T:TypeId} (hn:xs.length=n) (hown:am FvR 33 w base 0 (.slice A n c) xs) (hbase:base≤w.heap.size) (hbig:(n+1)*48≤140737488355328)
 (hy:(FvR).rd w 0 y ys.toList) (hG:bN w G ys T) (hne:some G≠(Value.slice A n c).ownBlock) (hi:i≤n) :
 Calls Tryz.prog 48 #[.slice A n c,.int .i64 i,.slice (some ⟨G,0,none⟩) 1 1] w fun z w'=>∃A' c',z=.returned (.slice A' (n+1) c')∧am FvR 33 w' base 0 (.slice A' (n+1) c') (du xs i y)∧w.grownBy w' (Value.slice A n c).ownBlock∧bC w (.slice A n c) (.slice A' (n+1) c'):=by
 by_cases hend:i=n
 ·subst hend
  have HOWN:=ym hown
  have HSRC:Hid (gH FvR w 0 (some ⟨G,0,none⟩) [y]):=ym (xl hG (bA.one hy))
  have HPUT:Hid (du xs i y=xs++[y]):=ym (by unfold du;rw [List.take_of_length_le (by omega),List.drop_of_length_le (by omega)])
  obtain ⟨i0,hi0,hz0,hz1,hz2⟩:=info_parts eR
  have hform:(A=none∧i=0∧c=0)∨∃g,A=some ⟨g,0,none⟩∧i≤c∧c≤9223372036854775807:=by
   obtain ⟨cells,h,_⟩:=hown
   rcases h.2 with ⟨h1,h2⟩ | ⟨g,cap,cur,hv,hg,hh,k1,k2,_⟩
   ·simp only [yB] at h1
    exact .inl ⟨h1.1,h1.2.1,h1.2.2⟩
   ·simp only [yB] at hv
    obtain ⟨rfl,_,rfl⟩:=hv
    rw [hn] at k1
    exact .inr ⟨g,rfl,k1,k2⟩
  clear hown hG hne hy
  rcases hform with ⟨rfl,rfl,rfl⟩ | ⟨g,rfl,hic,hc63⟩
  ·go_enter Tryz.func48,Tryz.ntmps48
   go_wp2_with ((
    at_builtin
    refine bv (R:=FvR) (e:=33) (base:=base) (xs:=xs) (ys:=[y]) rfl (.tmp 23) (.tmp 24) 23 rfl (bytes:=48) Tryz.underlying23 hi0 hz0 hz1 hz2 rfl (show 0<3 by omega) bQ rfl HOWN.out rfl HSRC.out rfl (by simp only [yE,List.length_nil];omega) (by omega) hbase ?_
    intro v wn hown hg hf
    obtain ⟨A2,c2,hv⟩:∃A2 c2,v=.slice A2 (0+1) c2:=by have:=hown.form;rwa [yv,List.length_singleton,hn] at this
    subst hv
    have HOUT:Hid (_∧_∧_):=ym (And.intro hown (And.intro hg hf))
    clear hown hg hf))
   go_ret
   rw [HPUT.out]
   exact ⟨A2,c2,rfl,HOUT.out.1,HOUT.out.2.1,HOUT.out.2.2⟩
  ·go_enter Tryz.func48,Tryz.ntmps48
   go_wp2_with ((
    at_builtin
    refine bv (R:=FvR) (e:=33) (base:=base) (xs:=xs) (ys:=[y]) rfl (.tmp 23) (.tmp 24) 23 rfl (bytes:=48) Tryz.underlying23 hi0 hz0 hz1 hz2 rfl (show 0<3 by omega) bQ rfl HOWN.out rfl HSRC.out rfl (by simp only [yE,List.length_nil];omega) (by omega) hbase ?_
    intro v wn hown hg hf
    obtain ⟨A2,c2,hv⟩:∃A2 c2,v=.slice A2 (i+1) c2:=by have:=hown.form;rwa [yv,List.length_singleton,hn] at this
    subst hv
    have HOUT:Hid (_∧_∧_):=ym (And.intro hown (And.intro hg hf))
    clear hown hg hf))
   all_goals
    go_ret
    rw [HPUT.out]
    exact ⟨A2,c2,rfl,HOUT.out.1,HOUT.out.2.1,HOUT.out.2.2⟩
 ·have hlt:i<n:=by omega
  obtain ⟨cells,⟨hl,h⟩,hf⟩:=hown
  rcases h with ⟨h1,h2⟩ | ⟨g,cap,cur,hv,hg,hh,k1,k2,k3,k4⟩
  ·omega
  ·simp only [yB] at hv
   obtain ⟨rfl,_,rfl⟩:=hv
   have hGg:G≠g:=fun e=>hne (by rw [e];rfl)
   have k3:cur.size=c*3:=k3
   have hf:bA FvR w 0 xs (cur.toList.take (n*3)):=by
    have e:cur.toList.take (n*3)=cells:=by rw [←hn];exact k4
    rw [e];exact hf
   rw [hn] at k1
   by_cases hroom:n+1≤c
   ·exact (sa hn hg hh hroom k2 k3 hf hy hG hGg hlt (yp _)).mono fun z w' ⟨h1,h2,h3⟩=>⟨_,_,h1,h2,h3,.inl rfl⟩
   ·exact (rZ hn hg hh k1 (by omega) hbig k3 hf hy hG hlt (yp _)).mono fun z w' ⟨c',h1,h2,h3⟩=>⟨_,_,h1,h2,h3,.inr ⟨_,rfl,yo _⟩⟩
end Go.Proofs.YtjpndglegpcdnaaGreat
