/- slices.Insert, one element, into a slice of the call's own: the laws. -/
import Derived.Test.YtjpndglegpcdnaaGreatFc3
import Derived.Test.YtjpndglegpcdnaaGreatStk
import Derived.Test.YtjpndglegpcdnaaGreatJoLaw
import Derived.Lib.AppendZerosOnto
import Derived.Lib.Overlaps
import Derived.Laws.CopyRow
import Derived.Laws.CopyOwn
import Derived.Laws.NewBlocks
import Derived.Shelf.RegionOpenPlain
import Derived.RegionTactic
set_option linter.unusedVariables false
set_option linter.unusedSimpArgs false
set_option maxRecDepth 100000
set_option maxHeartbeats 8000000
namespace Go.Proofs.YtjpndglegpcdnaaGreat
open Go.ChangeShapes Go.WideShapes Go.ChangeAt Go.RowKit
theorem aN {P:Program} (w:World) (dT sT ty elem:TypeId) (k g o dLen dCap:Nat) (a:Addr) (sLen sCap:Nat) (cur:Array Value) (t:TypeId) (cs:List Value)
 (hu:P.underlying dT=some (.slice elem)) (hs:(P.info? elem).map (·.size)=some k)
 (hg:w.heap[g]? = some (.cells cur t (0,0))) (hn:cs.length=Nat.min sLen dLen*k)
 (hsrc:∀j v,cs[j]? = some v→w.cell? (a.add j)=some v) (hfit:o+cs.length≤cur.size) (h1:∀v∈cs,v.oneCell'=true) :
 (Builtin.copy_ #[dT,sT] ty #[.slice (some ⟨g,o,none⟩) dLen dCap,.slice (some a) sLen sCap]).run P w =
  .ok (goInt (Nat.min sLen dLen)) (w.setRow g (splice cur.toList o cs).toArray):=by
 have hl:=run_loadCells_list (P:=P) w a cs hsrc
 have hst:=run_storeCells_at P g o t cs 0 cur w hg (by simpa using hfit) h1
 cases hq:P.info? elem with
 | none=>simp [hq] at hs
 | some i=>
   have hi:i.size=k:=by simpa [hq] using hs
   simp [Builtin.copy_,run_underlying hu,Builtin.lenOf,Builtin.firstCells,sizeOf,typeInfo,hq,hi,←hn,hl,hst,splice]
theorem qq (w:World) {P:Program} {o:Oper} {a:Act} {K:Act→World→Prop} {Q:Exit→Act→World→Prop} (d s:Operand) (t t':TypeId)
 (ho:o.op=.call { callee:=.builtin .copy,args:=#[d,s],argTypes:=#[t,t'] }) (v u:Value) (hd:a.eval d=v) (hs:a.eval s=u) {v':Value} {w':World}
 (hr:(Builtin.copy_ #[t,t'] o.type #[v,u]).run P w=.ok v' w') (h:K (a.put o.dst v') w'):o.wp P a w K Q:=by
 unfold Oper.wp execOp
 simp only [ho,resolve,invoke,builtin,Sem.run_bind,Sem.run_pure,Result.andThen_ok,List.map_toArray,List.map_cons,List.map_nil,hd,hs,hr]
 exact h
theorem cd (w:World) {P:Program} {ops:Array Oper} {rest:List Oper} {o:Oper} {a:Act} {Q:Exit→Act→World→Prop} (hgd:o.guard=none) (d s:Operand) (t t':TypeId)
 (ho:o.op=.call { callee:=.builtin .copy,args:=#[d,s],argTypes:=#[t,t'] }) (v u:Value) (hd:a.eval d=v) (hs:a.eval s=u) {v':Value} {w':World}
 (hr:(Builtin.copy_ #[t,t'] o.type #[v,u]).run P w=.ok v' w') (h:wpList P ops Q rest (a.put o.dst v') w'):wpList P ops Q (o::rest) a w:=
 wpList_plain hgd fun _ hK=>qq w d s t t' ho v u hd hs hr (hK _ _ h)
theorem dq {P:Program} {ops:Array Oper} {o:Oper} {a:Act} {w:World} {K:Act→World→Prop} {Q:Exit→Act→World→Prop} {E:Prop}
 (hg:o.guard=none) (d x:Operand) (dT sT:TypeId) (hop:o.op=Op.call { callee:=Callee.builtin Builtin.copy,args:=#[d,x],argTypes:=#[dT,sT] })
 (v u:Value) (hd:a.eval d=v) (hx:a.eval x=u) {v':Value} {w':World} (hr:(Builtin.copy_ #[dT,sT] o.type #[v,u]).run P w=.ok v' w') (hK:K (a.put o.dst v') w') :
 if Region.wanted o (yielded ops a.tmps)=true then Oper.wp P o a w K Q else E:=by
 have hw:Region.wanted o (yielded ops a.tmps)=true:=by simp [Region.wanted,hg]
 rw [if_pos hw]
 exact qq w d x dT sT hop v u hd hx hr hK
section
variable {α:Type} {R:Reader α} {w w':World} {B base:Nat} {e:TypeId} {xs:List α} {y:α} {cells ys:List Value} {i n:Nat}
theorem bu.ins (h:bu R w B xs cells) (hy:R.rd w B y ys) (i:Nat):bu R w B (cM xs i y) (cells.take (i*R.k)++ys++cells.drop (i*R.k)):=by
 have:=((h.take i).append (bu.one hy)).append (h.drop i)
 simpa [cM,List.append_assoc] using this
theorem aq.laid {N cap:Nat} {row:Array Value} (hN:base≤N) (hW:w'.heap[N]? = some (.cells row e (0,0))) (hcap:xs.length+1≤cap) (hmax:cap≤maxLen) (hsz:row.size=cap*R.k)
 (hf:bu R w B xs cells) (hy:R.rd w B y ys) (hi:i≤xs.length) (hrow:row.toList.take ((xs.length+1)*R.k)=cells.take (i*R.k)++ys++cells.drop (i*R.k)) (hb:Below B w w') :
 aq R e w' base B (.slice (some ⟨N,0,none⟩) (xs.length+1) cap) (cM xs i y):=by
 have hf2:=(hf.ins hy i).keep hb (AG _)
 have hl:=bJ (x:=y) hi
 refine ⟨_,⟨hf2.1,.inr ⟨N,cap,row,by rw [hl],hN,hW,by rw [hl];exact hcap,hmax,hsz,?_⟩⟩,hf2⟩
 rw [hl];exact hrow
end
theorem nj {n i:Nat} (h:i<n):Nat.min (n+1-i) (n+1-(i+1))=n-i:=by simp only [Nat.min_def];split<;>omega
theorem gi {cur ys:List Value} {a b k:Nat} (hk:ys.length=k) (hab:a+b+k≤cur.length) :
 (splice (splice cur (a+k) ((cur.drop a).take b)) a ys).take (a+k+b)=cur.take a++ys++(cur.drop a).take b:=by
 have h1:((cur.drop a).take b).length=b:=by simp;omega
 have h2:(splice cur (a+k) ((cur.drop a).take b)).take a=cur.take a:=by
  unfold splice
  rw [List.take_append_of_le_length (by simp;omega),List.take_take]
  congr 1;omega
 have h3:(splice cur (a+k) ((cur.drop a).take b)).drop (a+k)=(cur.drop a).take b++cur.drop (a+k+b):=by
  unfold splice
  rw [List.drop_append_of_le_length (by simp;omega),List.drop_of_length_le (by simp;omega),h1]
  simp
 have e:splice (splice cur (a+k) ((cur.drop a).take b)) a ys=cur.take a++(ys++((cur.drop a).take b++cur.drop (a+k+b))):=by
  generalize splice cur (a+k) ((cur.drop a).take b)=S1 at h2 h3
  show S1.take a++(ys++S1.drop (a+ys.length))=_
  rw [hk,h2,h3]
 rw [e,←List.append_assoc,←List.append_assoc]
 rw [List.take_append_of_le_length (by simp [h1,hk];omega),List.take_of_length_le (by simp [h1,hk];omega)]
theorem gj {A Z ys D:List Value} {a k:Nat} (ha:A.length=a) (hk:ys.length=k) (hl:a+k+D.length≤(A++Z).length) :
 (splice (splice (A++Z) a ys) (a+k) D).take (a+k+D.length)=A++ys++D:=by
 subst ha;subst hk
 have e1:splice (A++Z) A.length ys=A++ys++Z.drop ys.length:=by
  unfold splice
  rw [List.take_left,List.drop_append,List.drop_of_length_le (by omega)]
  simp
 rw [e1]
 unfold splice
 have e2:(A++ys++Z.drop ys.length).take (A.length+ys.length)=A++ys:=by
  rw [List.take_append_of_le_length (by simp),List.take_of_length_le (by simp)]
 rw [e2,←List.append_assoc,List.take_append_of_le_length (by simp;omega),List.take_of_length_le (by simp;omega)]
theorem rh {base B g c i G n:Nat} {w:World} {xs:List ByteArray} {y:ByteArray} {ys cur:Array Value} {T:TypeId} (hn:xs.length=n) (hbg:base≤g) (hh:w.heap[g]? = some (.cells cur 9 (0,0))) (hroom:n+1≤c) (hc:c≤9223372036854775807) (hs:cur.size=c*1)
 (hf:bu cX w B xs (cur.toList.take (n*1))) (hy:(cX).rd w B y ys.toList) (hG:bS w G ys T) (hne:G≠g) (hi:i<n) (hB:B≤base) :
 Calls Tryz.prog 125 #[.slice (some ⟨g,0,none⟩) n c,.int .i64 i,.slice (some ⟨G,0,none⟩) 1 1] w fun z w'=>z=.returned (.slice (some ⟨g,0,none⟩) (n+1) c)∧aq cX 9 w' base B (.slice (some ⟨g,0,none⟩) (n+1) c) (cM xs i y)∧w.grownBy w' (some g):=by
 have hyl:ys.size=1:=by have h:ys.toList.length=1:=(cX).len hy;simpa using h
 have hsz:(Tryz.prog.info? 9).map (·.size)=some 1:=by
  obtain ⟨i0,hi0,h0,h1,h2⟩:=info_parts kK
  rw [hi0];simp [h1]
 have hgs:w.shape? g=some (9,cur.size):=by simp [World.shape?,hh]
 have hGs:w.shape? G=some (T,ys.size):=by simp [World.shape?,show w.heap[G]? = some (.cells ys T (0,0)) from hG]
 have hGf:∀o,w.frozen? ⟨G,o,none⟩=false:=fun o=>Blk.free (show Blk w G ys from ⟨T,hG⟩) o
 have hov:∀off lb cb,(callFunc 153 #[.slice (some ⟨G,0,none⟩) 1 1,.slice (some ⟨g,off,none⟩) lb cb]).run Tryz.prog w=.ok (.value (.bool false)) w:=fun off lb cb=>by
  rw [run_callFunc_extern Tryz.func153 (by kernel_rfl) (by kernel_rfl) (by kernel_rfl) (e:=Extern.SlicesOverlaps.overlaps #[112,112] #[4]) (by kernel_rfl),
   Lib.run_overlaps_apart w 112 4 9 Tryz.underlying112 1 (by intro w;kernel_rfl) ⟨G,0,none⟩ ⟨g,off,none⟩ 1 1 lb cb hne T 9 ys.size cur.size hGs hgs (by rw [hs];omega) (hGf 0) (hGf _)]
  rfl
 have hcl:((cur.toList.drop (i*1)).take ((n-i)*1)).length=(n-i)*1:=by rw [AW,List.length_drop,AQ,hs];omega
 obtain ⟨row1,hrow1⟩:∃r:Array Value,r=(splice cur.toList ((i+1)*1) ((cur.toList.drop (i*1)).take ((n-i)*1))).toArray:=⟨_,rfl⟩
 have hone:∀v∈cur.toList.take (n*1),v.oneCell'=true:=hf.single cD
 have hcp1:∀ty dc sc,(Builtin.copy_ #[112,112] ty #[.slice (some ⟨g,i+1,none⟩) (n-i) dc,.slice (some ⟨g,i,none⟩) (n+1-i) sc]).run Tryz.prog w.drew=.ok (goInt ((n-i:Nat):Int)) (w.drew.setRow g row1):=fun ty dc sc=>by
  have h:=aN (P:=Tryz.prog) w.drew 112 112 ty 9 1 g ((i+1)*1) (n+1-(i+1)) dc ⟨g,i*1,none⟩ (n+1-i) sc cur 9 ((cur.toList.drop (i*1)).take ((n-i)*1)) Tryz.underlying112 hsz hh
   (by rw [hcl,nj hi]) (fun j v hj=>by
    rw [Addr.add_lit]
    refine (cell_of_row w g _ cur 9 (0,0) hh).trans ?_
    rw [List.getElem?_take] at hj
    split at hj
    ·rw [List.getElem?_drop] at hj;simpa using hj
    ·cases hj) (by rw [hcl,hs];omega) (fun v hv=>hone v (by
     have e:cur.toList.take (n*1)=cur.toList.take (i*1)++(cur.toList.drop (i*1)).take ((n-i)*1):=by
      rw [←List.take_add];congr 1;omega
     rw [e];exact List.mem_append_right _ hv))
  rw [nj hi,←hrow1,show n+1-(i+1)=n-i by omega] at h
  simp only [Nat.mul_one] at h ⊢
  exact h
 have hr1:row1.size=cur.size:=by rw [hrow1,List.size_toArray,length_splice _ _ _ (by rw [hcl,AQ,hs];omega),AQ]
 have hcp2:∀(W:World),W.heap=(w.setRow g row1).heap→∀ty dc,(Builtin.copy_ #[112,112] ty #[.slice (some ⟨g,i,none⟩) (n+1-i) dc,.slice (some ⟨G,0,none⟩) 1 1]).run Tryz.prog W=.ok (goInt 1) (W.setRow g (splice row1.toList (i*1) ys.toList).toArray):=fun W hW ty dc=>by
  have hWg:W.heap[g]? = some (.cells row1 9 (0,0)):=by rw [hW];exact setRow_heap w g cur row1 9 (0,0) hh
  have hWG:W.heap[G]? = some (.cells ys T (0,0)):=by rw [hW,setRow_other w g G row1 hne];exact hG
  have h1:Nat.min 1 (n+1-i)=1:=by simp only [Nat.min_def];split<;>omega
  have h:=aN (P:=Tryz.prog) W 112 112 ty 9 1 g (i*1) (n+1-i) dc ⟨G,0,none⟩ 1 1 row1 9 ys.toList Tryz.underlying112 hsz hWg
   (by rw [h1,AQ,hyl]) (fun j v hj=>by
    rw [Addr.add_lit]
    refine (cell_of_row W G _ ys T (0,0) hWG).trans ?_
    simpa using hj) (by rw [AQ,hyl,hr1,hs];omega) (bu.single cD (bu.one hy))
  rw [h1] at h
  simp only [Nat.mul_one] at h ⊢
  exact h
 have hw1:IntKind.i64.wrap ((i:Int)+1)=(i:Int)+1:=by rw [IntKind.wrap_i64];omega
 have hw2:IntKind.i64.wrap ((n:Int)+1)=(n:Int)+1:=by rw [IntKind.wrap_i64];omega
 have hz2:¬((i:Int)=(n:Int)):=by omega
 have hz3:¬((c:Int)<(n:Int)+1):=by omega
 have hb1:(0:Int)≤(i:Int)+1:=by omega
 have hin:i≤n:=by omega
 have htn:((i:Int)+1).toNat=i+1:=by omega
 have hb2:¬(c=i+1):=by omega
 have hb3:(i:Int)≤(n:Int)+1:=by omega
 have hb4:¬(c=i):=by omega
 have mixed:Tryz.prog.follows .mixedOrders=true:=by kernel_rfl
 have HF:=AE hf
 have HROW:=AE hrow1
 have hrow:(splice row1.toList (i*1) ys.toList).take ((n+1)*1)=(cur.toList.take (n*1)).take (i*1)++ys.toList++(cur.toList.take (n*1)).drop (i*1):=by
  have e:=gi (cur:=cur.toList) (ys:=ys.toList) (a:=i*1) (b:=(n-i)*1) (k:=1) (by rw [AQ,hyl]) (by rw [AQ,hs];omega)
  rw [show i*1+1+(n-i)*1=(n+1)*1 by omega,show i*1+1=(i+1)*1 by omega] at e
  rw [hrow1,e,List.take_take,Nat.min_eq_left (by omega),List.drop_take,show n*1-i*1=(n-i)*1 by omega]
 have hsz2:(splice row1.toList (i*1) ys.toList).length=c*1:=by rw [length_splice _ _ _ (by rw [AQ,AQ,hyl,hr1,hs];omega),AQ,hr1,hs]
 have HEND:Hid (aq cX 9 ((w.drew.setRow g row1).setRow g (splice row1.toList (i*1) ys.toList).toArray) base B (.slice (some ⟨g,0,none⟩) (n+1) c) (cM xs i y)∧w.grownBy ((w.drew.setRow g row1).setRow g (splice row1.toList (i*1) ys.toList).toArray) (some g)):=AE (by
  have hgr:w.grownBy ((w.drew.setRow g row1).setRow g (splice row1.toList (i*1) ys.toList).toArray) (some g):=⟨rfl,rfl,rfl,by simp [World.setRow],fun k hk hne=>(setRow_other (w.drew.setRow g row1) g k _ (fun e=>hne (by rw [e]))).trans (setRow_other w.drew g k row1 (fun e=>hne (by rw [e])))⟩
  refine ⟨?_,hgr⟩
  subst hn
  exact aq.laid (R:=cX) (cells:=cur.toList.take (xs.length*1)) (ys:=ys.toList) hbg (setRow_heap (w.drew.setRow g row1) g row1 _ 9 (0,0) (setRow_heap w.drew g cur row1 9 (0,0) hh)) hroom hc (by rw [List.size_toArray];exact hsz2) hf hy (Nat.le_of_lt hi) hrow ((AI B w).grown hgr (AF hB (AF hbg (Nat.le_of_lt (Array.getElem?_eq_some_iff.1 hh).1))) (fun k hk=>by simp only [AP] at hk;omega)))
 simp only [Nat.mul_one] at HEND
 clear hrow1 hrow hsz2
 have HONE:=AE hone
 clear hf hone hcl hgs hGs hGf
 go_enter Tryz.func125,Tryz.ntmps125
 go_wp2_with (simp only [hov])
 go_region_law_o (refine dq rfl _ _ 112 112 rfl _ _ (by simp [Act.eval,Act.put]) (by simp [Act.eval,Act.put]) (hcp1 _ _ _) ?_)
 go_wp2_with (refine cd _ rfl _ _ 112 112 rfl _ _ rfl rfl (hcp2 _ (by rfl) _ _) ?_)
 go_ret
 exact ⟨rfl,HEND.out⟩
theorem tJ {base B g c i G n:Nat} {w:World} {xs:List SV} {y:SV} {ys cur:Array Value} {T:TypeId} (hn:xs.length=n) (hbg:base≤g) (hh:w.heap[g]? = some (.cells cur 29 (0,0))) (hroom:n+1≤c) (hc:c≤9223372036854775807) (hs:cur.size=c*4)
 (hf:bu SvR w B xs (cur.toList.take (n*4))) (hy:(SvR).rd w B y ys.toList) (hG:bS w G ys T) (hne:G≠g) (hi:i<n) (hB:B≤base) :
 Calls Tryz.prog 126 #[.slice (some ⟨g,0,none⟩) n c,.int .i64 i,.slice (some ⟨G,0,none⟩) 1 1] w fun z w'=>z=.returned (.slice (some ⟨g,0,none⟩) (n+1) c)∧aq SvR 29 w' base B (.slice (some ⟨g,0,none⟩) (n+1) c) (cM xs i y)∧w.grownBy w' (some g):=by
 have hyl:ys.size=4:=by have h:ys.toList.length=4:=(SvR).len hy;simpa using h
 have hsz:(Tryz.prog.info? 29).map (·.size)=some 4:=by
  obtain ⟨i0,hi0,h0,h1,h2⟩:=info_parts hJ
  rw [hi0];simp [h1]
 have hgs:w.shape? g=some (29,cur.size):=by simp [World.shape?,hh]
 have hGs:w.shape? G=some (T,ys.size):=by simp [World.shape?,show w.heap[G]? = some (.cells ys T (0,0)) from hG]
 have hGf:∀o,w.frozen? ⟨G,o,none⟩=false:=fun o=>Blk.free (show Blk w G ys from ⟨T,hG⟩) o
 have hov:∀off lb cb,(callFunc 155 #[.slice (some ⟨G,0,none⟩) 1 1,.slice (some ⟨g,off,none⟩) lb cb]).run Tryz.prog w=.ok (.value (.bool false)) w:=fun off lb cb=>by
  rw [run_callFunc_extern Tryz.func155 (by kernel_rfl) (by kernel_rfl) (by kernel_rfl) (e:=Extern.SlicesOverlaps.overlaps #[24,24] #[4]) (by kernel_rfl),
   Lib.run_overlaps_apart w 24 4 29 Tryz.underlying24 4 (by intro w;kernel_rfl) ⟨G,0,none⟩ ⟨g,off,none⟩ 1 1 lb cb hne T 29 ys.size cur.size hGs hgs (by rw [hs];omega) (hGf 0) (hGf _)]
  rfl
 have hcl:((cur.toList.drop (i*4)).take ((n-i)*4)).length=(n-i)*4:=by rw [AW,List.length_drop,AQ,hs];omega
 obtain ⟨row1,hrow1⟩:∃r:Array Value,r=(splice cur.toList ((i+1)*4) ((cur.toList.drop (i*4)).take ((n-i)*4))).toArray:=⟨_,rfl⟩
 have hone:∀v∈cur.toList.take (n*4),v.oneCell'=true:=hf.single ck
 have hcp1:∀ty dc sc,(Builtin.copy_ #[24,24] ty #[.slice (some ⟨g,(i+1)*4,none⟩) (n-i) dc,.slice (some ⟨g,i*4,none⟩) (n+1-i) sc]).run Tryz.prog w.drew=.ok (goInt ((n-i:Nat):Int)) (w.drew.setRow g row1):=fun ty dc sc=>by
  have h:=aN (P:=Tryz.prog) w.drew 24 24 ty 29 4 g ((i+1)*4) (n+1-(i+1)) dc ⟨g,i*4,none⟩ (n+1-i) sc cur 29 ((cur.toList.drop (i*4)).take ((n-i)*4)) Tryz.underlying24 hsz hh
   (by rw [hcl,nj hi]) (fun j v hj=>by
    rw [Addr.add_lit]
    refine (cell_of_row w g _ cur 29 (0,0) hh).trans ?_
    rw [List.getElem?_take] at hj
    split at hj
    ·rw [List.getElem?_drop] at hj;simpa using hj
    ·cases hj) (by rw [hcl,hs];omega) (fun v hv=>hone v (by
     have e:cur.toList.take (n*4)=cur.toList.take (i*4)++(cur.toList.drop (i*4)).take ((n-i)*4):=by
      rw [←List.take_add];congr 1;omega
     rw [e];exact List.mem_append_right _ hv))
  rw [nj hi,←hrow1,show n+1-(i+1)=n-i by omega] at h
  exact h
 have hr1:row1.size=cur.size:=by rw [hrow1,List.size_toArray,length_splice _ _ _ (by rw [hcl,AQ,hs];omega),AQ]
 have hcp2:∀(W:World),W.heap=(w.setRow g row1).heap→∀ty dc,(Builtin.copy_ #[24,24] ty #[.slice (some ⟨g,i*4,none⟩) (n+1-i) dc,.slice (some ⟨G,0,none⟩) 1 1]).run Tryz.prog W=.ok (goInt 1) (W.setRow g (splice row1.toList (i*4) ys.toList).toArray):=fun W hW ty dc=>by
  have hWg:W.heap[g]? = some (.cells row1 29 (0,0)):=by rw [hW];exact setRow_heap w g cur row1 29 (0,0) hh
  have hWG:W.heap[G]? = some (.cells ys T (0,0)):=by rw [hW,setRow_other w g G row1 hne];exact hG
  have h1:Nat.min 1 (n+1-i)=1:=by simp only [Nat.min_def];split<;>omega
  have h:=aN (P:=Tryz.prog) W 24 24 ty 29 4 g (i*4) (n+1-i) dc ⟨G,0,none⟩ 1 1 row1 29 ys.toList Tryz.underlying24 hsz hWg
   (by rw [h1,AQ,hyl]) (fun j v hj=>by
    rw [Addr.add_lit]
    refine (cell_of_row W G _ ys T (0,0) hWG).trans ?_
    simpa using hj) (by rw [AQ,hyl,hr1,hs];omega) (bu.single ck (bu.one hy))
  rw [h1] at h
  exact h
 have hw1:IntKind.i64.wrap ((i:Int)+1)=(i:Int)+1:=by rw [IntKind.wrap_i64];omega
 have hw2:IntKind.i64.wrap ((n:Int)+1)=(n:Int)+1:=by rw [IntKind.wrap_i64];omega
 have hz2:¬((i:Int)=(n:Int)):=by omega
 have hz3:¬((c:Int)<(n:Int)+1):=by omega
 have hb1:(0:Int)≤(i:Int)+1:=by omega
 have hin:i≤n:=by omega
 have htn:((i:Int)+1).toNat=i+1:=by omega
 have hb2:¬(c=i+1):=by omega
 have hb3:(i:Int)≤(n:Int)+1:=by omega
 have hb4:¬(c=i):=by omega
 have mixed:Tryz.prog.follows .mixedOrders=true:=by kernel_rfl
 have HF:=AE hf
 have HROW:=AE hrow1
 have hrow:(splice row1.toList (i*4) ys.toList).take ((n+1)*4)=(cur.toList.take (n*4)).take (i*4)++ys.toList++(cur.toList.take (n*4)).drop (i*4):=by
  have e:=gi (cur:=cur.toList) (ys:=ys.toList) (a:=i*4) (b:=(n-i)*4) (k:=4) (by rw [AQ,hyl]) (by rw [AQ,hs];omega)
  rw [show i*4+4+(n-i)*4=(n+1)*4 by omega,show i*4+4=(i+1)*4 by omega] at e
  rw [hrow1,e,List.take_take,Nat.min_eq_left (by omega),List.drop_take,show n*4-i*4=(n-i)*4 by omega]
 have hsz2:(splice row1.toList (i*4) ys.toList).length=c*4:=by rw [length_splice _ _ _ (by rw [AQ,AQ,hyl,hr1,hs];omega),AQ,hr1,hs]
 have HEND:Hid (aq SvR 29 ((w.drew.setRow g row1).setRow g (splice row1.toList (i*4) ys.toList).toArray) base B (.slice (some ⟨g,0,none⟩) (n+1) c) (cM xs i y)∧w.grownBy ((w.drew.setRow g row1).setRow g (splice row1.toList (i*4) ys.toList).toArray) (some g)):=AE (by
  have hgr:w.grownBy ((w.drew.setRow g row1).setRow g (splice row1.toList (i*4) ys.toList).toArray) (some g):=⟨rfl,rfl,rfl,by simp [World.setRow],fun k hk hne=>(setRow_other (w.drew.setRow g row1) g k _ (fun e=>hne (by rw [e]))).trans (setRow_other w.drew g k row1 (fun e=>hne (by rw [e])))⟩
  refine ⟨?_,hgr⟩
  subst hn
  exact aq.laid (R:=SvR) (cells:=cur.toList.take (xs.length*4)) (ys:=ys.toList) hbg (setRow_heap (w.drew.setRow g row1) g row1 _ 29 (0,0) (setRow_heap w.drew g cur row1 29 (0,0) hh)) hroom hc (by rw [List.size_toArray];exact hsz2) hf hy (Nat.le_of_lt hi) hrow ((AI B w).grown hgr (AF hB (AF hbg (Nat.le_of_lt (Array.getElem?_eq_some_iff.1 hh).1))) (fun k hk=>by simp only [AP] at hk;omega)))
 clear hrow1 hrow hsz2
 have HONE:=AE hone
 clear hf hone hcl hgs hGs hGf
 go_enter Tryz.func126,Tryz.ntmps126
 go_wp2_with (simp only [hov])
 go_region_law_o (refine dq rfl _ _ 24 24 rfl _ _ (by simp [Act.eval,Act.put]) (by simp [Act.eval,Act.put]) (hcp1 _ _ _) ?_)
 go_wp2_with (refine cd _ rfl _ _ 24 24 rfl _ _ rfl rfl (hcp2 _ (by rfl) _ _) ?_)
 go_ret
 exact ⟨rfl,HEND.out⟩
theorem rg {base B g c i G n:Nat} {w:World} {xs:List ByteArray} {y:ByteArray} {ys cur:Array Value} {T:TypeId} (hn:xs.length=n) (hbg:base≤g) (hh:w.heap[g]? = some (.cells cur 9 (0,0))) (hnc:n≤c) (hroom:c<n+1) (hbig:(n+1)*16≤140737488355328) (hs:cur.size=c*1)
 (hf:bu cX w B xs (cur.toList.take (n*1))) (hy:(cX).rd w B y ys.toList) (hG:bS w G ys T) (hi:i<n) (hB:B≤base) :
 Calls Tryz.prog 125 #[.slice (some ⟨g,0,none⟩) n c,.int .i64 i,.slice (some ⟨G,0,none⟩) 1 1] w fun z w'=>∃c',z=.returned (.slice (some ⟨w.heap.size,0,none⟩) (n+1) c')∧aq cX 9 w' base B (.slice (some ⟨w.heap.size,0,none⟩) (n+1) c') (cM xs i y)∧w.grownBy w' (some g):=by
 obtain ⟨i0,hi0,hz0,hzs,hzb⟩:=info_parts kK
 have hyl:ys.size=1:=by have h:ys.toList.length=1:=(cX).len hy;simpa using h
 have hsz:(Tryz.prog.info? 9).map (·.size)=some 1:=by rw [hi0];simp [hzs]
 have hgl:g<w.heap.size:=(Array.getElem?_eq_some_iff.1 hh).1
 have hGl:G<w.heap.size:=(Array.getElem?_eq_some_iff.1 hG).1
 have hkk:(n:Int)+1-(i:Int)=((n+1-i:Nat):Int):=by omega
 have hik:i+(n+1-i)=n+1:=by omega
 obtain ⟨cells,hcells⟩:∃cells,cells=cur.toList.take (n*1):=⟨_,rfl⟩
 rw [←hcells] at hf
 have hcl:cells.length=n*1:=by rw [hcells,AW,AQ,hs];omega
 have hcs:∀j v,cells[j]? = some v→w.cell? ⟨g,j,none⟩=some v:=fun j v hj=>by
  rw [hcells,List.getElem?_take] at hj
  split at hj
  ·exact (cell_of_row w g _ cur 9 (0,0) hh).trans (by simpa using hj)
  ·cases hj
 have hold:(Builtin.firstCells i0.size i (.slice (some ⟨g,0,none⟩) i c)).run Tryz.prog w.drew=.ok (cells.take (i*1)).toArray w.drew:=by
  rw [hzs]
  exact run_firstCells_some w.drew 1 i ⟨g,0,none⟩ i c (cells.take (i*1)) (by rw [AW,hcl];omega) (fun j v hj=>by
   rw [Addr.add_lit]
   rw [List.getElem?_take] at hj
   split at hj
   ·simpa using hcs j v hj
   ·cases hj)
 have hrz:∀ty,(Builtin.append_ #[112,3] ty #[.slice (some ⟨g,0,none⟩) i c,.int .i64 ((n:Int)+1-(i:Int))]).run Tryz.prog w =
  .ok (.slice (some ⟨w.heap.size,0,none⟩) (n+1) (grownCap w (n+1) c 9)) (w.drew.alloc (.cells ((cells.take (i*1)).toArray++Builtin.zeroCells (Value.string ⟨#[]⟩).cells (n+1-i)++Builtin.zeroCells (Value.string ⟨#[]⟩).cells (grownCap w (n+1) c 9-(n+1))) 9)):=fun ty=>by
  have h:=Lib.run_append_grow_zeros w 112 3 ty 9 i0 _ .i64 .i64 Tryz.underlying112 Tryz.underlying3 hi0 hz0 (some ⟨g,0,none⟩) i c (cells.take (i*1)) hold (n+1-i) (by omega) (by omega) (by omega) (by omega) (by rw [hzb];omega) (by rw [hzb,hik];exact growslice_fits hroom hbig)
  rw [hik] at h
  rw [hkk]
  exact h
 obtain ⟨Gc,hGc⟩:∃Gc,Gc=grownCap w (n+1) c 9:=⟨_,rfl⟩
 obtain ⟨Z,hZ⟩:∃Z,Z=(Builtin.zeroCells (Value.string ⟨#[]⟩).cells (n+1-i)).toList++(Builtin.zeroCells (Value.string ⟨#[]⟩).cells (Gc-(n+1))).toList:=⟨_,rfl⟩
 obtain ⟨row0,hrow0⟩:∃r:Array Value,r=(cells.take (i*1)).toArray++Builtin.zeroCells (Value.string ⟨#[]⟩).cells (n+1-i)++Builtin.zeroCells (Value.string ⟨#[]⟩).cells (Gc-(n+1)):=⟨_,rfl⟩
 rw [←hGc,←hrow0] at hrz
 have hGn:n+1≤Gc:=by rw [hGc];exact grownCap_ge w _ _ _
 have hG63:Gc≤9223372036854775807:=by
  have:=grownCap_le_maxLen w (n+1) c 9 (by unfold maxLen;omega)
  rw [←hGc] at this
  unfold maxLen at this
  omega
 have hl0:row0.toList=cells.take (i*1)++Z:=by rw [hrow0,hZ];simp
 have hs0:row0.size=Gc*1:=by
  rw [hrow0,Array.size_append,Array.size_append,size_zeroCells,size_zeroCells,List.size_toArray,AW,hcl,show (Value.string ⟨#[]⟩).cells.size=1 from rfl]
  omega
 have h0l:row0.toList.length=Gc*1:=by rw [AQ];exact hs0
 have hyl2:ys.toList.length=1:=by rw [AQ];exact hyl
 obtain ⟨rowA,hrowA⟩:∃r:Array Value,r=(splice row0.toList (i*1) ys.toList).toArray:=⟨_,rfl⟩
 have hsA:rowA.size=Gc*1:=by rw [hrowA,List.size_toArray,length_splice _ _ _ (by rw [hyl2,h0l];omega),h0l]
 have hAl:rowA.toList.length=Gc*1:=by rw [AQ];exact hsA
 have hdl:(cells.drop (i*1)).length=(n-i)*1:=by rw [List.length_drop,hcl];omega
 obtain ⟨rowB,hrowB⟩:∃r:Array Value,r=(splice rowA.toList ((i+1)*1) (cells.drop (i*1))).toArray:=⟨_,rfl⟩
 have hsB:rowB.size=Gc*1:=by rw [hrowB,List.size_toArray,length_splice _ _ _ (by rw [hAl,hdl];omega),hAl]
 have hone:∀v∈cells,v.oneCell'=true:=hf.single cD
 have hcpA:∀(W:World),W.heap=(w.alloc (.cells row0 9)).heap→∀ty dc,(Builtin.copy_ #[112,112] ty #[.slice (some ⟨w.heap.size,i,none⟩) (n+1-i) dc,.slice (some ⟨G,0,none⟩) 1 1]).run Tryz.prog W=.ok (goInt 1) (W.setRow w.heap.size rowA):=fun W hW ty dc=>by
  have hWg:W.heap[w.heap.size]? = some (.cells row0 9 (0,0)):=by rw [hW];exact heap_alloc_new w _
  have hWG:W.heap[G]? = some (.cells ys T (0,0)):=by rw [hW];exact (Below.heap_alloc _ _ _ hGl).trans hG
  have h1:Nat.min 1 (n+1-i)=1:=by simp only [Nat.min_def];split<;>omega
  have h:=aN (P:=Tryz.prog) W 112 112 ty 9 1 w.heap.size (i*1) (n+1-i) dc ⟨G,0,none⟩ 1 1 row0 9 ys.toList Tryz.underlying112 hsz hWg
   (by rw [h1,hyl2]) (fun j v hj=>by
    rw [Addr.add_lit]
    refine (cell_of_row W G _ ys T (0,0) hWG).trans ?_
    simpa using hj) (by rw [hyl2,hs0];omega) (bu.single cD (bu.one hy))
  rw [h1,←hrowA] at h
  simp only [Nat.mul_one] at h ⊢
  exact h
 have hmm:(n-i).min (n-i)=n-i:=Nat.min_self _
 have hcpB:∀(W:World),W.heap=((w.alloc (.cells row0 9)).setRow w.heap.size rowA).heap→∀ty dc sc,(Builtin.copy_ #[112,112] ty #[.slice (some ⟨w.heap.size,i+1,none⟩) (n-i) dc,.slice (some ⟨g,i,none⟩) (n-i) sc]).run Tryz.prog W=.ok (goInt ((n-i:Nat):Int)) (W.setRow w.heap.size rowB):=fun W hW ty dc sc=>by
  have hWg:W.heap[w.heap.size]? = some (.cells rowA 9 (0,0)):=by rw [hW];exact setRow_heap _ w.heap.size row0 rowA 9 (0,0) (heap_alloc_new w _)
  have hWo:W.heap[g]? = some (.cells cur 9 (0,0)):=by rw [hW,setRow_other _ w.heap.size g rowA (by omega)];exact (Below.heap_alloc _ _ _ hgl).trans hh
  have h:=aN (P:=Tryz.prog) W 112 112 ty 9 1 w.heap.size ((i+1)*1) (n-i) dc ⟨g,i*1,none⟩ (n-i) sc rowA 9 (cells.drop (i*1)) Tryz.underlying112 hsz hWg
   (by rw [hdl,hmm]) (fun j v hj=>by
    rw [Addr.add_lit]
    rw [List.getElem?_drop,hcells,List.getElem?_take] at hj
    split at hj
    ·exact (cell_of_row W g _ cur 9 (0,0) hWo).trans (by simpa using hj)
    ·cases hj) (by rw [hdl,hsA];omega) (fun v hv=>hone v (List.mem_of_mem_drop hv))
  rw [hmm,←hrowB] at h
  simp only [Nat.mul_one] at h ⊢
  exact h
 have hw1:IntKind.i64.wrap ((i:Int)+1)=(i:Int)+1:=by rw [IntKind.wrap_i64];omega
 have hw2:IntKind.i64.wrap ((n:Int)+1)=(n:Int)+1:=by rw [IntKind.wrap_i64];omega
 have hw3:IntKind.i64.wrap ((n:Int)+1-(i:Int))=(n:Int)+1-(i:Int):=by rw [IntKind.wrap_i64];omega
 have hz2:¬((i:Int)=(n:Int)):=by omega
 have hz3:(c:Int)<(n:Int)+1:=by omega
 have hb1:(0:Int)≤(i:Int)+1:=by omega
 have hin:i≤n:=by omega
 have hin1:i+1≤n+1:=by omega
 have hic:i≤c:=by omega
 have htn:((i:Int)+1).toNat=i+1:=by omega
 have hGi:¬(Gc=i):=by omega
 have hGim:¬(Gc=i+1):=by omega
 have hci:¬(c=i):=by omega
 have hb3:(i:Int)≤(n:Int):=by omega
 have mixed:Tryz.prog.follows .mixedOrders=true:=by kernel_rfl
 have hrow:rowB.toList.take ((n+1)*1)=cells.take (i*1)++ys.toList++cells.drop (i*1):=by
  have e:=gj (A:=cells.take (i*1)) (Z:=Z) (ys:=ys.toList) (D:=cells.drop (i*1)) (a:=i*1) (k:=1) (by rw [AW,hcl];omega) hyl2 (by rw [←hl0,h0l,hdl];omega)
  rw [hdl,show i*1+1+(n-i)*1=(n+1)*1 by omega,show i*1+1=(i+1)*1 by omega,←hl0] at e
  rw [hrowB,hrowA]
  exact e
 have HEND:Hid (∀W':World,W'.heap=(((w.alloc (.cells row0 9)).setRow w.heap.size rowA).setRow w.heap.size rowB).heap→W'.os=w.os→W'.tape=w.tape→W'.output=w.output→aq cX 9 W' base B (.slice (some ⟨w.heap.size,0,none⟩) (n+1) Gc) (cM xs i y)∧w.grownBy W' (some g)):=AE (fun W' e1 e2 e3 e4=>by
  have hgr:w.grownBy W' (some g):=⟨e2,e3,e4,by rw [e1];simp [World.setRow],fun k hk hne=>by
   rw [e1]
   exact (setRow_other _ w.heap.size k _ (by omega)).trans ((setRow_other _ w.heap.size k _ (by omega)).trans (Below.heap_alloc _ _ _ hk))⟩
  refine ⟨?_,hgr⟩
  subst hn
  exact aq.laid (R:=cX) (cells:=cells) (ys:=ys.toList) (AF hbg (Nat.le_of_lt hgl)) (by rw [e1];exact setRow_heap _ w.heap.size rowA _ 9 (0,0) (setRow_heap _ w.heap.size row0 rowA 9 (0,0) (heap_alloc_new w _))) hGn hG63 hsB hf hy (Nat.le_of_lt hi) hrow ((AI B w).grown hgr (AF hB (AF hbg (Nat.le_of_lt hgl))) (fun k hk=>by simp only [AP] at hk;omega)))
 clear h0l hyl2 hAl hrow hsB hdl hsA hs0 hl0 hrow0 hrowA hrowB hZ hGc hold hkk hik hone hcs hcl hcells hf
 go_enter Tryz.func125,Tryz.ntmps125
 go_wp2_with (first
  | (at_builtin;refine Lib.wpList_append_run _ rfl _ _ _ _ rfl _ _ rfl rfl _ _ (hrz _) ?_)
  | (refine cd _ rfl _ _ 112 112 rfl _ _ rfl rfl (hcpA _ (by rfl) _ _) ?_))
 go_region_law_o (refine dq rfl _ _ 112 112 rfl (.slice (some ⟨w.heap.size,i+1,none⟩) (n-i) (Gc-(i+1))) (.slice (some ⟨g,i,none⟩) (n-i) (c-i)) (by simp [Act.eval,Act.put]) (by simp [Act.eval,Act.put]) (hcpB _ (by rfl) _ _ _) ?_)
 go_wp2
 go_ret
 exact ⟨Gc,rfl,HEND.out _ rfl rfl rfl rfl⟩
theorem tI {base B g c i G n:Nat} {w:World} {xs:List SV} {y:SV} {ys cur:Array Value} {T:TypeId} (hn:xs.length=n) (hbg:base≤g) (hh:w.heap[g]? = some (.cells cur 29 (0,0))) (hnc:n≤c) (hroom:c<n+1) (hbig:(n+1)*56≤140737488355328) (hs:cur.size=c*4)
 (hf:bu SvR w B xs (cur.toList.take (n*4))) (hy:(SvR).rd w B y ys.toList) (hG:bS w G ys T) (hi:i<n) (hB:B≤base) :
 Calls Tryz.prog 126 #[.slice (some ⟨g,0,none⟩) n c,.int .i64 i,.slice (some ⟨G,0,none⟩) 1 1] w fun z w'=>∃c',z=.returned (.slice (some ⟨w.heap.size,0,none⟩) (n+1) c')∧aq SvR 29 w' base B (.slice (some ⟨w.heap.size,0,none⟩) (n+1) c') (cM xs i y)∧w.grownBy w' (some g):=by
 obtain ⟨i0,hi0,hz0,hzs,hzb⟩:=info_parts hJ
 have hyl:ys.size=4:=by have h:ys.toList.length=4:=(SvR).len hy;simpa using h
 have hsz:(Tryz.prog.info? 29).map (·.size)=some 4:=by rw [hi0];simp [hzs]
 have hgl:g<w.heap.size:=(Array.getElem?_eq_some_iff.1 hh).1
 have hGl:G<w.heap.size:=(Array.getElem?_eq_some_iff.1 hG).1
 have hkk:(n:Int)+1-(i:Int)=((n+1-i:Nat):Int):=by omega
 have hik:i+(n+1-i)=n+1:=by omega
 obtain ⟨cells,hcells⟩:∃cells,cells=cur.toList.take (n*4):=⟨_,rfl⟩
 rw [←hcells] at hf
 have hcl:cells.length=n*4:=by rw [hcells,AW,AQ,hs];omega
 have hcs:∀j v,cells[j]? = some v→w.cell? ⟨g,j,none⟩=some v:=fun j v hj=>by
  rw [hcells,List.getElem?_take] at hj
  split at hj
  ·exact (cell_of_row w g _ cur 29 (0,0) hh).trans (by simpa using hj)
  ·cases hj
 have hold:(Builtin.firstCells i0.size i (.slice (some ⟨g,0,none⟩) i c)).run Tryz.prog w.drew=.ok (cells.take (i*4)).toArray w.drew:=by
  rw [hzs]
  exact run_firstCells_some w.drew 4 i ⟨g,0,none⟩ i c (cells.take (i*4)) (by rw [AW,hcl];omega) (fun j v hj=>by
   rw [Addr.add_lit]
   rw [List.getElem?_take] at hj
   split at hj
   ·simpa using hcs j v hj
   ·cases hj)
 have hrz:∀ty,(Builtin.append_ #[24,3] ty #[.slice (some ⟨g,0,none⟩) i c,.int .i64 ((n:Int)+1-(i:Int))]).run Tryz.prog w =
  .ok (.slice (some ⟨w.heap.size,0,none⟩) (n+1) (grownCap w (n+1) c 29)) (w.drew.alloc (.cells ((cells.take (i*4)).toArray++Builtin.zeroCells (Value.agg #[.int .i64 0,.int .i64 0,.string ⟨#[]⟩,.slice none 0 0]).cells (n+1-i)++Builtin.zeroCells (Value.agg #[.int .i64 0,.int .i64 0,.string ⟨#[]⟩,.slice none 0 0]).cells (grownCap w (n+1) c 29-(n+1))) 29)):=fun ty=>by
  have h:=Lib.run_append_grow_zeros w 24 3 ty 29 i0 _ .i64 .i64 Tryz.underlying24 Tryz.underlying3 hi0 hz0 (some ⟨g,0,none⟩) i c (cells.take (i*4)) hold (n+1-i) (by omega) (by omega) (by omega) (by omega) (by rw [hzb];omega) (by rw [hzb,hik];exact growslice_fits hroom hbig)
  rw [hik] at h
  rw [hkk]
  exact h
 obtain ⟨Gc,hGc⟩:∃Gc,Gc=grownCap w (n+1) c 29:=⟨_,rfl⟩
 obtain ⟨Z,hZ⟩:∃Z,Z=(Builtin.zeroCells (Value.agg #[.int .i64 0,.int .i64 0,.string ⟨#[]⟩,.slice none 0 0]).cells (n+1-i)).toList++(Builtin.zeroCells (Value.agg #[.int .i64 0,.int .i64 0,.string ⟨#[]⟩,.slice none 0 0]).cells (Gc-(n+1))).toList:=⟨_,rfl⟩
 obtain ⟨row0,hrow0⟩:∃r:Array Value,r=(cells.take (i*4)).toArray++Builtin.zeroCells (Value.agg #[.int .i64 0,.int .i64 0,.string ⟨#[]⟩,.slice none 0 0]).cells (n+1-i)++Builtin.zeroCells (Value.agg #[.int .i64 0,.int .i64 0,.string ⟨#[]⟩,.slice none 0 0]).cells (Gc-(n+1)):=⟨_,rfl⟩
 rw [←hGc,←hrow0] at hrz
 have hGn:n+1≤Gc:=by rw [hGc];exact grownCap_ge w _ _ _
 have hG63:Gc≤9223372036854775807:=by
  have:=grownCap_le_maxLen w (n+1) c 29 (by unfold maxLen;omega)
  rw [←hGc] at this
  unfold maxLen at this
  omega
 have hl0:row0.toList=cells.take (i*4)++Z:=by rw [hrow0,hZ];simp
 have hs0:row0.size=Gc*4:=by
  rw [hrow0,Array.size_append,Array.size_append,size_zeroCells,size_zeroCells,List.size_toArray,AW,hcl,show (Value.agg #[.int .i64 0,.int .i64 0,.string ⟨#[]⟩,.slice none 0 0]).cells.size=4 from rfl]
  omega
 have h0l:row0.toList.length=Gc*4:=by rw [AQ];exact hs0
 have hyl2:ys.toList.length=4:=by rw [AQ];exact hyl
 obtain ⟨rowA,hrowA⟩:∃r:Array Value,r=(splice row0.toList (i*4) ys.toList).toArray:=⟨_,rfl⟩
 have hsA:rowA.size=Gc*4:=by rw [hrowA,List.size_toArray,length_splice _ _ _ (by rw [hyl2,h0l];omega),h0l]
 have hAl:rowA.toList.length=Gc*4:=by rw [AQ];exact hsA
 have hdl:(cells.drop (i*4)).length=(n-i)*4:=by rw [List.length_drop,hcl];omega
 obtain ⟨rowB,hrowB⟩:∃r:Array Value,r=(splice rowA.toList ((i+1)*4) (cells.drop (i*4))).toArray:=⟨_,rfl⟩
 have hsB:rowB.size=Gc*4:=by rw [hrowB,List.size_toArray,length_splice _ _ _ (by rw [hAl,hdl];omega),hAl]
 have hone:∀v∈cells,v.oneCell'=true:=hf.single ck
 have hcpA:∀(W:World),W.heap=(w.alloc (.cells row0 29)).heap→∀ty dc,(Builtin.copy_ #[24,24] ty #[.slice (some ⟨w.heap.size,i*4,none⟩) (n+1-i) dc,.slice (some ⟨G,0,none⟩) 1 1]).run Tryz.prog W=.ok (goInt 1) (W.setRow w.heap.size rowA):=fun W hW ty dc=>by
  have hWg:W.heap[w.heap.size]? = some (.cells row0 29 (0,0)):=by rw [hW];exact heap_alloc_new w _
  have hWG:W.heap[G]? = some (.cells ys T (0,0)):=by rw [hW];exact (Below.heap_alloc _ _ _ hGl).trans hG
  have h1:Nat.min 1 (n+1-i)=1:=by simp only [Nat.min_def];split<;>omega
  have h:=aN (P:=Tryz.prog) W 24 24 ty 29 4 w.heap.size (i*4) (n+1-i) dc ⟨G,0,none⟩ 1 1 row0 29 ys.toList Tryz.underlying24 hsz hWg
   (by rw [h1,hyl2]) (fun j v hj=>by
    rw [Addr.add_lit]
    refine (cell_of_row W G _ ys T (0,0) hWG).trans ?_
    simpa using hj) (by rw [hyl2,hs0];omega) (bu.single ck (bu.one hy))
  rw [h1,←hrowA] at h
  exact h
 have hmm:(n-i).min (n-i)=n-i:=Nat.min_self _
 have hcpB:∀(W:World),W.heap=((w.alloc (.cells row0 29)).setRow w.heap.size rowA).heap→∀ty dc sc,(Builtin.copy_ #[24,24] ty #[.slice (some ⟨w.heap.size,(i+1)*4,none⟩) (n-i) dc,.slice (some ⟨g,i*4,none⟩) (n-i) sc]).run Tryz.prog W=.ok (goInt ((n-i:Nat):Int)) (W.setRow w.heap.size rowB):=fun W hW ty dc sc=>by
  have hWg:W.heap[w.heap.size]? = some (.cells rowA 29 (0,0)):=by rw [hW];exact setRow_heap _ w.heap.size row0 rowA 29 (0,0) (heap_alloc_new w _)
  have hWo:W.heap[g]? = some (.cells cur 29 (0,0)):=by rw [hW,setRow_other _ w.heap.size g rowA (by omega)];exact (Below.heap_alloc _ _ _ hgl).trans hh
  have h:=aN (P:=Tryz.prog) W 24 24 ty 29 4 w.heap.size ((i+1)*4) (n-i) dc ⟨g,i*4,none⟩ (n-i) sc rowA 29 (cells.drop (i*4)) Tryz.underlying24 hsz hWg
   (by rw [hdl,hmm]) (fun j v hj=>by
    rw [Addr.add_lit]
    rw [List.getElem?_drop,hcells,List.getElem?_take] at hj
    split at hj
    ·exact (cell_of_row W g _ cur 29 (0,0) hWo).trans (by simpa using hj)
    ·cases hj) (by rw [hdl,hsA];omega) (fun v hv=>hone v (List.mem_of_mem_drop hv))
  rw [hmm,←hrowB] at h
  exact h
 have hw1:IntKind.i64.wrap ((i:Int)+1)=(i:Int)+1:=by rw [IntKind.wrap_i64];omega
 have hw2:IntKind.i64.wrap ((n:Int)+1)=(n:Int)+1:=by rw [IntKind.wrap_i64];omega
 have hw3:IntKind.i64.wrap ((n:Int)+1-(i:Int))=(n:Int)+1-(i:Int):=by rw [IntKind.wrap_i64];omega
 have hz2:¬((i:Int)=(n:Int)):=by omega
 have hz3:(c:Int)<(n:Int)+1:=by omega
 have hb1:(0:Int)≤(i:Int)+1:=by omega
 have hin:i≤n:=by omega
 have hin1:i+1≤n+1:=by omega
 have hic:i≤c:=by omega
 have htn:((i:Int)+1).toNat=i+1:=by omega
 have hGi:¬(Gc=i):=by omega
 have hGim:¬(Gc=i+1):=by omega
 have hci:¬(c=i):=by omega
 have hb3:(i:Int)≤(n:Int):=by omega
 have mixed:Tryz.prog.follows .mixedOrders=true:=by kernel_rfl
 have hrow:rowB.toList.take ((n+1)*4)=cells.take (i*4)++ys.toList++cells.drop (i*4):=by
  have e:=gj (A:=cells.take (i*4)) (Z:=Z) (ys:=ys.toList) (D:=cells.drop (i*4)) (a:=i*4) (k:=4) (by rw [AW,hcl];omega) hyl2 (by rw [←hl0,h0l,hdl];omega)
  rw [hdl,show i*4+4+(n-i)*4=(n+1)*4 by omega,show i*4+4=(i+1)*4 by omega,←hl0] at e
  rw [hrowB,hrowA]
  exact e
 have HEND:Hid (∀W':World,W'.heap=(((w.alloc (.cells row0 29)).setRow w.heap.size rowA).setRow w.heap.size rowB).heap→W'.os=w.os→W'.tape=w.tape→W'.output=w.output→aq SvR 29 W' base B (.slice (some ⟨w.heap.size,0,none⟩) (n+1) Gc) (cM xs i y)∧w.grownBy W' (some g)):=AE (fun W' e1 e2 e3 e4=>by
  have hgr:w.grownBy W' (some g):=⟨e2,e3,e4,by rw [e1];simp [World.setRow],fun k hk hne=>by
   rw [e1]
   exact (setRow_other _ w.heap.size k _ (by omega)).trans ((setRow_other _ w.heap.size k _ (by omega)).trans (Below.heap_alloc _ _ _ hk))⟩
  refine ⟨?_,hgr⟩
  subst hn
  exact aq.laid (R:=SvR) (cells:=cells) (ys:=ys.toList) (AF hbg (Nat.le_of_lt hgl)) (by rw [e1];exact setRow_heap _ w.heap.size rowA _ 29 (0,0) (setRow_heap _ w.heap.size row0 rowA 29 (0,0) (heap_alloc_new w _))) hGn hG63 hsB hf hy (Nat.le_of_lt hi) hrow ((AI B w).grown hgr (AF hB (AF hbg (Nat.le_of_lt hgl))) (fun k hk=>by simp only [AP] at hk;omega)))
 clear h0l hyl2 hAl hrow hsB hdl hsA hs0 hl0 hrow0 hrowA hrowB hZ hGc hold hkk hik hone hcs hcl hcells hf
 go_enter Tryz.func126,Tryz.ntmps126
 go_wp2_with (first
  | (at_builtin;refine Lib.wpList_append_run _ rfl _ _ _ _ rfl _ _ rfl rfl _ _ (hrz _) ?_)
  | (refine cd _ rfl _ _ 24 24 rfl _ _ rfl rfl (hcpA _ (by rfl) _ _) ?_))
 go_region_law_o (refine dq rfl _ _ 24 24 rfl (.slice (some ⟨w.heap.size,(i+1)*4,none⟩) (n-i) (Gc-(i+1))) (.slice (some ⟨g,i*4,none⟩) (n-i) (c-i)) (by simp [Act.eval,Act.put]) (by simp [Act.eval,Act.put]) (hcpB _ (by rfl) _ _ _) ?_)
 go_wp2
 go_ret
 exact ⟨Gc,rfl,HEND.out _ rfl rfl rfl rfl⟩
theorem tH {base i G n c:Nat} {A:Option Addr} {w:World} {xs:List ByteArray} {y:ByteArray} {ys:Array Value} {T:TypeId} (hn:xs.length=n) (hown:aq cX 9 w base 0 (.slice A n c) xs) (hbase:base≤w.heap.size) (hbig:(n+1)*16≤140737488355328)
 (hy:(cX).rd w 0 y ys.toList) (hG:bS w G ys T) (hne:some G≠(Value.slice A n c).ownBlock) (hi:i≤n) :
 Calls Tryz.prog 125 #[.slice A n c,.int .i64 i,.slice (some ⟨G,0,none⟩) 1 1] w fun z w'=>∃A' c',z=.returned (.slice A' (n+1) c')∧aq cX 9 w' base 0 (.slice A' (n+1) c') (cM xs i y)∧w.grownBy w' (Value.slice A n c).ownBlock∧bk w (.slice A n c) (.slice A' (n+1) c'):=by
 by_cases hend:i=n
 ·subst hend
  have HOWN:=AE hown
  have HSRC:Hid (fy cX w 0 (some ⟨G,0,none⟩) [y]):=AE (zm hG (bu.one hy))
  have HPUT:Hid (cM xs i y=xs++[y]):=AE (by unfold cM;rw [List.take_of_length_le (by omega),List.drop_of_length_le (by omega)])
  obtain ⟨i0,hi0,hz0,hz1,hz2⟩:=info_parts kK
  have hform:(A=none∧i=0∧c=0)∨∃g,A=some ⟨g,0,none⟩∧i≤c∧c≤9223372036854775807:=by
   obtain ⟨cells,h,_⟩:=hown
   rcases h.2 with ⟨h1,h2⟩ | ⟨g,cap,cur,hv,hg,hh,k1,k2,_⟩
   ·simp only [AR] at h1
    exact .inl ⟨h1.1,h1.2.1,h1.2.2⟩
   ·simp only [AR] at hv
    obtain ⟨rfl,_,rfl⟩:=hv
    rw [hn] at k1
    exact .inr ⟨g,rfl,k1,k2⟩
  clear hown hG hne hy
  rcases hform with ⟨rfl,rfl,rfl⟩ | ⟨g,rfl,hic,hc63⟩
  ·go_enter Tryz.func125,Tryz.ntmps125
   go_wp2_with ((
    at_builtin
    refine bE (R:=cX) (e:=9) (base:=base) (xs:=xs) (ys:=[y]) rfl (.tmp 23) (.tmp 24) 112 rfl (bytes:=16) Tryz.underlying112 hi0 hz0 hz1 hz2 rfl (show 0<1 by omega) cD rfl HOWN.out rfl HSRC.out rfl (by simp only [AV,List.length_nil];omega) (by omega) hbase ?_
    intro v wn hown hg hf
    obtain ⟨A2,c2,hv⟩:∃A2 c2,v=.slice A2 (0+1) c2:=by have:=hown.form;rwa [AK,List.length_singleton,hn] at this
    subst hv
    have HOUT:Hid (_∧_∧_):=AE (And.intro hown (And.intro hg hf))
    clear hown hg hf))
   go_ret
   rw [HPUT.out]
   exact ⟨A2,c2,rfl,HOUT.out.1,HOUT.out.2.1,HOUT.out.2.2⟩
  ·go_enter Tryz.func125,Tryz.ntmps125
   go_wp2_with ((
    at_builtin
    refine bE (R:=cX) (e:=9) (base:=base) (xs:=xs) (ys:=[y]) rfl (.tmp 23) (.tmp 24) 112 rfl (bytes:=16) Tryz.underlying112 hi0 hz0 hz1 hz2 rfl (show 0<1 by omega) cD rfl HOWN.out rfl HSRC.out rfl (by simp only [AV,List.length_nil];omega) (by omega) hbase ?_
    intro v wn hown hg hf
    obtain ⟨A2,c2,hv⟩:∃A2 c2,v=.slice A2 (i+1) c2:=by have:=hown.form;rwa [AK,List.length_singleton,hn] at this
    subst hv
    have HOUT:Hid (_∧_∧_):=AE (And.intro hown (And.intro hg hf))
    clear hown hg hf))
   all_goals
    go_ret
    rw [HPUT.out]
    exact ⟨A2,c2,rfl,HOUT.out.1,HOUT.out.2.1,HOUT.out.2.2⟩
 ·have hlt:i<n:=by omega
  obtain ⟨cells,⟨hl,h⟩,hf⟩:=hown
  rcases h with ⟨h1,h2⟩ | ⟨g,cap,cur,hv,hg,hh,k1,k2,k3,k4⟩
  ·omega
  ·simp only [AR] at hv
   obtain ⟨rfl,_,rfl⟩:=hv
   have hGg:G≠g:=fun e=>hne (by rw [e];rfl)
   have k3:cur.size=c*1:=k3
   have hf:bu cX w 0 xs (cur.toList.take (n*1)):=by
    have e:cur.toList.take (n*1)=cells:=by rw [←hn];exact k4
    rw [e];exact hf
   rw [hn] at k1
   by_cases hroom:n+1≤c
   ·exact (rh hn hg hh hroom k2 k3 hf hy hG hGg hlt (AH _)).mono fun z w' ⟨h1,h2,h3⟩=>⟨_,_,h1,h2,h3,.inl rfl⟩
   ·exact (rg hn hg hh k1 (by omega) hbig k3 hf hy hG hlt (AH _)).mono fun z w' ⟨c',h1,h2,h3⟩=>⟨_,_,h1,h2,h3,.inr ⟨_,rfl,AG _⟩⟩
theorem vZ {base i G n c:Nat} {A:Option Addr} {w:World} {xs:List SV} {y:SV} {ys:Array Value} {T:TypeId} (hn:xs.length=n) (hown:aq SvR 29 w base 0 (.slice A n c) xs) (hbase:base≤w.heap.size) (hbig:(n+1)*56≤140737488355328)
 (hy:(SvR).rd w 0 y ys.toList) (hG:bS w G ys T) (hne:some G≠(Value.slice A n c).ownBlock) (hi:i≤n) :
 Calls Tryz.prog 126 #[.slice A n c,.int .i64 i,.slice (some ⟨G,0,none⟩) 1 1] w fun z w'=>∃A' c',z=.returned (.slice A' (n+1) c')∧aq SvR 29 w' base 0 (.slice A' (n+1) c') (cM xs i y)∧w.grownBy w' (Value.slice A n c).ownBlock∧bk w (.slice A n c) (.slice A' (n+1) c'):=by
 by_cases hend:i=n
 ·subst hend
  have HOWN:=AE hown
  have HSRC:Hid (fy SvR w 0 (some ⟨G,0,none⟩) [y]):=AE (zm hG (bu.one hy))
  have HPUT:Hid (cM xs i y=xs++[y]):=AE (by unfold cM;rw [List.take_of_length_le (by omega),List.drop_of_length_le (by omega)])
  obtain ⟨i0,hi0,hz0,hz1,hz2⟩:=info_parts hJ
  have hform:(A=none∧i=0∧c=0)∨∃g,A=some ⟨g,0,none⟩∧i≤c∧c≤9223372036854775807:=by
   obtain ⟨cells,h,_⟩:=hown
   rcases h.2 with ⟨h1,h2⟩ | ⟨g,cap,cur,hv,hg,hh,k1,k2,_⟩
   ·simp only [AR] at h1
    exact .inl ⟨h1.1,h1.2.1,h1.2.2⟩
   ·simp only [AR] at hv
    obtain ⟨rfl,_,rfl⟩:=hv
    rw [hn] at k1
    exact .inr ⟨g,rfl,k1,k2⟩
  clear hown hG hne hy
  rcases hform with ⟨rfl,rfl,rfl⟩ | ⟨g,rfl,hic,hc63⟩
  ·go_enter Tryz.func126,Tryz.ntmps126
   go_wp2_with ((
    at_builtin
    refine bE (R:=SvR) (e:=29) (base:=base) (xs:=xs) (ys:=[y]) rfl (.tmp 23) (.tmp 24) 24 rfl (bytes:=56) Tryz.underlying24 hi0 hz0 hz1 hz2 rfl (show 0<4 by omega) ck rfl HOWN.out rfl HSRC.out rfl (by simp only [AV,List.length_nil];omega) (by omega) hbase ?_
    intro v wn hown hg hf
    obtain ⟨A2,c2,hv⟩:∃A2 c2,v=.slice A2 (0+1) c2:=by have:=hown.form;rwa [AK,List.length_singleton,hn] at this
    subst hv
    have HOUT:Hid (_∧_∧_):=AE (And.intro hown (And.intro hg hf))
    clear hown hg hf))
   go_ret
   rw [HPUT.out]
   exact ⟨A2,c2,rfl,HOUT.out.1,HOUT.out.2.1,HOUT.out.2.2⟩
  ·go_enter Tryz.func126,Tryz.ntmps126
   go_wp2_with ((
    at_builtin
    refine bE (R:=SvR) (e:=29) (base:=base) (xs:=xs) (ys:=[y]) rfl (.tmp 23) (.tmp 24) 24 rfl (bytes:=56) Tryz.underlying24 hi0 hz0 hz1 hz2 rfl (show 0<4 by omega) ck rfl HOWN.out rfl HSRC.out rfl (by simp only [AV,List.length_nil];omega) (by omega) hbase ?_
    intro v wn hown hg hf
    obtain ⟨A2,c2,hv⟩:∃A2 c2,v=.slice A2 (i+1) c2:=by have:=hown.form;rwa [AK,List.length_singleton,hn] at this
    subst hv
    have HOUT:Hid (_∧_∧_):=AE (And.intro hown (And.intro hg hf))
    clear hown hg hf))
   all_goals
    go_ret
    rw [HPUT.out]
    exact ⟨A2,c2,rfl,HOUT.out.1,HOUT.out.2.1,HOUT.out.2.2⟩
 ·have hlt:i<n:=by omega
  obtain ⟨cells,⟨hl,h⟩,hf⟩:=hown
  rcases h with ⟨h1,h2⟩ | ⟨g,cap,cur,hv,hg,hh,k1,k2,k3,k4⟩
  ·omega
  ·simp only [AR] at hv
   obtain ⟨rfl,_,rfl⟩:=hv
   have hGg:G≠g:=fun e=>hne (by rw [e];rfl)
   have k3:cur.size=c*4:=k3
   have hf:bu SvR w 0 xs (cur.toList.take (n*4)):=by
    have e:cur.toList.take (n*4)=cells:=by rw [←hn];exact k4
    rw [e];exact hf
   rw [hn] at k1
   by_cases hroom:n+1≤c
   ·exact (tJ hn hg hh hroom k2 k3 hf hy hG hGg hlt (AH _)).mono fun z w' ⟨h1,h2,h3⟩=>⟨_,_,h1,h2,h3,.inl rfl⟩
   ·exact (tI hn hg hh k1 (by omega) hbig k3 hf hy hG hlt (AH _)).mono fun z w' ⟨c',h1,h2,h3⟩=>⟨_,_,h1,h2,h3,.inr ⟨_,rfl,AG _⟩⟩
end Go.Proofs.YtjpndglegpcdnaaGreat
