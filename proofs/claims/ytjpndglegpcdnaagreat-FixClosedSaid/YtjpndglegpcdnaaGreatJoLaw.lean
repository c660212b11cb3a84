/- What it is for a fact to fit a predicate: the plain law. -/
import Derived.Test.YtjpndglegpcdnaaGreatStk
import Derived.Test.YtjpndglegpcdnaaGreatRule1
import Derived.RegionTactic
import Derived.Deep.RegionHeld3
import Derived.Deep.RegionLaw
import Derived.Deep.DeepCutAuto
import Derived.Test.YtjpndglegpcdnaaGreatBind
set_option linter.unusedVariables false
set_option linter.unusedSimpArgs false
set_option maxRecDepth 100000
set_option maxHeartbeats 8000000
namespace Go.Proofs.YtjpndglegpcdnaaGreat
open Go.ChangeShapes Go.WideShapes Go.ChangeAt Go.RowKit
theorem four {β:Type}:∀Q:List β,4≤Q.length→∃q0 q1 q2 q3 R,Q=q0::q1::q2::q3::R
 | q0::q1::q2::q3::R,_=>⟨q0,q1,q2,q3,R,rfl⟩
 | [],h=>by simp at h
 | [_],h=>by simp at h
 | [_,_],h=>by simp at h
 | [_,_,_],h=>by simp at h
theorem xp {β:Type} (L:List β) (m:Nat) (h:m+4≤L.length) (a b c d:β):((((L.set m a).set (m+1) b).set (m+2) c).set (m+3) d).take (m+4)=L.take m++[a,b,c,d]:=by
 obtain ⟨P,Q,rfl,hP⟩:∃P Q,L=P++Q∧P.length=m:=⟨L.take m,L.drop m,(List.take_append_drop _ _).symm,by rw [AW];omega⟩
 subst hP
 rw [AK] at h
 obtain ⟨q0,q1,q2,q3,R,rfl⟩:=four Q (by omega)
 simp [List.set_append_right,List.take_append]
 exact List.take_of_length_le (by omega)
theorem aq.last {w:World} {base:Nat} {v:Value} {xs:List SV} {y:SV} (h:aq SvR 29 w base 0 v (xs++[y])) :
 ∃g c,v=.slice (some ⟨g,0,none⟩) (xs.length+1) c∧g<w.heap.size∧base≤g∧xs.length+1≤c∧c≤9223372036854775807∧(∀j u,y.cs[j]? = some u→w.cell? ⟨g,xs.length*4+j,none⟩=some u)∧(∀o,w.frozen? ⟨g,o,none⟩=false) ∧
  ∀x:SV,aq SvR 29 ((((w.setCell ⟨g,xs.length*4,none⟩ (.int .i64 x.t.kind)).setCell ⟨g,xs.length*4+1,none⟩ (.int .i64 x.t.n)).setCell ⟨g,xs.length*4+2,none⟩ (.string x.t.s)).setCell ⟨g,xs.length*4+3,none⟩ (.slice x.a x.t.l.length x.c)) base 0 v (xs++[x]):=by
 obtain ⟨cells,ho,hf⟩:=h
 have hl:cells.length=(xs.length+1)*4:=by have:=hf.1;simpa [SvR] using this
 rcases ho.2 with ⟨h1,h2⟩ | ⟨g,cap,cur,hv,hg,hh,k1,k2,k3,k4⟩
 ·simp at h2
 ·rw [AK,List.length_singleton] at k1 hv
  have hglt:g<w.heap.size:=by
   rcases Nat.lt_or_ge g w.heap.size with h' | h'
   ·exact h'
   ·rw [Array.getElem?_eq_none h'] at hh;cases hh
  have hbt:bS w g cur 29:=hh
  have hk3:cur.size=cap*4:=k3
  have e4:(xs++[y]).length*SvR.k=(xs.length+1)*4:=by simp [SvR]
  rw [e4] at k4
  refine ⟨g,cap,hv,hglt,hg,k1,by unfold maxLen at k2;omega,?_,hbt.blk.free,fun x=>?_⟩
  ·intro j u hj
   have h0:=hf.2 xs.length (by simp)
   simp only [List.getElem_append_right (AG _),Nat.sub_self,List.getElem_singleton] at h0
   have h0:(cells.drop (xs.length*4)).take 4=y.cs:=h0
   rw [←h0,List.getElem?_take] at hj
   split at hj
   ·rw [List.getElem?_drop,←k4,List.getElem?_take] at hj
    split at hj
    ·rw [cell_of_row w g _ cur 29 (0,0) hh]
     simpa using hj
    ·cases hj
   ·cases hj
  ·have hs:=(((hbt.set_ (xs.length*4) (.int .i64 x.t.kind)).set_ (xs.length*4+1) (.int .i64 x.t.n)).set_ (xs.length*4+2) (.string x.t.s)).set_ (xs.length*4+3) (.slice x.a x.t.l.length x.c)
   have hcs:xs.length*4+4≤cur.toList.length:=by
    have h9:cur.toList.length=cap*4:=(AQ).trans hk3
    omega
   have htk:cells.take (xs.length*4)=cur.toList.take (xs.length*4):=by
    rw [←k4,List.take_take]
    congr 1
    omega
   refine ⟨cells.take (xs.length*4)++x.cs,⟨by simp [SvR,SV.cs,hl];omega,.inr ⟨g,cap,_,?_,hg,hs,by simp;exact k1,k2,by simp;exact hk3,?_⟩⟩,?_⟩
   ·rw [hv];simp
   ·have e5:(xs++[x]).length*SvR.k=xs.length*4+4:=by simp [SvR];omega
    rw [e5,htk]
    simp only [Array.toList_setIfInBounds]
    exact xp _ _ hcs _ _ _ _
   ·have h1:=hf.take xs.length
    simp only [List.take_left'] at h1
    have h2:bu SvR w 0 xs (cells.take (xs.length*4)):=h1
    have h3:bu SvR w 0 (xs++[x]) (cells.take (xs.length*4)++x.cs):=h2.append (bu.one (R:=SvR) rfl)
    exact ⟨h3.1,fun i hi=>h3.2 i hi⟩
theorem TmOwn.at_ {d base:Nat} {w:World} {t:Tm} {A:Option Addr} {c:Nat} (h:TmOwn d base w t A c):dt d w ⟨t,A,c⟩:=by
 refine ⟨h.rtm,fun u hu=>?_⟩
 obtain ⟨cells,_,hf⟩:=h.own
 obtain ⟨i,hi,rfl⟩:=List.getElem_of_mem hu
 have:=hf.2 i hi
 generalize (cells.drop (i*(TmR d).k)).take (TmR d).k=vs at this
 have h2:RTm w 0 d t.l[i] vs:=this
 cases d with
 | zero=>exact h2.elim
 | succ d=>
   obtain ⟨A2,c2,_,_,_,_,_,_,h6⟩:=h2
   show t.l[i].l=[]
   rcases Nat.eq_zero_or_pos t.l[i].l.length with h0 | h0
   ·exact List.eq_nil_of_length_eq_zero h0
   ·obtain ⟨b,off,_,hb,_⟩:=h6 h0
    omega
theorem TmOwn.blk {d base:Nat} {w:World} {t:Tm} {A:Option Addr} {c:Nat} (h:TmOwn d base w t A c):∀a,A=some a→base≤a.block∧a.block<w.heap.size:=by
 intro a ha
 subst ha
 obtain ⟨cells,how,_⟩:=h.own
 exact how.lt a.block rfl
section
variable {α:Type} {R:Reader α} {P:Program} {w:World} {e:TypeId} {base:Nat} {v:Value} {xs ys:List α}
def bk (w:World) (v v':Value):Prop:=v'.ownBlock=v.ownBlock∨∃k,v'.ownBlock=some k∧w.heap.size≤k
theorem oM (t ty:TypeId) {i:TypeInfo} {z:Value} {bytes:Nat} (ht:P.underlying t=some (.slice e)) (hi:P.info? e=some i) (hz:i.zero=some z)
 (hsize:i.size=R.k) (hby:i.bytes=bytes) (hzs:z.cells.size=R.k) (hsz:0<R.k) (hs1:dL R)
 (hown:aq R e w base 0 v xs) {ad:Addr} {m c:Nat} (hsrc:fy R w 0 (some ad) ys) (hm:m=ys.length)
 (hbytes:(xs.length+ys.length)*bytes≤140737488355328) (hb1:1≤bytes) (hbase:base≤w.heap.size) :
 ∃v' w',(Builtin.append_ #[t,t] ty #[v,.slice (some ad) m c]).run P w=.ok v' w'∧aq R e w' base 0 v' (xs++ys)∧w.grownBy w' v.ownBlock∧bk w v v':=by
 subst hm
 obtain ⟨cells,how,hf⟩:=hown
 obtain ⟨news,hf2,_,hc⟩:=hsrc
 have hle:xs.length+ys.length≤(xs.length+ys.length)*bytes:=Nat.le_mul_of_pos_right _ hb1
 have hnews:=hc ad rfl
 have h63:xs.length+ys.length≤maxLen:=by unfold maxLen;omega
 have key:=fun (b:Nat) (hb:b≤w.heap.size) (ho:w.ownsRow b e R.k v xs.length cells)=>run_append_own (P:=P) w b t ty e i z R.k bytes ht hi hz hsize hby hzs hsz v xs.length cells ho ad ys.length c news hf2.1 hnews (hf2.single hs1) h63 hbytes hb
 obtain ⟨v',w',hr,ho',hg,_⟩:=key base hbase how
 have hbel:Below 0 w w':=(AI 0 w).grown hg (AH _) (fun k hk=>AH _)
 refine ⟨v',w',hr,⟨cells++news,by rw [AK];exact ho',(hf.append hf2).keep hbel (AG _)⟩,hg,?_⟩
 rcases how.2 with ⟨rfl,h0⟩ | ⟨g,cap,cur,rfl,hbg,hgb,hnc,hcm,hcs,htake⟩
 ·have hcn:cells=[]:=List.eq_nil_of_length_eq_zero (by rw [how.1,h0,Nat.zero_mul])
  subst hcn
  obtain ⟨v2,w2,hr2,ho2,_,_⟩:=key w.heap.size (AG _) (by rw [h0];exact World.ownsRow_nil _ _ _ _)
  rw [hr] at hr2
  simp only [Result.ok.injEq] at hr2
  obtain ⟨rfl,rfl⟩:=hr2
  rcases ho2.2 with ⟨h1,_⟩ | ⟨g,cap,cur,rfl,hbg,_⟩
  ·rw [h1];exact .inl rfl
  ·exact .inr ⟨g,rfl,hbg⟩
 ·by_cases hroom:xs.length+ys.length≤cap
  ·have hfit:xs.length*i.size+news.length≤cur.size:=by rw [hf2.1,hcs,hsize,←Nat.add_mul];exact Nat.mul_le_mul_right _ hroom
   have hr2:=run_append_room (P:=P) w t ty e i ht hi g xs.length cap cur hgb ad ys.length c news (by rw [hf2.1,hsize]) hnews (hf2.single hs1) hroom hfit
   rw [hr] at hr2
   simp only [Result.ok.injEq] at hr2
   obtain ⟨rfl,rfl⟩:=hr2
   exact .inl rfl
  ·have holds:∀j u,cells[j]? = some u→w.cell? ((⟨g,0,none⟩:Addr).add j)=some u:=how.cells (g:=g) rfl
   subst hby
   have hr2:=run_append_grow (P:=P) w t ty e i z ht hi hz ⟨g,0,none⟩ xs.length cap cells (by rw [how.1,hsize]) holds ad ys.length c news (by rw [hf2.1,hsize]) hnews (by omega) (by omega) (growslice_fits (by omega) hbytes)
   rw [hr] at hr2
   simp only [Result.ok.injEq] at hr2
   obtain ⟨rfl,rfl⟩:=hr2
   exact .inr ⟨w.heap.size,rfl,AG _⟩
theorem mp {o:Oper} {a:Act} {K:Act→World→Prop} {Q:Exit→Act→World→Prop} (s x:Operand) (t:TypeId)
 (ho:o.op=.call { callee:=.builtin .append,args:=#[s,x],argTypes:=#[t,t] })
 {i:TypeInfo} {z:Value} {bytes:Nat} (ht:P.underlying t=some (.slice e)) (hi:P.info? e=some i) (hz:i.zero=some z)
 (hsize:i.size=R.k) (hby:i.bytes=bytes) (hzs:z.cells.size=R.k) (hsz:0<R.k) (hs1:dL R)
 (hs:a.eval s=v) (hown:aq R e w base 0 v xs) {ad:Addr} {m c:Nat} (hx:a.eval x=.slice (some ad) m c) (hsrc:fy R w 0 (some ad) ys) (hm:m=ys.length)
 (hbytes:(xs.length+ys.length)*bytes≤140737488355328) (hb1:1≤bytes) (hbase:base≤w.heap.size)
 (h:∀v' w',aq R e w' base 0 v' (xs++ys)→w.grownBy w' v.ownBlock→bk w v v'→K (a.put o.dst v') w'):o.wp P a w K Q:=by
 obtain ⟨v',w',hr,h2,h3,h4⟩:=oM (P:=P) t o.type (c:=c) ht hi hz hsize hby hzs hsz hs1 hown hsrc hm hbytes hb1 hbase
 unfold Oper.wp execOp
 simp only [ho,resolve,invoke,builtin,Sem.run_bind,Sem.run_pure,Result.andThen_ok,List.map_toArray,List.map_cons,List.map_nil,hs,hx,hr]
 exact h v' w' h2 h3 h4
theorem cT {ops:Array Oper} {o:Oper} {a:Act} {K:Act→World→Prop} {Q:Exit→Act→World→Prop} {E:Prop} (hgd:o.guard=none) (s x:Operand) (t:TypeId)
 (ho:o.op=.call { callee:=.builtin .append,args:=#[s,x],argTypes:=#[t,t] })
 {i:TypeInfo} {z:Value} {bytes:Nat} (ht:P.underlying t=some (.slice e)) (hi:P.info? e=some i) (hz:i.zero=some z)
 (hsize:i.size=R.k) (hby:i.bytes=bytes) (hzs:z.cells.size=R.k) (hsz:0<R.k) (hs1:dL R)
 (hs:a.eval s=v) (hown:aq R e w base 0 v xs) {ad:Addr} {m c:Nat} (hx:a.eval x=.slice (some ad) m c) (hsrc:fy R w 0 (some ad) ys) (hm:m=ys.length)
 (hbytes:(xs.length+ys.length)*bytes≤140737488355328) (hb1:1≤bytes) (hbase:base≤w.heap.size)
 (h:∀v' w',aq R e w' base 0 v' (xs++ys)→w.grownBy w' v.ownBlock→bk w v v'→K (a.put o.dst v') w') :
 if Region.wanted o (yielded ops a.tmps)=true then Oper.wp P o a w K Q else E:=by
 have hw:Region.wanted o (yielded ops a.tmps)=true:=by simp [Region.wanted,hgd]
 rw [if_pos hw]
 exact mp s x t ho ht hi hz hsize hby hzs hsz hs1 hs hown hx hsrc hm hbytes hb1 hbase h
end
section
variable {α:Type} {R:Reader α} {P:Program} {w:World} {e:TypeId} {base B:Nat} {v:Value} {xs ys:List α}
theorem nH (t ty:TypeId) {i:TypeInfo} {z:Value} {bytes:Nat} (ht:P.underlying t=some (.slice e)) (hi:P.info? e=some i) (hz:i.zero=some z)
 (hsize:i.size=R.k) (hby:i.bytes=bytes) (hzs:z.cells.size=R.k) (hsz:0<R.k) (hs1:dL R)
 (hown:aq R e w base B v xs) {A:Option Addr} {m c:Nat} (hsrc:fy R w B A ys) (hm:m=ys.length) (hB:B≤base)
 (hbytes:(xs.length+ys.length)*bytes≤140737488355328) (hb1:1≤bytes) (hbase:base≤w.heap.size) :
 ∃v' w',(Builtin.append_ #[t,t] ty #[v,.slice A m c]).run P w=.ok v' w'∧aq R e w' base B v' (xs++ys)∧Below base w w'∧w.grownBy w' v.ownBlock∧bk w v v':=by
 subst hm
 obtain ⟨cells,how,hf⟩:=hown
 obtain ⟨news,hf2,hnil,hc⟩:=hsrc
 have hle:xs.length+ys.length≤(xs.length+ys.length)*bytes:=Nat.le_mul_of_pos_right _ hb1
 rcases A with _ | ad
 ·obtain rfl:=hnil rfl
  refine ⟨v,w,eG (P:=P) t ty e ht hi how c,?_,AI _ _,World.grownBy.refl w _,.inl rfl⟩
  rw [List.append_nil]
  exact ⟨cells,how,hf⟩
 have hnews:=hc ad rfl
 have h63:xs.length+ys.length≤maxLen:=by unfold maxLen;omega
 have key:=fun (b:Nat) (hb:b≤w.heap.size) (ho:w.ownsRow b e R.k v xs.length cells)=>run_append_own (P:=P) w b t ty e i z R.k bytes ht hi hz hsize hby hzs hsz v xs.length cells ho ad ys.length c news hf2.1 hnews (hf2.single hs1) h63 hbytes hb
 obtain ⟨v',w',hr,ho',hg,_⟩:=key base hbase how
 have hbel:Below base w w':=(AI base w).grown hg hbase (fun k hk=>(how.lt k hk).1)
 refine ⟨v',w',hr,⟨cells++news,by rw [AK];exact ho',(hf.append hf2).keep hbel hB⟩,hbel,hg,?_⟩
 rcases how.2 with ⟨rfl,h0⟩ | ⟨g,cap,cur,rfl,hbg,hgb,hnc,hcm,hcs,htake⟩
 ·have hcn:cells=[]:=List.eq_nil_of_length_eq_zero (by rw [how.1,h0,Nat.zero_mul])
  subst hcn
  obtain ⟨v2,w2,hr2,ho2,_,_⟩:=key w.heap.size (AG _) (by rw [h0];exact World.ownsRow_nil _ _ _ _)
  rw [hr] at hr2
  simp only [Result.ok.injEq] at hr2
  obtain ⟨rfl,rfl⟩:=hr2
  rcases ho2.2 with ⟨h1,_⟩ | ⟨g,cap,cur,rfl,hbg,_⟩
  ·rw [h1];exact .inl rfl
  ·exact .inr ⟨g,rfl,hbg⟩
 ·by_cases hroom:xs.length+ys.length≤cap
  ·have hfit:xs.length*i.size+news.length≤cur.size:=by rw [hf2.1,hcs,hsize,←Nat.add_mul];exact Nat.mul_le_mul_right _ hroom
   have hr2:=run_append_room (P:=P) w t ty e i ht hi g xs.length cap cur hgb ad ys.length c news (by rw [hf2.1,hsize]) hnews (hf2.single hs1) hroom hfit
   rw [hr] at hr2
   simp only [Result.ok.injEq] at hr2
   obtain ⟨rfl,rfl⟩:=hr2
   exact .inl rfl
  ·have holds:∀j u,cells[j]? = some u→w.cell? ((⟨g,0,none⟩:Addr).add j)=some u:=how.cells (g:=g) rfl
   subst hby
   have hr2:=run_append_grow (P:=P) w t ty e i z ht hi hz ⟨g,0,none⟩ xs.length cap cells (by rw [how.1,hsize]) holds ad ys.length c news (by rw [hf2.1,hsize]) hnews (by omega) (by omega) (growslice_fits (by omega) hbytes)
   rw [hr] at hr2
   simp only [Result.ok.injEq] at hr2
   obtain ⟨rfl,rfl⟩:=hr2
   exact .inr ⟨w.heap.size,rfl,AG _⟩
theorem dF {o:Oper} {a:Act} {K:Act→World→Prop} {Q:Exit→Act→World→Prop} (s x:Operand) (t:TypeId)
 (ho:o.op=.call { callee:=.builtin .append,args:=#[s,x],argTypes:=#[t,t] })
 {i:TypeInfo} {z:Value} {bytes:Nat} (ht:P.underlying t=some (.slice e)) (hi:P.info? e=some i) (hz:i.zero=some z)
 (hsize:i.size=R.k) (hby:i.bytes=bytes) (hzs:z.cells.size=R.k) (hsz:0<R.k) (hs1:dL R)
 (hs:a.eval s=v) (hown:aq R e w base B v xs) {A:Option Addr} {m c:Nat} (hx:a.eval x=.slice A m c) (hsrc:fy R w B A ys) (hm:m=ys.length) (hB:B≤base)
 (hbytes:(xs.length+ys.length)*bytes≤140737488355328) (hb1:1≤bytes) (hbase:base≤w.heap.size)
 (h:∀v' w',aq R e w' base B v' (xs++ys)→Below base w w'→w.grownBy w' v.ownBlock→bk w v v'→K (a.put o.dst v') w'):o.wp P a w K Q:=by
 obtain ⟨v',w',hr,h2,h3,h4,h5⟩:=nH (P:=P) t o.type (c:=c) ht hi hz hsize hby hzs hsz hs1 hown hsrc hm hB hbytes hb1 hbase
 unfold Oper.wp execOp
 simp only [ho,resolve,invoke,builtin,Sem.run_bind,Sem.run_pure,Result.andThen_ok,List.map_toArray,List.map_cons,List.map_nil,hs,hx,hr]
 exact h v' w' h2 h3 h4 h5
end
def fF (w:World) (v:Value) (k:Nat) (cs:Array Value) (T:TypeId):Prop:=w.heap[k]? = some (.cells cs T (0,0))∧v.ownBlock≠some k
section
variable {w w':World} {v v':Value} {k:Nat} {cs:Array Value} {T:TypeId} {o:Obj}
theorem fF.lt (h:fF w v k cs T):k<w.heap.size:=(Array.getElem?_eq_some_iff.1 h.1).1
theorem fF.mk' (h1:w.heap[k]? = some (.cells cs T (0,0))) (h2:v.ownBlock≠some k):fF w v k cs T:=⟨h1,h2⟩
theorem fF.below (h:fF w v k cs T) (hb:Below w.heap.size w w'):fF w' v k cs T:=by
 have hb2:Blk w k cs:=⟨T,h.1⟩
 refine ⟨?_,h.2⟩
 exact (hb.block k h.lt).trans h.1
theorem fF.app (h:fF w v k cs T) (hg:w.grownBy w' v.ownBlock) (hf:bk w v v'):fF w' v' k cs T:=by
 refine ⟨(hg.block k h.lt (Ne.symm h.2)).trans h.1,?_⟩
 rcases hf with e | ⟨g,e,hge⟩
 ·rw [e];exact h.2
 ·rw [e];have:=h.lt;simp;omega
theorem fF.blk (h:fF w v k cs T):Blk w k cs:=⟨T,h.1⟩
end
theorem aq.own_lt {α:Type} {R:Reader α} {e:TypeId} {w:World} {base B k:Nat} {v:Value} {xs:List α} (h:aq R e w base B v xs) (hk:w.heap.size≤k):v.ownBlock≠some k:=by
 obtain ⟨cells,h,_⟩:=h
 intro e
 have:=(h.lt k e).2
 omega
theorem fF.new {α:Type} {R:Reader α} {e T:TypeId} {w:World} {base B:Nat} {v:Value} {xs:List α} {cs:Array Value} (h:aq R e w base B v xs):fF (w.alloc (.cells cs T)) v w.heap.size cs T:=⟨heap_alloc_new w _,h.own_lt (AG _)⟩
theorem Blk.srcs {α:Type} {R:Reader α} {w:World} {B b:Nat} {xs:List α} {vs:Array Value} (h:Blk w b vs) (hf:bu R w B xs vs.toList):fy R w B (some ⟨b,0,none⟩) xs:=by
 refine ⟨vs.toList,hf,fun e=>by (cases e),fun a ha j u hu=>?_⟩
 simp only [AP] at ha
 subst ha
 have:=h.cell j
 rw [←Array.getElem?_toList,hu] at this
 unfold Addr.add
 split
 ·rename_i hj;subst hj;exact this
 ·simpa using this
theorem aq.fresh {α:Type} {R:Reader α} {e:TypeId} {w:World} {base B k:Nat} {v:Value} {xs:List α} (h:aq R e w base B v xs) (hk:w.heap.size≤k):some k≠v.ownBlock:=by
 obtain ⟨cells,h,_⟩:=h
 intro e
 have:=(h.lt k e.symm).2
 omega
section
variable {α:Type} {R:Reader α} {w:World} {B b:Nat} {xs:List α} {vs:Array Value} {T:TypeId} {o2:Obj}
end
section
variable {α:Type} {R:Reader α} {w:World} {B b:Nat} {xs:List α} {vs:Array Value} {T:TypeId} {o2:Obj}
theorem zm (h:w.heap[b]? = some (.cells vs T)) (hf:bu R w B xs vs.toList):fy R w B (some ⟨b,0,none⟩) xs:=Blk.srcs ⟨_,h⟩ hf
end
structure StkQ (base D:Nat) (w:World) (xs:List SV) (A:Option Addr) (c:Nat):Prop where
 own:aq SvR 29 w base 0 (.slice A xs.length c) xs
 tms:∀x∈xs,dt D w x
 sep:∀x∈xs,∀a,x.a=some a→∀b,A=some b→a.block≠b.block
 lt:∀x∈xs,∀a,x.a=some a→base≤a.block∧a.block<w.heap.size
section
variable {base D c:Nat} {w w' w2:World} {xs:List SV} {x y:SV} {A:Option Addr}
theorem StkQ.nil (base D:Nat) (w:World):StkQ base D w [] none 0:=⟨aq.nil _ _ _ _ _,by simp,by simp,by simp⟩
theorem StkQ.later (h:StkQ base D w xs A c) (hb:Below w.heap.size w w'):StkQ base D w' xs A c:=
 ⟨h.own.later hb (AH _),fun x hx=>(h.tms x hx).later hb,h.sep,fun x hx a ha=>⟨(h.lt x hx a ha).1,AJ (h.lt x hx a ha).2 hb.size⟩⟩
theorem StkQ.row (h:StkQ base D w xs A c):∀b,A=some b→base≤b.block∧b.block<w.heap.size:=by
 intro b hb
 subst hb
 obtain ⟨cells,how,_⟩:=h.own
 exact how.lt b.block rfl
theorem StkQ.apart (h:StkQ base D w xs A c) {n:Nat} (hn:w.heap.size≤n) (hx:∀a,x.a=some a→n≤a.block):∀a,x.a=some a→∀b,A=some b→a.block≠b.block:=by
 intro a ha b hb
 have h1:=hx a ha
 have h2:=(h.row b hb).2
 omega
theorem StkQ.app (h:StkQ base D w xs A c) (hx:dt D w x) (hap:∀a,x.a=some a→∀b,A=some b→a.block≠b.block) (hlt:∀a,x.a=some a→base≤a.block∧a.block<w.heap.size) (hbase:base≤w.heap.size)
 {A2:Option Addr} {c2:Nat} (ho:aq SvR 29 w2 base 0 (.slice A2 (xs.length+1) c2) (xs++[x])) (hg:w.grownBy w2 (Value.slice A xs.length c).ownBlock) (hf:bk w (.slice A xs.length c) (.slice A2 (xs.length+1) c2)) :
 StkQ base D w2 (xs++[x]) A2 c2∧Below base w w2:=by
 have hb:Below base w w2:=(AI base w).grown hg hbase (fun k hk=>by
  obtain ⟨cells,how,_⟩:=h.own
  exact (how.lt k hk).1)
 have hb0:Below 0 w w2:=hb.mono (AH _)
 have key:∀y,dt D w y→(∀a,y.a=some a→∀b,A=some b→a.block≠b.block)→(∀a,y.a=some a→base≤a.block∧a.block<w.heap.size)→dt D w2 y∧∀a,y.a=some a→(base≤a.block∧a.block<w2.heap.size)∧∀b,A2=some b→a.block≠b.block:=by
  intro y hy hs hl
  refine ⟨hy.keep hb0 fun a ha=>hg.block _ (hl a ha).2 ?_,fun a ha=>⟨⟨(hl a ha).1,AJ (hl a ha).2 hb.size⟩,fun b hb2 e=>?_⟩⟩
  ·intro e
   rcases hA:A with _ | b
   ·rw [hA] at e;cases e
   ·rw [hA] at e
    simp only [Value.ownBlock,AP] at e
    exact hs a ha b hA e
  ·subst hb2
   rcases hf with hf | ⟨k,hk,hk2⟩
   ·rcases hA:A with _ | a2
    ·rw [hA] at hf;simp [Value.ownBlock] at hf
    ·rw [hA] at hf
     simp only [Value.ownBlock,AP] at hf
     exact hs a ha a2 hA (e.trans hf)
   ·simp only [Value.ownBlock,AP] at hk
    have:=(hl a ha).2
    omega
 have hall:∀y∈xs++[x],dt D w2 y∧∀a,y.a=some a→(base≤a.block∧a.block<w2.heap.size)∧∀b,A2=some b→a.block≠b.block:=by
  intro y hy
  rcases List.mem_append.1 hy with h1 | h1
  ·exact key y (h.tms y h1) (h.sep y h1) (h.lt y h1)
  ·rw [List.mem_singleton] at h1
   subst h1
   exact key y hx hap hlt
 refine ⟨⟨?_,fun y hy=>(hall y hy).1,fun y hy a ha=>((hall y hy).2 a ha).2,fun y hy a ha=>((hall y hy).2 a ha).1⟩,hb⟩
 rw [AK,List.length_singleton]
 exact ho
theorem StkQ.drop (h:StkQ base D w (xs++[y]) A c):StkQ base D w xs A c:=by
 refine ⟨?_,fun z hz=>h.tms z (List.mem_append_left _ hz),fun z hz=>h.sep z (List.mem_append_left _ hz),fun z hz=>h.lt z (List.mem_append_left _ hz)⟩
 obtain ⟨cells',ho',hf'⟩:=h.own
 rcases ho'.2 with ⟨h1',h2'⟩ | ⟨g',cap',cur',hv',hg',hh',k1',k2',k3',k4'⟩
 ·simp at h2'
 ·simp only [AR] at hv'
  obtain ⟨rfl,_,rfl⟩:=hv'
  rw [AK,List.length_singleton] at k1'
  have hl':cells'.length=(xs.length+1)*4:=by have:=hf'.1;simpa [SvR] using this
  refine ⟨cells'.take (xs.length*4),⟨by simp only [SvR,AW];omega,.inr ⟨g',c,cur',rfl,hg',hh',by omega,k2',k3',?_⟩⟩,?_⟩
  ·have e2:(xs++[y]).length*SvR.k=(xs.length+1)*4:=by simp [SvR]
   rw [e2] at k4'
   rw [←k4',List.take_take]
   congr 1
   simp [SvR]
  ·have:=hf'.take xs.length
   simpa [SvR] using this
end
theorem bE {α:Type} {R:Reader α} {P:Program} {w:World} {e:TypeId} {base:Nat} {v:Value} {xs ys:List α} {ops:Array Oper} {rest:List Oper} {o:Oper} {a:Act} {Q:Exit→Act→World→Prop} (hgd:o.guard=none) (s x:Operand) (t:TypeId)
 (ho:o.op=.call { callee:=.builtin .append,args:=#[s,x],argTypes:=#[t,t] })
 {i:TypeInfo} {z:Value} {bytes:Nat} (ht:P.underlying t=some (.slice e)) (hi:P.info? e=some i) (hz:i.zero=some z)
 (hsize:i.size=R.k) (hby:i.bytes=bytes) (hzs:z.cells.size=R.k) (hsz:0<R.k) (hs1:dL R)
 (hs:a.eval s=v) (hown:aq R e w base 0 v xs) {ad:Addr} {m c:Nat} (hx:a.eval x=.slice (some ad) m c) (hsrc:fy R w 0 (some ad) ys) (hm:m=ys.length)
 (hbytes:(xs.length+ys.length)*bytes≤140737488355328) (hb1:1≤bytes) (hbase:base≤w.heap.size)
 (h:∀v' w',aq R e w' base 0 v' (xs++ys)→w.grownBy w' v.ownBlock→bk w v v'→wpList P ops Q rest (a.put o.dst v') w'):wpList P ops Q (o::rest) a w:=
 wpList_plain hgd fun _ hK=>mp s x t ho ht hi hz hsize hby hzs hsz hs1 hs hown hx hsrc hm hbytes hb1 hbase fun v' w' h1 h2 h3=>hK _ _ (h v' w' h1 h2 h3)
theorem xz {w:World} {b:Nat} {x:SV} {T:TypeId} (h:w.heap[b]? = some (.cells #[.int .i64 x.t.kind,.int .i64 x.t.n,.string x.t.s,.slice x.a x.t.l.length x.c] T (0,0))):fy SvR w 0 (some ⟨b,0,none⟩) [x]:=Blk.srcs ⟨T,h⟩ (bu.one (R:=SvR) rfl)
theorem aq.farN {α:Type} {R:Reader α} {e:TypeId} {w:World} {base D:Nat} {v:Value} {xs:List α} (h:aq R e w base 0 v xs) (hne:v.ownBlock≠some D) (i:Nat) (u:Value):aq R e (w.setCell ⟨D,i,none⟩ u) base 0 v xs:=by
 obtain ⟨cells,h,hf⟩:=h
 refine ⟨cells,⟨h.1,?_⟩,hf.keep ((AI 0 w).setCell (p:=⟨D,i,none⟩) (AH _) u) (AG _)⟩
 rcases h.2 with h2 | ⟨g,cap,cur,hv,hg,hh,r⟩
 ·exact .inl h2
 ·refine .inr ⟨g,cap,cur,hv,hg,?_,r⟩
  rw [hv] at hne
  simp only [Value.ownBlock,ne_eq,AP] at hne
  exact (Below.heap_setCell w ⟨D,i,none⟩ u g hne).trans hh
def uH (g:Nat) (xs:List SV) (A:Option Addr):Prop:=(∀b,A=some b→b.block<g)∧∀x∈xs,∀a,x.a=some a→a.block<g
theorem StkQ.low {base D c g:Nat} {w:World} {xs:List SV} {A:Option Addr} (h:StkQ base D w xs A c) (hg:w.heap.size≤g):uH g xs A:=
 ⟨fun b hb=>AJ (h.row b hb).2 hg,fun x hx a ha=>AJ (h.lt x hx a ha).2 hg⟩
theorem StkQ.far {base D c g:Nat} {w:World} {xs:List SV} {A:Option Addr} (h:StkQ base D w xs A c) (hl:uH g xs A) (i:Nat) (u:Value):StkQ base D (w.setCell ⟨g,i,none⟩ u) xs A c:=by
 refine ⟨h.own.farN (fun e=>?_) i u,fun x hx=>(h.tms x hx).keep ((AI 0 w).setCell (p:=⟨g,i,none⟩) (AH _) u) fun a ha=>Below.heap_setCell w ⟨g,i,none⟩ u a.block (by have:=hl.2 x hx a ha;show a.block≠g;omega),h.sep,fun x hx a ha=>by rw [World.size_setCell];exact h.lt x hx a ha⟩
 rcases hA:A with _ | b
 ·rw [hA] at e;cases e
 ·rw [hA] at e
  simp only [Value.ownBlock,AP] at e
  have:=hl.1 b hA
  omega
theorem StkQ.far4 {base D c g:Nat} {w:World} {xs:List SV} {A:Option Addr} (h:StkQ base D w xs A c) (hl:uH g xs A) (u0 u1 u2 u3:Value):StkQ base D ((((w.setCell ⟨g,0,none⟩ u0).setCell ⟨g,1,none⟩ u1).setCell ⟨g,2,none⟩ u2).setCell ⟨g,3,none⟩ u3) xs A c:=
 (((h.far hl 0 u0).far hl 1 u1).far hl 2 u2).far hl 3 u3
theorem StkQ.under {base D c g:Nat} {w:World} {xs:List SV} {A:Option Addr} (h:StkQ base D w xs A c) (hg:g<base) (i:Nat) (u:Value):StkQ base D (w.setCell ⟨g,i,none⟩ u) xs A c:=
 ⟨h.own.far hg (AH _) u,fun x hx=>(h.tms x hx).keep ((AI 0 w).setCell (p:=⟨g,i,none⟩) (AH _) u) fun a ha=>Below.heap_setCell w ⟨g,i,none⟩ u a.block (by have:=(h.lt x hx a ha).1;show a.block≠g;omega),h.sep,fun x hx a ha=>by rw [World.size_setCell];exact h.lt x hx a ha⟩
def al (M:Nat→Prop) (w w':World):Prop:=Below 0 w w'∧∀k,k<w.heap.size→¬M k→w'.heap[k]? = w.heap[k]?
section
variable {M N:Nat→Prop} {w w1 w':World}
theorem al.refl (M:Nat→Prop) (w:World):al M w w:=⟨AI 0 w,fun _ _ _=>rfl⟩
theorem al.trans (h:al M w w1) (h1:al N w1 w') (hN:∀k,k<w.heap.size→N k→M k):al M w w':=
 ⟨h.1.trans h1.1,fun k hk hm=>(h1.2 k (AJ hk h.1.size) fun hn=>hm (hN k hk hn)).trans (h.2 k hk hm)⟩
theorem al.mono (h:al M w w') (hN:∀k,k<w.heap.size→M k→N k):al N w w':=⟨h.1,fun k hk hn=>h.2 k hk fun hm=>hn (hN k hk hm)⟩
theorem al.of_below (h:Below w.heap.size w w'):al M w w':=⟨h.mono (AH _),fun k hk _=>h.block k hk⟩
theorem al.under {base:Nat} (h:Below base w w'):al (fun k=>base≤k) w w':=⟨h.mono (AH _),fun k _ hm=>h.block k (by omega)⟩
theorem al.below {base:Nat} (h:al M w w') (hM:∀k,k<base→¬M k) (hb:base≤w.heap.size):Below base w w':=⟨h.1.os,h.1.tape,h.1.output,h.1.size,fun k hk=>h.2 k (AJ hk hb) (hM k hk)⟩
theorem al.size (h:al M w w'):w.heap.size≤w'.heap.size:=h.1.size
theorem al.set_ (h:al M w w') {g:Nat} (hg:g<w.heap.size→M g) (i:Nat) (u:Value):al M w (w'.setCell ⟨g,i,none⟩ u):=by
 refine ⟨h.1.setCell (p:=⟨g,i,none⟩) (AH _) u,fun k hk hm=>?_⟩
 rw [Below.heap_setCell w' ⟨g,i,none⟩ u k (by intro e;have e:k=g:=e;subst e;exact hm (hg hk))]
 exact h.2 k hk hm
theorem al.grown {row:Option Nat} (hg:w.grownBy w' row):al (fun k=>some k=row) w w':=⟨(AI 0 w).grown hg (AH _) (fun _ _=>AH _),fun k hk hm=>hg.block k hk hm⟩
theorem al.cell (h:al M w w') {a:Addr} (ha:a.block<w.heap.size) (hm:¬M a.block):w'.cell? a=w.cell? a:=World.cell?_of_block (h.2 _ ha hm)
theorem al.blk {b:Nat} {cs:Array Value} (h:al M w w') (hb:Blk w b cs) (hm:¬M b):Blk w' b cs:=by
 obtain ⟨T,hh⟩:=hb
 exact ⟨T,(h.2 b (Array.getElem?_eq_some_iff.1 hh).1 hm).trans hh⟩
def fJ (M:Nat→Prop) (w:World) (P:World→Prop):Prop:=∀w',al M w w'→P w'
variable {P Q:World→Prop}
theorem fJ.here (h:fJ M w P):P w:=h w (al.refl M w)
theorem fJ.next (h:fJ M w P) (ha:al N w w1) (hN:∀k,k<w.heap.size→N k→M k) {Q2:Nat→Prop} (hM:∀k,k<w.heap.size→Q2 k→M k):fJ Q2 w1 P:=fun w' h'=>
 h w' ((ha.mono hN).trans h' hM)
theorem fJ.later (h:fJ M w P) (ha:Below w.heap.size w w1):fJ M w1 P:=h.next (al.of_below (M:=M) ha) (fun _ _ h=>h) (fun _ _ h=>h)
theorem fJ.mono (h:fJ M w P) (hQ:∀w',P w'→Q w'):fJ M w Q:=fun w' h'=>hQ w' (h w' h')
theorem fJ.less (h:fJ M w P) (hM:∀k,k<w.heap.size→N k→M k):fJ N w P:=fun w' h'=>h w' (h'.mono hM)
theorem fJ.rd {α:Type} {R:Reader α} {B:Nat} {x:α} {vs:List Value} (h:R.rd w B x vs) (hB:B≤w.heap.size) (hM:∀k,k<B→¬M k):fJ M w (fun w'=>R.rd w' B x vs):=fun w' h'=>R.keep (h'.below hM hB) (AG _) h
theorem fJ.rl {α:Type} {R:Reader α} {B:Nat} {xs:List α} {A:Option Addr} (h:RL R w B xs A) (hB:B≤w.heap.size) (hM:∀k,k<B→¬M k):fJ M w (fun w'=>RL R w' B xs A):=fun w' h'=>h.keep (h'.below hM hB) (AG _)
end
structure Shallow {α:Type} (R:Reader α) (enc:α→List Value):Prop where
 iff:∀{w:World} {B:Nat} {x:α} {vs:List Value},R.rd w B x vs↔vs=enc x
 len:∀x,(enc x).length=R.k
section
variable {α:Type} {R:Reader α} {enc:α→List Value} {e:TypeId} {base:Nat} {w w':World} {v:Value} {xs:List α} {M:Nat→Prop}
theorem aq.agree (h:aq R e w base 0 v xs) (ha:al M w w') (hm:∀k,v.ownBlock=some k→¬M k):aq R e w' base 0 v xs:=by
 obtain ⟨cells,h,hf⟩:=h
 refine ⟨cells,⟨h.1,?_⟩,hf.keep ha.1 (AG _)⟩
 rcases h.2 with h2 | ⟨g,cap,cur,hv,hg0,hh,r⟩
 ·exact .inl h2
 ·exact .inr ⟨g,cap,cur,hv,hg0,(ha.2 g (Array.getElem?_eq_some_iff.1 hh).1 (hm g (by rw [hv];rfl))).trans hh,r⟩
theorem aq.lt (h:aq R e w base 0 v xs):∀g,v.ownBlock=some g→base≤g∧g<w.heap.size:=by
 obtain ⟨cells,how,_⟩:=h
 exact how.lt
theorem oz {L:List Value} {p a k:Nat} {u:Value} (h:p<a∨a+k≤p):((L.set p u).drop a).take k=(L.drop a).take k:=by
 rcases h with h | h
 ·rw [List.drop_set_of_lt h]
 ·rw [List.drop_set,if_neg (by omega),List.take_set,List.set_eq_of_length_le]
  rw [AW];omega
theorem mL {L:List Value} {a k j:Nat} {u:Value} (h:j<k):((L.set (a+j) u).drop a).take k=((L.drop a).take k).set j u:=by
 rw [List.drop_set,if_neg (by omega),List.take_set]
 congr 1;omega
theorem aq.sh (hs:Shallow R enc) (h:aq R e w base 0 v xs) (hx:0<xs.length) :
 ∃g c,v=.slice (some ⟨g,0,none⟩) xs.length c∧g<w.heap.size∧base≤g∧xs.length≤c∧c≤9223372036854775807∧(∀i (hi:i<xs.length) j u,(enc xs[i])[j]? = some u→w.cell? ⟨g,i*R.k+j,none⟩=some u)∧(∀o,w.frozen? ⟨g,o,none⟩=false) ∧
  ∀i (hi:i<xs.length) j u x,j<R.k→enc x=(enc xs[i]).set j u→aq R e (w.setCell ⟨g,i*R.k+j,none⟩ u) base 0 v (xs.set i x):=by
 obtain ⟨cells,ho,hf⟩:=h
 rcases ho.2 with ⟨h1,h2⟩ | ⟨g,cap,cur,hv,hg,hh,k1,k2,k3,k4⟩
 ·omega
 ·have hglt:g<w.heap.size:=(Array.getElem?_eq_some_iff.1 hh).1
  have hbt:bS w g cur e:=hh
  refine ⟨g,cap,hv,hglt,hg,k1,by unfold maxLen at k2;omega,?_,hbt.blk.free,?_⟩
  ·intro i hi j u hj
   have h0:=hs.iff.1 (hf.2 i hi)
   rw [←h0,List.getElem?_take] at hj
   split at hj
   ·rw [List.getElem?_drop,←k4,List.getElem?_take] at hj
    split at hj
    ·rw [cell_of_row w g _ cur e (0,0) hh]
     simpa using hj
    ·cases hj
   ·cases hj
  ·intro i hi j u x hj he
   have hp:i*R.k+j<xs.length*R.k:=by
    have:(i+1)*R.k≤xs.length*R.k:=Nat.mul_le_mul_right _ hi
    rw [Nat.add_mul] at this;omega
   refine ⟨cells.set (i*R.k+j) u,⟨by rw [List.length_set,List.length_set];exact ho.1,.inr ⟨g,cap,_,by rw [List.length_set];exact hv,hg,hbt.set_ (i*R.k+j) u,by rw [List.length_set];exact k1,k2,by simpa using k3,?_⟩⟩,by rw [List.length_set,List.length_set];exact hf.1,fun i' hi'=>?_⟩
   ·rw [List.length_set,Array.toList_setIfInBounds,List.take_set,k4]
   ·rw [List.length_set] at hi'
    rw [hs.iff]
    have h0:=hs.iff.1 (hf.2 i' hi')
    by_cases hii:i'=i
    ·subst hii
     rw [List.getElem_set_self,mL hj,h0,he]
    ·rw [List.getElem_set_ne (Ne.symm hii),←h0]
     refine oz ?_
     rcases Nat.lt_or_ge i' i with h1 | h1
     ·right
      have:(i'+1)*R.k≤i*R.k:=Nat.mul_le_mul_right _ h1
      rw [Nat.add_mul] at this;omega
     ·left
      have:(i+1)*R.k≤i'*R.k:=Nat.mul_le_mul_right _ (by omega)
      rw [Nat.add_mul] at this;omega
end
theorem dt.keep2 {D:Nat} {w w':World} {x:SV} (h:dt D w x) (hb:Below 0 w w') (he:x.t.l≠[]→∀a,x.a=some a→w'.heap[a.block]? = w.heap[a.block]?):dt D w' x:=by
 by_cases hn:x.t.l=[]
 ·obtain ⟨⟨A,c,e,h1,h2,h3,h4,h5,h6⟩,hl⟩:=h
  exact ⟨⟨A,c,e,h1,h2,h3,h4,h5,fun h0=>absurd h0 (by rw [hn];simp)⟩,hl⟩
 ·exact h.keep hb (he hn)
structure StkB (base B D:Nat) (w:World) (xs:List SV) (A:Option Addr) (c:Nat):Prop where
 own:aq SvR 29 w base 0 (.slice A xs.length c) xs
 tms:∀x∈xs,dt D w x
 sep:∀x∈xs,x.t.l≠[]→∀a,x.a=some a→∀b,A=some b→a.block≠b.block
 lt:∀x∈xs,x.t.l≠[]→∀a,x.a=some a→(a.block<B∨base≤a.block)∧a.block<w.heap.size
section
variable {base B D c:Nat} {w w' w2:World} {xs:List SV} {x y:SV} {A:Option Addr}
theorem StkB.nil (base B D:Nat) (w:World):StkB base B D w [] none 0:=⟨aq.nil _ _ _ _ _,by simp,by simp,by simp⟩
theorem StkB.later (h:StkB base B D w xs A c) (hb:Below w.heap.size w w'):StkB base B D w' xs A c:=
 ⟨h.own.later hb (AH _),fun x hx=>(h.tms x hx).later hb,h.sep,fun x hx hn a ha=>⟨(h.lt x hx hn a ha).1,AJ (h.lt x hx hn a ha).2 hb.size⟩⟩
theorem StkB.row (h:StkB base B D w xs A c):∀b,A=some b→base≤b.block∧b.block<w.heap.size:=by
 intro b hb
 subst hb
 obtain ⟨cells,how,_⟩:=h.own
 exact how.lt b.block rfl
theorem StkB.app (h:StkB base B D w xs A c) (hx:dt D w x) (hap:x.t.l≠[]→∀a,x.a=some a→∀b,A=some b→a.block≠b.block) (hlt:x.t.l≠[]→∀a,x.a=some a→(a.block<B∨base≤a.block)∧a.block<w.heap.size) (hbase:base≤w.heap.size)
 {A2:Option Addr} {c2:Nat} (ho:aq SvR 29 w2 base 0 (.slice A2 (xs.length+1) c2) (xs++[x])) (hg:w.grownBy w2 (Value.slice A xs.length c).ownBlock) (hf:bk w (.slice A xs.length c) (.slice A2 (xs.length+1) c2)) :
 StkB base B D w2 (xs++[x]) A2 c2∧Below base w w2:=by
 have hb:Below base w w2:=(AI base w).grown hg hbase (fun k hk=>by
  obtain ⟨cells,how,_⟩:=h.own
  exact (how.lt k hk).1)
 have hb0:Below 0 w w2:=hb.mono (AH _)
 have key:∀y,dt D w y→(y.t.l≠[]→∀a,y.a=some a→∀b,A=some b→a.block≠b.block)→(y.t.l≠[]→∀a,y.a=some a→(a.block<B∨base≤a.block)∧a.block<w.heap.size)→dt D w2 y∧(y.t.l≠[]→∀a,y.a=some a→((a.block<B∨base≤a.block)∧a.block<w2.heap.size)∧∀b,A2=some b→a.block≠b.block):=by
  intro y hy hs hl
  refine ⟨hy.keep2 hb0 fun hn a ha=>hg.block _ (hl hn a ha).2 ?_,fun hn a ha=>⟨⟨(hl hn a ha).1,AJ (hl hn a ha).2 hb.size⟩,fun b hb2 e=>?_⟩⟩
  ·intro e
   rcases hA:A with _ | b
   ·rw [hA] at e;cases e
   ·rw [hA] at e
    simp only [Value.ownBlock,AP] at e
    exact hs hn a ha b hA e
  ·subst hb2
   rcases hf with hf | ⟨k,hk,hk2⟩
   ·rcases hA:A with _ | a2
    ·rw [hA] at hf;simp [Value.ownBlock] at hf
    ·rw [hA] at hf
     simp only [Value.ownBlock,AP] at hf
     exact hs hn a ha a2 hA (e.trans hf)
   ·simp only [Value.ownBlock,AP] at hk
    have:=(hl hn a ha).2
    omega
 have hall:∀y∈xs++[x],dt D w2 y∧(y.t.l≠[]→∀a,y.a=some a→((a.block<B∨base≤a.block)∧a.block<w2.heap.size)∧∀b,A2=some b→a.block≠b.block):=by
  intro y hy
  rcases List.mem_append.1 hy with h1 | h1
  ·exact key y (h.tms y h1) (h.sep y h1) (h.lt y h1)
  ·rw [List.mem_singleton] at h1
   subst h1
   exact key y hx hap hlt
 refine ⟨⟨?_,fun y hy=>(hall y hy).1,fun y hy hn a ha=>((hall y hy).2 hn a ha).2,fun y hy hn a ha=>((hall y hy).2 hn a ha).1⟩,hb⟩
 rw [AK,List.length_singleton]
 exact ho
theorem StkB.far {g:Nat} (h:StkB base B D w xs A c) (hB:B≤g) (hg:g<base) (i:Nat) (u:Value):StkB base B D (w.setCell ⟨g,i,none⟩ u) xs A c:=
 ⟨h.own.far hg (AH _) u,fun x hx=>(h.tms x hx).keep2 ((AI 0 w).setCell (p:=⟨g,i,none⟩) (AH _) u) fun hn a ha=>Below.heap_setCell w ⟨g,i,none⟩ u a.block (by have:=(h.lt x hx hn a ha).1;show a.block≠g;omega),h.sep,fun x hx hn a ha=>by rw [World.size_setCell];exact h.lt x hx hn a ha⟩
def StkLB (g:Nat) (xs:List SV) (A:Option Addr):Prop:=(∀b,A=some b→b.block<g)∧∀x∈xs,x.t.l≠[]→∀a,x.a=some a→a.block<g
theorem StkB.low {g:Nat} (h:StkB base B D w xs A c) (hg:w.heap.size≤g):StkLB g xs A:=
 ⟨fun b hb=>AJ (h.row b hb).2 hg,fun x hx hn a ha=>AJ (h.lt x hx hn a ha).2 hg⟩
theorem StkB.up {g:Nat} (h:StkB base B D w xs A c) (hl:StkLB g xs A) (i:Nat) (u:Value):StkB base B D (w.setCell ⟨g,i,none⟩ u) xs A c:=by
 refine ⟨h.own.farN (fun e=>?_) i u,fun x hx=>(h.tms x hx).keep2 ((AI 0 w).setCell (p:=⟨g,i,none⟩) (AH _) u) fun hn a ha=>Below.heap_setCell w ⟨g,i,none⟩ u a.block (by have:=hl.2 x hx hn a ha;show a.block≠g;omega),h.sep,fun x hx hn a ha=>by rw [World.size_setCell];exact h.lt x hx hn a ha⟩
 rcases hA:A with _ | b
 ·rw [hA] at e;cases e
 ·rw [hA] at e
  simp only [Value.ownBlock,AP] at e
  have:=hl.1 b hA
  omega
theorem StkB.reads (h:StkB base B D w xs A c) (hn:xs.length≤1000000):RSl (TmR (D+1)) w w.heap.size (xs.map SV.t) (.slice A xs.length c):=by
 obtain ⟨A3,c3,e3,h1,h2,r3⟩:=h.own.reads (AH _) (by show xs.length*(8*4)≤_;omega)
 simp only [AR] at e3
 obtain ⟨rfl,_,rfl⟩:=e3
 refine ⟨A,c,by rw [AM],by rw [AM];exact h1,⟨by rw [AM];show xs.length*(8*4)≤_;omega,h2.2⟩,?_⟩
 intro h0
 rw [AM] at h0
 obtain ⟨b,off,e,hb,hc⟩:=r3 h0
 refine ⟨b,off,e,hb,fun i hi=>?_⟩
 rw [AM] at hi
 obtain ⟨vs,hl,⟨x,hx,hr⟩,hv⟩:=hc i hi
 obtain rfl:vs=x.cs:=hr
 exact ⟨x.cs,hl,⟨x.t,by rw [List.getElem?_map,hx];rfl,(h.tms x (List.mem_of_getElem? hx)).1⟩,hv⟩
end
theorem un:Shallow SvR SV.cs:=⟨Iff.rfl,fun _=>rfl⟩
section
variable {base B D c:Nat} {w w':World} {xs:List SV} {x y:SV} {A:Option Addr} {M:Nat→Prop}
theorem StkB.agree (h:StkB base B D w xs A c) (ha:al M w w') (hM:∀k,base≤k→¬M k) (hB:∀k,k<B→¬M k):StkB base B D w' xs A c:=
 ⟨h.own.agree ha (fun k hk=>hM k (h.own.lt k hk).1),fun x hx=>(h.tms x hx).keep2 ha.1 fun hn a e=>ha.2 _ (h.lt x hx hn a e).2 (by
  rcases (h.lt x hx hn a e).1 with h1 | h1
  ·exact hB _ h1
  ·exact hM _ h1),h.sep,fun x hx hn a e=>⟨(h.lt x hx hn a e).1,AJ (h.lt x hx hn a e).2 ha.size⟩⟩
theorem StkB.lower {b0:Nat} (h:StkB base B D w xs A c) (hb:b0≤base):StkB b0 B D w xs A c:=
 ⟨h.own.lower hb,h.tms,h.sep,fun x hx hn a ha=>⟨(h.lt x hx hn a ha).1.imp id (AF hb),(h.lt x hx hn a ha).2⟩⟩
theorem StkB.new (h:StkB base B D w xs A c) (hn:∀x∈xs,x.t.l≠[]→∀a,x.a=some a→base≤a.block):StkB base 0 D w xs A c:=
 ⟨h.own,h.tms,h.sep,fun x hx hl a ha=>⟨.inr (hn x hx hl a ha),(h.lt x hx hl a ha).2⟩⟩
theorem StkB.of_clone {ts:List Tm} {v:Value} (h:aq (TmR (D+1)) 29 w base B v ts) (hB:B≤base) (hBw:B≤w.heap.size) (hl:∀t∈ts,∀u∈t.l,jv u):∃xs A c,xs.map SV.t=ts∧v=.slice A ts.length c∧StkB base B D w xs A c:=by
 obtain ⟨cells,how,hf⟩:=h
 have key:∀i (hi:i<ts.length),∃x:SV,x.t=ts[i]∧(cells.drop (i*4)).take 4=x.cs∧dt D w x∧(x.t.l≠[]→∀a,x.a=some a→a.block<B):=by
  intro i hi
  have hr:RTm w B (D+1) ts[i] ((cells.drop (i*4)).take 4):=hf.2 i hi
  have hr2:=hr
  obtain ⟨A,c,e,h1,h2,h3,h4,h5,h6⟩:=hr
  refine ⟨⟨ts[i],A,c⟩,rfl,e,⟨?_,hl _ (List.getElem_mem hi)⟩,fun hn a ha=>?_⟩
  ·rw [e] at hr2
   exact RTm.more hBw hr2
  ·obtain ⟨b,off,e2,hb,_⟩:=h6 (List.length_pos_iff.2 hn)
   have ha:A=some a:=ha
   rw [ha] at e2
   simp only [AP] at e2
   rw [e2];exact hb
 have hch:∃xs:List SV,xs.length=ts.length∧∀i (hi:i<xs.length) (hi':i<ts.length),xs[i].t=ts[i]∧(cells.drop (i*4)).take 4=xs[i].cs∧dt D w xs[i]∧(xs[i].t.l≠[]→∀a,xs[i].a=some a→a.block<B):=by
  have:∀k,k≤ts.length→∃xs:List SV,xs.length=k∧∀i (hi:i<xs.length) (hi':i<ts.length),xs[i].t=ts[i]∧(cells.drop (i*4)).take 4=xs[i].cs∧dt D w xs[i]∧(xs[i].t.l≠[]→∀a,xs[i].a=some a→a.block<B):=by
   intro k
   induction k with
   | zero=>intro _;exact ⟨[],rfl,fun i hi=>absurd hi (by simp)⟩
   | succ k ih=>
     intro hk
     obtain ⟨xs,hl,hx⟩:=ih (by omega)
     obtain ⟨x,h1⟩:=key k (by omega)
     refine ⟨xs++[x],by simp [hl],fun i hi hi'=>?_⟩
     rcases Nat.lt_or_ge i xs.length with h2 | h2
     ·rw [List.getElem_append_left h2];exact hx i h2 hi'
     ·have h3:i=k:=by rw [AK,List.length_singleton] at hi;omega
      subst h3
      have e:(xs++[x])[i]=x:=by rw [List.getElem_append_right h2];simp
      rw [e];exact h1
  exact this _ (AG _)
 obtain ⟨xs,hlen,hx⟩:=hch
 have hmap:xs.map SV.t=ts:=List.ext_getElem (by simp [hlen]) fun i h1 h2=>by
  rw [List.getElem_map];exact (hx i (by simpa using h1) h2).1
 have hform:∃A c,v=.slice A ts.length c:=by
  rcases how.2 with ⟨h1,h2⟩ | ⟨g,cap,cur,hv,_⟩
  ·exact ⟨none,0,by rw [h1,h2]⟩
  ·exact ⟨_,_,hv⟩
 obtain ⟨A,c,rfl⟩:=hform
 have hlt:=how.lt
 refine ⟨xs,A,c,hmap,rfl,⟨cells,by rw [hlen];exact how,by rw [hlen];exact hf.1,fun i hi=>(hx i hi (hlen▸hi)).2.1⟩,fun x h=>?_,fun x h hn a ha b hb e=>?_,fun x h hn a ha=>?_⟩
 all_goals obtain ⟨i,hi,rfl⟩:=List.getElem_of_mem h
 ·exact (hx i hi (hlen▸hi)).2.2.1
 ·have h1:=(hx i hi (hlen▸hi)).2.2.2 hn a ha
  subst hb
  have h2:=(hlt b.block rfl).1
  omega
 ·have h1:=(hx i hi (hlen▸hi)).2.2.2 hn a ha
  exact ⟨.inl h1,by omega⟩
theorem StkB.setL (h:StkB base B D w xs A c) {i:Nat} (hi:i<xs.length):∃g,A=some ⟨g,0,none⟩∧base≤g∧g<w.heap.size∧xs.length≤c∧c≤9223372036854775807∧(∀i (hi:i<xs.length) j u,(xs[i].cs)[j]? = some u→w.cell? ⟨g,i*4+j,none⟩=some u)∧(∀o,w.frozen? ⟨g,o,none⟩=false) ∧
 ∀y:SV,dt D w y→y.t=xs[i].t→(y.t.l≠[]→∀a,y.a=some a→(a.block<B∨base≤a.block)∧a.block<w.heap.size)→(y.t.l≠[]→∀a,y.a=some a→a.block≠g) →
  StkB base B D (w.setCell ⟨g,i*4+3,none⟩ (.slice y.a y.t.l.length y.c)) (xs.set i y) A c:=by
 obtain ⟨g,c2,e,h1,h2,h3,h4,h5,h6,h7⟩:=h.own.sh un (by omega)
 simp only [AR,true_and] at e
 obtain ⟨rfl,rfl⟩:=e
 refine ⟨g,rfl,h2,h1,h3,h4,fun i hi j u hj=>h5 i hi j u hj,h6,fun y hy ht hlt hsep=>?_⟩
 have hne:∀z∈xs,z.t.l≠[]→∀a,z.a=some a→a.block≠g:=fun z hz hn a ha=>h.sep z hz hn a ha _ rfl
 have hk:∀z,dt D w z→(z.t.l≠[]→∀a,z.a=some a→a.block≠g)→dt D (w.setCell ⟨g,i*4+3,none⟩ (.slice y.a y.t.l.length y.c)) z:=fun z hz hn=>hz.keep2 ((AI 0 w).setCell (p:=⟨g,i*4+3,none⟩) (AH _) _) fun h0 a ha=>Below.heap_setCell w ⟨g,i*4+3,none⟩ _ a.block (hn h0 a ha)
 refine ⟨?_,fun z hz=>?_,fun z hz hn a ha b hb=>?_,fun z hz hn a ha=>?_⟩
 ·rw [List.length_set]
  refine h7 i hi 3 _ y (by show 3<4;omega) ?_
  unfold SV.cs
  rw [ht];rfl
 ·rcases List.mem_or_eq_of_mem_set hz with hz | rfl
  ·exact hk z (h.tms z hz) (hne z hz)
  ·exact hk z hy hsep
 ·simp only [AP] at hb
  subst hb
  rcases List.mem_or_eq_of_mem_set hz with hz | rfl
  ·exact hne z hz hn a ha
  ·exact hsep hn a ha
 ·rw [World.size_setCell]
  rcases List.mem_or_eq_of_mem_set hz with hz | rfl
  ·exact h.lt z hz hn a ha
  ·exact hlt hn a ha
end
def cM {α:Type} (L:List α) (p:Nat) (x:α):List α:=L.take p++x::L.drop p
section
variable {α:Type} {L:List α} {p k:Nat} {x y:α}
theorem bJ (h:p≤L.length):(cM L p x).length=L.length+1:=by simp [cM];omega
theorem dv:y∈cM L p x↔y=x∨y∈L:=by
 unfold cM
 rw [List.mem_append,List.mem_cons]
 constructor
 ·rintro (h | h | h)
  ·exact .inr (List.mem_of_mem_take h)
  ·exact .inl h
  ·exact .inr (List.mem_of_mem_drop h)
 ·rintro (h | h)
  ·exact .inr (.inl h)
  ·rw [←List.take_append_drop p L,List.mem_append] at h
   rcases h with h | h
   ·exact .inl h
   ·exact .inr (.inr h)
end
section
variable {L:List aZ} {t:aZ} {k:Nat}
theorem oh:iG L t≤L.length:=List.findIdx_le_length
theorem rB (hk:k<L.length) (h:k<iG L t):L[k]<t:=by
 have:=List.not_of_lt_findIdx h
 simpa using this
theorem tX (hs:L.Pairwise (· < ·)) (hk:k<L.length) (h:iG L t≤k):¬L[k]<t:=by
 have hp:iG L t<L.length:=Nat.lt_of_le_of_lt h hk
 have h0:¬L[iG L t]<t:=by
  have:=List.findIdx_getElem (xs:=L) (p:=fun x=>!decide (x<t)) (w:=hp)
  have h2:(!decide (L[iG L t]<t))=true:=this
  simpa using h2
 rcases Nat.lt_or_eq_of_le h with h1 | h1
 ·intro h2
  exact h0 (List.lt_trans (List.pairwise_iff_getElem.1 hs _ k hp hk h1) h2)
 ·subst h1;exact h0
theorem nr (hs:L.Pairwise (· < ·)) (hk:k<L.length) (e:L[k]=t):iG L t=k:=by
 refine wY (Nat.le_of_lt hk) (fun j hj hjk=>?_) (fun j hj hkj=>?_)
 ·rw [←e];exact List.pairwise_iff_getElem.1 hs j k hj hk hjk
 ·rcases Nat.lt_or_ge k j with h1 | h1
  ·rw [←e]
   exact fun h2=>List.lt_asymm (List.pairwise_iff_getElem.1 hs k j hk hj h1) h2
  ·obtain rfl:j=k:=by omega
   rw [e];exact List.lt_irrefl t
theorem ve {a b:aZ} (h1:¬a<b) (h2:a≠b):b<a:=by
 rcases List.le_iff_lt_or_eq.1 (List.not_lt.1 h1) with h | h
 ·exact h
 ·exact absurd h.symm h2
theorem zg (hs:L.Pairwise (· < ·)) (hn:t∉L):(cM L (iG L t) t).Pairwise (· < ·):=by
 have hb:∀a∈L.take (iG L t),a<t:=by
  intro a ha
  obtain ⟨i,hi,rfl⟩:=List.getElem_of_mem ha
  rw [AW] at hi
  rw [List.getElem_take]
  exact rB (by omega) (by omega)
 have ha:∀a∈L.drop (iG L t),t<a:=by
  intro a ha
  obtain ⟨i,hi,rfl⟩:=List.getElem_of_mem ha
  rw [List.length_drop] at hi
  rw [List.getElem_drop]
  exact ve (tX hs (by omega) (Nat.le_add_right _ _)) (fun e=>hn (e▸List.getElem_mem _))
 unfold cM
 rw [List.pairwise_append]
 refine ⟨hs.take,?_,fun a h1 b h2=>?_⟩
 ·rw [List.pairwise_cons]
  exact ⟨ha,hs.drop⟩
 ·rcases List.mem_cons.1 h2 with rfl | h2
  ·exact hb a h1
  ·exact List.lt_trans (hb a h1) (ha b h2)
end
structure OkN (b:Bd):Prop where
 len:b.names.length=b.terms.length
 rise:b.names.Pairwise (· < ·)
 may:∀n∈b.names,dQ n=true
 fixed:∀t∈b.terms,af t=true
theorem dW {b:Bd}:bG b=true↔OkN b∧b.names.length≤32:=by
 constructor
 ·intro h
  obtain ⟨h1,h2⟩:=dX h
  exact ⟨⟨h1.len,h1.rise,h2,h1.fixed⟩,h1.few⟩
 ·rintro ⟨⟨h1,h2,h3,h4⟩,h5⟩
  unfold bG
  rw [AN,AN,List.all_eq_true]
  refine ⟨⟨decide_eq_true h1,decide_eq_true h5⟩,fun i hi=>?_⟩
  have hi:i<b.names.length:=by simpa using hi
  unfold iJ
  rw [AO hi,AO (h1▸hi),AO (show i-1<b.names.length by omega)]
  simp only [h3 _ (List.getElem_mem hi),h4 _ (List.getElem_mem (h1▸hi)),Bool.true_and,Bool.or_eq_true,AT]
  rcases Nat.eq_zero_or_pos i with h | h
  ·exact .inl h
  ·exact .inr (List.pairwise_iff_getElem.1 h2 (i-1) i (by omega) hi (by omega))
theorem OkN.bd {b:Bd} (h:OkN b) (h32:b.names.length≤32):bG b=true:=dW.2 ⟨h,h32⟩
def yF (b:Bd) (n:aZ) (t:Tm):Bd:=⟨cM b.names (iG b.names n) n,cM b.terms (iG b.names n) t⟩
section
variable {b c:Bd} {n m:aZ} {t u:Tm}
theorem we:(yF b n t).names.length=b.names.length+1:=bJ oh
theorem OkN.ins (h:OkN b) (hn:n∉b.names) (hm:dQ n=true) (ht:af t=true):OkN (yF b n t):=by
 refine ⟨?_,zg h.rise hn,fun a ha=>?_,fun a ha=>?_⟩
 ·rw [we]
  show _=(cM b.terms (iG b.names n) t).length
  rw [bJ (h.len▸oh),h.len]
 ·rcases dv.1 ha with rfl | ha
  ·exact hm
  ·exact h.may a ha
 ·rcases dv.1 ha with rfl | ha
  ·exact ht
  ·exact h.fixed a ha
theorem sA (h:OkN b):cZ b m=some u↔∃k:Nat,b.names[k]? = some m∧b.terms[k]? = some u:=by
 constructor
 ·intro e
  unfold cZ at e
  split at e
  ·rename_i hm
   obtain ⟨k,hk,hkm⟩:=List.getElem_of_mem hm
   have hp:=nr h.rise hk hkm
   exact ⟨k,by rw [AO hk,hkm],by rw [←hp];exact e⟩
  ·cases e
 ·rintro ⟨k,h1,h2⟩
  obtain ⟨hk,hkm⟩:=List.getElem?_eq_some_iff.1 h1
  unfold cZ
  rw [if_pos (hkm▸List.getElem_mem hk),nr h.rise hk hkm]
  exact h2
theorem wH (h:OkN b):cZ b m=none↔m∉b.names:=by
 constructor
 ·intro e hm
  obtain ⟨k,hk,hkm⟩:=List.getElem_of_mem hm
  have:cZ b m=some (b.terms[k]'(h.len▸hk)):=(sA h).2 ⟨k,by rw [AO hk,hkm],AO _⟩
  rw [e] at this;cases this
 ·intro hm;unfold cZ;rw [if_neg hm]
theorem nf (h:OkN b) (e:cZ b m=some u):af u=true:=by
 obtain ⟨k,_,h2⟩:=(sA h).1 e
 exact h.fixed u (List.mem_of_getElem? h2)
end
def xR (b:Bd) (x y:Tm):Option Bd:=
 if x.kind=1 then (match cZ b (bs x.s) with | some z=>if iD z y=true then some b else none | none=>some (yF b (bs x.s) y))
 else if iD x y=true then some b else none
def vK:List Tm→List Tm→Bd→Option Bd
 | x::xs,y::ys,b=>match xR b x y with | some c=>vK xs ys c | none=>none
 | _,_,b=>some b
def okB (r:Option Bd):Option Bd:=match r with | some c=>if bG c=true then some c else none | none=>none
def gZ (p f:Pr) (b:Bd):Option Bd:=
 if p.name=f.name∧p.terms.length=f.terms.length then okB (vK p.terms f.terms b) else none
def nR (b:Bd) (x:Tm):Option Tm:=if x.kind=1 then cZ b (bs x.s) else some x
def gX (b:Bd):List Tm→Option (List Tm)
 | []=>some []
 | x::xs=>match nR b x with | some z=>(match gX b xs with | some zs=>some (z::zs) | none=>none) | none=>none
def gY (p:Pr) (b:Bd):Option Pr:=if aE p=true∧bG b=true then (match gX b p.terms with | some zs=>some ⟨p.name,zs⟩ | none=>none) else none
def sE (c:Bd) (x y:Tm):Prop:=if x.kind=1 then ∃z,cZ c (bs x.s)=some z∧iD z y=true else iD x y=true
def Keeps (b c:Bd):Prop:=∀m u,cZ b m=some u→cZ c m=some u
theorem yP {x:Tm} (h:fD x=true) (h1:x.kind=1):dQ (bs x.s)=true:=by
 unfold fD at h
 rw [if_neg (by rw [h1];decide)] at h
 unfold ef at h
 simp [h1] at h
 exact h.2.2
section
variable {b c:Bd} {x y:Tm}
theorem sE.keep (h:sE b x y) (hk:Keeps b c):sE c x y:=by
 unfold sE at h ⊢
 split
 ·rename_i h1
  rw [if_pos h1] at h
  obtain ⟨z,h2,h3⟩:=h
  exact ⟨z,hk _ _ h2,h3⟩
 ·rename_i h1
  rw [if_neg h1] at h
  exact h
end
theorem pm {xs ys:List Tm} {k:Nat} {b:Bd} (h1:k<xs.length) (h2:k<ys.length):vK (xs.drop k) (ys.drop k) b=match xR b xs[k] ys[k] with | some c=>vK (xs.drop (k+1)) (ys.drop (k+1)) c | none=>none:=by
 rw [List.drop_eq_getElem_cons h1,List.drop_eq_getElem_cons h2]
 rfl
theorem yx {xs ys:List Tm} {b:Bd} (k:Nat) (h1:xs.length≤k):vK (xs.drop k) (ys.drop k) b=some b:=by
 rw [List.drop_eq_nil_of_le h1]
 unfold vK;rfl
theorem go {p:Pr} (h:aE p=true):p.terms.length≤8∧∀x∈p.terms,fD x=true:=by
 unfold aE at h
 simp only [AN,AT,List.all_eq_true] at h
 exact h.2
theorem tw {p:Pr} (h:gP p=true):aE p=true∧∀x∈p.terms,af x=true:=by
 unfold gP at h
 simp only [AN,AT,List.all_eq_true] at h
 exact ⟨h.1,h.2.2⟩
end Go.Proofs.YtjpndglegpcdnaaGreat
