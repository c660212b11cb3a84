/- fix.fresh: Len, Less, Swap, Pop; a pile of container/heap. Printed by mk_fx3.py. -/
import Derived.Test.YtjpndglegpcdnaaGreatHeapG
import Derived.Test.YtjpndglegpcdnaaGreatFx2
set_option linter.unusedVariables false
set_option linter.unusedSimpArgs false
set_option maxRecDepth 100000
set_option maxHeartbeats 8000000
namespace Go.Proofs.YtjpndglegpcdnaaGreat
open Go.ChangeShapes Go.WideShapes Go.ChangeAt Go.RowKit
def cFV (x y:FV):Int:=aD x.f y.f
theorem cFV_ord:Ord3 cFV:=aR.by FV.f
def mf (cur:Array Value) (xs:List FV):Prop:=∀k,k<xs.length→∀b,b<3→cur[k*3+b]? = (atL cZ xs k).cs[b]?
def tt (cur:Array Value) (o:Nat) (x:FV):Array Value:=
 ((cur.setIfInBounds o (.string x.f.pr.name)).setIfInBounds (o+1) (.slice x.a x.f.pr.terms.length x.c)).setIfInBounds (o+2) (.int .u32 x.f.o)
theorem pz {cur:Array Value} {i k b:Nat} {x:FV} (h:i*3+2<cur.size) (hb:b<3):(tt cur (i*3) x)[k*3+b]? = if k=i then x.cs[b]? else cur[k*3+b]?:=by
 unfold tt
 simp only [Array.getElem?_setIfInBounds,Array.size_setIfInBounds]
 by_cases hk:k=i
 ·subst hk
  have h4:b=0∨b=1∨b=2:=by omega
  rcases h4 with rfl | rfl | rfl
  ·rw [if_neg (by omega),if_neg (by omega),if_pos (by omega),if_pos (by omega),if_pos rfl];rfl
  ·rw [if_neg (by omega),if_pos (by omega),if_pos (by omega),if_pos rfl];rfl
  ·rw [if_pos (by omega),if_pos (by omega),if_pos rfl];rfl
 ·rw [if_neg (by omega),if_neg (by omega),if_neg (by omega),if_neg hk]
theorem tu {cur:Array Value} {o:Nat} {x:FV}:(tt cur o x).size=cur.size:=by simp [tt]
theorem mf.size {cur:Array Value} {xs:List FV} (h:mf cur xs) {k:Nat} (hk:k<xs.length):k*3+2<cur.size:=by
 have:=h k hk 2 (by omega)
 rcases Nat.lt_or_ge (k*3+2) cur.size with h1 | h1
 ·exact h1
 ·rw [Array.getElem?_eq_none h1] at this;cases this
theorem mf.swap {cur:Array Value} {xs:List FV} {i j:Nat} (h:mf cur xs) (hi:i<xs.length) (hj:j<xs.length) :
 mf (tt (tt cur (i*3) (atL cZ xs j)) (j*3) (atL cZ xs i)) (sw cZ xs i j):=by
 intro k hk b hb
 rw [cm] at hk
 rw [pz (by rw [tu];exact h.size hj) hb,mi hi hj]
 by_cases h1:k=j
 ·rw [if_pos h1,if_pos h1]
 ·rw [if_neg h1,if_neg h1,pz (h.size hi) hb]
  by_cases h2:k=i
  ·rw [if_pos h2,if_pos h2]
  ·rw [if_neg h2,if_neg h2];exact h k hk b hb
theorem mf.take {cur:Array Value} {xs:List FV} (h:mf cur xs) (n:Nat):mf cur (xs.take n):=by
 intro k hk b hb
 rw [zK] at hk
 rw [h k (by omega) b hb]
 congr 2
 rw [bO (by omega),bO (by rw [zK];omega),List.getElem_take]
theorem qc {xs:List FV} {k:Nat} (h:k<xs.length):atL cZ xs k∈xs:=by rw [bO h];exact List.getElem_mem h
structure FPile (d P G cp:Nat) (w:World) (xs:List FV):Prop where
 hd:Blk w P #[.slice (some ⟨G,0,none⟩) xs.length cp]
 row:∃cur,Blk w G cur∧mf cur xs
 deep:∀x∈xs,FcOk x.f∧fD (fun k=>k=P∨k=G) w (fun w'=>(ax (d+1)).rd w' w'.heap.size x.f x.cs)
 few:xs.length≤1000000000000
section
variable {d P G cp:Nat} {w w':World} {xs ys:List FV}
theorem FPile.later (h:FPile d P G cp w xs) (hb:Below w.heap.size w w'):FPile d P G cp w' xs:=by
 obtain ⟨cur,h1,h2⟩:=h.row
 exact ⟨h.hd.later hb,⟨cur,h1.later hb,h2⟩,fun x hx=>⟨(h.deep x hx).1,(h.deep x hx).2.later hb⟩,h.few⟩
theorem FPile.gw (h:FPile d P G cp w xs):G≤w.heap.size:=by
 obtain ⟨cur,h1,_⟩:=h.row
 exact Nat.le_of_lt h1.lt
theorem Exc.agree {g:Nat} {a b:World} (h:Exc g a b):ak (fun k=>k=g) a b:=⟨h.1.mono (zx _),h.2⟩
end
theorem dx (A:Option Addr) (n c:Nat) (w:World) :
 Calls Tryz.prog 38 #[.slice A n c] w fun e w'=>e=.returned (.int .i64 n)∧w=w':=by
 go_enter Tryz.func38,Tryz.ntmps38
 go_wp2_with fail
 go_ret
 exact ⟨rfl,rfl⟩
theorem nE {d P G cp i j:Nat} {w:World} {xs:List FV} (h:FPile d P G cp w xs) (hi:i<xs.length) (hj:j<xs.length) :
 Calls Tryz.prog 259 #[.slice (some ⟨G,0,none⟩) xs.length cp,.int .i64 i,.int .i64 j] w fun e w'=>e=.returned (.bool (decide (cFV (atL cZ xs i) (atL cZ xs j)<0)))∧Below w.heap.size w w':=by
 have hn:=h.few
 obtain ⟨cur,hG,hr⟩:=h.row
 have hx:=h.deep _ (qc hi)
 have hy:=h.deep _ (qc hj)
 have i0:=hr i hi 0 (by omega)
 have i1:=hr i hi 1 (by omega)
 have i2:=hr i hi 2 (by omega)
 have j0:=hr j hj 0 (by omega)
 have j1:=hr j hj 1 (by omega)
 have j2:=hr j hj 2 (by omega)
 unfold cFV
 generalize atL cZ xs i=x at *
 generalize atL cZ xs j=y at *
 simp only [FV.cs,fcV,zI,List.getElem?_cons_succ,Nat.add_zero] at i0 i1 i2 j0 j1 j2
 have HX:=zu hx
 have HY:=zu hy
 clear hx hy h hr
 have q_G:=hG.regrown
 go_enter Tryz.func259,Tryz.ntmps259
 have k_G:=hG.cell
 go_wp2_with fail
 have HC:Hid (∀w9,Below w.heap.size w w9→Calls Tryz.prog 35 #[.agg x.cs.toArray,.agg y.cs.toArray] w9 fun z w'=>z=.returned (.int .i64 (aD x.f y.f))∧Below w9.heap.size w9 w'):=zu (fun w9 hb=>cJ (d:=d+1) (e:=d+1) (B:=w9.heap.size) ((HX.out.2.later hb).here) ((HY.out.2.later hb).here) (by have:=HX.out.1.few;omega) (by have:=HY.out.1.few;omega) (zw _))
 simp only [FV.cs,fcV] at HC
 refine wp_region_quiet_below (by kernel_rfl) (by kernel_rfl) ?_
 repeat (go_big_quiet_step ((go_at_call 35;exact Calls.regrown_of (HC.out _ (below_regrown _ _ _)))))
 refine wpQuiet_nil ?_
 intro w1 hw1
 have hb1:Below w.heap.size w w1:=by obtain ⟨p,rfl⟩:=hw1;exact below_regrown _ _ _
 clear hw1 q_G k_G
 go_wp2_with fail
 go_ret
 exact ⟨rfl,hb1⟩
theorem nF {d P G cp i j:Nat} {w:World} {xs:List FV} (h:FPile d P G cp w xs) (hPG:P≠G) (hi:i<xs.length) (hj:j<xs.length) :
 Calls Tryz.prog 261 #[.slice (some ⟨G,0,none⟩) xs.length cp,.int .i64 i,.int .i64 j] w fun e w'=>e=.returned (.tuple #[])∧Exc G w w'∧FPile d P G cp w' (sw cZ xs i j):=by
 have hn:=h.few
 obtain ⟨cur,hG,hr⟩:=h.row
 have HFIN:Hid (∀w',Exc G w w'→(∃cur',Blk w' G cur'∧mf cur' (sw cZ xs i j))→FPile d P G cp w' (sw cZ xs i j)):=zu (fun w' he hc=>⟨by rw [cm];exact he.blk hPG h.hd,hc,fun x hx=>by
  have h1:=h.deep x ((nW hi hj).subset hx)
  exact ⟨h1.1,h1.2.next he.agree (fun k _ hk=>.inr hk) (fun k _ hk=>hk)⟩,by rw [cm];exact h.few⟩)
 have HS:=zu (hr.swap hi hj)
 have i0:=hr i hi 0 (by omega)
 have i1:=hr i hi 1 (by omega)
 have i2:=hr i hi 2 (by omega)
 have j0:=hr j hj 0 (by omega)
 have j1:=hr j hj 1 (by omega)
 have j2:=hr j hj 2 (by omega)
 generalize hxe:atL cZ xs i=x at *
 generalize hye:atL cZ xs j=y at *
 simp only [FV.cs,fcV,zI,List.getElem?_cons_succ,Nat.add_zero] at i0 i1 i2 j0 j1 j2
 clear h hr
 go_enter Tryz.func261,Tryz.ntmps261
 have k_G:=hG.cell
 have f_G:=hG.free
 by_cases e:j=i
 ·subst e
  obtain rfl:x=y:=by rw [←hxe,←hye]
  go_wp2_with fail
  go_region
  all_goals go_end0
  all_goals refine ⟨rfl,?_,HFIN.out _ ?_ ⟨_,((((((hG.set_ _ _).set_ _ _).set_ _ _).set_ _ _).set_ _ _).set_ _ _).drew,HS.out⟩⟩<;>exact ((((((((Exc.refl G w).set _ _).set _ _).set _ _).set _ _).set _ _).set _ _)).drew
 ·have n00:¬(j*3=i*3):=by omega
  have n01:¬(j*3=i*3+1):=by omega
  have n02:¬(j*3=i*3+2):=by omega
  have n10:¬(j*3+1=i*3):=by omega
  have n11:¬(j*3+1=i*3+1):=by omega
  have n12:¬(j*3+1=i*3+2):=by omega
  have n20:¬(j*3+2=i*3):=by omega
  have n21:¬(j*3+2=i*3+1):=by omega
  have n22:¬(j*3+2=i*3+2):=by omega
  go_wp2_with fail
  go_region
  all_goals go_end0
  all_goals refine ⟨rfl,?_,HFIN.out _ ?_ ⟨_,((((((hG.set_ _ _).set_ _ _).set_ _ _).set_ _ _).set_ _ _).set_ _ _).drew,HS.out⟩⟩<;>exact ((((((((Exc.refl G w).set _ _).set _ _).set _ _).set _ _).set _ _).set _ _)).drew
theorem oR {d P G cp n:Nat} {w:World} {xs:List FV} (h:FPile d P G cp w xs) (hPG:P≠G) (hx:xs.length=n+1) (hc:n+1≤cp) (hc2:cp≤9223372036854775807) :
 Calls Tryz.prog 260 #[.pointer (some ⟨P,0,none⟩)] w fun e w'=>e=.returned (.iface 33 (.agg (atL cZ xs n).cs.toArray))∧Exc P w w'∧FPile d P G cp w' (xs.take n):=by
 have hn:n+1≤1000000000000:=by rw [←hx];exact h.few
 have HFIN:Hid (∀w',Exc P w w'→Blk w' P #[.slice (some ⟨G,0,none⟩) (xs.take n).length cp]→FPile d P G cp w' (xs.take n)):=zu (fun w' he hd=>by
  obtain ⟨cur,hG,hr⟩:=h.row
  refine ⟨hd,⟨cur,he.blk (Ne.symm hPG) hG,hr.take n⟩,fun x hx=>?_,by rw [zK];omega⟩
  have h1:=h.deep x (List.mem_of_mem_take hx)
  exact ⟨h1.1,h1.2.next he.agree (fun k _ hk=>.inl hk) (fun k _ hk=>hk)⟩)
 have hP:=h.hd
 obtain ⟨cur,hG,hr⟩:=h.row
 have i0:=hr n (by omega) 0 (by omega)
 have i1:=hr n (by omega) 1 (by omega)
 have i2:=hr n (by omega) 2 (by omega)
 have HT:=zu (show (xs.take n).length=n by rw [zK];omega)
 generalize atL cZ xs n=x at *
 simp only [FV.cs,fcV,zI,List.getElem?_cons_succ,Nat.add_zero] at i0 i1 i2
 rw [hx] at hP
 clear hx hr h
 have kP:=hP.cell
 have fP:=hP.free
 have kG:=hG.cell
 have lP:=hP.lt
 have lG:=hG.lt
 go_enter Tryz.func260,Tryz.ntmps260
 go_wp2_with fail
 go_ret
 refine ⟨rfl,?_,HFIN.out _ ?_ (by rw [HT.out];exact (hP.set_ 0 _).old _)⟩<;>exact ((Exc.refl P w).set 0 _).then (Nat.le_of_lt lP) ((zy _ _).alloc (zw _) _)
theorem iB {name:String} {f:FuncId} (hm:((Tryz.prog.info? 83).bind fun i=>(i.methods.find? (·.name==name)).map fun m=>(m.path.toList,m.func))=some ([],some (f,false)))
 (fuel:Nat) {w:World} {P:Nat} {A:Option Addr} {n c:Nat} (h:w.cell? ⟨P,0,none⟩=some (.slice A n c)) :
 (method (fuel+1) 83 (.pointer (some ⟨P,0,none⟩)) name).run Tryz.prog w=.ok (f,.slice A n c) w:=
 wL Tryz.underlying83 hm fuel (by
  have ha:(isAgg 84).run Tryz.prog w=.ok false w:=by go_simp
  have hl:(load ⟨P,0,none⟩).run Tryz.prog w=.ok (.slice A n c) w:=by go_simp
  simp [loadVar,Sem.run_bind,ha,hl,h])
theorem rH {d P G cp:Nat} (hPG:P≠G) (hc2:cp≤9223372036854775807):PileG cFV cZ 83 P G (FPile d P G cp) (fun xs=>.slice (some ⟨G,0,none⟩) xs.length cp) (fun x=>.iface 33 (.agg x.cs.toArray)) 38 259 261 260 (fun n=>n+1≤cp) where
 ord:=cFV_ord
 few:=fun h=>h.few
 later:=fun h hb=>h.later hb
 gw:=fun h=>h.gw
 mlen:=fun h fuel=>iB (by kernel_rfl) fuel (h.hd.cell 0)
 mless:=fun h fuel=>iB (by kernel_rfl) fuel (h.hd.cell 0)
 mswap:=fun h fuel=>iB (by kernel_rfl) fuel (h.hd.cell 0)
 mpop:=fun w fuel=>wK Tryz.underlying83 (by kernel_rfl) fuel
 elen:=ent Tryz.func38 (by kernel_rfl) rfl
 eless:=ent Tryz.func259 (by kernel_rfl) rfl
 eswap:=ent Tryz.func261 (by kernel_rfl) rfl
 epop:=ent Tryz.func260 (by kernel_rfl) rfl
 len:=fun h=>dx _ _ _ _
 less:=fun h hi hj=>nE h hi hj
 swap:=fun h hi hj=>nF h hPG hi hj
 pop:=fun h hx hc=>oR h hPG hx hc hc2
end Go.Proofs.YtjpndglegpcdnaaGreat
