/- AskFirst: for every input the call returns true, and each argument reads afterwards as it read before. No conditions: every input of the given row. -/
import Derived.Test.YtdphibjibnffeaaGreatSize
import Derived.Test.YtdphibjibnffeaaGreatFc1
import Derived.Test.YtdphibjibnffeaaGreatLAsFirst
import Derived.HandedShaped
import Derived.Shelf.Vars
import Derived.ChangeMaps5
import Derived.Test.YtdphibjibnffeaaGreatRows
import Derived.ProofKit
set_option linter.unusedVariables false
set_option linter.unusedSimpArgs false
set_option maxRecDepth 100000
set_option maxHeartbeats 8000000
namespace Go.Proofs.YtdphibjibnffeaaGreat
open Go.ChangeShapes Go.WideShapes Go.ChangeAt Go.RowKit
theorem ue:Tryz.prog.cellsOf 31=1:=by kernel_rfl
theorem mf:Tryz.prog.cellsOf 33=3:=by kernel_rfl
theorem u32_wf {n:Int} (hwf:(Lit.int .u32 n).wf=true):U32 n:=by
 simp only [Lit.wf] at hwf
 unfold U32
 revert hwf
 have e1:IntKind.u32.signed=false:=rfl
 have e2:IntKind.u32.bits=32:=rfl
 simp [IntKind.min,IntKind.max,e1,e2]
 omega
section
variable {H:Type} {enc:TypeId × Value→H} {w:World} {base:Nat} {held:Bool}
theorem wh {n:Nat} {cs:List Value} {x:DataW H × List MemPlace} (h:DataW.trod enc Tryz.prog w base (fun _=>true) held n 44 cs=some x) (ho:Ok Tryz.prog 44 x.1):∃ts v,cs=[v]∧RSl cr w w.heap.size ts v:=
 fg cr (D:=n) (B:=16) (Tryz.underlying44) el (by simp [cr]) (by simp [cr]) (by kernel_rfl) h ho (by omega) (fun m hm cs x hx ho=>by
  obtain ⟨s,e,i⟩:=fh (Tryz.underlying9) hx ho
  exact ⟨s,e,i⟩)
theorem xl {n D:Nat} {cs:List Value} {x:DataW H × List MemPlace} (h:DataW.trod enc Tryz.prog w base (fun _=>true) held n 33 cs=some x) (ho:Ok Tryz.prog 33 x.1) (hD:n≤D):∃f,(az D).rd w w.heap.size f cs:=by
 obtain ⟨hc,n',hn,hf⟩:=cw (Tryz.underlying33) h ho
 have hcl:=hc.trans mf
 match cs,hcl with
 | [c0,c1,c2],_=>
   obtain ⟨_,h0,o0⟩:=hf 0 _ _ _ _ rfl rfl rfl gt
   obtain ⟨_,h1,_⟩:=hf 1 _ _ _ _ rfl rfl rfl ue
   obtain ⟨p,hp⟩:=lp (D:=D) h0 o0 (by omega)
   obtain ⟨m,e1,_,hwf⟩:=DataW.trod_int (Tryz.underlying31) h1
   replace hp:(PrR D).rd w w.heap.size p [c0,c1]:=hp
   replace e1:[c2]=_:=e1
   have hp':=hp
   obtain ⟨v0,e0,gs,g0⟩:=hp
   simp only [List.cons.injEq,and_true] at e0 e1
   obtain ⟨rfl,rfl⟩:=e0
   subst e1
   exact ⟨⟨p,m⟩,_,rfl,hp',u32_wf hwf⟩
theorem uB {n D:Nat} {cs:List Value} {x:DataW H × List MemPlace} (h:DataW.trod enc Tryz.prog w base (fun _=>true) held n 22 cs=some x) (ho:Ok Tryz.prog 22 x.1) (hD:n≤D):∃(ts:List Fc) (A:Option Addr) (c:Nat),cs=[.slice A ts.length c]∧ts.length*48≤140737488351232∧RL (az D) w w.heap.size ts A:=by
 obtain ⟨xs,A,c,e,h1,h2,h3⟩:=lh (az D) (D:=D) (B:=48) (Tryz.underlying22) mf (by simp [az]) (by kernel_rfl) h ho (by omega) (fun m hm cs x hx ho=>xl hx ho hm)
 exact ⟨xs,A,c,e,by omega,h3⟩
theorem pa {n D:Nat} {cs:List Value} {x:DataW H × List MemPlace} (h:DataW.trod enc Tryz.prog w base (fun _=>true) held n 63 cs=some x) (ho:Ok Tryz.prog 63 x.1) (hD:n≤D):∃ts v,cs=[v]∧RSl (RuR D) w w.heap.size ts v:=
 fg (RuR D) (D:=D) (B:=112) (Tryz.underlying63) mg (by simp [RuR]) (by simp [RuR]) (by kernel_rfl) h ho (by omega) (fun m hm cs x hx ho=>vS hx ho hm)
end
theorem own:ownKnob Tryz.prog.godebug=none:=by kernel_rfl
theorem na:laidOutB Tryz.prog=true:=by kernel_rfl
theorem xN {H:Type} {P:Program} {ts:List TypeId} {ds:List (DataW H)} (h:(DataW.weightsEach P ts ds).all (·≤reachBytes)=true) {j:Nat} {t:TypeId} {d:DataW H} (ht:ts[j]? = some t) (hd:ds[j]? = some d):Ok P t d:=fun n hn=>by
 have:=List.all_eq_true.1 h n (DataW.weights_mem_each ht hd n hn)
 simpa using this
theorem ko (os:Os) (started:os.Started) (H:Type) (enc:TypeId × Value→H) :
 ReturnsInHanded {} Tryz.checked os 9 .any (Rows.askFirstSpec.pre6 enc Tryz.prog Tryz.f9 Rows.askFirstRow.domain false) (Rows.askFirstSpec.post enc Tryz.prog Tryz.f9 false true false false):=by
 refine returnsInHanded_of_change_shaped (C:=Tryz.checked) own started (by kernel_rfl) Tryz.func9
  (ChangeSpec.witness6 (enc:=enc) (C:=Tryz.checked) false ⟨#[],#[.slice none 0 0,.slice none 0 0,.slice none 0 0,.slice none 0 0],[]⟩ 8 (by kernel_rfl) (by kernel_rfl) (by kernel_rfl) (by kernel_rfl)) ?_
 intro W base args ds gs before hval0 hW _ hsz0 hsh _
 have hsz:(DataW.weightsEach Tryz.prog (Tryz.f9.params.toList++Rows.askFirstSpec.plain.varTypes Tryz.prog) (ds++gs)).all (·≤reachBytes)=true:=hsz0
 clear hsz0
 have hval:∀(j:Nat) t v,Tryz.f9.params[j]? = some t→args[j]? = some v→Value.okWide Tryz.prog W .any base t v:=hval0
 have hW':=hW
 obtain ⟨p,q,hA0,hV,rfl,hfz,hnd⟩:=hW
 have hA:DataW.TrodAll enc Tryz.prog W 0 (fun _=>true) true Tryz.f9.params.toList args.toList ds p:=hA0
 rw [Tryz.params9] at hA hval hsz
 obtain ⟨v0,v1,v2,v3,d0,d1,d2,d3,p0,p1,p2,p3,rfl,rfl,rfl,h0,h1,h2,h3⟩:=trodAll_four hA
 obtain ⟨rfl,rfl⟩:=trodVars_none hV
 obtain ⟨A0,l0,c0,rfl⟩:=okWide_slice Tryz.underlying22 (hval 0 22 v0 rfl rfl)
 obtain ⟨A1,l1,c1,rfl⟩:=okWide_slice Tryz.underlying63 (hval 1 63 v1 rfl rfl)
 obtain ⟨A2,l2,c2,rfl⟩:=okWide_slice Tryz.underlying63 (hval 2 63 v2 rfl rfl)
 obtain ⟨A3,l3,c3,rfl⟩:=okWide_slice Tryz.underlying44 (hval 3 44 v3 rfl rfl)
 have k0:=h0
 have lt0:∀x∈(p0:List MemPlace),x.block<W.heap.size:=by obtain ⟨m,hm⟩:=k0;exact DataW.trod_lt m _ _ _ hm
 have k1:=h1
 have lt1:∀x∈(p1:List MemPlace),x.block<W.heap.size:=by obtain ⟨m,hm⟩:=k1;exact DataW.trod_lt m _ _ _ hm
 have k2:=h2
 have lt2:∀x∈(p2:List MemPlace),x.block<W.heap.size:=by obtain ⟨m,hm⟩:=k2;exact DataW.trod_lt m _ _ _ hm
 have k3:=h3
 have lt3:∀x∈(p3:List MemPlace),x.block<W.heap.size:=by obtain ⟨m,hm⟩:=k3;exact DataW.trod_lt m _ _ _ hm
 obtain ⟨n0,t0⟩:=h0
 obtain ⟨n1,t1⟩:=h1
 obtain ⟨n2,t2⟩:=h2
 obtain ⟨n3,t3⟩:=h3
 obtain ⟨D,hD⟩:∃D,n0≤D+1∧n1≤D+1∧n2≤D+1∧n3≤D+1:=⟨(max (max (max n0 n1) n2) n3),by omega⟩
 obtain ⟨xs0,Ax0,cx0,ee0,hb0,hr0⟩:=uB (D:=D+1) t0 (xN hsz (j:=0) rfl rfl) (by omega)
 have ee0':(Value.slice A0 l0 c0).cells.toList=[.slice A0 l0 c0]:=rfl
 rw [ee0'] at ee0
 simp only [List.cons.injEq,Value.slice.injEq,and_true] at ee0
 obtain ⟨rfl,rfl,rfl⟩:=ee0
 obtain ⟨xs1,vv1,ee1,Ax1,cx1,rfl,hc1,hb1,hr1⟩:=pa (D:=D+1) t1 (xN hsz (j:=1) rfl rfl) (by omega)
 have ee1':(Value.slice A1 l1 c1).cells.toList=[.slice A1 l1 c1]:=rfl
 rw [ee1'] at ee1
 simp only [List.cons.injEq,Value.slice.injEq,and_true] at ee1
 obtain ⟨rfl,rfl,rfl⟩:=ee1
 obtain ⟨xs2,vv2,ee2,Ax2,cx2,rfl,hc2,hb2,hr2⟩:=pa (D:=D+1) t2 (xN hsz (j:=2) rfl rfl) (by omega)
 have ee2':(Value.slice A2 l2 c2).cells.toList=[.slice A2 l2 c2]:=rfl
 rw [ee2'] at ee2
 simp only [List.cons.injEq,Value.slice.injEq,and_true] at ee2
 obtain ⟨rfl,rfl,rfl⟩:=ee2
 obtain ⟨xs3,vv3,ee3,Ax3,cx3,rfl,hc3,hb3,hr3⟩:=wh t3 (xN hsz (j:=3) rfl rfl)
 have ee3':(Value.slice A3 l3 c3).cells.toList=[.slice A3 l3 c3]:=rfl
 rw [ee3'] at ee3
 simp only [List.cons.injEq,Value.slice.injEq,and_true] at ee3
 obtain ⟨rfl,rfl,rfl⟩:=ee3
 obtain ⟨m0,hm0⟩:=cell_of_shapedOpen_int (g:=0) (t:=3) (zero:=#[.int .i64 0]) hsh (of_decide_eq_true (by kernel_rfl)) (by kernel_rfl) rfl (by kernel_rfl) (by kernel_rfl) Tryz.underlying3
 have h00:0<W.heap.size:=block_lt_of_cell hm0
 clear hA0 hval0
 refine (pu (fun w1 hb1=>px ((hb1.cell (p:=⟨0,0,none⟩) h00).trans hm0) (zq h00 hb1.size)) hr0 (by omega) ⟨_,_,rfl,hc1,hb1,hr1⟩ ⟨_,_,rfl,hc2,hb2,hr2⟩ hr3 hb3.1 (zn _) hm0 h00).mono fun e W' ⟨he,bel⟩=>?_
 subst he
 exact ⟨_,rfl,_,_,_,[],_,[],hW',trodAll_mk1 (shut_bool Tryz.underlying4 _),trodAll_mk4 (Below.trod na (by kernel_rfl) (of_decide_eq_true (by kernel_rfl)) k0 bel lt0) (Below.trod na (by kernel_rfl) (of_decide_eq_true (by kernel_rfl)) k1 bel lt1) (Below.trod na (by kernel_rfl) (of_decide_eq_true (by kernel_rfl)) k2 bel lt2) (Below.trod na (by kernel_rfl) (of_decide_eq_true (by kernel_rfl)) k3 bel lt3),rfl,bel.frame _,fun h=>by cases h⟩
theorem jf_a:(Rows.askFirstRow.inPlace==Tryz.prog.inPlace 9)=true:=by kernel_rfl
theorem jf_b:(Rows.askFirstRow.unfollowed==Tryz.prog.unfollowed 9)=true:=by kernel_rfl
theorem jf_c:(Rows.askFirstRow.recurses==Tryz.prog.recurses 9)=true:=by kernel_rfl
theorem jf_d:(Rows.askFirstRow.named==Tryz.prog.varsNamed 9)=true:=by kernel_rfl
theorem jf_all:joinedFacts Tryz.prog 9 Tryz.f9 Rows.askFirstSpec Rows.askFirstRow=true:=by
 unfold joinedFacts
 rw [jf_a,jf_b,jf_c,jf_d]
 kernel_rfl
theorem mM:Rows.askFirstRow.holds Tryz.pinned (OpenSpec.ofChange Rows.askFirstSpec):=
 OpenClaim.holds_of_wide 9 Tryz.f9 rfl rfl rfl rfl rfl rfl rfl ⟨rfl,rfl,rfl,rfl,rfl⟩ rfl rfl rfl rfl rfl (by kernel_rfl) Tryz.func9 jf_all
  (of_decide_eq_true (by kernel_rfl)) (by unfold Func.isWrapper;first | (rw [if_pos (by decide +kernel)];kernel_rfl) | (rw [if_neg (by decide +kernel)];exact ⟨rfl,rfl⟩))
  (fun os started H enc _=>ko os started H enc)
theorem askFirst_holds:Rows.AskFirstSaid:=mM
end Go.Proofs.YtdphibjibnffeaaGreat
