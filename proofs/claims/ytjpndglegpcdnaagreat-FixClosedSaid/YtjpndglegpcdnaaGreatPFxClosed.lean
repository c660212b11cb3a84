/- FixClosed: for every input the call returns true, and each argument reads afterwards as it read before. No conditions: every input of the given row. -/
import Derived.Test.YtjpndglegpcdnaaGreatOpenF
import Derived.Test.YtjpndglegpcdnaaGreatJoFill
import Derived.HandedShaped
import Derived.Shelf.Vars
import Derived.ChangeMaps5
import Derived.Test.YtjpndglegpcdnaaGreatRows
import Derived.ProofKit
set_option linter.unusedVariables false
set_option linter.unusedSimpArgs false
set_option maxRecDepth 100000
set_option maxHeartbeats 8000000
namespace Go.Proofs.YtjpndglegpcdnaaGreat
open Go.ChangeShapes Go.WideShapes Go.ChangeAt Go.RowKit
def sV (D:Nat):Reader Fc where
 k:=3
 rd:=fun w B f vs=>(ay D).rd w B f vs∧f.pr.terms.length*40≤140737488351232
 keep:=fun hw hB h=>⟨(ay D).keep hw hB h.1,h.2⟩
 wide:=fun hB h=>⟨(ay D).wide hB h.1,h.2⟩
 len:=fun h=>(ay D).len h.1
theorem RL.factR {D B:Nat} {w:World} {l:List Fc} {A:Option Addr} (h:RL (sV D) w B l A):RL (ay D) w B l A:=eL.mono h fun _ _ _ ⟨x,hx,hr⟩=>⟨x,hx,hr.1⟩
theorem RL.factN {D B:Nat} {w:World} {l:List Fc} {A:Option Addr} (h:RL (sV D) w B l A):∀f∈l,f.pr.terms.length*40≤140737488351232:=fun f hf=>by
 obtain ⟨i,hi,rfl⟩:=List.getElem_of_mem hf
 obtain ⟨b,off,_,_,hc⟩:=h (by omega)
 obtain ⟨vs,_,⟨x,hx,hr⟩,_⟩:=hc i hi
 obtain ⟨_,rfl⟩:=List.getElem?_eq_some_iff.1 hx
 exact hr.2
theorem oQ:Tryz.prog.cellsOf 60=7:=by kernel_rfl
section
variable {H:Type} {enc:TypeId × Value→H} {w:World} {base:Nat} {held:Bool}
theorem zd {n D B:Nat} {cs:List Value} {x:DataW H × List MemPlace} (h:DataW.trod enc Tryz.prog w base (fun _=>true) held n 26 cs=some x) (ho:Ok Tryz.prog 26 x.1) (hD:n≤D) {p:Pr} {W:World} (hp:(PrR D).rd W B p cs):p.terms.length*40≤140737488351232:=by
 obtain ⟨hc,n',hn,hf⟩:=bi (Tryz.underlying26) h ho
 have hcl:=hc.trans dR
 match cs,hcl with
 | [c0,c1],_=>
   obtain ⟨_,h1,o1⟩:=hf 1 _ _ _ _ rfl rfl rfl il
   obtain ⟨xs,A,c,e1,g1,g2,_⟩:=gr (TmR D) (D:=D) (B:=56) (Tryz.underlying24) eM (by simp [TmR]) (by kernel_rfl) h1 o1 (by omega) (fun m hm cs x hx ho=>by
    obtain ⟨t,ht⟩:=oA m cs x hx ho
    exact ⟨t,RTm.deeper hm ht⟩)
   replace e1:[c1]=_:=e1
   obtain ⟨v0,e0,_,A',c',e2,_⟩:=hp
   simp only [List.cons.injEq,and_true] at e0 e1
   obtain ⟨_,rfl⟩:=e0
   rw [e2] at e1
   simp only [AR] at e1
   omega
theorem vE {n D:Nat} {cs:List Value} {x:DataW H × List MemPlace} (h:DataW.trod enc Tryz.prog w base (fun _=>true) held n 33 cs=some x) (ho:Ok Tryz.prog 33 x.1) (hD:n≤D):∃f,(sV D).rd w w.heap.size f cs:=by
 obtain ⟨f,hfr⟩:=yv h ho hD
 refine ⟨f,hfr,?_⟩
 obtain ⟨hc,n',hn,hf⟩:=bi (Tryz.underlying33) h ho
 have hcl:=hc.trans jA
 match cs,hcl with
 | [c0,c1,c2],_=>
   obtain ⟨_,h0,o0⟩:=hf 0 _ _ _ _ rfl rfl rfl dR
   obtain ⟨v,e,hp,_⟩:=hfr
   simp only [List.cons.injEq,and_true] at e
   obtain ⟨rfl,rfl,_⟩:=e
   exact zd (D:=D) h0 o0 (by omega) hp
theorem tx {n D:Nat} {cs:List Value} {x:DataW H × List MemPlace} (h:DataW.trod enc Tryz.prog w base (fun _=>true) held n 23 cs=some x) (ho:Ok Tryz.prog 23 x.1) (hD:n≤D):∃(ts:List Fc) (A:Option Addr) (c:Nat),cs=[.slice A ts.length c]∧ts.length*48≤140737488351232∧RL (sV D) w w.heap.size ts A:=by
 obtain ⟨xs,A,c,e,h1,h2,h3⟩:=gr (sV D) (D:=D) (B:=48) (Tryz.underlying23) jA (by simp [sV]) (by kernel_rfl) h ho (by omega) (fun m hm cs x hx ho=>vE hx ho hm)
 exact ⟨xs,A,c,e,by omega,h3⟩
theorem own_arg {n D:Nat} {cs:List Value} {x:DataW H × List MemPlace} (h:DataW.trod enc Tryz.prog w base (fun _=>true) held n 60 cs=some x) (ho:Ok Tryz.prog 60 x.1) (hD:n≤D):∃o,(OwR D).rd w w.heap.size o cs:=by
 obtain ⟨hc,n',hn,hf⟩:=bi (Tryz.underlying60) h ho
 have hcl:=hc.trans oQ
 match cs,hcl with
 | [c0,c1,c2,c3,c4,c5,c6],_=>
   obtain ⟨_,h0,o0⟩:=hf 0 _ _ _ _ rfl rfl rfl mU
   obtain ⟨_,h1,_⟩:=hf 1 _ _ _ _ rfl rfl rfl dy
   obtain ⟨_,h2,_⟩:=hf 2 _ _ _ _ rfl rfl rfl oS
   obtain ⟨r,hr⟩:=xm (D:=D) h0 o0 (by omega)
   obtain ⟨b,e1,_,hw1⟩:=DataW.trod_int (Tryz.underlying3) h1
   obtain ⟨t,e2,_,hw2⟩:=DataW.trod_int (Tryz.underlying31) h2
   replace hr:(RuR D).rd w w.heap.size r [c0,c1,c2,c3,c4]:=hr
   replace e1:[c5]=_:=e1
   replace e2:[c6]=_:=e2
   simp only [List.cons.injEq,and_true] at e1 e2
   subst e1 e2
   exact ⟨⟨r,b,t⟩,_,rfl,hr,rf hw1,zX hw2⟩
theorem yZ {n D:Nat} {cs:List Value} {x:DataW H × List MemPlace} (h:DataW.trod enc Tryz.prog w base (fun _=>true) held n 40 cs=some x) (ho:Ok Tryz.prog 40 x.1) (hD:n≤D):∃(ts:List OwD) (A:Option Addr) (c:Nat),cs=[.slice A ts.length c]∧ts.length≤140737488351232∧RL (OwR D) w w.heap.size ts A:=by
 obtain ⟨xs,A,c,e,h1,h2,h3⟩:=gr (OwR D) (D:=D) (B:=128) (Tryz.underlying40) oQ (by simp [OwR]) (by kernel_rfl) h ho (by omega) (fun m hm cs x hx ho=>own_arg hx ho hm)
 exact ⟨xs,A,c,e,by omega,h3⟩
theorem lim_arg {n:Nat} {cs:List Value} {x:DataW H × List MemPlace} (h:DataW.trod enc Tryz.prog w base (fun _=>true) held n 35 cs=some x) (ho:Ok Tryz.prog 35 x.1):∃lf lr,cs=[.int .i64 lf,.int .i64 lr]∧I64 lf∧I64 lr:=by
 obtain ⟨hc,n',hn,hf⟩:=bi (Tryz.underlying35) h ho
 have hcl:=hc.trans (show Tryz.prog.cellsOf 35=2 by kernel_rfl)
 match cs,hcl with
 | [c0,c1],_=>
   obtain ⟨_,h0,_⟩:=hf 0 _ _ _ _ rfl rfl rfl dy
   obtain ⟨_,h1,_⟩:=hf 1 _ _ _ _ rfl rfl rfl dy
   obtain ⟨a,e0,_,hw0⟩:=DataW.trod_int (Tryz.underlying3) h0
   obtain ⟨b,e1,_,hw1⟩:=DataW.trod_int (Tryz.underlying3) h1
   replace e0:[c0]=_:=e0
   replace e1:[c1]=_:=e1
   simp only [List.cons.injEq,and_true] at e0 e1
   subst e0 e1
   exact ⟨a,b,rfl,rf hw0,rf hw1⟩
end
theorem own:ownKnob Tryz.prog.godebug=none:=by kernel_rfl
theorem ri:laidOutB Tryz.prog=true:=by kernel_rfl
theorem Ai {H:Type} {P:Program} {ts:List TypeId} {ds:List (DataW H)} (h:(DataW.weightsEach P ts ds).all (·≤reachBytes)=true) {j:Nat} {t:TypeId} {d:DataW H} (ht:ts[j]? = some t) (hd:ds[j]? = some d):Ok P t d:=fun n hn=>by
 have:=List.all_eq_true.1 h n (DataW.weights_mem_each ht hd n hn)
 simpa using this
theorem kv (os:Os) (started:os.Started) (H:Type) (enc:TypeId × Value→H) :
 ReturnsInHanded {} Tryz.checked os 4 .any (Rows.fixClosedSpec.pre6 enc Tryz.prog Tryz.f4 Rows.fixClosedRow.domain false) (Rows.fixClosedSpec.post enc Tryz.prog Tryz.f4 false true false false):=by
 refine returnsInHanded_of_change_shaped (C:=Tryz.checked) own started (by kernel_rfl) Tryz.func4
  (ChangeSpec.witness6 (enc:=enc) (C:=Tryz.checked) false ⟨#[],#[.slice none 0 0,.slice none 0 0,.agg #[.int .i64 0,.int .i64 0]],[]⟩ 8 (by kernel_rfl) (by kernel_rfl) (by kernel_rfl) (by kernel_rfl)) ?_
 intro W base args ds gs before hval0 hW _ hsz0 hsh _
 have hsz:(DataW.weightsEach Tryz.prog (Tryz.f4.params.toList++Rows.fixClosedSpec.plain.varTypes Tryz.prog) (ds++gs)).all (·≤reachBytes)=true:=hsz0
 clear hsz0
 have hval:∀(j:Nat) t v,Tryz.f4.params[j]? = some t→args[j]? = some v→Value.okWide Tryz.prog W .any base t v:=hval0
 have hW':=hW
 obtain ⟨p,q,hA0,hV,rfl,hfz,hnd⟩:=hW
 have hA:DataW.TrodAll enc Tryz.prog W 0 (fun _=>true) true Tryz.f4.params.toList args.toList ds p:=hA0
 rw [Tryz.params4] at hA hval hsz
 obtain ⟨v0,v1,v2,d0,d1,d2,p0,p1,p2,rfl,rfl,rfl,h0,h1,h2⟩:=trodAll_three hA
 obtain ⟨rfl,rfl⟩:=trodVars_none hV
 obtain ⟨A0,l0,c0,rfl⟩:=okWide_slice Tryz.underlying23 (hval 0 23 v0 rfl rfl)
 obtain ⟨A1,l1,c1,rfl⟩:=okWide_slice Tryz.underlying40 (hval 1 40 v1 rfl rfl)
 obtain ⟨cs2,rfl,_⟩:=okWide_struct Tryz.underlying35 (hval 2 35 v2 rfl rfl)
 have k0:=h0
 have lt0:∀x∈(p0:List MemPlace),x.block<W.heap.size:=by obtain ⟨m,hm⟩:=k0;exact DataW.trod_lt m _ _ _ hm
 have k1:=h1
 have lt1:∀x∈(p1:List MemPlace),x.block<W.heap.size:=by obtain ⟨m,hm⟩:=k1;exact DataW.trod_lt m _ _ _ hm
 have k2:=h2
 have lt2:∀x∈(p2:List MemPlace),x.block<W.heap.size:=by obtain ⟨m,hm⟩:=k2;exact DataW.trod_lt m _ _ _ hm
 obtain ⟨n0,t0⟩:=h0
 obtain ⟨n1,t1⟩:=h1
 obtain ⟨n2,t2⟩:=h2
 obtain ⟨D,hD⟩:∃D,n0≤D+1∧n1≤D+1∧n2≤D+1:=⟨(max (max n0 n1) n2),by omega⟩
 obtain ⟨xs0,Ax0,cx0,ee0,hb0,hr0⟩:=tx (D:=D+1) t0 (Ai hsz (j:=0) rfl rfl) (by omega)
 have ee0':(Value.slice A0 l0 c0).cells.toList=[.slice A0 l0 c0]:=rfl
 rw [ee0'] at ee0
 simp only [List.cons.injEq,AR,and_true] at ee0
 obtain ⟨rfl,rfl,rfl⟩:=ee0
 obtain ⟨xs1,Ax1,cx1,ee1,hb1,hr1⟩:=yZ (D:=D+1) t1 (Ai hsz (j:=1) rfl rfl) (by omega)
 have ee1':(Value.slice A1 l1 c1).cells.toList=[.slice A1 l1 c1]:=rfl
 rw [ee1'] at ee1
 simp only [List.cons.injEq,AR,and_true] at ee1
 obtain ⟨rfl,rfl,rfl⟩:=ee1
 obtain ⟨lf2,lr2,ee2,hi2,hj2⟩:=lim_arg t2 (Ai hsz (j:=2) rfl rfl)
 have ee2':(Value.agg cs2).cells.toList=cs2.toList:=rfl
 rw [ee2'] at ee2
 obtain rfl:cs2=#[.int .i64 lf2,.int .i64 lr2]:=Array.ext' ee2
 obtain ⟨m0,hm0⟩:=cell_of_shapedOpen_int (g:=0) (t:=3) (zero:=#[.int .i64 0]) hsh (of_decide_eq_true (by kernel_rfl)) (by kernel_rfl) rfl (by kernel_rfl) (by kernel_rfl) Tryz.underlying3
 have h00:0<W.heap.size:=block_lt_of_cell hm0
 clear hA0 hval0
 refine (pn (fun w1 hb1=>qE ((hb1.cell (p:=⟨0,0,none⟩) h00).trans hm0) (AJ h00 hb1.size)) hr0.factR (by omega) hr1 hb1 hi2 hj2 hr0.factN (AG _) hm0 h00).mono fun e W' ⟨he,bel⟩=>?_
 subst he
 exact ⟨_,rfl,_,_,_,[],_,[],hW',trodAll_mk1 (shut_bool Tryz.underlying4 _),trodAll_mk3 (Below.trod ri (by kernel_rfl) (of_decide_eq_true (by kernel_rfl)) k0 bel lt0) (Below.trod ri (by kernel_rfl) (of_decide_eq_true (by kernel_rfl)) k1 bel lt1) (Below.trod ri (by kernel_rfl) (of_decide_eq_true (by kernel_rfl)) k2 bel lt2),rfl,bel.frame _,fun h=>by cases h⟩
theorem jf_a:(Rows.fixClosedRow.inPlace==Tryz.prog.inPlace 4)=true:=by kernel_rfl
theorem jf_b:(Rows.fixClosedRow.unfollowed==Tryz.prog.unfollowed 4)=true:=by kernel_rfl
theorem jf_c:(Rows.fixClosedRow.recurses==Tryz.prog.recurses 4)=true:=by kernel_rfl
theorem jf_d:(Rows.fixClosedRow.named==Tryz.prog.varsNamed 4)=true:=by kernel_rfl
theorem jf_all:joinedFacts Tryz.prog 4 Tryz.f4 Rows.fixClosedSpec Rows.fixClosedRow=true:=by
 unfold joinedFacts
 rw [jf_a,jf_b,jf_c,jf_d]
 kernel_rfl
theorem mG:Rows.fixClosedRow.holds Tryz.pinned (OpenSpec.ofChange Rows.fixClosedSpec):=
 OpenClaim.holds_of_wide 4 Tryz.f4 rfl rfl rfl rfl rfl rfl rfl ⟨rfl,rfl,rfl,rfl,rfl⟩ rfl rfl rfl rfl rfl (by kernel_rfl) Tryz.func4 jf_all
  (of_decide_eq_true (by kernel_rfl)) (by unfold Func.isWrapper;first | (rw [if_pos (by decide +kernel)];kernel_rfl) | (rw [if_neg (by decide +kernel)];exact ⟨rfl,rfl⟩))
  (fun os started H enc _=>kv os started H enc)
theorem fixClosed_holds:Rows.FixClosedSaid:=mG
end Go.Proofs.YtjpndglegpcdnaaGreat
