/- FixMore: for every input the call returns true, and each argument reads afterwards as it read before. No conditions: every input of the given row. -/
import Derived.Test.YtdphibjibnffeaaGreatMade
import Derived.Test.YtdphibjibnffeaaGreatFc1
import Derived.Test.YtdphibjibnffeaaGreatFx1
import Derived.Test.YtdphibjibnffeaaGreatLFxMore
import Derived.Test.YtdphibjibnffeaaGreatFxAw2
import Derived.HandedShaped
import Derived.Shelf.Vars
import Derived.ChangeMaps5
import Derived.Test.YtdphibjibnffeaaGreatRows
import Derived.ProofKit
set_option linter.unusedVariables false
set_option linter.unusedSimpArgs false
set_option maxRecDepth 100000
set_option maxHeartbeats 8000000
namespace Go.Proofs.YtdphibjibnffeaaGreat
open Go.ChangeShapes Go.WideShapes Go.ChangeAt Go.RowKit
theorem oE:Tryz.prog.cellsOf 31=1:=by kernel_rfl
theorem jo:Tryz.prog.cellsOf 33=3:=by kernel_rfl
theorem zo {n:Int} (hwf:(Lit.int .u32 n).wf=true):U32 n:=by
 simp only [Lit.wf] at hwf
 unfold U32
 revert hwf
 have e1:IntKind.u32.signed=false:=rfl
 have e2:IntKind.u32.bits=32:=rfl
 simp [IntKind.min,IntKind.max,e1,e2]
 omega
theorem qN {n:Int} (hwf:(Lit.int .i64 n).wf=true):I64 n:=by
 simp only [Lit.wf] at hwf
 unfold I64
 revert hwf
 have e1:IntKind.i64.signed=true:=rfl
 have e2:IntKind.i64.bits=64:=rfl
 simp [IntKind.min,IntKind.max,e1,e2]
section
variable {H:Type} {enc:TypeId × Value→H} {w:World} {base:Nat} {held:Bool}
theorem xK {n D:Nat} {cs:List Value} {x:DataW H × List MemPlace} (h:DataW.trod enc Tryz.prog w base (fun _=>true) held n 33 cs=some x) (ho:Ok Tryz.prog 33 x.1) (hD:n≤D):∃f,(ay D).rd w w.heap.size f cs:=by
 obtain ⟨hc,n',hn,hf⟩:=bg (Tryz.underlying33) h ho
 have hcl:=hc.trans jo
 match cs,hcl with
 | [c0,c1,c2],_=>
   obtain ⟨_,h0,o0⟩:=hf 0 _ _ _ _ rfl rfl rfl dL
   obtain ⟨_,h1,_⟩:=hf 1 _ _ _ _ rfl rfl rfl oE
   obtain ⟨p,hp⟩:=lK (D:=D) h0 o0 (by omega)
   obtain ⟨m,e1,_,hwf⟩:=DataW.trod_int (Tryz.underlying31) h1
   replace hp:(PrR D).rd w w.heap.size p [c0,c1]:=hp
   replace e1:[c2]=_:=e1
   have hp':=hp
   obtain ⟨v0,e0,gs,g0⟩:=hp
   simp only [List.cons.injEq,and_true] at e0 e1
   obtain ⟨rfl,rfl⟩:=e0
   subst e1
   exact ⟨⟨p,m⟩,_,rfl,hp',zo hwf⟩
end
def sz (D:Nat):Reader Fc where
 k:=3
 rd:=fun w B f vs=>(ay D).rd w B f vs∧f.pr.terms.length*40≤140737488351232
 keep:=fun hw hB h=>⟨(ay D).keep hw hB h.1,h.2⟩
 wide:=fun hB h=>⟨(ay D).wide hB h.1,h.2⟩
 len:=fun h=>(ay D).len h.1
theorem RL.factR {D B:Nat} {w:World} {l:List Fc} {A:Option Addr} (h:RL (sz D) w B l A):RL (ay D) w B l A:=eH.mono h fun _ _ _ ⟨x,hx,hr⟩=>⟨x,hx,hr.1⟩
theorem RL.factN {D B:Nat} {w:World} {l:List Fc} {A:Option Addr} (h:RL (sz D) w B l A):∀f∈l,f.pr.terms.length*40≤140737488351232:=fun f hf=>by
 obtain ⟨i,hi,rfl⟩:=List.getElem_of_mem hf
 obtain ⟨b,off,_,_,hc⟩:=h (by omega)
 obtain ⟨vs,_,⟨x,hx,hr⟩,_⟩:=hc i hi
 obtain ⟨_,rfl⟩:=List.getElem?_eq_some_iff.1 hx
 exact hr.2
theorem oC:Tryz.prog.cellsOf 100=7:=by kernel_rfl
section
variable {H:Type} {enc:TypeId × Value→H} {w:World} {base:Nat} {held:Bool}
theorem yx {n D B:Nat} {cs:List Value} {x:DataW H × List MemPlace} (h:DataW.trod enc Tryz.prog w base (fun _=>true) held n 25 cs=some x) (ho:Ok Tryz.prog 25 x.1) (hD:n≤D) {p:Pr} {W:World} (hp:(PrR D).rd W B p cs):p.terms.length*40≤140737488351232:=by
 obtain ⟨hc,n',hn,hf⟩:=bg (Tryz.underlying25) h ho
 have hcl:=hc.trans dL
 match cs,hcl with
 | [c0,c1],_=>
   obtain ⟨_,h1,o1⟩:=hf 1 _ _ _ _ rfl rfl rfl ii
   obtain ⟨xs,A,c,e1,g1,g2,_⟩:=go (TmR D) (D:=D) (B:=56) (Tryz.underlying23) eI (by simp [TmR]) (by kernel_rfl) h1 o1 (by omega) (fun m hm cs x hx ho=>by
    obtain ⟨t,ht⟩:=oc m cs x hx ho
    exact ⟨t,RTm.deeper hm ht⟩)
   replace e1:[c1]=_:=e1
   obtain ⟨v0,e0,_,A',c',e2,_⟩:=hp
   simp only [List.cons.injEq,and_true] at e0 e1
   obtain ⟨_,rfl⟩:=e0
   rw [e2] at e1
   simp only [Value.slice.injEq] at e1
   omega
theorem oV {n D:Nat} {cs:List Value} {x:DataW H × List MemPlace} (h:DataW.trod enc Tryz.prog w base (fun _=>true) held n 33 cs=some x) (ho:Ok Tryz.prog 33 x.1) (hD:n≤D):∃f,(sz D).rd w w.heap.size f cs:=by
 obtain ⟨f,hfr⟩:=xK h ho hD
 refine ⟨f,hfr,?_⟩
 obtain ⟨hc,n',hn,hf⟩:=bg (Tryz.underlying33) h ho
 have hcl:=hc.trans jo
 match cs,hcl with
 | [c0,c1,c2],_=>
   obtain ⟨_,h0,o0⟩:=hf 0 _ _ _ _ rfl rfl rfl dL
   obtain ⟨v,e,hp,_⟩:=hfr
   simp only [List.cons.injEq,and_true] at e
   obtain ⟨rfl,rfl,_⟩:=e
   exact yx (D:=D) h0 o0 (by omega) hp
theorem sZ {n D:Nat} {cs:List Value} {x:DataW H × List MemPlace} (h:DataW.trod enc Tryz.prog w base (fun _=>true) held n 22 cs=some x) (ho:Ok Tryz.prog 22 x.1) (hD:n≤D):∃(ts:List Fc) (A:Option Addr) (c:Nat),cs=[.slice A ts.length c]∧ts.length*48≤140737488351232∧RL (sz D) w w.heap.size ts A:=by
 obtain ⟨xs,A,c,e,h1,h2,h3⟩:=go (sz D) (D:=D) (B:=48) (Tryz.underlying22) jo (by simp [sz]) (by kernel_rfl) h ho (by omega) (fun m hm cs x hx ho=>oV hx ho hm)
 exact ⟨xs,A,c,e,by omega,h3⟩
theorem own_arg {n D:Nat} {cs:List Value} {x:DataW H × List MemPlace} (h:DataW.trod enc Tryz.prog w base (fun _=>true) held n 100 cs=some x) (ho:Ok Tryz.prog 100 x.1) (hD:n≤D):∃o,(OwR D).rd w w.heap.size o cs:=by
 obtain ⟨hc,n',hn,hf⟩:=bg (Tryz.underlying100) h ho
 have hcl:=hc.trans oC
 match cs,hcl with
 | [c0,c1,c2,c3,c4,c5,c6],_=>
   obtain ⟨_,h0,o0⟩:=hf 0 _ _ _ _ rfl rfl rfl mD
   obtain ⟨_,h1,_⟩:=hf 1 _ _ _ _ rfl rfl rfl dr
   obtain ⟨_,h2,_⟩:=hf 2 _ _ _ _ rfl rfl rfl oE
   obtain ⟨r,hr⟩:=wH (D:=D) h0 o0 (by omega)
   obtain ⟨b,e1,_,hw1⟩:=DataW.trod_int (Tryz.underlying3) h1
   obtain ⟨t,e2,_,hw2⟩:=DataW.trod_int (Tryz.underlying31) h2
   replace hr:(RuR D).rd w w.heap.size r [c0,c1,c2,c3,c4]:=hr
   replace e1:[c5]=_:=e1
   replace e2:[c6]=_:=e2
   simp only [List.cons.injEq,and_true] at e1 e2
   subst e1 e2
   exact ⟨⟨r,b,t⟩,_,rfl,hr,qN hw1,zo hw2⟩
theorem yr {n D:Nat} {cs:List Value} {x:DataW H × List MemPlace} (h:DataW.trod enc Tryz.prog w base (fun _=>true) held n 90 cs=some x) (ho:Ok Tryz.prog 90 x.1) (hD:n≤D):∃(ts:List OwD) (A:Option Addr) (c:Nat),cs=[.slice A ts.length c]∧ts.length≤140737488351232∧RL (OwR D) w w.heap.size ts A:=by
 obtain ⟨xs,A,c,e,h1,h2,h3⟩:=go (OwR D) (D:=D) (B:=128) (Tryz.underlying90) oC (by simp [OwR]) (by kernel_rfl) h ho (by omega) (fun m hm cs x hx ho=>own_arg hx ho hm)
 exact ⟨xs,A,c,e,by omega,h3⟩
theorem lim_arg {n:Nat} {cs:List Value} {x:DataW H × List MemPlace} (h:DataW.trod enc Tryz.prog w base (fun _=>true) held n 87 cs=some x) (ho:Ok Tryz.prog 87 x.1):∃lf lr,cs=[.int .i64 lf,.int .i64 lr]∧I64 lf∧I64 lr:=by
 obtain ⟨hc,n',hn,hf⟩:=bg (Tryz.underlying87) h ho
 have hcl:=hc.trans (show Tryz.prog.cellsOf 87=2 by kernel_rfl)
 match cs,hcl with
 | [c0,c1],_=>
   obtain ⟨_,h0,_⟩:=hf 0 _ _ _ _ rfl rfl rfl dr
   obtain ⟨_,h1,_⟩:=hf 1 _ _ _ _ rfl rfl rfl dr
   obtain ⟨a,e0,_,hw0⟩:=DataW.trod_int (Tryz.underlying3) h0
   obtain ⟨b,e1,_,hw1⟩:=DataW.trod_int (Tryz.underlying3) h1
   replace e0:[c0]=_:=e0
   replace e1:[c1]=_:=e1
   simp only [List.cons.injEq,and_true] at e0 e1
   subst e0 e1
   exact ⟨a,b,rfl,qN hw0,qN hw1⟩
end
theorem own:ownKnob Tryz.prog.godebug=none:=by kernel_rfl
theorem nK:laidOutB Tryz.prog=true:=by kernel_rfl
theorem ym {H:Type} {P:Program} {ts:List TypeId} {ds:List (DataW H)} (h:(DataW.weightsEach P ts ds).all (·≤reachBytes)=true) {j:Nat} {t:TypeId} {d:DataW H} (ht:ts[j]? = some t) (hd:ds[j]? = some d):Ok P t d:=fun n hn=>by
 have:=List.all_eq_true.1 h n (DataW.weights_mem_each ht hd n hn)
 simpa using this
theorem mn (os:Os) (started:os.Started) (H:Type) (enc:TypeId × Value→H) :
 ReturnsInHanded {} Tryz.checked os 13 .any (Rows.fixMoreSpec.pre6 enc Tryz.prog Tryz.f13 Rows.fixMoreRow.domain false) (Rows.fixMoreSpec.post enc Tryz.prog Tryz.f13 false true false false):=by
 refine returnsInHanded_of_change_shaped (C:=Tryz.checked) own started (by kernel_rfl) Tryz.func13
  (ChangeSpec.witness6 (enc:=enc) (C:=Tryz.checked) false ⟨#[],#[.slice none 0 0,.slice none 0 0,.agg #[.int .i64 0,.int .i64 0],.agg #[.string ⟨#[]⟩,.slice none 0 0,.int .u32 0]],[]⟩ 8 (by kernel_rfl) (by kernel_rfl) (by kernel_rfl) (by kernel_rfl)) ?_
 intro W base args ds gs before hval0 hW _ hsz0 hsh _
 have hsz:(DataW.weightsEach Tryz.prog (Tryz.f13.params.toList++Rows.fixMoreSpec.plain.varTypes Tryz.prog) (ds++gs)).all (·≤reachBytes)=true:=hsz0
 clear hsz0
 have hval:∀(j:Nat) t v,Tryz.f13.params[j]? = some t→args[j]? = some v→Value.okWide Tryz.prog W .any base t v:=hval0
 have hW':=hW
 obtain ⟨p,q,hA0,hV,rfl,hfz,hnd⟩:=hW
 have hA:DataW.TrodAll enc Tryz.prog W 0 (fun _=>true) true Tryz.f13.params.toList args.toList ds p:=hA0
 rw [Tryz.params13] at hA hval hsz
 obtain ⟨v0,v1,v2,v3,d0,d1,d2,d3,p0,p1,p2,p3,rfl,rfl,rfl,h0,h1,h2,h3⟩:=trodAll_four hA
 obtain ⟨rfl,rfl⟩:=trodVars_none hV
 obtain ⟨A0,l0,c0,rfl⟩:=okWide_slice Tryz.underlying22 (hval 0 22 v0 rfl rfl)
 obtain ⟨A1,l1,c1,rfl⟩:=okWide_slice Tryz.underlying90 (hval 1 90 v1 rfl rfl)
 obtain ⟨cs2,rfl,_⟩:=okWide_struct Tryz.underlying87 (hval 2 87 v2 rfl rfl)
 obtain ⟨cs3,rfl,_⟩:=okWide_struct Tryz.underlying33 (hval 3 33 v3 rfl rfl)
 have k0:=h0
 have lt0:∀x∈(p0:List MemPlace),x.block<W.heap.size:=by obtain ⟨m,hm⟩:=k0;exact DataW.trod_lt m _ _ _ hm
 have k1:=h1
 have lt1:∀x∈(p1:List MemPlace),x.block<W.heap.size:=by obtain ⟨m,hm⟩:=k1;exact DataW.trod_lt m _ _ _ hm
 have k2:=h2
 have lt2:∀x∈(p2:List MemPlace),x.block<W.heap.size:=by obtain ⟨m,hm⟩:=k2;exact DataW.trod_lt m _ _ _ hm
 have k3:=h3
 have lt3:∀x∈(p3:List MemPlace),x.block<W.heap.size:=by obtain ⟨m,hm⟩:=k3;exact DataW.trod_lt m _ _ _ hm
 obtain ⟨n0,t0⟩:=h0
 obtain ⟨n1,t1⟩:=h1
 obtain ⟨n2,t2⟩:=h2
 obtain ⟨n3,t3⟩:=h3
 obtain ⟨D,hD⟩:∃D,n0≤D+1∧n1≤D+1∧n2≤D+1∧n3≤D+1:=⟨(max (max (max n0 n1) n2) n3),by omega⟩
 obtain ⟨xs0,Ax0,cx0,ee0,hb0,hr0⟩:=sZ (D:=D+1) t0 (ym hsz (j:=0) rfl rfl) (by omega)
 have ee0':(Value.slice A0 l0 c0).cells.toList=[.slice A0 l0 c0]:=rfl
 rw [ee0'] at ee0
 simp only [List.cons.injEq,Value.slice.injEq,and_true] at ee0
 obtain ⟨rfl,rfl,rfl⟩:=ee0
 obtain ⟨xs1,Ax1,cx1,ee1,hb1,hr1⟩:=yr (D:=D+1) t1 (ym hsz (j:=1) rfl rfl) (by omega)
 have ee1':(Value.slice A1 l1 c1).cells.toList=[.slice A1 l1 c1]:=rfl
 rw [ee1'] at ee1
 simp only [List.cons.injEq,Value.slice.injEq,and_true] at ee1
 obtain ⟨rfl,rfl,rfl⟩:=ee1
 obtain ⟨lf2,lr2,ee2,hi2,hj2⟩:=lim_arg t2 (ym hsz (j:=2) rfl rfl)
 have ee2':(Value.agg cs2).cells.toList=cs2.toList:=rfl
 rw [ee2'] at ee2
 obtain rfl:cs2=#[.int .i64 lf2,.int .i64 lr2]:=Array.ext' ee2
 obtain ⟨r3,hr3⟩:=oV (D:=D+1) t3 (ym hsz (j:=3) rfl rfl) (by omega)
 obtain ⟨m0,hm0⟩:=cell_of_shapedOpen_int (g:=0) (t:=3) (zero:=#[.int .i64 0]) hsh (of_decide_eq_true (by kernel_rfl)) (by kernel_rfl) rfl (by kernel_rfl) (by kernel_rfl) Tryz.underlying3
 have h00:0<W.heap.size:=block_lt_of_cell hm0
 clear hA0 hval0
 obtain ⟨cs3⟩:=cs3
 refine (tb (fun w1 hb1=>qk ((hb1.cell (p:=⟨0,0,none⟩) h00).trans hm0) (zJ h00 hb1.size)) hr0.factR (by omega) hr1 hb1 hi2 hj2 hr3.1 (fun g hg=>by
  rcases List.mem_append.1 hg with h | h
  ·exact hr0.factN g h
  ·obtain rfl:=List.mem_singleton.1 h
   exact hr3.2) (zG _) hm0 h00).mono fun e W' ⟨he,bel⟩=>?_
 subst he
 exact ⟨_,rfl,_,_,_,[],_,[],hW',trodAll_mk1 (shut_bool Tryz.underlying4 _),trodAll_mk4 (Below.trod nK (by kernel_rfl) (of_decide_eq_true (by kernel_rfl)) k0 bel lt0) (Below.trod nK (by kernel_rfl) (of_decide_eq_true (by kernel_rfl)) k1 bel lt1) (Below.trod nK (by kernel_rfl) (of_decide_eq_true (by kernel_rfl)) k2 bel lt2) (Below.trod nK (by kernel_rfl) (of_decide_eq_true (by kernel_rfl)) k3 bel lt3),rfl,bel.frame _,fun h=>by cases h⟩
theorem jf_a:(Rows.fixMoreRow.inPlace==Tryz.prog.inPlace 13)=true:=by kernel_rfl
theorem jf_b:(Rows.fixMoreRow.unfollowed==Tryz.prog.unfollowed 13)=true:=by kernel_rfl
theorem jf_c:(Rows.fixMoreRow.recurses==Tryz.prog.recurses 13)=true:=by kernel_rfl
theorem jf_d:(Rows.fixMoreRow.named==Tryz.prog.varsNamed 13)=true:=by kernel_rfl
theorem jf_all:joinedFacts Tryz.prog 13 Tryz.f13 Rows.fixMoreSpec Rows.fixMoreRow=true:=by
 unfold joinedFacts
 rw [jf_a,jf_b,jf_c,jf_d]
 kernel_rfl
theorem oY:Rows.fixMoreRow.holds Tryz.pinned (OpenSpec.ofChange Rows.fixMoreSpec):=
 OpenClaim.holds_of_wide 13 Tryz.f13 rfl rfl rfl rfl rfl rfl rfl ⟨rfl,rfl,rfl,rfl,rfl⟩ rfl rfl rfl rfl rfl (by kernel_rfl) Tryz.func13 jf_all
  (of_decide_eq_true (by kernel_rfl)) (by unfold Func.isWrapper;first | (rw [if_pos (by decide +kernel)];kernel_rfl) | (rw [if_neg (by decide +kernel)];exact ⟨rfl,rfl⟩))
  (fun os started H enc _=>mn os started H enc)
theorem fixMore_holds:Rows.FixMoreSaid:=oY
end Go.Proofs.YtdphibjibnffeaaGreat
