/- FixTurned: for every input the call returns true, and each argument reads afterwards as it read before. No conditions: every input of the given row. -/
import Derived.Test.YtjpndglegpcdnaaGreatLFxTurned
import Derived.Test.YtjpndglegpcdnaaGreatSize
import Derived.Test.YtjpndglegpcdnaaGreatFc1
import Derived.Test.YtjpndglegpcdnaaGreatPosts
import Derived.HandedShaped
import Derived.Shelf.Vars
import Derived.ChangeMaps5
import Derived.Test.YtjpndglegpcdnaaGreatRows
import Derived.ProofKit
set_option linter.unusedVariables false
set_option linter.unusedSimpArgs false
set_option maxRecDepth 100000
set_option maxHeartbeats 8000000
namespace Go.Proofs.YtjpndglegpcdnaaGreat
open Go.ChangeShapes Go.WideShapes Go.ChangeAt Go.RowKit
theorem lX {d c1 c2:Nat} {fs:List Fc} {A1 A2:Option Addr} {w:World} (h1:RL (az (d+1)) w w.heap.size fs A1) (h2:RL (az (d+1)) w w.heap.size fs A2) (hok:∀f∈fs,FcOk f) (hn:fs.length≤1000) :
 Calls Tryz.prog 20 #[.slice A1 fs.length c1,.slice A2 fs.length c2] w fun z w'=>z=.returned (.bool true)∧Below w.heap.size w w':=by
 have H1:=zT h1
 have H2:=zT h2
 have HOK:=zT hok
 clear h1 h2 hok
 go_enter Tryz.func20,Tryz.ntmps20
 go_upto_region 4 with fail
 go_loopw [5,13] (fun _ i wr=>∃k:Nat,k≤fs.length∧i=.int .i64 k∧Hid (Below w.heap.size w wr)) (fun _ i _=>fs.length-(intOf i).toNat)
 case atStart=>exact ⟨0,zW _,rfl,zT (zX _ _)⟩
 case round=>
  obtain ⟨k,hk,rfl,HW⟩:=hrel
  have hszr:=HW.out.size
  by_cases hlt:k<fs.length
  ·obtain ⟨b1,off1,rfl,hob1⟩:=(H1.out.keep HW.out (zV _)).base (zX _ _) hszr (by omega)
   obtain ⟨b2,off2,rfl,hob2⟩:=(H2.out.keep HW.out (zV _)).base (zX _ _) hszr (by omega)
   obtain ⟨x,vs,hx,hlen,hcell,hr⟩:=(H1.out.keep HW.out (zV _)).at_ (zX _ _) hszr hlt
   obtain ⟨y,us,hy,hlen2,hcell2,hr2⟩:=(H2.out.keep HW.out (zV _)).at_ (zX _ _) hszr hlt
   obtain rfl:y=x:=Option.some.inj (hy.symm.trans hx)
   have HX:=zT (HOK.out y (List.mem_of_getElem? hy))
   have HR1:=zT hr
   have HR2:=zT hr2
   obtain ⟨Ax,cx,rfl,_⟩:=aN hr
   obtain ⟨Ay,cy,rfl,_⟩:=aN hr2
   have p0:wr.cell? ⟨b1,off1+k*3,none⟩=some (.string y.pr.name):=hcell 0 _ rfl
   have p1:wr.cell? ⟨b1,off1+k*3+1,none⟩=some (.slice Ax y.pr.terms.length cx):=hcell 1 _ rfl
   have p2:wr.cell? ⟨b1,off1+k*3+2,none⟩=some (.int .u32 y.o):=hcell 2 _ rfl
   have r0:wr.cell? ⟨b2,off2+k*3,none⟩=some (.string y.pr.name):=hcell2 0 _ rfl
   have r1:wr.cell? ⟨b2,off2+k*3+1,none⟩=some (.slice Ay y.pr.terms.length cy):=hcell2 1 _ rfl
   have r2:wr.cell? ⟨b2,off2+k*3+2,none⟩=some (.int .u32 y.o):=hcell2 2 _ rfl
   have HC:Hid (∀w9,Below wr.heap.size wr w9→Calls Tryz.prog 42 #[.agg #[.string y.pr.name,.slice Ax y.pr.terms.length cx,.int .u32 y.o],.agg #[.string y.pr.name,.slice Ay y.pr.terms.length cy,.int .u32 y.o]] w9 fun z w'=>z=.returned (.int .i64 0)∧Below w9.heap.size w9 w'):=zT (fun w9 hb9=>by
    have h:=rt (d:=d) (B:=w.heap.size) (a:=y) (b:=y) (va:=[_,_,_]) (vb:=[_,_,_]) (w:=w9) (by have:=HX.out.few;omega) ((az (d+1)).keep hb9 hszr HR1.out) ((az (d+1)).keep hb9 hszr HR2.out) (zU hszr hb9.size)
    rw [aT.self] at h
    exact h)
   clear hcell hcell2 hlen hlen2 hx hy hr hr2
   have q0:=cell_regrown p0
   have q1:=cell_regrown p1
   have q2:=cell_regrown p2
   have s0:=cell_regrown r0
   have s1:=cell_regrown r1
   have s2:=cell_regrown r2
   go_upto_region 6 with fail
   refine wp_region_quiet_below (by kernel_rfl) (by kernel_rfl) ?_
   repeat (go_big_quiet_step ((go_at_call 42;exact Calls.regrown_of (HC.out _ (below_regrown _ _ _)))))
   refine wpQuiet_nil ?_
   intro w3 hw_
   have hb:Below wr.heap.size wr w3:=by obtain ⟨p_,rfl⟩:=hw_;exact below_regrown _ _ _
   have HW3:=zT (ac HW.out hb)
   clear hw_ q0 q1 q2 s0 s1 s2 p0 p1 p2 r0 r1 r2 hb
   go_wp2_with fail
   go_roundw
   case rel=>exact ⟨k+1,by omega,by go_num,HW3⟩
   case measure=>simp [intOf];omega
  ·go_wp2_with fail
   go_ret
   exact ⟨rfl,HW.out⟩
theorem oM:Tryz.prog.cellsOf 31=1:=by kernel_rfl
theorem js:Tryz.prog.cellsOf 33=3:=by kernel_rfl
theorem zD {n:Int} (hwf:(Lit.int .u32 n).wf=true):U32 n:=by
 simp only [Lit.wf] at hwf
 unfold U32
 revert hwf
 have e1:IntKind.u32.signed=false:=rfl
 have e2:IntKind.u32.bits=32:=rfl
 simp [IntKind.min,IntKind.max,e1,e2]
 omega
theorem qR {n:Int} (hwf:(Lit.int .i64 n).wf=true):I64 n:=by
 simp only [Lit.wf] at hwf
 unfold I64
 revert hwf
 have e1:IntKind.i64.signed=true:=rfl
 have e2:IntKind.i64.bits=64:=rfl
 simp [IntKind.min,IntKind.max,e1,e2]
section
variable {H:Type} {enc:TypeId × Value→H} {w:World} {base:Nat} {held:Bool}
theorem xX {n D:Nat} {cs:List Value} {x:DataW H × List MemPlace} (h:DataW.trod enc Tryz.prog w base (fun _=>true) held n 33 cs=some x) (ho:Ok Tryz.prog 33 x.1) (hD:n≤D):∃f,(az D).rd w w.heap.size f cs:=by
 obtain ⟨hc,n',hn,hf⟩:=bh (Tryz.underlying33) h ho
 have hcl:=hc.trans js
 match cs,hcl with
 | [c0,c1,c2],_=>
   obtain ⟨_,h0,o0⟩:=hf 0 _ _ _ _ rfl rfl rfl dK
   obtain ⟨_,h1,_⟩:=hf 1 _ _ _ _ rfl rfl rfl oM
   obtain ⟨p,hp⟩:=lT (D:=D) h0 o0 (by omega)
   obtain ⟨m,e1,_,hwf⟩:=DataW.trod_int (Tryz.underlying31) h1
   replace hp:(PrR D).rd w w.heap.size p [c0,c1]:=hp
   replace e1:[c2]=_:=e1
   have hp':=hp
   obtain ⟨v0,e0,gs,g0⟩:=hp
   simp only [List.cons.injEq,and_true] at e0 e1
   obtain ⟨rfl,rfl⟩:=e0
   subst e1
   exact ⟨⟨p,m⟩,_,rfl,hp',zD hwf⟩
end
def sH (D:Nat):Reader Fc where
 k:=3
 rd:=fun w B f vs=>(az D).rd w B f vs∧f.pr.terms.length*40≤140737488351232
 keep:=fun hw hB h=>⟨(az D).keep hw hB h.1,h.2⟩
 wide:=fun hB h=>⟨(az D).wide hB h.1,h.2⟩
 len:=fun h=>(az D).len h.1
theorem RL.factR {D B:Nat} {w:World} {l:List Fc} {A:Option Addr} (h:RL (sH D) w B l A):RL (az D) w B l A:=eH.mono h fun _ _ _ ⟨x,hx,hr⟩=>⟨x,hx,hr.1⟩
theorem RL.factN {D B:Nat} {w:World} {l:List Fc} {A:Option Addr} (h:RL (sH D) w B l A):∀f∈l,f.pr.terms.length*40≤140737488351232:=fun f hf=>by
 obtain ⟨i,hi,rfl⟩:=List.getElem_of_mem hf
 obtain ⟨b,off,_,_,hc⟩:=h (by omega)
 obtain ⟨vs,_,⟨x,hx,hr⟩,_⟩:=hc i hi
 obtain ⟨_,rfl⟩:=List.getElem?_eq_some_iff.1 hx
 exact hr.2
theorem oK:Tryz.prog.cellsOf 60=7:=by kernel_rfl
section
variable {H:Type} {enc:TypeId × Value→H} {w:World} {base:Nat} {held:Bool}
theorem yH {n D B:Nat} {cs:List Value} {x:DataW H × List MemPlace} (h:DataW.trod enc Tryz.prog w base (fun _=>true) held n 26 cs=some x) (ho:Ok Tryz.prog 26 x.1) (hD:n≤D) {p:Pr} {W:World} (hp:(PrR D).rd W B p cs):p.terms.length*40≤140737488351232:=by
 obtain ⟨hc,n',hn,hf⟩:=bh (Tryz.underlying26) h ho
 have hcl:=hc.trans dK
 match cs,hcl with
 | [c0,c1],_=>
   obtain ⟨_,h1,o1⟩:=hf 1 _ _ _ _ rfl rfl rfl ie
   obtain ⟨xs,A,c,e1,g1,g2,_⟩:=gh (TmR D) (D:=D) (B:=56) (Tryz.underlying24) eI (by simp [TmR]) (by kernel_rfl) h1 o1 (by omega) (fun m hm cs x hx ho=>by
    obtain ⟨t,ht⟩:=ou m cs x hx ho
    exact ⟨t,RTm.deeper hm ht⟩)
   replace e1:[c1]=_:=e1
   obtain ⟨v0,e0,_,A',c',e2,_⟩:=hp
   simp only [List.cons.injEq,and_true] at e0 e1
   obtain ⟨_,rfl⟩:=e0
   rw [e2] at e1
   simp only [Ak] at e1
   omega
theorem vl {n D:Nat} {cs:List Value} {x:DataW H × List MemPlace} (h:DataW.trod enc Tryz.prog w base (fun _=>true) held n 33 cs=some x) (ho:Ok Tryz.prog 33 x.1) (hD:n≤D):∃f,(sH D).rd w w.heap.size f cs:=by
 obtain ⟨f,hfr⟩:=xX h ho hD
 refine ⟨f,hfr,?_⟩
 obtain ⟨hc,n',hn,hf⟩:=bh (Tryz.underlying33) h ho
 have hcl:=hc.trans js
 match cs,hcl with
 | [c0,c1,c2],_=>
   obtain ⟨_,h0,o0⟩:=hf 0 _ _ _ _ rfl rfl rfl dK
   obtain ⟨v,e,hp,_⟩:=hfr
   simp only [List.cons.injEq,and_true] at e
   obtain ⟨rfl,rfl,_⟩:=e
   exact yH (D:=D) h0 o0 (by omega) hp
theorem own_arg {n D:Nat} {cs:List Value} {x:DataW H × List MemPlace} (h:DataW.trod enc Tryz.prog w base (fun _=>true) held n 60 cs=some x) (ho:Ok Tryz.prog 60 x.1) (hD:n≤D):∃o,(OwR D).rd w w.heap.size o cs:=by
 obtain ⟨hc,n',hn,hf⟩:=bh (Tryz.underlying60) h ho
 have hcl:=hc.trans oK
 match cs,hcl with
 | [c0,c1,c2,c3,c4,c5,c6],_=>
   obtain ⟨_,h0,o0⟩:=hf 0 _ _ _ _ rfl rfl rfl mO
   obtain ⟨_,h1,_⟩:=hf 1 _ _ _ _ rfl rfl rfl dt
   obtain ⟨_,h2,_⟩:=hf 2 _ _ _ _ rfl rfl rfl oM
   obtain ⟨r,hr⟩:=wV (D:=D) h0 o0 (by omega)
   obtain ⟨b,e1,_,hw1⟩:=DataW.trod_int (Tryz.underlying3) h1
   obtain ⟨t,e2,_,hw2⟩:=DataW.trod_int (Tryz.underlying31) h2
   replace hr:(RuR D).rd w w.heap.size r [c0,c1,c2,c3,c4]:=hr
   replace e1:[c5]=_:=e1
   replace e2:[c6]=_:=e2
   simp only [List.cons.injEq,and_true] at e1 e2
   subst e1 e2
   exact ⟨⟨r,b,t⟩,_,rfl,hr,qR hw1,zD hw2⟩
theorem th {n D:Nat} {cs:List Value} {x:DataW H × List MemPlace} (h:DataW.trod enc Tryz.prog w base (fun _=>true) held n 23 cs=some x) (ho:Ok Tryz.prog 23 x.1) (hD:n≤D):∃(ts:List Fc) (A:Option Addr) (c:Nat),cs=[.slice A ts.length c]∧(ts.length*48≤140737488351232∧ts.length≤c)∧RL (sH D) w w.heap.size ts A:=by
 obtain ⟨xs,A,c,e,h1,h2,h3⟩:=gh (sH D) (D:=D) (B:=48) (Tryz.underlying23) js (by simp [sH]) (by kernel_rfl) h ho (by omega) (fun m hm cs x hx ho=>vl hx ho hm)
 exact ⟨xs,A,c,e,by omega,h3⟩
theorem wB {n D:Nat} {cs:List Value} {x:DataW H × List MemPlace} (h:DataW.trod enc Tryz.prog w base (fun _=>true) held n 40 cs=some x) (ho:Ok Tryz.prog 40 x.1) (hD:n≤D):∃(ts:List OwD) (A:Option Addr) (c:Nat),cs=[.slice A ts.length c]∧(ts.length≤140737488351232∧ts.length≤c)∧RL (OwR D) w w.heap.size ts A:=by
 obtain ⟨xs,A,c,e,h1,h2,h3⟩:=gh (OwR D) (D:=D) (B:=128) (Tryz.underlying40) oK (by simp [OwR]) (by kernel_rfl) h ho (by omega) (fun m hm cs x hx ho=>own_arg hx ho hm)
 exact ⟨xs,A,c,e,by omega,h3⟩
theorem lim_arg {n:Nat} {cs:List Value} {x:DataW H × List MemPlace} (h:DataW.trod enc Tryz.prog w base (fun _=>true) held n 35 cs=some x) (ho:Ok Tryz.prog 35 x.1):∃lf lr,cs=[.int .i64 lf,.int .i64 lr]∧I64 lf∧I64 lr:=by
 obtain ⟨hc,n',hn,hf⟩:=bh (Tryz.underlying35) h ho
 have hcl:=hc.trans (show Tryz.prog.cellsOf 35=2 by kernel_rfl)
 match cs,hcl with
 | [c0,c1],_=>
   obtain ⟨_,h0,_⟩:=hf 0 _ _ _ _ rfl rfl rfl dt
   obtain ⟨_,h1,_⟩:=hf 1 _ _ _ _ rfl rfl rfl dt
   obtain ⟨a,e0,_,hw0⟩:=DataW.trod_int (Tryz.underlying3) h0
   obtain ⟨b,e1,_,hw1⟩:=DataW.trod_int (Tryz.underlying3) h1
   replace e0:[c0]=_:=e0
   replace e1:[c1]=_:=e1
   simp only [List.cons.injEq,and_true] at e0 e1
   subst e0 e1
   exact ⟨a,b,rfl,qR hw0,qR hw1⟩
end
theorem own:ownKnob Tryz.prog.godebug=none:=by kernel_rfl
theorem qU:laidOutB Tryz.prog=true:=by kernel_rfl
theorem zK {H:Type} {P:Program} {ts:List TypeId} {ds:List (DataW H)} (h:(DataW.weightsEach P ts ds).all (·≤reachBytes)=true) {j:Nat} {t:TypeId} {d:DataW H} (ht:ts[j]? = some t) (hd:ds[j]? = some d):Ok P t d:=fun n hn=>by
 have:=List.all_eq_true.1 h n (DataW.weights_mem_each ht hd n hn)
 simpa using this
theorem kn (os:Os) (started:os.Started) (H:Type) (enc:TypeId × Value→H) :
 ReturnsInHanded {} Tryz.checked os 5 .any (Rows.fixTurnedSpec.pre6 enc Tryz.prog Tryz.f5 Rows.fixTurnedRow.domain false) (Rows.fixTurnedSpec.post enc Tryz.prog Tryz.f5 false true false false):=by
 refine returnsInHanded_of_change_shaped (C:=Tryz.checked) own started (by kernel_rfl) Tryz.func5
  (ChangeSpec.witness6 (enc:=enc) (C:=Tryz.checked) false ⟨#[],#[.slice none 0 0,.slice none 0 0,.agg #[.int .i64 0,.int .i64 0],.int .i64 0],[]⟩ 8 (by kernel_rfl) (by kernel_rfl) (by kernel_rfl) (by kernel_rfl)) ?_
 intro W base args ds gs before hval0 hW _ hsz0 hsh _
 have hsz:(DataW.weightsEach Tryz.prog (Tryz.f5.params.toList++Rows.fixTurnedSpec.plain.varTypes Tryz.prog) (ds++gs)).all (·≤reachBytes)=true:=hsz0
 clear hsz0
 have hval:∀(j:Nat) t v,Tryz.f5.params[j]? = some t→args[j]? = some v→Value.okWide Tryz.prog W .any base t v:=hval0
 have hW':=hW
 obtain ⟨p,q,hA0,hV,rfl,hfz,hnd⟩:=hW
 have hA:DataW.TrodAll enc Tryz.prog W 0 (fun _=>true) true Tryz.f5.params.toList args.toList ds p:=hA0
 rw [Tryz.params5] at hA hval hsz
 obtain ⟨v0,v1,v2,v3,d0,d1,d2,d3,p0,p1,p2,p3,rfl,rfl,rfl,h0,h1,h2,h3⟩:=trodAll_four hA
 obtain ⟨rfl,rfl⟩:=trodVars_none hV
 obtain ⟨A0,l0,c0,rfl⟩:=okWide_slice Tryz.underlying23 (hval 0 23 v0 rfl rfl)
 obtain ⟨A1,l1,c1,rfl⟩:=okWide_slice Tryz.underlying40 (hval 1 40 v1 rfl rfl)
 obtain ⟨cs2,rfl,_⟩:=okWide_struct Tryz.underlying35 (hval 2 35 v2 rfl rfl)
 obtain ⟨x3,rfl,rfl,rfl,hx3⟩:=Go.ChangeShapes.open_int Tryz.underlying3 (hval 3 3 v3 rfl rfl) h3
 have k0:=h0
 have lt0:∀x∈(p0:List MemPlace),x.block<W.heap.size:=by obtain ⟨m,hm⟩:=k0;exact DataW.trod_lt m _ _ _ hm
 have k1:=h1
 have lt1:∀x∈(p1:List MemPlace),x.block<W.heap.size:=by obtain ⟨m,hm⟩:=k1;exact DataW.trod_lt m _ _ _ hm
 have k2:=h2
 have lt2:∀x∈(p2:List MemPlace),x.block<W.heap.size:=by obtain ⟨m,hm⟩:=k2;exact DataW.trod_lt m _ _ _ hm
 obtain ⟨n0,t0⟩:=h0
 obtain ⟨n1,t1⟩:=h1
 obtain ⟨n2,t2⟩:=h2
 obtain ⟨D,hD⟩:∃D,n0≤D+1∧n1≤D+1∧n2≤D+1:=⟨(max (max n0 n1) n2),by omega⟩
 obtain ⟨xs0,Ax0,cx0,ee0,hb0,hr0⟩:=th (D:=D+1) t0 (zK hsz (j:=0) rfl rfl) (by omega)
 have ee0':(Value.slice A0 l0 c0).cells.toList=[.slice A0 l0 c0]:=rfl
 rw [ee0'] at ee0
 simp only [List.cons.injEq,Ak,and_true] at ee0
 obtain ⟨rfl,rfl,rfl⟩:=ee0
 obtain ⟨xs1,Ax1,cx1,ee1,hb1,hr1⟩:=wB (D:=D+1) t1 (zK hsz (j:=1) rfl rfl) (by omega)
 have ee1':(Value.slice A1 l1 c1).cells.toList=[.slice A1 l1 c1]:=rfl
 rw [ee1'] at ee1
 simp only [List.cons.injEq,Ak,and_true] at ee1
 obtain ⟨rfl,rfl,rfl⟩:=ee1
 obtain ⟨lf2,lr2,ee2,hi2,hj2⟩:=lim_arg t2 (zK hsz (j:=2) rfl rfl)
 have ee2':(Value.agg cs2).cells.toList=cs2.toList:=rfl
 rw [ee2'] at ee2
 obtain rfl:cs2=#[.int .i64 lf2,.int .i64 lr2]:=Array.ext' ee2
 obtain ⟨m0,hm0⟩:=cell_of_shapedOpen_int (g:=0) (t:=3) (zero:=#[.int .i64 0]) hsh (of_decide_eq_true (by kernel_rfl)) (by kernel_rfl) rfl (by kernel_rfl) (by kernel_rfl) Tryz.underlying3
 have h00:0<W.heap.size:=block_lt_of_cell hm0
 clear hA0 hval0
 refine (pi (fun w1 hb1=>qq ((hb1.cell (p:=⟨0,0,none⟩) h00).trans hm0) (zY h00 hb1.size)) hr0.factR (by omega) hr1 hb1.1 hi2 hj2 hr0.factN (zV _) hm0 h00 hb0.2 hb1.2 (fun hb_ k1 k2 ho hn_=>lX k1 k2 ho hn_)).mono fun e W' ⟨he,bel⟩=>?_
 subst he
 exact ⟨_,rfl,_,_,_,[],_,[],hW',trodAll_mk1 (shut_bool Tryz.underlying4 _),trodAll_mk4 (Below.trod qU (by kernel_rfl) (of_decide_eq_true (by kernel_rfl)) k0 bel lt0) (Below.trod qU (by kernel_rfl) (of_decide_eq_true (by kernel_rfl)) k1 bel lt1) (Below.trod qU (by kernel_rfl) (of_decide_eq_true (by kernel_rfl)) k2 bel lt2) (shut_int Tryz.underlying3 hx3),rfl,bel.frame _,fun h=>by cases h⟩
theorem jf_a:(Rows.fixTurnedRow.inPlace==Tryz.prog.inPlace 5)=true:=by kernel_rfl
theorem jf_b:(Rows.fixTurnedRow.unfollowed==Tryz.prog.unfollowed 5)=true:=by kernel_rfl
theorem jf_c:(Rows.fixTurnedRow.recurses==Tryz.prog.recurses 5)=true:=by kernel_rfl
theorem jf_d:(Rows.fixTurnedRow.named==Tryz.prog.varsNamed 5)=true:=by kernel_rfl
theorem jf_all:joinedFacts Tryz.prog 5 Tryz.f5 Rows.fixTurnedSpec Rows.fixTurnedRow=true:=by
 unfold joinedFacts
 rw [jf_a,jf_b,jf_c,jf_d]
 kernel_rfl
theorem mz:Rows.fixTurnedRow.holds Tryz.pinned (OpenSpec.ofChange Rows.fixTurnedSpec):=
 OpenClaim.holds_of_wide 5 Tryz.f5 rfl rfl rfl rfl rfl rfl rfl ⟨rfl,rfl,rfl,rfl,rfl⟩ rfl rfl rfl rfl rfl (by kernel_rfl) Tryz.func5 jf_all
  (of_decide_eq_true (by kernel_rfl)) (by unfold Func.isWrapper;first | (rw [if_pos (by decide +kernel)];kernel_rfl) | (rw [if_neg (by decide +kernel)];exact ⟨rfl,rfl⟩))
  (fun os started H enc _=>kn os started H enc)
theorem fixTurned_holds:Rows.FixTurnedSaid:=mz
end Go.Proofs.YtjpndglegpcdnaaGreat
