/- JoinTurned: for every input the call returns true, and each argument reads afterwards as it read before. No conditions: every input of the given row. -/
import Derived.Test.YtdphibjibnffeaaGreatLJoTrusts
import Derived.Test.YtdphibjibnffeaaGreatStL
import Derived.Test.YtdphibjibnffeaaGreatOpen
import Derived.Test.YtdphibjibnffeaaGreatFc1
import Derived.Test.YtdphibjibnffeaaGreatLJoTurned
import Derived.HandedShaped
import Derived.Shelf.Vars
import Derived.ChangeMaps5
import Derived.Test.YtdphibjibnffeaaGreatRows
import Derived.ProofKit
set_option linter.unusedVariables false
set_option linter.unusedSimpArgs false
set_option maxRecDepth 100000
set_option maxHeartbeats 8000000
namespace Go.Proofs.YtdphibjibnffeaaGreat
open Go.ChangeShapes Go.WideShapes Go.ChangeAt Go.RowKit
section
variable {w:World} {B d c:Nat}
theorem wU {k n:Int} {s:ByteArray} (hk:I64 k) (hn:I64 n) (hs:s.size≤140737488351232):RTm w B (d+1) ⟨k,n,s,[]⟩ [.int .i64 k,.int .i64 n,.string s,.slice none 0 0]:=
 ⟨none,0,rfl,Nat.le_refl _,⟨by simp,by omega⟩,hs,hk,hn,fun h=>absurd h (by simp)⟩
theorem tN {α:Type} {R:Reader α} {xs:List α} {A:Option Addr} (h:RL R w B xs A) (h1:xs.length≤c) (h2:xs.length*(8*R.k)≤140737488351232) (h3:c≤9223372036854775807):RSl R w B xs (.slice A xs.length c):=⟨A,c,rfl,h1,⟨h2,h3⟩,h⟩
theorem wT {nm:ByteArray} {ts:List Tm} {v:Value} (hn:nm.size≤140737488351232) (h:RSl (TmR d) w B ts v):(PrR d).rd w B ⟨nm,ts⟩ [.string nm,v]:=⟨v,rfl,hn,h⟩
theorem lit_fc {f:Fc} {v:Value} (h:(PrR d).rd w B f.pr [.string f.pr.name,v]) (ho:U32 f.o):(aA d).rd w B f [.string f.pr.name,v,.int .u32 f.o]:=⟨v,rfl,h,ho⟩
theorem lit_ru {r:Ru} {v0 v1 v2 v3:Value} (hn:r.head.name.size≤140737488351232) (h0:RSl (TmR d) w B r.head.terms v0) (h1:RSl (PrR d) w B r.body v1) (h2:RSl (ExR d) w B r.exprs v2) (h3:RSl ScR w B r.scopes v3):(RuR d).rd w B r [.string r.head.name,v0,v1,v2,v3]:=⟨v0,v1,v2,v3,rfl,hn,h0,h1,h2,h3⟩
theorem pk {α:Type} {R:Reader α}:RSl R w B [] (.slice none 0 0):=⟨none,0,rfl,by simp,by simp,fun h=>absurd h (by simp)⟩
end
theorem uz (x:Ans):om [x]=[x]:=by
 unfold om
 rw [List.perm_singleton.1 (gf [x])]
 rfl
def awS:ByteArray:=⟨#[112]⟩
def awX:ByteArray:=⟨#[120]⟩
def awT (n:Int):Tm:=⟨2,n,⟨#[]⟩,[]⟩
def awV:Tm:=⟨1,0,awX,[]⟩
def awF (n:Int):Fc:=⟨⟨awS,[awT n]⟩,1⟩
def awR:Ru:=⟨⟨⟨#[]⟩,[]⟩,[⟨awS,[awV]⟩],[],[]⟩
def awA (n:Int):Ans:=⟨⟨[[120]],[awT n]⟩,1⟩
theorem aw_st:stL [awF 1]=[awF 1]:=by kernel_rfl
theorem aw_may:(bl awR||aS awR)=true:=by kernel_rfl
theorem aw_run:du [awF 1] 1 [] [⟨awS,[awV]⟩] gT ⟨0,[],0⟩=⟨1,[awA 1],0⟩:=by kernel_rfl
theorem aw_ans:aE (stL [awF 1]) 1 awR=([awA 1],0):=by
 have h:wY (stL [awF 1]) 1 awR=⟨1,[awA 1],0⟩:=by rw [aw_st];exact aw_run
 rw [gC,if_pos aw_may,h,if_pos rfl,uz]
theorem aw_row {w:World} {T G:Nat} {n:Int} (hT:Blk w T #[.int .i64 2,.int .i64 n,.string ⟨#[]⟩,.slice none 0 0]) (hG:Blk w G #[.string awS,.slice (some ⟨T,0,none⟩) 1 1,.int .u32 1]) (hn:I64 n):RL (aA 2) w w.heap.size [awF n] (some ⟨G,0,none⟩):=
 hG.rl (R:=aA 2) (lit_fc (f:=awF n) (wT (by decide) (tN (R:=TmR 2) (c:=1) (hT.rl (R:=TmR 2) (x:=awT n) (wU (by unfold I64;omega) hn (by decide)) hT.lt) (by simp) (by simp [TmR]) (by omega))) (by unfold U32;simp [awF])) hG.lt
theorem aw_tm {w:World} {B d:Nat} {n:Int} {A:Option Addr} (h:RL (TmR d) w B [awT n] A):∃b off,A=some ⟨b,off,none⟩∧w.cell? ⟨b,off+1,none⟩=some (.int .i64 n):=by
 obtain ⟨b,off,e,hb,hc⟩:=h (by simp)
 obtain ⟨vs,hl,⟨x,hx,hr⟩,hv⟩:=hc 0 (by simp)
 obtain rfl:x=awT n:=by simpa using hx.symm
 obtain ⟨A',c',rfl,_⟩:=RTm.cells (show RTm w B d (awT n) vs from hr)
 exact ⟨b,off,e,by have:=hv 1 _ rfl;simpa [awT] using this⟩
theorem ou {s:ByteArray} {w:World}:Calls Tryz.prog 49 #[.string s] w fun z w'=>z=.returned (.agg #[.int .i64 1,.int .i64 0,.string s,.slice none 0 0])∧Below w.heap.size w w':=by
 go_enter Tryz.func49,Tryz.ntmps49
 go_upto_region 1 with fail
 generalize hW:World.alloc _ _=w1
 obtain ⟨hb1,hz⟩:=al1 hW
 have HS1:=Lib.hid (n11 hW)
 have HB1:=Lib.hid hb1
 clear hW hb1 hz
 have f_s:=HS1.out.free
 have k_s:=HS1.out.cell
 have l_s:=HS1.out.lt
 go_wp2_with fail
 refine bodyPost_ret (oc rfl rfl ((((HS1.out.set_ 0 (.int .i64 1)).set_ 1 (.int .i64 0)).set_ 2 (.string s)).set_ 3 (.slice none 0 0)) rfl) rfl ?_
 exact ⟨rfl,(((HB1.out.setCell (p:=⟨w.heap.size,0,none⟩) (Nat.le_refl _) _).setCell (p:=⟨w.heap.size,1,none⟩) (Nat.le_refl _) _).setCell (p:=⟨w.heap.size,2,none⟩) (Nat.le_refl _) _).setCell (p:=⟨w.heap.size,3,none⟩) (Nat.le_refl _) _⟩
theorem oE {w:World} {m:Int} (hm:w.cell? ⟨0,0,none⟩=some (.int .i64 m)) (hp:0<w.heap.size):Calls Tryz.prog 16 #[] w fun z w'=>z=.returned (.bool true)∧Below w.heap.size w w':=by
 have HM:=Lib.hid hm
 clear hm
 go_enter Tryz.func16,Tryz.ntmps16
 go_wp2_with fail
 generalize hWa:w.alloc _=wa
 obtain ⟨hba,hza⟩:=al1 hWa
 have HTa:=Lib.hid (n11 hWa)
 clear hWa
 rw [show w.heap.size+1=wa.heap.size from hza.symm]
 generalize hWb:wa.alloc _=wb
 obtain ⟨hbb,hzb⟩:=al1 hWb
 have HGb:=Lib.hid (n11 hWb)
 have HTb:=Lib.hid (HTa.out.later hbb)
 have HBb:=Lib.hid (ac hba hbb)
 have hszb:=HBb.out.size
 clear hWb
 refine (pn (d:=1) (B:=wb.heap.size) (l:=[awF 1]) (c:=1) (aw_row HTb.out HGb.out (by unfold I64;omega)) (Nat.le_refl _) (by simp)).mono ?_
 rintro e w2 ⟨S,M,xs,As,cs,ys,Am,cm,rfl,hT,hx,hy,hb2⟩
 have HT2:=Lib.hid hT
 have HX2:=Lib.hid hx
 have HB2:=Lib.hid (ac HBb.out hb2)
 clear hT hx hy hb2 hba hbb
 go_wp2_with fail
 refine ou.mono ?_
 rintro e w3 ⟨rfl,hb3⟩
 have HT3:=Lib.hid (HT2.out.later hb3)
 have HB3:=Lib.hid (ac HB2.out hb3)
 clear hb3
 go_wp2_with fail
 generalize hWa:w3.alloc _=wc
 obtain ⟨hbc,hzc⟩:=al1 hWa
 have HVc:=Lib.hid (n11 hWa)
 clear hWa
 rw [show w3.heap.size+1=wc.heap.size from hzc.symm]
 generalize hWb:wc.alloc _=wd
 obtain ⟨hbd,hzd⟩:=al1 hWb
 have HDd:=Lib.hid (n11 hWb)
 have HVd:=Lib.hid (HVc.out.later hbd)
 have HTd:=Lib.hid ((HT3.out.later hbc).later hbd)
 have HBd:=Lib.hid (ac (ac HB3.out hbc) hbd)
 clear hWb hbc hbd
 have HRD:Hid ((RuR 2).rd wd wd.heap.size awR [.string ⟨#[]⟩,.slice none 0 0,.slice (some ⟨wc.heap.size,0,none⟩) 1 1,.slice none 0 0,.slice none 0 0]):=Lib.hid (lit_ru (r:=awR) (by decide) pk (tN (R:=PrR 2) (c:=1) (HDd.out.rl (R:=PrR 2) (x:=⟨awS,[awV]⟩) (wT (by decide) (tN (R:=TmR 2) (c:=1) (HVd.out.rl (R:=TmR 2) (x:=awV) (wU (by unfold I64;omega) (by unfold I64;omega) (by decide)) HVd.out.lt) (by simp) (by simp [TmR]) (by omega))) HDd.out.lt) (by simp [awR]) (by simp [awR,PrR]) (by omega)) pk pk)
 have HFW:Hid (xs.length≤100000):=Lib.hid (by
  have h:=congrArg List.length HX2.out
  rw [aw_st,List.length_map] at h
  simp at h
  omega)
 refine (el (d:=1) (B:=wd.heap.size) (r:=awR) (vr:=[_,_,_,_,_]) (tr:=1) HRD.out (Nat.le_refl _) HTd.out.s HFW.out ((HBd.out.cell (p:=⟨0,0,none⟩) hp).trans HM.out) (Nat.lt_of_lt_of_le hp HBd.out.size)).mono ?_
 rintro e w5 ⟨L,AL,cL,rfl,hLx,hLo,hLk,hLd,hb5⟩
 rw [HX2.out,aw_ans] at hLx ⊢
 obtain ⟨y,rfl⟩:∃y,L=[y]:=List.length_eq_one_iff.1 (by have h:=congrArg List.length hLx;simpa using h)
 have hyx:y.x=awA 1:=by simpa using hLx
 obtain ⟨g,cg,eg,hg1,hg2,hg3,hg4,_⟩:=hLo.sh aP (by simp)
 simp only [Value.slice.injEq,true_and] at eg
 obtain ⟨rfl,rfl⟩:=eg
 obtain ⟨a0,a1,a2⟩:=ef (i:=0) hLo (by simp)
 obtain ⟨An,cn,At,ct,ey,hn1,ht1⟩:=(hLd y (by simp)).here
 obtain ⟨yx,yan,ycn,yat,yct⟩:=y
 obtain rfl:yx=awA 1:=hyx
 simp only [AnV.cs,anV,List.cons.injEq,Value.slice.injEq,true_and,and_true] at ey
 obtain ⟨⟨rfl,rfl⟩,rfl,rfl⟩:=ey
 obtain ⟨b,off,rfl,t1⟩:=aw_tm ht1
 simp only [List.getElem_cons_zero,Nat.zero_mul,Nat.zero_add] at a0 a1 a2
 have HB5:=Lib.hid (ac HBd.out hb5)
 have hl5:(1:Nat)≤cL:=by simpa using hg3
 clear hb5 ht1 hn1 hLd hLk hLo hLx
 go_wp2_with fail
 go_ret
 exact ⟨rfl,HB5.out⟩
theorem sN:Tryz.prog.cellsOf 31=1:=by kernel_rfl
theorem lB:Tryz.prog.cellsOf 33=3:=by kernel_rfl
theorem u32_wf {n:Int} (hwf:(Lit.int .u32 n).wf=true):U32 n:=by
 simp only [Lit.wf] at hwf
 unfold U32
 revert hwf
 have e1:IntKind.u32.signed=false:=rfl
 have e2:IntKind.u32.bits=32:=rfl
 simp [IntKind.min,IntKind.max,e1,e2]
 omega
section
variable {H:Type} {enc:TypeId × Value→H} {w:World} {base:Nat} {held:Bool}
theorem qh {n D:Nat} {cs:List Value} {x:DataW H × List MemPlace} (h:DataW.trod enc Tryz.prog w base (fun _=>true) held n 33 cs=some x) (ho:Ok Tryz.prog 33 x.1) (hD:n≤D):∃f,(aA D).rd w w.heap.size f cs:=by
 obtain ⟨hc,n',hn,hf⟩:=ck (Tryz.underlying33) h ho
 have hcl:=hc.trans lB
 match cs,hcl with
 | [c0,c1,c2],_=>
   obtain ⟨_,h0,o0⟩:=hf 0 _ _ _ _ rfl rfl rfl fT
   obtain ⟨_,h1,_⟩:=hf 1 _ _ _ _ rfl rfl rfl sN
   obtain ⟨p,hp⟩:=kQ (D:=D) h0 o0 (by omega)
   obtain ⟨m,e1,_,hwf⟩:=DataW.trod_int (Tryz.underlying31) h1
   replace hp:(PrR D).rd w w.heap.size p [c0,c1]:=hp
   replace e1:[c2]=_:=e1
   have hp':=hp
   obtain ⟨v0,e0,gs,g0⟩:=hp
   simp only [List.cons.injEq,and_true] at e0 e1
   obtain ⟨rfl,rfl⟩:=e0
   subst e1
   exact ⟨⟨p,m⟩,_,rfl,hp',u32_wf hwf⟩
theorem th {n D:Nat} {cs:List Value} {x:DataW H × List MemPlace} (h:DataW.trod enc Tryz.prog w base (fun _=>true) held n 22 cs=some x) (ho:Ok Tryz.prog 22 x.1) (hD:n≤D):∃(ts:List Fc) (A:Option Addr) (c:Nat),cs=[.slice A ts.length c]∧ts.length*48≤140737488351232∧RL (aA D) w w.heap.size ts A:=by
 obtain ⟨xs,A,c,e,h1,h2,h3⟩:=kJ (aA D) (D:=D) (B:=48) (Tryz.underlying22) lB (by simp [aA]) (by kernel_rfl) h ho (by omega) (fun m hm cs x hx ho=>qh hx ho hm)
 exact ⟨xs,A,c,e,by omega,h3⟩
end
theorem own:ownKnob Tryz.prog.godebug=none:=by kernel_rfl
theorem pg:laidOutB Tryz.prog=true:=by kernel_rfl
theorem xk {H:Type} {P:Program} {ts:List TypeId} {ds:List (DataW H)} (h:(DataW.weightsEach P ts ds).all (·≤reachBytes)=true) {j:Nat} {t:TypeId} {d:DataW H} (ht:ts[j]? = some t) (hd:ds[j]? = some d):Ok P t d:=fun n hn=>by
 have:=List.all_eq_true.1 h n (DataW.weights_mem_each ht hd n hn)
 simpa using this
theorem iN (os:Os) (started:os.Started) (H:Type) (enc:TypeId × Value→H) :
 ReturnsInHanded {} Tryz.checked os 3 .any (Rows.joinTurnedSpec.pre6 enc Tryz.prog Tryz.f3 Rows.joinTurnedRow.domain false) (Rows.joinTurnedSpec.post enc Tryz.prog Tryz.f3 false true false false):=by
 refine returnsInHanded_of_change_shaped (C:=Tryz.checked) own started (by kernel_rfl) Tryz.func3
  (ChangeSpec.witness6 (enc:=enc) (C:=Tryz.checked) false ⟨#[],#[.slice none 0 0,.agg #[.string ⟨#[]⟩,.slice none 0 0,.slice none 0 0,.slice none 0 0,.slice none 0 0],.agg #[.string ⟨#[]⟩,.slice none 0 0,.int .u32 0]],[]⟩ 8 (by kernel_rfl) (by kernel_rfl) (by kernel_rfl) (by kernel_rfl)) ?_
 intro W base args ds gs before hval0 hW _ hsz0 hsh _
 have hsz:(DataW.weightsEach Tryz.prog (Tryz.f3.params.toList++Rows.joinTurnedSpec.plain.varTypes Tryz.prog) (ds++gs)).all (·≤reachBytes)=true:=hsz0
 clear hsz0
 have hval:∀(j:Nat) t v,Tryz.f3.params[j]? = some t→args[j]? = some v→Value.okWide Tryz.prog W .any base t v:=hval0
 have hW':=hW
 obtain ⟨p,q,hA0,hV,rfl,hfz,hnd⟩:=hW
 have hA:DataW.TrodAll enc Tryz.prog W 0 (fun _=>true) true Tryz.f3.params.toList args.toList ds p:=hA0
 rw [Tryz.params3] at hA hval hsz
 obtain ⟨v0,v1,v2,d0,d1,d2,p0,p1,p2,rfl,rfl,rfl,h0,h1,h2⟩:=trodAll_three hA
 obtain ⟨rfl,rfl⟩:=trodVars_none hV
 obtain ⟨A0,l0,c0,rfl⟩:=okWide_slice Tryz.underlying22 (hval 0 22 v0 rfl rfl)
 obtain ⟨cs1,rfl,_⟩:=okWide_struct Tryz.underlying30 (hval 1 30 v1 rfl rfl)
 obtain ⟨cs2,rfl,_⟩:=okWide_struct Tryz.underlying33 (hval 2 33 v2 rfl rfl)
 have k0:=h0
 have lt0:∀x∈(p0:List MemPlace),x.block<W.heap.size:=by obtain ⟨m,hm⟩:=k0;exact DataW.trod_lt m _ _ _ hm
 have k1:=h1
 have lt1:∀x∈(p1:List MemPlace),x.block<W.heap.size:=by obtain ⟨m,hm⟩:=k1;exact DataW.trod_lt m _ _ _ hm
 have k2:=h2
 have lt2:∀x∈(p2:List MemPlace),x.block<W.heap.size:=by obtain ⟨m,hm⟩:=k2;exact DataW.trod_lt m _ _ _ hm
 obtain ⟨n0,t0⟩:=h0
 obtain ⟨n1,t1⟩:=h1
 obtain ⟨n2,t2⟩:=h2
 obtain ⟨D,hD⟩:∃D,n0≤D+1∧n1≤D+1∧n2≤D+1:=⟨(max (max n0 n1) n2),by omega⟩
 obtain ⟨xs0,Ax0,cx0,ee0,hb0,hr0⟩:=th (D:=D+1) t0 (xk hsz (j:=0) rfl rfl) (by omega)
 have ee0':(Value.slice A0 l0 c0).cells.toList=[.slice A0 l0 c0]:=rfl
 rw [ee0'] at ee0
 simp only [List.cons.injEq,Value.slice.injEq,and_true] at ee0
 obtain ⟨rfl,rfl,rfl⟩:=ee0
 obtain ⟨r1,hr1⟩:=un (D:=D+1) t1 (xk hsz (j:=1) rfl rfl) (by omega)
 obtain ⟨r2,hr2⟩:=qh (D:=D+1) t2 (xk hsz (j:=2) rfl rfl) (by omega)
 obtain ⟨m0,hm0⟩:=cell_of_shapedOpen_int (g:=0) (t:=3) (zero:=#[.int .i64 0]) hsh (of_decide_eq_true (by kernel_rfl)) (by kernel_rfl) rfl (by kernel_rfl) (by kernel_rfl) Tryz.underlying3
 have h00:0<W.heap.size:=block_lt_of_cell hm0
 clear hA0 hval0
 obtain ⟨cs1⟩:=cs1
 obtain ⟨cs2⟩:=cs2
 refine (mp (fun w1 hb1=>oE ((hb1.cell (p:=⟨0,0,none⟩) h00).trans hm0) (Nat.lt_of_lt_of_le h00 hb1.size)) hr0 (by omega) hr1 hr2 (Nat.le_refl _) hm0 h00).mono fun e W' ⟨he,bel⟩=>?_
 subst he
 exact ⟨_,rfl,_,_,_,[],_,[],hW',trodAll_mk1 (shut_bool Tryz.underlying4 _),trodAll_mk3 (Below.trod pg (by kernel_rfl) (of_decide_eq_true (by kernel_rfl)) k0 bel lt0) (Below.trod pg (by kernel_rfl) (of_decide_eq_true (by kernel_rfl)) k1 bel lt1) (Below.trod pg (by kernel_rfl) (of_decide_eq_true (by kernel_rfl)) k2 bel lt2),rfl,bel.frame _,fun h=>by cases h⟩
theorem jf_a:(Rows.joinTurnedRow.inPlace==Tryz.prog.inPlace 3)=true:=by kernel_rfl
theorem jf_b:(Rows.joinTurnedRow.unfollowed==Tryz.prog.unfollowed 3)=true:=by kernel_rfl
theorem jf_c:(Rows.joinTurnedRow.recurses==Tryz.prog.recurses 3)=true:=by kernel_rfl
theorem jf_d:(Rows.joinTurnedRow.named==Tryz.prog.varsNamed 3)=true:=by kernel_rfl
theorem jf_all:joinedFacts Tryz.prog 3 Tryz.f3 Rows.joinTurnedSpec Rows.joinTurnedRow=true:=by
 unfold joinedFacts
 rw [jf_a,jf_b,jf_c,jf_d]
 kernel_rfl
theorem kx:Rows.joinTurnedRow.holds Tryz.pinned (OpenSpec.ofChange Rows.joinTurnedSpec):=
 OpenClaim.holds_of_wide 3 Tryz.f3 rfl rfl rfl rfl rfl rfl rfl ⟨rfl,rfl,rfl,rfl,rfl⟩ rfl rfl rfl rfl rfl (by kernel_rfl) Tryz.func3 jf_all
  (of_decide_eq_true (by kernel_rfl)) (by unfold Func.isWrapper;first | (rw [if_pos (by decide +kernel)];kernel_rfl) | (rw [if_neg (by decide +kernel)];exact ⟨rfl,rfl⟩))
  (fun os started H enc _=>iN os started H enc)
theorem joinTurned_holds:Rows.JoinTurnedSaid:=kx
end Go.Proofs.YtdphibjibnffeaaGreat
