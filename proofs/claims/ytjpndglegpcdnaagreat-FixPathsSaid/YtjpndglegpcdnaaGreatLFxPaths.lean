/- viaticumlaw21.FixPaths. Printed by mk_lfxpaths.py. -/
import Derived.Test.YtjpndglegpcdnaaGreatFx1
import Derived.Test.YtjpndglegpcdnaaGreatLFxTurned
set_option linter.unusedVariables false
set_option linter.unusedSimpArgs false
set_option maxRecDepth 100000
set_option maxHeartbeats 8000000
namespace Go.Proofs.YtjpndglegpcdnaaGreat
open Go.ChangeShapes Go.WideShapes Go.ChangeAt Go.RowKit
theorem mod7 (x:Int):∃p:Nat,IntKind.i64.wrap ((IntKind.u64.wrap x).tmod 7)=(p:Int)∧p<7:=by
 obtain ⟨u,e,_⟩:=xz x
 simp only [Value.int.injEq,true_and] at e
 rw [e]
 refine ⟨u % 7,?_,Nat.mod_lt _ (by omega)⟩
 have h:((u:Int)).tmod 7=((u % 7:Nat):Int):=(Int.ofNat_tmod u 7).symm
 rw [h]
 have h8:=Nat.mod_lt u (show 0<7 by omega)
 rw [wrap_i64 (by omega) (by omega)]
def PrE (base:Nat) (m n:Int) (v:Value) (w:World):Prop:=∃b,v=.agg #[.string pwE,.slice (some ⟨b,0,none⟩) 2 2]∧base≤b∧w.heap[b]? = some (.cells #[.int .i64 2,.int .i64 m,.string ⟨#[]⟩,.slice none 0 0,.int .i64 2,.int .i64 n,.string ⟨#[]⟩,.slice none 0 0] 29 (0,0))
def FcE (base:Nat) (m n:Int) (v:Value) (w:World):Prop:=∃b,v=.agg #[.string pwE,.slice (some ⟨b,0,none⟩) 2 2,.int .u32 1]∧base≤b∧w.heap[b]? = some (.cells #[.int .i64 2,.int .i64 m,.string ⟨#[]⟩,.slice none 0 0,.int .i64 2,.int .i64 n,.string ⟨#[]⟩,.slice none 0 0] 29 (0,0))
def RowE (base:Nat) (m n:Int) (v:Value) (w:World):Prop:=∃g b,v=.slice (some ⟨g,0,none⟩) 1 1∧w.heap[g]? = some (.cells #[.string pwE,.slice (some ⟨b,0,none⟩) 2 2,.int .u32 1] 33 (0,0))∧base≤b∧w.heap[b]? = some (.cells #[.int .i64 2,.int .i64 m,.string ⟨#[]⟩,.slice none 0 0,.int .i64 2,.int .i64 n,.string ⟨#[]⟩,.slice none 0 0] 29 (0,0))
def RowM (base:Nat) (fs:List Fc) (v:Value) (w:World):Prop:=∃xs A c,v=.slice A xs.length c∧xs.map FV.f=fs∧FRow base 1 w xs A c
def vD (S:List Fc) (v:Value) (w:World):Prop:=∃q base xs As cs,v=.pointer (some ⟨q,0,none⟩)∧StA base 1 w q xs As cs∧S=xs.map FV.f
def vH (S:List Fc) (k e:Int) (v:Value) (w:World):Prop:=∃p,v=.tuple #[p,.int .i64 k,.int .i64 e]∧vD S p w
theorem Stb.prE (base:Nat) (m n:Int):Stb (PrE base m n):=fun _ _ _ ⟨b,e,h,k⟩ hb=>⟨b,e,h,fu k hb⟩
theorem Stb.fcE (base:Nat) (m n:Int):Stb (FcE base m n):=fun _ _ _ ⟨b,e,h,k⟩ hb=>⟨b,e,h,fu k hb⟩
theorem Stb.rowE (base:Nat) (m n:Int):Stb (RowE base m n):=fun _ _ _ ⟨g,b,e,h0,h,k⟩ hb=>⟨g,b,e,fu h0 hb,h,fu k hb⟩
theorem Stb.rowM (base:Nat) (fs:List Fc):Stb (RowM base fs):=fun _ _ _ ⟨xs,A,c,e,hx,h⟩ hb=>⟨xs,A,c,e,hx,h.later hb⟩
theorem Stb.ptrS (S:List Fc):Stb (vD S):=fun _ _ _ ⟨q,base,xs,As,cs,e,h,hx⟩ hb=>⟨q,base,xs,As,cs,e,h.later hb,hx⟩
theorem Stb.runV (S:List Fc) (k e:Int):Stb (vH S k e):=fun _ _ _ ⟨p,h,h1⟩ hb=>⟨p,h,Stb.ptrS S _ _ _ h1 hb⟩
theorem ring_ok {m n:Int}:FcOk (pwF pwE m n):=⟨by show (4:Nat)≤_;omega,by unfold U32;simp [pwF],by simp [pwF,pwQ],fun t ht=>by
 simp only [pwF,pwQ,List.mem_cons,List.not_mem_nil,or_false] at ht
 rcases ht with rfl | rfl<;>(simp [pwN,af,kc,ew];rfl)⟩
theorem uQ {w:World} {b B:Nat} {m n:Int} {T:TypeId} (h:w.heap[b]? = some (.cells #[.int .i64 2,.int .i64 m,.string ⟨#[]⟩,.slice none 0 0,.int .i64 2,.int .i64 n,.string ⟨#[]⟩,.slice none 0 0] T (0,0))) (hB:B≤b) (hm:I64 m) (hn:I64 n):fl (fun k=>k<B) w (fun w'=>(aC 2).rd w' w'.heap.size (pwF pwE m n) (FV.cs ⟨pwF pwE m n,some ⟨b,0,none⟩,2⟩)):=
 fun w' ha=>xd (ha.blk ⟨T,h⟩ (by omega)) (by decide) hm hn
theorem ep {N c cr:Nat} {A Ar:Option Addr} {rs:List OwD} {lf lr m:Int} {w w8:World} {R:Option (List Fc) × Int × Int} (hR:gX (rgL N) rs lf lr=R) (hN:N≤7) (hl:RL (aC 2) w8 w8.heap.size (rgL N) A) (hb:Below w8.heap.size w8 w) (hr:RL (OwR 2) w w.heap.size rs Ar) (hrn:rs.length≤2) (hlf:I64 lf) (hlr:I64 lr) (hm:w.cell? ⟨0,0,none⟩=some (.int .i64 m)) (hp:0<w.heap.size) :
 Calls Tryz.prog 10 #[.slice A N c,.slice Ar rs.length cr,.agg #[.int .i64 lf,.int .i64 lr]] w fun z w'=>nM 1 w w' R z:=by
 have h:=uW (d:=1) (B:=w.heap.size) (c:=c) (cr:=cr) (lf:=lf) (lr:=lr) (rs:=rs) ((hl.keep hb (yo _)).wide hb.size) hr (yo _) (by rw [oX];omega) (by omega) (fun f hf=>by
  obtain ⟨i,_,rfl⟩:=List.mem_map.1 hf
  simp [pwF,pwQ]) hlf hlr hm hp
 rw [oX,hR] at h
 exact h
theorem nM.no_ {w w':World} {k e:Int} {z:Ending} (h:nM 1 w w' (none,k,e) z):z=.returned (.tuple #[.pointer none,.int .i64 k,.int .i64 e])∧Below w.heap.size w w':=by
 obtain ⟨⟨_,_,_,_,_,_,_,h1,_⟩ | ⟨rfl,_⟩,hb⟩:=h
 ·cases h1
 ·exact ⟨rfl,hb⟩
theorem nM.yes {w w':World} {S:List Fc} {k e:Int} {z:Ending} (h:nM 1 w w' (some S,k,e) z):(∃q base xs As cs,z=.returned (.tuple #[.pointer (some ⟨q,0,none⟩),.int .i64 k,.int .i64 e])∧StA base 1 w' q xs As cs∧S=xs.map FV.f)∧Below w.heap.size w w':=by
 obtain ⟨⟨q,base,xs,As,cs,rfl,hst,hx,_⟩ | ⟨_,h1⟩,hb⟩:=h
 ·exact ⟨⟨q,base,xs,As,cs,rfl,hst,Option.some.inj hx⟩,hb⟩
 ·cases h1
theorem mz {S:List Fc}:bI S pwP 2=S.filter fun f=>decide (f.pr.name=pwP)&&decide (f.pr.terms.length=2):=by
 unfold bI
 refine List.filter_congr fun f _=>?_
 rw [Bool.eq_iff_iff,yC,yx,yC,yC]
 unfold dl
 rw [orL2]
 constructor
 ·intro h
  by_cases h1:dE (bs f.pr.name) (bs pwP)=0
  ·rw [if_pos h1] at h
   have h2:=dL.1 h
   exact ⟨mf (dM.1 h1),by omega⟩
  ·rw [if_neg h1] at h
   exact absurd h h1
 ·rintro ⟨h1,h2⟩
  rw [h1,h2,if_pos (dM.2 rfl)]
  exact dL.2 rfl
theorem xR {w:World}:RL (OwR 2) w w.heap.size [] none:=fun h=>absurd h (by simp)
theorem pQ {x m:Int} {less:Bool} {w:World} (HAW:∀w1:World,Below w.heap.size w w1→Calls Tryz.prog 12 #[] w1 fun z w'=>z=.returned (.bool true)∧Below w1.heap.size w1 w') (hm:w.cell? ⟨0,0,none⟩=some (.int .i64 m)) (hp:0<w.heap.size) :
 Calls Tryz.prog 3 #[.int .i64 x,.bool less] w fun z w'=>z=.returned (.bool true)∧Below w.heap.size w w':=by
 have HAWH:=ym HAW
 have HC0:=ym hm
 clear HAW hm
 obtain ⟨i0,hi0,hz0,hz1,hz2⟩:=info_parts eR
 obtain ⟨p,hp7,hp8⟩:=mod7 x
 have HS:=ym (uP hp8)
 go_enter Tryz.func3,Tryz.ntmps3
 go_upto_region 4 with fail
 clear hp7
 obtain ⟨N,hN⟩:∃N:Nat,(N:Int)=1+(p:Int):=⟨1+p,by omega⟩
 rw [←hN]
 obtain rfl:N=p+1:=by omega
 generalize p+1=N at *
 have hN1:1≤N:=by omega
 have hN7:N≤7:=by omega
 clear hN
 go_loopw [5,29] (fun u i wr=>∃(k:Nat) (xs:List FV) (A:Option Addr) (c:Nat),k≤N∧xs.length=k∧i=.int .i64 k∧u=.slice A xs.length c∧Hid (xs.map FV.f=(rgL N).take k)∧Hid (FRow w.heap.size 1 wr xs A c)∧Hid (Below w.heap.size w wr)) (fun _ i _=>N-(intOf i).toNat)
 case atStart=>exact ⟨0,[],none,0,yp _,rfl,rfl,rfl,ym rfl,ym (FRow.nil _ _ _),ym (yq _ _)⟩
 case round=>
  obtain ⟨k,xs,A,c,hk,hxk,rfl,rfl,HX,HROW,HW⟩:=hrel
  have HXK:=ym hxk
  clear hxk
  by_cases hlt:k<N
  ·have HTK:=ym (rg_take hlt)
   obtain ⟨q,hq⟩:∃q:Nat,q=(k+1) % N:=⟨_,rfl⟩
   have hq7:q<N:=by rw [hq];exact Nat.mod_lt _ (by omega)
   have hqi:((k:Int)+1) % (N:Int)=(q:Int):=by subst hq;push_cast;rfl
   have hqt:((k:Int)+1).tmod (N:Int)=(q:Int):=by rw [Int.tmod_eq_emod_of_nonneg (by omega)];exact hqi
   rw [←hq] at HTK
   clear hq
   have hki:IntKind.i64.wrap ((k:Int)+1)=(k:Int)+1:=wrap_i64 (by omega) (by omega)
   have hN0:¬N=0:=by omega
   go_upto_region 6 with fail
   have HST:Hid (sX [fun v _=>v=.slice A xs.length c,fun v _=>v=.int .i64 k,fun v _=>v=.agg #[.int .i64 2,.int .i64 k,.string ⟨#[]⟩,.slice none 0 0],fun v _=>v=.int .i64 k,fun v _=>v=.int .i64 (k+1),fun v _=>v=.int .i64 N,fun v _=>v=.int .i64 q,fun v _=>v=.agg #[.int .i64 2,.int .i64 q,.string ⟨#[]⟩,.slice none 0 0],pq wr.heap.size 2 #[.int .i64 2,.int .i64 k,.string ⟨#[]⟩,.slice none 0 0,.int .i64 2,.int .i64 q,.string ⟨#[]⟩,.slice none 0 0] 29,PrE wr.heap.size k q,FcE wr.heap.size k q,RowE wr.heap.size k q,RowM w.heap.size ((rgL N).take (k+1))]):=ym ⟨Stb.val _,⟨Stb.val _,⟨Stb.val _,⟨Stb.val _,⟨Stb.val _,⟨Stb.val _,⟨Stb.val _,⟨Stb.val _,⟨Stb.row _ _ _ _,⟨Stb.prE _ _ _,⟨Stb.fcE _ _ _,⟨Stb.rowE _ _ _,⟨Stb.rowM _ _,trivial⟩⟩⟩⟩⟩⟩⟩⟩⟩⟩⟩⟩⟩
   have HH0:Hid (w.heap.size≤wr.drew.heap.size):=ym (yn HW.out.size (yo _))
   have HDR:Hid (Below wr.heap.size wr wr.drew):=ym (yq _ _).drew
   refine cQ 13 (je [fun v _=>v=.slice A xs.length c,fun v _=>v=.int .i64 k,fun v _=>v=.agg #[.int .i64 2,.int .i64 k,.string ⟨#[]⟩,.slice none 0 0],fun v _=>v=.int .i64 k,fun v _=>v=.int .i64 (k+1),fun v _=>v=.int .i64 N,fun v _=>v=.int .i64 q,fun v _=>v=.agg #[.int .i64 2,.int .i64 q,.string ⟨#[]⟩,.slice none 0 0],pq wr.heap.size 2 #[.int .i64 2,.int .i64 k,.string ⟨#[]⟩,.slice none 0 0,.int .i64 2,.int .i64 q,.string ⟨#[]⟩,.slice none 0 0] 29,PrE wr.heap.size k q,FcE wr.heap.size k q,RowE wr.heap.size k q,RowM w.heap.size ((rgL N).take (k+1))]) [12] (w.heap.size) HH0.out (by kernel_rfl) (by kernel_rfl) (by kernel_rfl) (by kernel_rfl) (by kernel_rfl) rfl (aa (aa (aa (aa (aa (aa (aa (aa (aa (aa (aa (aa (aa dp ?op0_) ?op1_) ?op2_) ?op3_) ?op4_) ?op5_) ?op6_) ?op7_) ?op8_) ?op9_) ?op10_) ?op11_) ?op12_) ?last_
   case op0_=>
    refine mvA fun T w' hk hb hgr hd K hK=>?_
    have h_:T[5]?.getD undef=.slice A xs.length c:=gqd (mvK hk 5)
    clear hk hd
    go_simp
    exact hK.out _ _ (mvM HST HH0 hb) rfl
   case op1_=>
    refine mvA fun T w' hk hb hgr hd K hK=>?_
    have h_:T[6]?.getD undef=.int .i64 k:=gqd (mvK hk 6)
    clear hk hd
    go_simp
    exact hK.out _ _ (mvM HST HH0 hb) rfl
   case op2_=>
    refine mvA fun T w' hk hb hgr hd K hK=>?_
    have d1:T[33]?.getD undef=.int .i64 k:=gqd (mvD hd 1)
    clear hk hd
    go_simp
    refine dn.mono ?_
    rintro z w4 ⟨rfl,hb4⟩
    exact hK.out _ _ (mvN HST HH0 hb hb4) rfl
   case op3_=>
    refine mvA fun T w' hk hb hgr hd K hK=>?_
    have h_:T[6]?.getD undef=.int .i64 k:=gqd (mvK hk 6)
    clear hk hd
    go_simp
    exact hK.out _ _ (mvM HST HH0 hb) rfl
   case op4_=>
    refine mvA fun T w' hk hb hgr hd K hK=>?_
    have d3:T[35]?.getD undef=.int .i64 k:=gqd (mvD hd 3)
    clear hk hd
    go_simp
    exact hK.out _ _ (mvM HST HH0 hb) rfl
   case op5_=>
    refine mvA fun T w' hk hb hgr hd K hK=>?_
    have h_:T[0]?.getD undef=.int .i64 N:=gqd (mvK hk 0)
    clear hk hd
    go_simp
    exact hK.out _ _ (mvM HST HH0 hb) rfl
   case op6_=>
    refine mvA fun T w' hk hb hgr hd K hK=>?_
    have d4:T[36]?.getD undef=.int .i64 (k+1):=gqd (mvD hd 4)
    have d5:T[37]?.getD undef=.int .i64 N:=gqd (mvD hd 5)
    clear hk hd
    go_simp
    exact hK.out _ _ (mvM HST HH0 hb) rfl
   case op7_=>
    refine mvA fun T w' hk hb hgr hd K hK=>?_
    have d6:T[38]?.getD undef=.int .i64 q:=gqd (mvD hd 6)
    clear hk hd
    go_simp
    refine dn.mono ?_
    rintro z w4 ⟨rfl,hb4⟩
    exact hK.out _ _ (mvN HST HH0 hb hb4) rfl
   case op8_=>
    refine mvA fun T w' hk hb hgr hd K hK=>?_
    have d2:T[34]?.getD undef=.agg #[.int .i64 2,.int .i64 k,.string ⟨#[]⟩,.slice none 0 0]:=gqd (mvD hd 2)
    have d7:T[39]?.getD undef=.agg #[.int .i64 2,.int .i64 q,.string ⟨#[]⟩,.slice none 0 0]:=gqd (mvD hd 7)
    have hgs:=(hgr (by kernel_rfl)).size
    clear hk hd
    go_simp
    generalize hW:World.alloc _ _=w4
    obtain ⟨hb4,hz4⟩:=al1 hW
    have hN4:=hW▸heap_alloc_new w' _
    clear hW
    exact hK.out _ _ (mvN HST HH0 hb hb4) ⟨_,rfl,hgs,hN4⟩
   case op9_=>
    refine mvA fun T w' hk hb hgr hd K hK=>?_
    have d8:=mvD hd 8
    obtain ⟨b8,e8,hb8,hc8⟩:=d8
    replace e8:T.getD 40 undef=.slice (some ⟨b8,0,none⟩) 2 2:=e8
    rw [yu] at e8
    clear hk hd
    go_simp
    refine bW.mono ?_
    rintro z w4 ⟨rfl,hb4⟩
    exact hK.out _ _ (mvN HST HH0 hb hb4) ⟨b8,rfl,hb8,fu hc8 hb4⟩
   case op10_=>
    refine mvA fun T w' hk hb hgr hd K hK=>?_
    have d9:=mvD hd 9
    obtain ⟨b9,e9,hb9,hc9⟩:=d9
    replace e9:T.getD 41 undef=.agg #[.string pwE,.slice (some ⟨b9,0,none⟩) 2 2]:=e9
    rw [yu] at e9
    clear hk hd
    go_simp
    exact hK.out _ _ (mvM HST HH0 hb) ⟨b9,rfl,hb9,hc9⟩
   case op11_=>
    refine mvA fun T w' hk hb hgr hd K hK=>?_
    have d10:=mvD hd 10
    obtain ⟨b10,e10,hb10,hc10⟩:=d10
    replace e10:T.getD 42 undef=.agg #[.string pwE,.slice (some ⟨b10,0,none⟩) 2 2,.int .u32 1]:=e10
    rw [yu] at e10
    clear hk hd
    go_simp
    generalize hW:World.alloc _ _=w4
    obtain ⟨hb4,hz4⟩:=al1 hW
    have hN4:=hW▸heap_alloc_new w' _
    clear hW
    exact hK.out _ _ (mvN HST HH0 hb hb4) ⟨_,b10,rfl,hN4,hb10,fu hc10 hb4⟩
   case op12_=>
    refine mvA fun T w' hk hb hgr hd K hK=>?_
    have d0:=mvD hd 0
    have d11:=mvD hd 11
    replace d0:T.getD 32 undef=.slice A xs.length c:=d0
    obtain ⟨g11,b11,e11,hg11,hb11,hc11⟩:=d11
    have hgw:=HDR.out.trans (hgr (by kernel_rfl))
    have HRW:=HROW.out.later hgw
    refine fZ (R:=FvR) (e:=33) (.tmp 32) (.tmp 43) 23 rfl (bytes:=48) Tryz.underlying23 hi0 hz0 hz1 hz2 rfl (show 0<3 by omega) bQ (xs:=xs) (base:=w.heap.size) (B:=0) (v:=.slice A xs.length c) (by exact d0) HRW.own (by exact e11) (ys:=[⟨pwF pwE k q,some ⟨b11,0,none⟩,2⟩]) (xl hg11 (bA.one (R:=FvR) rfl)) rfl (yp _) (by have:=HXK.out;simp only [yE,List.length_nil];omega) (by omega) (yn HW.out.size hgw.size) ?_
    intro v_1 w7 hown hb7 hg hf
    obtain ⟨A',c',rfl⟩:=hown.form
    exact hK.out _ _ (Moved.keep (hb.trans hb7) rfl [] (by kernel_rfl) (by simp)) ⟨_,A',c',rfl,by rw [List.map_append,HX.out];exact HTK.out.symm,HRW.app (base2:=wr.heap.size) ring_ok (uQ hc11 hb11 (by unfold I64;omega) (by unfold I64;omega)) HW.out.size (fun j hj=>(HROW.out.own.lt j hj).2) hown hg hf⟩
   case last_=>
    refine mvL fun T w' hk hb hgr hd K hK=>?_
    have d12:=mvD hd 12
    obtain ⟨ys,A',c',e44,hmap,hrow⟩:=d12
    replace e44:T.getD 44 undef=_:=e44
    have hT:=eq hk.1
    obtain ⟨f_,hf_⟩:∃f_:Nat→Value,(fun t=>T.getD t undef)=f_:=⟨_,rfl⟩
    rw [hf_] at hT
    have E_:=fun t h=>(congrFun hf_ t).symm.trans (hk.2 t h)
    replace e44:f_ 44=_:=(congrFun hf_ 44).symm.trans e44
    replace hT:T=#[f_ 0,f_ 1,f_ 2,f_ 3,f_ 4,f_ 5,f_ 6,f_ 7,f_ 8,f_ 9,f_ 10,f_ 11,f_ 12,f_ 13,f_ 14,f_ 15,f_ 16,f_ 17,f_ 18,f_ 19,f_ 20,f_ 21,f_ 22,f_ 23,f_ 24,f_ 25,f_ 26,f_ 27,f_ 28,f_ 29,f_ 30,f_ 31,f_ 32,f_ 33,f_ 34,f_ 35,f_ 36,f_ 37,f_ 38,f_ 39,f_ 40,f_ 41,f_ 42,f_ 43,f_ 44,f_ 45,f_ 46,f_ 47,f_ 48,f_ 49,f_ 50,f_ 51,f_ 52,f_ 53,f_ 54,f_ 55,f_ 56,f_ 57,f_ 58,f_ 59,f_ 60,f_ 61,f_ 62,f_ 63,f_ 64,f_ 65,f_ 66,f_ 67,f_ 68,f_ 69,f_ 70,f_ 71,f_ 72,f_ 73,f_ 74,f_ 75,f_ 76,f_ 77,f_ 78,f_ 79,f_ 80,f_ 81,f_ 82,f_ 83,f_ 84,f_ 85,f_ 86,f_ 87,f_ 88,f_ 89,f_ 90,f_ 91,f_ 92,f_ 93,f_ 94,f_ 95,f_ 96,f_ 97,f_ 98,f_ 99,f_ 100,f_ 101,f_ 102,f_ 103,f_ 104,f_ 105,f_ 106,f_ 107,f_ 108,f_ 109,f_ 110,f_ 111,f_ 112,f_ 113,f_ 114,f_ 115,f_ 116,f_ 117,f_ 118,f_ 119,f_ 120,f_ 121,f_ 122,f_ 123,f_ 124,f_ 125,f_ 126,f_ 127,f_ 128,f_ 129,f_ 130,f_ 131,f_ 132,f_ 133,f_ 134,f_ 135,f_ 136,f_ 137,f_ 138,f_ 139,f_ 140,f_ 141,f_ 142,f_ 143,f_ 144,f_ 145,f_ 146,f_ 147,f_ 148,f_ 149,f_ 150,f_ 151,f_ 152,f_ 153,f_ 154,f_ 155,f_ 156,f_ 157,f_ 158,f_ 159,f_ 160,f_ 161,f_ 162,f_ 163,f_ 164,f_ 165,f_ 166,f_ 167,f_ 168]:=hT
    clear hf_
    subst hT
    rw [e44,E_ 0 (by kernel_rfl),E_ 1 (by kernel_rfl),E_ 2 (by kernel_rfl),E_ 3 (by kernel_rfl),E_ 4 (by kernel_rfl),E_ 5 (by kernel_rfl),E_ 6 (by kernel_rfl),E_ 7 (by kernel_rfl),E_ 8 (by kernel_rfl),E_ 9 (by kernel_rfl),E_ 10 (by kernel_rfl),E_ 11 (by kernel_rfl),E_ 12 (by kernel_rfl),E_ 13 (by kernel_rfl),E_ 14 (by kernel_rfl),E_ 15 (by kernel_rfl),E_ 16 (by kernel_rfl),E_ 17 (by kernel_rfl),E_ 18 (by kernel_rfl),E_ 19 (by kernel_rfl),E_ 20 (by kernel_rfl),E_ 21 (by kernel_rfl),E_ 22 (by kernel_rfl),E_ 23 (by kernel_rfl),E_ 24 (by kernel_rfl),E_ 25 (by kernel_rfl),E_ 26 (by kernel_rfl),E_ 27 (by kernel_rfl),E_ 28 (by kernel_rfl),E_ 29 (by kernel_rfl),E_ 30 (by kernel_rfl),E_ 31 (by kernel_rfl),E_ 45 (by kernel_rfl),E_ 46 (by kernel_rfl),E_ 47 (by kernel_rfl),E_ 48 (by kernel_rfl),E_ 49 (by kernel_rfl),E_ 50 (by kernel_rfl),E_ 51 (by kernel_rfl),E_ 52 (by kernel_rfl),E_ 53 (by kernel_rfl),E_ 54 (by kernel_rfl),E_ 55 (by kernel_rfl),E_ 56 (by kernel_rfl),E_ 57 (by kernel_rfl),E_ 58 (by kernel_rfl),E_ 59 (by kernel_rfl),E_ 60 (by kernel_rfl),E_ 61 (by kernel_rfl),E_ 62 (by kernel_rfl),E_ 63 (by kernel_rfl),E_ 64 (by kernel_rfl),E_ 65 (by kernel_rfl),E_ 66 (by kernel_rfl),E_ 67 (by kernel_rfl),E_ 68 (by kernel_rfl),E_ 69 (by kernel_rfl),E_ 70 (by kernel_rfl),E_ 71 (by kernel_rfl),E_ 72 (by kernel_rfl),E_ 73 (by kernel_rfl),E_ 74 (by kernel_rfl),E_ 75 (by kernel_rfl),E_ 76 (by kernel_rfl),E_ 77 (by kernel_rfl),E_ 78 (by kernel_rfl),E_ 79 (by kernel_rfl),E_ 80 (by kernel_rfl),E_ 81 (by kernel_rfl),E_ 82 (by kernel_rfl),E_ 83 (by kernel_rfl),E_ 84 (by kernel_rfl),E_ 85 (by kernel_rfl),E_ 86 (by kernel_rfl),E_ 87 (by kernel_rfl),E_ 88 (by kernel_rfl),E_ 89 (by kernel_rfl),E_ 90 (by kernel_rfl),E_ 91 (by kernel_rfl),E_ 92 (by kernel_rfl),E_ 93 (by kernel_rfl),E_ 94 (by kernel_rfl),E_ 95 (by kernel_rfl),E_ 96 (by kernel_rfl),E_ 97 (by kernel_rfl),E_ 98 (by kernel_rfl),E_ 99 (by kernel_rfl),E_ 100 (by kernel_rfl),E_ 101 (by kernel_rfl),E_ 102 (by kernel_rfl),E_ 103 (by kernel_rfl),E_ 104 (by kernel_rfl),E_ 105 (by kernel_rfl),E_ 106 (by kernel_rfl),E_ 107 (by kernel_rfl),E_ 108 (by kernel_rfl),E_ 109 (by kernel_rfl),E_ 110 (by kernel_rfl),E_ 111 (by kernel_rfl),E_ 112 (by kernel_rfl),E_ 113 (by kernel_rfl),E_ 114 (by kernel_rfl),E_ 115 (by kernel_rfl),E_ 116 (by kernel_rfl),E_ 117 (by kernel_rfl),E_ 118 (by kernel_rfl),E_ 119 (by kernel_rfl),E_ 120 (by kernel_rfl),E_ 121 (by kernel_rfl),E_ 122 (by kernel_rfl),E_ 123 (by kernel_rfl),E_ 124 (by kernel_rfl),E_ 125 (by kernel_rfl),E_ 126 (by kernel_rfl),E_ 127 (by kernel_rfl),E_ 128 (by kernel_rfl),E_ 129 (by kernel_rfl),E_ 130 (by kernel_rfl),E_ 131 (by kernel_rfl),E_ 132 (by kernel_rfl),E_ 133 (by kernel_rfl),E_ 134 (by kernel_rfl),E_ 135 (by kernel_rfl),E_ 136 (by kernel_rfl),E_ 137 (by kernel_rfl),E_ 138 (by kernel_rfl),E_ 139 (by kernel_rfl),E_ 140 (by kernel_rfl),E_ 141 (by kernel_rfl),E_ 142 (by kernel_rfl),E_ 143 (by kernel_rfl),E_ 144 (by kernel_rfl),E_ 145 (by kernel_rfl),E_ 146 (by kernel_rfl),E_ 147 (by kernel_rfl),E_ 148 (by kernel_rfl),E_ 149 (by kernel_rfl),E_ 150 (by kernel_rfl),E_ 151 (by kernel_rfl),E_ 152 (by kernel_rfl),E_ 153 (by kernel_rfl),E_ 154 (by kernel_rfl),E_ 155 (by kernel_rfl),E_ 156 (by kernel_rfl),E_ 157 (by kernel_rfl),E_ 158 (by kernel_rfl),E_ 159 (by kernel_rfl),E_ 160 (by kernel_rfl),E_ 161 (by kernel_rfl),E_ 162 (by kernel_rfl),E_ 163 (by kernel_rfl),E_ 164 (by kernel_rfl),E_ 165 (by kernel_rfl),E_ 166 (by kernel_rfl),E_ 167 (by kernel_rfl),E_ 168 (by kernel_rfl)]
    clear E_
    clear hd hk
    go_simp
    refine hK.out _ _ ?_
    clear hK
    have HROW7:=ym hrow
    have HMAP7:=ym hmap
    have HB7:=ym (HW.out.trans (HDR.out.mono HW.out.size |>.trans hb))
    have hyl:ys.length=k+1:=by
     have h:=congrArg List.length hmap
     rw [yw,yF,oX] at h
     omega
    clear hb hrow hmap hgr
    go_wp2_with fail
    go_roundw
    case rel=>exact ⟨k+1,ys,A',c',by omega,hyl,by go_num,rfl,HMAP7,HROW7,HB7⟩
    case measure=>simp [intOf];omega
  ·have hkN:k=N:=by omega
   subst hkN
   have HL:Hid (RL (aC 2) wr wr.heap.size (rgL k) A):=ym (by
    have h:=rl_ownF (HROW.out.rl (by have:=HXK.out;omega))
    rw [HX.out,List.take_of_length_le (by rw [oX];exact yo _)] at h
    exact h)
   rw [HXK.out]
   clear HX HROW hk hlt HXK xs
   generalize wr=w4 at *
   generalize k=N at *
   have HA4:=HW
   clear HW
   obtain ⟨M,hM⟩:∃M:Nat,M=N*N:=⟨_,rfl⟩
   have hM1:1≤M:=by rw [hM];exact Nat.mul_pos hN1 hN1
   have hM49:M≤49:=by rw [hM];exact Nat.mul_le_mul hN7 hN7
   have HMI:Hid ((N:Int)*(N:Int)=(M:Int)):=ym (by rw [hM];exact (Int.natCast_mul N N).symm)
   obtain ⟨G,hG⟩:∃G:Nat,G=N+M:=⟨_,rfl⟩
   have HGI:Hid ((N:Int)+(M:Int)=(G:Int)):=ym (by omega)
   have hG1:2≤G:=by omega
   have hG56:G≤56:=by omega
   have HM:=ym hM
   have HG:=ym hG
   clear hG
   go_upto_region 9 with fail
   rw [HMI.out,HGI.out]
   clear hM
   generalize hW:World.alloc _ _=w5
   obtain ⟨hb_,hz_⟩:=al1 hW
   have HMw5:=ym (n11 hW)
   have HBw5:=ym hb_
   have HAw5:=ym (HA4.out.trans (hb_.mono HA4.out.size))
   clear hW hb_ hz_
   by_cases hc:less=true∧1<N
   ·obtain ⟨rfl,h1N⟩:=hc
    obtain ⟨R1,hR1⟩:∃R1:Nat,R1=N-1:=⟨_,rfl⟩
    obtain ⟨G1,hG1⟩:∃G1:Nat,G1=G-1:=⟨_,rfl⟩
    have hR16:R1≤6:=by omega
    have hG155:G1≤55:=by omega
    obtain ⟨⟨ka,hka⟩,kb,hkb⟩:=HS.out.less (by omega)
    rw [←HM.out,←HG.out,←hR1] at hka
    rw [←HM.out,←HG.out,←hG1] at hkb
    have HR11:=ym hka
    have HR14:=ym hkb
    have HR1I:Hid ((N:Int)-1=(R1:Int)):=ym (by omega)
    have HR1J:Hid ((R1:Int)+1=(N:Int)):=ym (by omega)
    have HG1I:Hid ((G:Int)-1=(G1:Int)):=ym (by omega)
    clear hka hkb HS hR1 hG1
    have k_m:=HMw5.out.cell
    have l_m:=HMw5.out.lt
    have f_m:=HMw5.out.free
    go_upto_region 11 with fail
    clear k_m l_m f_m
    rw [HR1I.out]
    generalize hW:World.setCell w5 ⟨w4.heap.size,1,none⟩ (.int .i64 R1)=w6
    have HMw6:Hid (Blk w6 w4.heap.size #[.int .i64 G,.int .i64 R1]):=ym (hW▸HMw5.out.set_ 1 (.int .i64 R1))
    have HBw6:Hid (Below w4.heap.size w4 w6):=ym (hW▸HBw5.out.setCell (p:=⟨w4.heap.size,1,none⟩) (yo _) (.int .i64 R1))
    have HAw6:Hid (Below w.heap.size w w6):=ym (hW▸HAw5.out.setCell (p:=⟨w4.heap.size,1,none⟩) HA4.out.size (.int .i64 R1))
    clear hW
    have HST:Hid (sX [fun v _=>v=.slice A N c,aP w6.heap.size 1,fun v _=>v=.agg #[.int .i64 G,.int .i64 R1],fun v _=>v=.tuple #[.pointer none,.int .i64 ka,.int .i64 11],fun v _=>v=.tuple #[.pointer none,.int .i64 ka,.int .i64 11],fun v _=>v=.pointer none,fun v _=>v=.int .i64 ka,fun v _=>v=.int .i64 11,fun v _=>v=.pointer none,fun v _=>v=.int .i64 ka]):=ym ⟨Stb.val _,⟨Stb.paths _ _,⟨Stb.val _,⟨Stb.val _,⟨Stb.val _,⟨Stb.val _,⟨Stb.val _,⟨Stb.val _,⟨Stb.val _,⟨Stb.val _,trivial⟩⟩⟩⟩⟩⟩⟩⟩⟩⟩
    have HH0:Hid (w6.heap.size≤w6.drew.heap.size):=ym (yo _)
    have HDR:Hid (Below w6.heap.size w6 w6.drew):=ym (yq _ _).drew
    refine bR 4 10 (je [fun v _=>v=.slice A N c,aP w6.heap.size 1,fun v _=>v=.agg #[.int .i64 G,.int .i64 R1],fun v _=>v=.tuple #[.pointer none,.int .i64 ka,.int .i64 11],fun v _=>v=.tuple #[.pointer none,.int .i64 ka,.int .i64 11],fun v _=>v=.pointer none,fun v _=>v=.int .i64 ka,fun v _=>v=.int .i64 11,fun v _=>v=.pointer none,fun v _=>v=.int .i64 ka]) [] (w6.heap.size) HH0.out (by kernel_rfl) (by kernel_rfl) (by kernel_rfl) (by kernel_rfl) (by kernel_rfl) rfl (aa (aa (aa (aa (aa (aa (aa (aa (aa (aa dp ?op0_) ?op1_) ?op2_) ?op3_) ?op4_) ?op5_) ?op6_) ?op7_) ?op8_) ?op9_) ?last_
    case op0_=>
     refine mvA fun T w' hk hb hgr hd K hK=>?_
     have h_:T[5]?.getD undef=.slice A N c:=gqd (mvK hk 5)
     clear hk hd
     go_simp
     exact hK.out _ _ (mvM HST HH0 hb) rfl
    case op1_=>
     refine mvA fun T w' hk hb hgr hd K hK=>?_
     clear hk hd
     go_simp
     refine (cA (o:=1) (by unfold U32;simp)).mono ?_
     rintro z w4 ⟨⟨v,rfl,hv⟩,hb4⟩
     exact hK.out _ _ (mvN HST HH0 hb hb4) (hv.lower hb.size)
    case op2_=>
     refine mvA fun T w' hk hb hgr hd K hK=>?_
     have h_:T[7]?.getD undef=.pointer (some ⟨w4.heap.size,0,none⟩):=gqd (mvK hk 7)
     have k_m:=(HMw6.out.later (HDR.out.trans hb)).cell
     have l_m:=(HMw6.out.later (HDR.out.trans hb)).lt
     clear hk hd
     go_simp
     exact hK.out _ _ (mvM HST HH0 hb) rfl
    case op3_=>
     refine mvA fun T w' hk hb hgr hd K hK=>?_
     have d0:T[63]?.getD undef=.slice A N c:=gqd (mvD hd 0)
     have d1:=mvD hd 1
     have d2:T[65]?.getD undef=.agg #[.int .i64 G,.int .i64 R1]:=gqd (mvD hd 2)
     obtain ⟨Ar,e1,hrl⟩:=aP.rl (show aP w6.heap.size 1 (T.getD 64 undef) w' from d1) (by unfold U32;simp)
     rw [yu] at e1
     have hcall:=ep (c:=c) (cr:=2) HR11.out hN7 HL.out (HBw6.out.trans ((HDR.out.trans hb).mono HBw6.out.size)) hrl (by simp [pwO]) (by unfold I64;omega) (by unfold I64;omega) ((HAw6.out.trans ((HDR.out.trans hb).mono HAw6.out.size)).cell (p:=⟨0,0,none⟩) hp |>.trans HC0.out) (yr hp (yn HAw6.out.size hb.size))
     clear hk hd hrl d1
     go_simp
     refine hcall.mono ?_
     intro z w5 hrun
     obtain ⟨rfl,hb4⟩:=hrun.no_
     exact hK.out _ _ (mvN HST HH0 hb hb4) rfl
    case op4_=>
     refine mvA fun T w' hk hb hgr hd K hK=>?_
     have d3:T[66]?.getD undef=.tuple #[.pointer none,.int .i64 ka,.int .i64 11]:=gqd (mvD hd 3)
     clear hk hd
     go_simp
     exact hK.out _ _ (mvM HST HH0 hb) rfl
    case op5_=>
     refine mvA fun T w' hk hb hgr hd K hK=>?_
     have d4:T[62]?.getD undef=.tuple #[.pointer none,.int .i64 ka,.int .i64 11]:=gqd (mvD hd 4)
     clear hk hd
     go_simp
     exact hK.out _ _ (mvM HST HH0 hb) rfl
    case op6_=>
     refine mvA fun T w' hk hb hgr hd K hK=>?_
     have d4:T[62]?.getD undef=.tuple #[.pointer none,.int .i64 ka,.int .i64 11]:=gqd (mvD hd 4)
     clear hk hd
     go_simp
     exact hK.out _ _ (mvM HST HH0 hb) rfl
    case op7_=>
     refine mvA fun T w' hk hb hgr hd K hK=>?_
     have d4:T[62]?.getD undef=.tuple #[.pointer none,.int .i64 ka,.int .i64 11]:=gqd (mvD hd 4)
     clear hk hd
     go_simp
     exact hK.out _ _ (mvM HST HH0 hb) rfl
    case op8_=>
     refine mvA fun T w' hk hb hgr hd K hK=>?_
     have d5:T[67]?.getD undef=.pointer none:=gqd (mvD hd 5)
     clear hk hd
     go_simp
     exact hK.out _ _ (mvM HST HH0 hb) rfl
    case op9_=>
     refine mvA fun T w' hk hb hgr hd K hK=>?_
     have d6:T[68]?.getD undef=.int .i64 ka:=gqd (mvD hd 6)
     clear hk hd
     go_simp
     exact hK.out _ _ (mvM HST HH0 hb) rfl
    case last_=>
     refine mvL fun T w' hk hb hgr hd K hK=>?_
     have d7:=mvD hd 7
     replace d7:T.getD 69 undef=.int .i64 11:=d7
     have o0:T.getD 0 undef=.int .i64 N:=hk.2 0 (by kernel_rfl)
     have o5:T.getD 5 undef=.slice A N c:=hk.2 5 (by kernel_rfl)
     have o7:T.getD 7 undef=.pointer (some ⟨w4.heap.size,0,none⟩):=hk.2 7 (by kernel_rfl)
     have hT:=eq hk.1
     obtain ⟨f_,hf_⟩:∃f_:Nat→Value,(fun t=>T.getD t undef)=f_:=⟨_,rfl⟩
     rw [hf_] at hT
     replace o0:f_ 0=_:=(congrFun hf_ 0).symm.trans o0
     replace o5:f_ 5=_:=(congrFun hf_ 5).symm.trans o5
     replace o7:f_ 7=_:=(congrFun hf_ 7).symm.trans o7
     replace d7:f_ 69=_:=(congrFun hf_ 69).symm.trans d7
     replace hT:T=#[f_ 0,f_ 1,f_ 2,f_ 3,f_ 4,f_ 5,f_ 6,f_ 7,f_ 8,f_ 9,f_ 10,f_ 11,f_ 12,f_ 13,f_ 14,f_ 15,f_ 16,f_ 17,f_ 18,f_ 19,f_ 20,f_ 21,f_ 22,f_ 23,f_ 24,f_ 25,f_ 26,f_ 27,f_ 28,f_ 29,f_ 30,f_ 31,f_ 32,f_ 33,f_ 34,f_ 35,f_ 36,f_ 37,f_ 38,f_ 39,f_ 40,f_ 41,f_ 42,f_ 43,f_ 44,f_ 45,f_ 46,f_ 47,f_ 48,f_ 49,f_ 50,f_ 51,f_ 52,f_ 53,f_ 54,f_ 55,f_ 56,f_ 57,f_ 58,f_ 59,f_ 60,f_ 61,f_ 62,f_ 63,f_ 64,f_ 65,f_ 66,f_ 67,f_ 68,f_ 69,f_ 70,f_ 71,f_ 72,f_ 73,f_ 74,f_ 75,f_ 76,f_ 77,f_ 78,f_ 79,f_ 80,f_ 81,f_ 82,f_ 83,f_ 84,f_ 85,f_ 86,f_ 87,f_ 88,f_ 89,f_ 90,f_ 91,f_ 92,f_ 93,f_ 94,f_ 95,f_ 96,f_ 97,f_ 98,f_ 99,f_ 100,f_ 101,f_ 102,f_ 103,f_ 104,f_ 105,f_ 106,f_ 107,f_ 108,f_ 109,f_ 110,f_ 111,f_ 112,f_ 113,f_ 114,f_ 115,f_ 116,f_ 117,f_ 118,f_ 119,f_ 120,f_ 121,f_ 122,f_ 123,f_ 124,f_ 125,f_ 126,f_ 127,f_ 128,f_ 129,f_ 130,f_ 131,f_ 132,f_ 133,f_ 134,f_ 135,f_ 136,f_ 137,f_ 138,f_ 139,f_ 140,f_ 141,f_ 142,f_ 143,f_ 144,f_ 145,f_ 146,f_ 147,f_ 148,f_ 149,f_ 150,f_ 151,f_ 152,f_ 153,f_ 154,f_ 155,f_ 156,f_ 157,f_ 158,f_ 159,f_ 160,f_ 161,f_ 162,f_ 163,f_ 164,f_ 165,f_ 166,f_ 167,f_ 168]:=hT
     clear hf_
     subst hT
     rw [o0,o5,o7,d7]
     clear hd hk
     go_simp
     refine hK.out _ _ ?_
     clear hK
     have HDw6:=ym (HDR.out.trans hb)
     clear hb hgr HST HH0 HDR
     generalize w'=w7 at *
     have HBw7:=ym (HBw6.out.trans (HDw6.out.mono HBw6.out.size))
     have HAw7:=ym (HAw6.out.trans (HDw6.out.mono HAw6.out.size))
     have HMw7:=ym (HMw6.out.later HDw6.out)
     clear HDw6
     have k_m:=HMw7.out.cell
     have l_m:=HMw7.out.lt
     have f_m:=HMw7.out.free
     go_upto_region 14 with fail
     clear k_m l_m f_m
     rw [HR1J.out,HG1I.out]
     generalize hW:World.setCell w7 ⟨w4.heap.size,1,none⟩ (.int .i64 N)=w8
     have HMw8:Hid (Blk w8 w4.heap.size #[.int .i64 G,.int .i64 N]):=ym (hW▸HMw7.out.set_ 1 (.int .i64 N))
     have HBw8:Hid (Below w4.heap.size w4 w8):=ym (hW▸HBw7.out.setCell (p:=⟨w4.heap.size,1,none⟩) (yo _) (.int .i64 N))
     have HAw8:Hid (Below w.heap.size w w8):=ym (hW▸HAw7.out.setCell (p:=⟨w4.heap.size,1,none⟩) HA4.out.size (.int .i64 N))
     clear hW
     generalize hW:World.setCell w8 ⟨w4.heap.size,0,none⟩ (.int .i64 G1)=w9
     have HMw9:Hid (Blk w9 w4.heap.size #[.int .i64 G1,.int .i64 N]):=ym (hW▸HMw8.out.set_ 0 (.int .i64 G1))
     have HBw9:Hid (Below w4.heap.size w4 w9):=ym (hW▸HBw8.out.setCell (p:=⟨w4.heap.size,0,none⟩) (yo _) (.int .i64 G1))
     have HAw9:Hid (Below w.heap.size w w9):=ym (hW▸HAw8.out.setCell (p:=⟨w4.heap.size,0,none⟩) HA4.out.size (.int .i64 G1))
     clear hW
     have HST:Hid (sX [fun v _=>v=.slice A N c,aP w9.heap.size 1,fun v _=>v=.agg #[.int .i64 G1,.int .i64 N],fun v _=>v=.tuple #[.pointer none,.int .i64 kb,.int .i64 10],fun v _=>v=.tuple #[.pointer none,.int .i64 kb,.int .i64 10],fun v _=>v=.pointer none,fun v _=>v=.int .i64 kb,fun v _=>v=.int .i64 10,fun v _=>v=.pointer none,fun v _=>v=.int .i64 kb]):=ym ⟨Stb.val _,⟨Stb.paths _ _,⟨Stb.val _,⟨Stb.val _,⟨Stb.val _,⟨Stb.val _,⟨Stb.val _,⟨Stb.val _,⟨Stb.val _,⟨Stb.val _,trivial⟩⟩⟩⟩⟩⟩⟩⟩⟩⟩
     have HH0:Hid (w9.heap.size≤w9.drew.heap.size):=ym (yo _)
     have HDR:Hid (Below w9.heap.size w9 w9.drew):=ym (yq _ _).drew
     refine bR 4 10 (je [fun v _=>v=.slice A N c,aP w9.heap.size 1,fun v _=>v=.agg #[.int .i64 G1,.int .i64 N],fun v _=>v=.tuple #[.pointer none,.int .i64 kb,.int .i64 10],fun v _=>v=.tuple #[.pointer none,.int .i64 kb,.int .i64 10],fun v _=>v=.pointer none,fun v _=>v=.int .i64 kb,fun v _=>v=.int .i64 10,fun v _=>v=.pointer none,fun v _=>v=.int .i64 kb]) [] (w9.heap.size) HH0.out (by kernel_rfl) (by kernel_rfl) (by kernel_rfl) (by kernel_rfl) (by kernel_rfl) rfl (aa (aa (aa (aa (aa (aa (aa (aa (aa (aa dp ?op0_) ?op1_) ?op2_) ?op3_) ?op4_) ?op5_) ?op6_) ?op7_) ?op8_) ?op9_) ?last_
     case op0_=>
      refine mvA fun T w' hk hb hgr hd K hK=>?_
      have h_:T[5]?.getD undef=.slice A N c:=gqd (mvK hk 5)
      clear hk hd
      go_simp
      exact hK.out _ _ (mvM HST HH0 hb) rfl
     case op1_=>
      refine mvA fun T w' hk hb hgr hd K hK=>?_
      clear hk hd
      go_simp
      refine (cA (o:=1) (by unfold U32;simp)).mono ?_
      rintro z w4 ⟨⟨v,rfl,hv⟩,hb4⟩
      exact hK.out _ _ (mvN HST HH0 hb hb4) (hv.lower hb.size)
     case op2_=>
      refine mvA fun T w' hk hb hgr hd K hK=>?_
      have h_:T[7]?.getD undef=.pointer (some ⟨w4.heap.size,0,none⟩):=gqd (mvK hk 7)
      have k_m:=(HMw9.out.later (HDR.out.trans hb)).cell
      have l_m:=(HMw9.out.later (HDR.out.trans hb)).lt
      clear hk hd
      go_simp
      exact hK.out _ _ (mvM HST HH0 hb) rfl
     case op3_=>
      refine mvA fun T w' hk hb hgr hd K hK=>?_
      have d0:T[79]?.getD undef=.slice A N c:=gqd (mvD hd 0)
      have d1:=mvD hd 1
      have d2:T[81]?.getD undef=.agg #[.int .i64 G1,.int .i64 N]:=gqd (mvD hd 2)
      obtain ⟨Ar,e1,hrl⟩:=aP.rl (show aP w9.heap.size 1 (T.getD 80 undef) w' from d1) (by unfold U32;simp)
      rw [yu] at e1
      have hcall:=ep (c:=c) (cr:=2) HR14.out hN7 HL.out (HBw9.out.trans ((HDR.out.trans hb).mono HBw9.out.size)) hrl (by simp [pwO]) (by unfold I64;omega) (by unfold I64;omega) ((HAw9.out.trans ((HDR.out.trans hb).mono HAw9.out.size)).cell (p:=⟨0,0,none⟩) hp |>.trans HC0.out) (yr hp (yn HAw9.out.size hb.size))
      clear hk hd hrl d1
      go_simp
      refine hcall.mono ?_
      intro z w5 hrun
      obtain ⟨rfl,hb4⟩:=hrun.no_
      exact hK.out _ _ (mvN HST HH0 hb hb4) rfl
     case op4_=>
      refine mvA fun T w' hk hb hgr hd K hK=>?_
      have d3:T[82]?.getD undef=.tuple #[.pointer none,.int .i64 kb,.int .i64 10]:=gqd (mvD hd 3)
      clear hk hd
      go_simp
      exact hK.out _ _ (mvM HST HH0 hb) rfl
     case op5_=>
      refine mvA fun T w' hk hb hgr hd K hK=>?_
      have d4:T[78]?.getD undef=.tuple #[.pointer none,.int .i64 kb,.int .i64 10]:=gqd (mvD hd 4)
      clear hk hd
      go_simp
      exact hK.out _ _ (mvM HST HH0 hb) rfl
     case op6_=>
      refine mvA fun T w' hk hb hgr hd K hK=>?_
      have d4:T[78]?.getD undef=.tuple #[.pointer none,.int .i64 kb,.int .i64 10]:=gqd (mvD hd 4)
      clear hk hd
      go_simp
      exact hK.out _ _ (mvM HST HH0 hb) rfl
     case op7_=>
      refine mvA fun T w' hk hb hgr hd K hK=>?_
      have d4:T[78]?.getD undef=.tuple #[.pointer none,.int .i64 kb,.int .i64 10]:=gqd (mvD hd 4)
      clear hk hd
      go_simp
      exact hK.out _ _ (mvM HST HH0 hb) rfl
     case op8_=>
      refine mvA fun T w' hk hb hgr hd K hK=>?_
      have d5:T[83]?.getD undef=.pointer none:=gqd (mvD hd 5)
      clear hk hd
      go_simp
      exact hK.out _ _ (mvM HST HH0 hb) rfl
     case op9_=>
      refine mvA fun T w' hk hb hgr hd K hK=>?_
      have d6:T[84]?.getD undef=.int .i64 kb:=gqd (mvD hd 6)
      clear hk hd
      go_simp
      exact hK.out _ _ (mvM HST HH0 hb) rfl
     case last_=>
      refine mvL fun T w' hk hb hgr hd K hK=>?_
      have d7:=mvD hd 7
      replace d7:T.getD 85 undef=.int .i64 10:=d7
      have o10:T.getD 10 undef=.int .i64 11:=hk.2 10 (by kernel_rfl)
      have hT:=eq hk.1
      obtain ⟨f_,hf_⟩:∃f_:Nat→Value,(fun t=>T.getD t undef)=f_:=⟨_,rfl⟩
      rw [hf_] at hT
      replace o10:f_ 10=_:=(congrFun hf_ 10).symm.trans o10
      replace d7:f_ 85=_:=(congrFun hf_ 85).symm.trans d7
      replace hT:T=#[f_ 0,f_ 1,f_ 2,f_ 3,f_ 4,f_ 5,f_ 6,f_ 7,f_ 8,f_ 9,f_ 10,f_ 11,f_ 12,f_ 13,f_ 14,f_ 15,f_ 16,f_ 17,f_ 18,f_ 19,f_ 20,f_ 21,f_ 22,f_ 23,f_ 24,f_ 25,f_ 26,f_ 27,f_ 28,f_ 29,f_ 30,f_ 31,f_ 32,f_ 33,f_ 34,f_ 35,f_ 36,f_ 37,f_ 38,f_ 39,f_ 40,f_ 41,f_ 42,f_ 43,f_ 44,f_ 45,f_ 46,f_ 47,f_ 48,f_ 49,f_ 50,f_ 51,f_ 52,f_ 53,f_ 54,f_ 55,f_ 56,f_ 57,f_ 58,f_ 59,f_ 60,f_ 61,f_ 62,f_ 63,f_ 64,f_ 65,f_ 66,f_ 67,f_ 68,f_ 69,f_ 70,f_ 71,f_ 72,f_ 73,f_ 74,f_ 75,f_ 76,f_ 77,f_ 78,f_ 79,f_ 80,f_ 81,f_ 82,f_ 83,f_ 84,f_ 85,f_ 86,f_ 87,f_ 88,f_ 89,f_ 90,f_ 91,f_ 92,f_ 93,f_ 94,f_ 95,f_ 96,f_ 97,f_ 98,f_ 99,f_ 100,f_ 101,f_ 102,f_ 103,f_ 104,f_ 105,f_ 106,f_ 107,f_ 108,f_ 109,f_ 110,f_ 111,f_ 112,f_ 113,f_ 114,f_ 115,f_ 116,f_ 117,f_ 118,f_ 119,f_ 120,f_ 121,f_ 122,f_ 123,f_ 124,f_ 125,f_ 126,f_ 127,f_ 128,f_ 129,f_ 130,f_ 131,f_ 132,f_ 133,f_ 134,f_ 135,f_ 136,f_ 137,f_ 138,f_ 139,f_ 140,f_ 141,f_ 142,f_ 143,f_ 144,f_ 145,f_ 146,f_ 147,f_ 148,f_ 149,f_ 150,f_ 151,f_ 152,f_ 153,f_ 154,f_ 155,f_ 156,f_ 157,f_ 158,f_ 159,f_ 160,f_ 161,f_ 162,f_ 163,f_ 164,f_ 165,f_ 166,f_ 167,f_ 168]:=hT
      clear hf_
      subst hT
      rw [o10,d7]
      clear hd hk
      go_simp
      refine hK.out _ _ ?_
      clear hK
      have HDw9:=ym (HDR.out.trans hb)
      clear hb hgr HST HH0 HDR
      generalize w'=w10 at *
      have HBw10:=ym (HBw9.out.trans (HDw9.out.mono HBw9.out.size))
      have HAw10:=ym (HAw9.out.trans (HDw9.out.mono HAw9.out.size))
      have HMw10:=ym (HMw9.out.later HDw9.out)
      clear HDw9
      go_wp2_with fail
      refine (HAWH.out _ HAw10.out).mono ?_
      rintro z w_9 ⟨rfl,hb9⟩
      go_wp2_with fail
      go_ret
      exact ⟨rfl,ac HAw10.out hb9⟩
   ·have hB:less=false∨(less=true∧N≤1):=by
     cases less
     ·exact .inl rfl
     ·exact .inr ⟨rfl,Nat.le_of_not_lt fun h=>hc ⟨rfl,h⟩⟩
    obtain ⟨S,hS1,hS2,hS3⟩:=HS.out.one
    obtain ⟨S2,k2,hS4⟩:=HS.out.two
    obtain ⟨S3,hS5,hS6⟩:=HS.out.nil
    rw [←HM.out,←HG.out] at hS1 hS4 hS5
    rw [←HM.out] at hS2 hS3
    have HR16:=ym hS1
    have HR19:=ym hS4
    have HR20:=ym hS5
    clear hS1 hS4 hS5 HS hc
    have k_m:=HMw5.out.cell
    have l_m:=HMw5.out.lt
    rcases hB with rfl | ⟨rfl,hle⟩
    ·
     go_upto_region 16 with fail
     have HST:Hid (sX [fun v _=>v=.slice A N c,aP w5.heap.size 1,fun v _=>v=.agg #[.int .i64 G,.int .i64 N],vH S N 0,vH S N 0,vD S,fun v _=>v=.int .i64 N,fun v _=>v=.int .i64 0,vD S,fun v _=>v=.int .i64 N]):=ym ⟨Stb.val _,⟨Stb.paths _ _,⟨Stb.val _,⟨Stb.runV _ _ _,⟨Stb.runV _ _ _,⟨Stb.ptrS _,⟨Stb.val _,⟨Stb.val _,⟨Stb.ptrS _,⟨Stb.val _,trivial⟩⟩⟩⟩⟩⟩⟩⟩⟩⟩
     have HH0:Hid (w5.heap.size≤w5.drew.heap.size):=ym (yo _)
     have HDR:Hid (Below w5.heap.size w5 w5.drew):=ym (yq _ _).drew
     refine bR 4 10 (je [fun v _=>v=.slice A N c,aP w5.heap.size 1,fun v _=>v=.agg #[.int .i64 G,.int .i64 N],vH S N 0,vH S N 0,vD S,fun v _=>v=.int .i64 N,fun v _=>v=.int .i64 0,vD S,fun v _=>v=.int .i64 N]) [] (w5.heap.size) HH0.out (by kernel_rfl) (by kernel_rfl) (by kernel_rfl) (by kernel_rfl) (by kernel_rfl) rfl (aa (aa (aa (aa (aa (aa (aa (aa (aa (aa dp ?op0_) ?op1_) ?op2_) ?op3_) ?op4_) ?op5_) ?op6_) ?op7_) ?op8_) ?op9_) ?last_
     case op0_=>
      refine mvA fun T w' hk hb hgr hd K hK=>?_
      have h_:T[5]?.getD undef=.slice A N c:=gqd (mvK hk 5)
      clear hk hd
      go_simp
      exact hK.out _ _ (mvM HST HH0 hb) rfl
     case op1_=>
      refine mvA fun T w' hk hb hgr hd K hK=>?_
      clear hk hd
      go_simp
      refine (cA (o:=1) (by unfold U32;simp)).mono ?_
      rintro z w4 ⟨⟨v,rfl,hv⟩,hb4⟩
      exact hK.out _ _ (mvN HST HH0 hb hb4) (hv.lower hb.size)
     case op2_=>
      refine mvA fun T w' hk hb hgr hd K hK=>?_
      have h_:T[7]?.getD undef=.pointer (some ⟨w4.heap.size,0,none⟩):=gqd (mvK hk 7)
      have k_m:=(HMw5.out.later (HDR.out.trans hb)).cell
      have l_m:=(HMw5.out.later (HDR.out.trans hb)).lt
      clear hk hd
      go_simp
      exact hK.out _ _ (mvM HST HH0 hb) rfl
     case op3_=>
      refine mvA fun T w' hk hb hgr hd K hK=>?_
      have d0:T[96]?.getD undef=.slice A N c:=gqd (mvD hd 0)
      have d1:=mvD hd 1
      have d2:T[98]?.getD undef=.agg #[.int .i64 G,.int .i64 N]:=gqd (mvD hd 2)
      obtain ⟨Ar,e1,hrl⟩:=aP.rl (show aP w5.heap.size 1 (T.getD 97 undef) w' from d1) (by unfold U32;simp)
      rw [yu] at e1
      have hcall:=ep (c:=c) (cr:=2) HR16.out hN7 HL.out (HBw5.out.trans ((HDR.out.trans hb).mono HBw5.out.size)) hrl (by simp [pwO]) (by unfold I64;omega) (by unfold I64;omega) ((HAw5.out.trans ((HDR.out.trans hb).mono HAw5.out.size)).cell (p:=⟨0,0,none⟩) hp |>.trans HC0.out) (yr hp (yn HAw5.out.size hb.size))
      clear hk hd hrl d1
      go_simp
      refine hcall.mono ?_
      intro z w5 hrun
      obtain ⟨⟨q_,base,xs,As,cs,rfl,hst,hx⟩,hb4⟩:=hrun.yes
      exact hK.out _ _ (mvN HST HH0 hb hb4) ⟨_,rfl,q_,base,xs,As,cs,rfl,hst,hx⟩
     case op4_=>
      refine mvA fun T w' hk hb hgr hd K hK=>?_
      have d3:=mvD hd 3
      obtain ⟨p_,e3,s_⟩:=d3
      replace e3:T.getD 99 undef=.tuple #[p_,.int .i64 N,.int .i64 0]:=e3
      rw [yu] at e3
      clear hk hd
      go_simp
      exact hK.out _ _ (mvM HST HH0 hb) ⟨p_,rfl,s_⟩
     case op5_=>
      refine mvA fun T w' hk hb hgr hd K hK=>?_
      have d4:=mvD hd 4
      obtain ⟨p_,e4,s_⟩:=d4
      replace e4:T.getD 95 undef=.tuple #[p_,.int .i64 N,.int .i64 0]:=e4
      rw [yu] at e4
      clear hk hd
      go_simp
      exact hK.out _ _ (mvM HST HH0 hb) s_
     case op6_=>
      refine mvA fun T w' hk hb hgr hd K hK=>?_
      have d4:=mvD hd 4
      obtain ⟨p_,e4,s_⟩:=d4
      replace e4:T.getD 95 undef=.tuple #[p_,.int .i64 N,.int .i64 0]:=e4
      rw [yu] at e4
      clear hk hd
      go_simp
      exact hK.out _ _ (mvM HST HH0 hb) rfl
     case op7_=>
      refine mvA fun T w' hk hb hgr hd K hK=>?_
      have d4:=mvD hd 4
      obtain ⟨p_,e4,s_⟩:=d4
      replace e4:T.getD 95 undef=.tuple #[p_,.int .i64 N,.int .i64 0]:=e4
      rw [yu] at e4
      clear hk hd
      go_simp
      exact hK.out _ _ (mvM HST HH0 hb) rfl
     case op8_=>
      refine mvA fun T w' hk hb hgr hd K hK=>?_
      have d5:=mvD hd 5
      obtain ⟨q_,base,xs,As,cs,e5,hst,hx⟩:=d5
      replace e5:T.getD 100 undef=.pointer (some ⟨q_,0,none⟩):=e5
      rw [yu] at e5
      clear hk hd
      go_simp
      exact hK.out _ _ (mvM HST HH0 hb) ⟨q_,base,xs,As,cs,rfl,hst,hx⟩
     case op9_=>
      refine mvA fun T w' hk hb hgr hd K hK=>?_
      have d6:T[101]?.getD undef=.int .i64 N:=gqd (mvD hd 6)
      clear hk hd
      go_simp
      exact hK.out _ _ (mvM HST HH0 hb) rfl
     case last_=>
      refine mvL fun T w' hk hb hgr hd K hK=>?_
      have d7:=mvD hd 7
      replace d7:T.getD 102 undef=.int .i64 0:=d7
      have d8:=mvD hd 8
      obtain ⟨q_,base,xs,As,cs,e8,hst,hx⟩:=d8
      replace e8:T.getD 14 undef=.pointer (some ⟨q_,0,none⟩):=e8
      have d9:=mvD hd 9
      replace d9:T.getD 15 undef=.int .i64 N:=d9
      have o0:T.getD 0 undef=.int .i64 N:=hk.2 0 (by kernel_rfl)
      have o5:T.getD 5 undef=.slice A N c:=hk.2 5 (by kernel_rfl)
      have o7:T.getD 7 undef=.pointer (some ⟨w4.heap.size,0,none⟩):=hk.2 7 (by kernel_rfl)
      have hT:=eq hk.1
      obtain ⟨f_,hf_⟩:∃f_:Nat→Value,(fun t=>T.getD t undef)=f_:=⟨_,rfl⟩
      rw [hf_] at hT
      replace o0:f_ 0=_:=(congrFun hf_ 0).symm.trans o0
      replace o5:f_ 5=_:=(congrFun hf_ 5).symm.trans o5
      replace o7:f_ 7=_:=(congrFun hf_ 7).symm.trans o7
      replace d7:f_ 102=_:=(congrFun hf_ 102).symm.trans d7
      replace e8:f_ 14=_:=(congrFun hf_ 14).symm.trans e8
      replace d9:f_ 15=_:=(congrFun hf_ 15).symm.trans d9
      replace hT:T=#[f_ 0,f_ 1,f_ 2,f_ 3,f_ 4,f_ 5,f_ 6,f_ 7,f_ 8,f_ 9,f_ 10,f_ 11,f_ 12,f_ 13,f_ 14,f_ 15,f_ 16,f_ 17,f_ 18,f_ 19,f_ 20,f_ 21,f_ 22,f_ 23,f_ 24,f_ 25,f_ 26,f_ 27,f_ 28,f_ 29,f_ 30,f_ 31,f_ 32,f_ 33,f_ 34,f_ 35,f_ 36,f_ 37,f_ 38,f_ 39,f_ 40,f_ 41,f_ 42,f_ 43,f_ 44,f_ 45,f_ 46,f_ 47,f_ 48,f_ 49,f_ 50,f_ 51,f_ 52,f_ 53,f_ 54,f_ 55,f_ 56,f_ 57,f_ 58,f_ 59,f_ 60,f_ 61,f_ 62,f_ 63,f_ 64,f_ 65,f_ 66,f_ 67,f_ 68,f_ 69,f_ 70,f_ 71,f_ 72,f_ 73,f_ 74,f_ 75,f_ 76,f_ 77,f_ 78,f_ 79,f_ 80,f_ 81,f_ 82,f_ 83,f_ 84,f_ 85,f_ 86,f_ 87,f_ 88,f_ 89,f_ 90,f_ 91,f_ 92,f_ 93,f_ 94,f_ 95,f_ 96,f_ 97,f_ 98,f_ 99,f_ 100,f_ 101,f_ 102,f_ 103,f_ 104,f_ 105,f_ 106,f_ 107,f_ 108,f_ 109,f_ 110,f_ 111,f_ 112,f_ 113,f_ 114,f_ 115,f_ 116,f_ 117,f_ 118,f_ 119,f_ 120,f_ 121,f_ 122,f_ 123,f_ 124,f_ 125,f_ 126,f_ 127,f_ 128,f_ 129,f_ 130,f_ 131,f_ 132,f_ 133,f_ 134,f_ 135,f_ 136,f_ 137,f_ 138,f_ 139,f_ 140,f_ 141,f_ 142,f_ 143,f_ 144,f_ 145,f_ 146,f_ 147,f_ 148,f_ 149,f_ 150,f_ 151,f_ 152,f_ 153,f_ 154,f_ 155,f_ 156,f_ 157,f_ 158,f_ 159,f_ 160,f_ 161,f_ 162,f_ 163,f_ 164,f_ 165,f_ 166,f_ 167,f_ 168]:=hT
      clear hf_
      subst hT
      rw [o0,o5,o7,d7,e8,d9]
      clear hd hk
      go_simp
      refine hK.out _ _ ?_
      clear hK
      have HDw5:=ym (HDR.out.trans hb)
      have HST0:=ym hst
      have HX0:=ym hx
      clear hst hx
      clear hb hgr HST HH0 HDR
      generalize w'=w6 at *
      have HBw6:=ym (HBw5.out.trans (HDw5.out.mono HBw5.out.size))
      have HAw6:=ym (HAw5.out.trans (HDw5.out.mono HAw5.out.size))
      have HMw6:=ym (HMw5.out.later HDw5.out)
      clear HDw5
      have hM:=HM.out
      have hxl:((xs.length:Nat):Int)=(N:Int)+(N:Int)*(N:Int):=by
       have h:=congrArg List.length HX0.out
       rw [yw] at h
       rw [HMI.out]
       omega
      have hxf:xs.length≤100000:=by omega
      go_wp2_with fail
      refine (dW HST0.out).mono ?_
      rintro z w_ ⟨rfl,rfl⟩
      rw [hxl]
      go_wp2_with fail
      refine (cA (o:=2) (by unfold U32;simp)).mono ?_
      rintro z w7 ⟨⟨v,rfl,hv⟩,hb_⟩
      obtain ⟨Ar,rfl,hrl⟩:=hv.rl (by unfold U32;simp)
      have HRL:=ym hrl
      have HST7:=ym (HST0.out.later hb_)
      have HBw7:=ym (HBw6.out.trans (hb_.mono HBw6.out.size))
      have HAw7:=ym (HAw6.out.trans (hb_.mono HAw6.out.size))
      have HMw7:=ym (HMw6.out.later hb_)
      clear hb_ hv hrl
      go_wp2_with fail
      rw [HMI.out,HGI.out]
      refine (ep (c:=c) (cr:=2) HR19.out hN7 HL.out HBw7.out HRL.out (by simp [pwO]) (by unfold I64;omega) (by unfold I64;omega) ((HAw7.out.cell (p:=⟨0,0,none⟩) hp).trans HC0.out) (yr hp HAw7.out.size)).mono ?_
      intro z w8 hrun
      obtain ⟨⟨q2,base2,xs2,As2,cs2,rfl,_,_⟩,hb_⟩:=hrun.yes
      have HST8:=ym (HST7.out.later hb_)
      have HBw8:=ym (HBw7.out.trans (hb_.mono HBw7.out.size))
      have HAw8:=ym (HAw7.out.trans (hb_.mono HAw7.out.size))
      have HMw8:=ym (HMw7.out.later hb_)
      clear hb_ hrun
      have k_m:=HMw8.out.cell
      have l_m:=HMw8.out.lt
      go_wp2_with fail
      refine (ep (c:=c) (cr:=0) HR20.out hN7 HL.out HBw8.out xR (by simp) (by unfold I64;omega) (by unfold I64;omega) ((HAw8.out.cell (p:=⟨0,0,none⟩) hp).trans HC0.out) (yr hp HAw8.out.size)).mono ?_
      intro z w9 hrun
      obtain ⟨⟨q3,base3,xs3,As3,cs3,rfl,hst3,hx3⟩,hb_⟩:=hrun.yes
      have HST9:=ym (HST8.out.later hb_)
      have HSN9:=ym hst3
      have hxl3:((xs3.length:Nat):Int)=(N:Int):=by
       have h:=congrArg List.length hx3
       rw [yw] at h
       omega
      have HBw9:=ym (HBw8.out.trans (hb_.mono HBw8.out.size))
      have HAw9:=ym (HAw8.out.trans (hb_.mono HAw8.out.size))
      have HMw9:=ym (HMw8.out.later hb_)
      clear hb_ hrun hst3 hx3 k_m l_m
      go_wp2_with fail
      refine (dW HSN9.out).mono ?_
      rintro z w_ ⟨rfl,rfl⟩
      rw [hxl3]
      go_wp2_with fail
      refine (hU (d:=1) (name:=pwP) (n:=2) HST9.out hxf).mono ?_
      rintro z w10 ⟨⟨ys,A',c',hy,rfl,_⟩,hb_⟩
      have hyl:ys.length=N*N:=by
       rw [←HX0.out,mz] at hy
       have h:=congrArg List.length hy
       rw [yw] at h
       omega
      have HBw10:=ym (HBw9.out.trans (hb_.mono HBw9.out.size))
      have HAw10:=ym (HAw9.out.trans (hb_.mono HAw9.out.size))
      have HMw10:=ym (HMw9.out.later hb_)
      rw [hyl]
      clear hb_ hy hyl
      go_wp2_with fail
      refine (HAWH.out _ HAw10.out).mono ?_
      rintro z w_9 ⟨rfl,hb9⟩
      go_wp2_with fail
      go_ret
      exact ⟨rfl,ac HAw10.out hb9⟩
    ·
     go_upto_region 16 with fail
     have HST:Hid (sX [fun v _=>v=.slice A N c,aP w5.heap.size 1,fun v _=>v=.agg #[.int .i64 G,.int .i64 N],vH S N 0,vH S N 0,vD S,fun v _=>v=.int .i64 N,fun v _=>v=.int .i64 0,vD S,fun v _=>v=.int .i64 N]):=ym ⟨Stb.val _,⟨Stb.paths _ _,⟨Stb.val _,⟨Stb.runV _ _ _,⟨Stb.runV _ _ _,⟨Stb.ptrS _,⟨Stb.val _,⟨Stb.val _,⟨Stb.ptrS _,⟨Stb.val _,trivial⟩⟩⟩⟩⟩⟩⟩⟩⟩⟩
     have HH0:Hid (w5.heap.size≤w5.drew.heap.size):=ym (yo _)
     have HDR:Hid (Below w5.heap.size w5 w5.drew):=ym (yq _ _).drew
     refine bR 4 10 (je [fun v _=>v=.slice A N c,aP w5.heap.size 1,fun v _=>v=.agg #[.int .i64 G,.int .i64 N],vH S N 0,vH S N 0,vD S,fun v _=>v=.int .i64 N,fun v _=>v=.int .i64 0,vD S,fun v _=>v=.int .i64 N]) [] (w5.heap.size) HH0.out (by kernel_rfl) (by kernel_rfl) (by kernel_rfl) (by kernel_rfl) (by kernel_rfl) rfl (aa (aa (aa (aa (aa (aa (aa (aa (aa (aa dp ?op0_) ?op1_) ?op2_) ?op3_) ?op4_) ?op5_) ?op6_) ?op7_) ?op8_) ?op9_) ?last_
     case op0_=>
      refine mvA fun T w' hk hb hgr hd K hK=>?_
      have h_:T[5]?.getD undef=.slice A N c:=gqd (mvK hk 5)
      clear hk hd
      go_simp
      exact hK.out _ _ (mvM HST HH0 hb) rfl
     case op1_=>
      refine mvA fun T w' hk hb hgr hd K hK=>?_
      clear hk hd
      go_simp
      refine (cA (o:=1) (by unfold U32;simp)).mono ?_
      rintro z w4 ⟨⟨v,rfl,hv⟩,hb4⟩
      exact hK.out _ _ (mvN HST HH0 hb hb4) (hv.lower hb.size)
     case op2_=>
      refine mvA fun T w' hk hb hgr hd K hK=>?_
      have h_:T[7]?.getD undef=.pointer (some ⟨w4.heap.size,0,none⟩):=gqd (mvK hk 7)
      have k_m:=(HMw5.out.later (HDR.out.trans hb)).cell
      have l_m:=(HMw5.out.later (HDR.out.trans hb)).lt
      clear hk hd
      go_simp
      exact hK.out _ _ (mvM HST HH0 hb) rfl
     case op3_=>
      refine mvA fun T w' hk hb hgr hd K hK=>?_
      have d0:T[96]?.getD undef=.slice A N c:=gqd (mvD hd 0)
      have d1:=mvD hd 1
      have d2:T[98]?.getD undef=.agg #[.int .i64 G,.int .i64 N]:=gqd (mvD hd 2)
      obtain ⟨Ar,e1,hrl⟩:=aP.rl (show aP w5.heap.size 1 (T.getD 97 undef) w' from d1) (by unfold U32;simp)
      rw [yu] at e1
      have hcall:=ep (c:=c) (cr:=2) HR16.out hN7 HL.out (HBw5.out.trans ((HDR.out.trans hb).mono HBw5.out.size)) hrl (by simp [pwO]) (by unfold I64;omega) (by unfold I64;omega) ((HAw5.out.trans ((HDR.out.trans hb).mono HAw5.out.size)).cell (p:=⟨0,0,none⟩) hp |>.trans HC0.out) (yr hp (yn HAw5.out.size hb.size))
      clear hk hd hrl d1
      go_simp
      refine hcall.mono ?_
      intro z w5 hrun
      obtain ⟨⟨q_,base,xs,As,cs,rfl,hst,hx⟩,hb4⟩:=hrun.yes
      exact hK.out _ _ (mvN HST HH0 hb hb4) ⟨_,rfl,q_,base,xs,As,cs,rfl,hst,hx⟩
     case op4_=>
      refine mvA fun T w' hk hb hgr hd K hK=>?_
      have d3:=mvD hd 3
      obtain ⟨p_,e3,s_⟩:=d3
      replace e3:T.getD 99 undef=.tuple #[p_,.int .i64 N,.int .i64 0]:=e3
      rw [yu] at e3
      clear hk hd
      go_simp
      exact hK.out _ _ (mvM HST HH0 hb) ⟨p_,rfl,s_⟩
     case op5_=>
      refine mvA fun T w' hk hb hgr hd K hK=>?_
      have d4:=mvD hd 4
      obtain ⟨p_,e4,s_⟩:=d4
      replace e4:T.getD 95 undef=.tuple #[p_,.int .i64 N,.int .i64 0]:=e4
      rw [yu] at e4
      clear hk hd
      go_simp
      exact hK.out _ _ (mvM HST HH0 hb) s_
     case op6_=>
      refine mvA fun T w' hk hb hgr hd K hK=>?_
      have d4:=mvD hd 4
      obtain ⟨p_,e4,s_⟩:=d4
      replace e4:T.getD 95 undef=.tuple #[p_,.int .i64 N,.int .i64 0]:=e4
      rw [yu] at e4
      clear hk hd
      go_simp
      exact hK.out _ _ (mvM HST HH0 hb) rfl
     case op7_=>
      refine mvA fun T w' hk hb hgr hd K hK=>?_
      have d4:=mvD hd 4
      obtain ⟨p_,e4,s_⟩:=d4
      replace e4:T.getD 95 undef=.tuple #[p_,.int .i64 N,.int .i64 0]:=e4
      rw [yu] at e4
      clear hk hd
      go_simp
      exact hK.out _ _ (mvM HST HH0 hb) rfl
     case op8_=>
      refine mvA fun T w' hk hb hgr hd K hK=>?_
      have d5:=mvD hd 5
      obtain ⟨q_,base,xs,As,cs,e5,hst,hx⟩:=d5
      replace e5:T.getD 100 undef=.pointer (some ⟨q_,0,none⟩):=e5
      rw [yu] at e5
      clear hk hd
      go_simp
      exact hK.out _ _ (mvM HST HH0 hb) ⟨q_,base,xs,As,cs,rfl,hst,hx⟩
     case op9_=>
      refine mvA fun T w' hk hb hgr hd K hK=>?_
      have d6:T[101]?.getD undef=.int .i64 N:=gqd (mvD hd 6)
      clear hk hd
      go_simp
      exact hK.out _ _ (mvM HST HH0 hb) rfl
     case last_=>
      refine mvL fun T w' hk hb hgr hd K hK=>?_
      have d7:=mvD hd 7
      replace d7:T.getD 102 undef=.int .i64 0:=d7
      have d8:=mvD hd 8
      obtain ⟨q_,base,xs,As,cs,e8,hst,hx⟩:=d8
      replace e8:T.getD 14 undef=.pointer (some ⟨q_,0,none⟩):=e8
      have d9:=mvD hd 9
      replace d9:T.getD 15 undef=.int .i64 N:=d9
      have o0:T.getD 0 undef=.int .i64 N:=hk.2 0 (by kernel_rfl)
      have o5:T.getD 5 undef=.slice A N c:=hk.2 5 (by kernel_rfl)
      have o7:T.getD 7 undef=.pointer (some ⟨w4.heap.size,0,none⟩):=hk.2 7 (by kernel_rfl)
      have hT:=eq hk.1
      obtain ⟨f_,hf_⟩:∃f_:Nat→Value,(fun t=>T.getD t undef)=f_:=⟨_,rfl⟩
      rw [hf_] at hT
      replace o0:f_ 0=_:=(congrFun hf_ 0).symm.trans o0
      replace o5:f_ 5=_:=(congrFun hf_ 5).symm.trans o5
      replace o7:f_ 7=_:=(congrFun hf_ 7).symm.trans o7
      replace d7:f_ 102=_:=(congrFun hf_ 102).symm.trans d7
      replace e8:f_ 14=_:=(congrFun hf_ 14).symm.trans e8
      replace d9:f_ 15=_:=(congrFun hf_ 15).symm.trans d9
      replace hT:T=#[f_ 0,f_ 1,f_ 2,f_ 3,f_ 4,f_ 5,f_ 6,f_ 7,f_ 8,f_ 9,f_ 10,f_ 11,f_ 12,f_ 13,f_ 14,f_ 15,f_ 16,f_ 17,f_ 18,f_ 19,f_ 20,f_ 21,f_ 22,f_ 23,f_ 24,f_ 25,f_ 26,f_ 27,f_ 28,f_ 29,f_ 30,f_ 31,f_ 32,f_ 33,f_ 34,f_ 35,f_ 36,f_ 37,f_ 38,f_ 39,f_ 40,f_ 41,f_ 42,f_ 43,f_ 44,f_ 45,f_ 46,f_ 47,f_ 48,f_ 49,f_ 50,f_ 51,f_ 52,f_ 53,f_ 54,f_ 55,f_ 56,f_ 57,f_ 58,f_ 59,f_ 60,f_ 61,f_ 62,f_ 63,f_ 64,f_ 65,f_ 66,f_ 67,f_ 68,f_ 69,f_ 70,f_ 71,f_ 72,f_ 73,f_ 74,f_ 75,f_ 76,f_ 77,f_ 78,f_ 79,f_ 80,f_ 81,f_ 82,f_ 83,f_ 84,f_ 85,f_ 86,f_ 87,f_ 88,f_ 89,f_ 90,f_ 91,f_ 92,f_ 93,f_ 94,f_ 95,f_ 96,f_ 97,f_ 98,f_ 99,f_ 100,f_ 101,f_ 102,f_ 103,f_ 104,f_ 105,f_ 106,f_ 107,f_ 108,f_ 109,f_ 110,f_ 111,f_ 112,f_ 113,f_ 114,f_ 115,f_ 116,f_ 117,f_ 118,f_ 119,f_ 120,f_ 121,f_ 122,f_ 123,f_ 124,f_ 125,f_ 126,f_ 127,f_ 128,f_ 129,f_ 130,f_ 131,f_ 132,f_ 133,f_ 134,f_ 135,f_ 136,f_ 137,f_ 138,f_ 139,f_ 140,f_ 141,f_ 142,f_ 143,f_ 144,f_ 145,f_ 146,f_ 147,f_ 148,f_ 149,f_ 150,f_ 151,f_ 152,f_ 153,f_ 154,f_ 155,f_ 156,f_ 157,f_ 158,f_ 159,f_ 160,f_ 161,f_ 162,f_ 163,f_ 164,f_ 165,f_ 166,f_ 167,f_ 168]:=hT
      clear hf_
      subst hT
      rw [o0,o5,o7,d7,e8,d9]
      clear hd hk
      go_simp
      refine hK.out _ _ ?_
      clear hK
      have HDw5:=ym (HDR.out.trans hb)
      have HST0:=ym hst
      have HX0:=ym hx
      clear hst hx
      clear hb hgr HST HH0 HDR
      generalize w'=w6 at *
      have HBw6:=ym (HBw5.out.trans (HDw5.out.mono HBw5.out.size))
      have HAw6:=ym (HAw5.out.trans (HDw5.out.mono HAw5.out.size))
      have HMw6:=ym (HMw5.out.later HDw5.out)
      clear HDw5
      have hM:=HM.out
      have hxl:((xs.length:Nat):Int)=(N:Int)+(N:Int)*(N:Int):=by
       have h:=congrArg List.length HX0.out
       rw [yw] at h
       rw [HMI.out]
       omega
      have hxf:xs.length≤100000:=by omega
      go_wp2_with fail
      refine (dW HST0.out).mono ?_
      rintro z w_ ⟨rfl,rfl⟩
      rw [hxl]
      go_wp2_with fail
      refine (cA (o:=2) (by unfold U32;simp)).mono ?_
      rintro z w7 ⟨⟨v,rfl,hv⟩,hb_⟩
      obtain ⟨Ar,rfl,hrl⟩:=hv.rl (by unfold U32;simp)
      have HRL:=ym hrl
      have HST7:=ym (HST0.out.later hb_)
      have HBw7:=ym (HBw6.out.trans (hb_.mono HBw6.out.size))
      have HAw7:=ym (HAw6.out.trans (hb_.mono HAw6.out.size))
      have HMw7:=ym (HMw6.out.later hb_)
      clear hb_ hv hrl
      go_wp2_with fail
      rw [HMI.out,HGI.out]
      refine (ep (c:=c) (cr:=2) HR19.out hN7 HL.out HBw7.out HRL.out (by simp [pwO]) (by unfold I64;omega) (by unfold I64;omega) ((HAw7.out.cell (p:=⟨0,0,none⟩) hp).trans HC0.out) (yr hp HAw7.out.size)).mono ?_
      intro z w8 hrun
      obtain ⟨⟨q2,base2,xs2,As2,cs2,rfl,_,_⟩,hb_⟩:=hrun.yes
      have HST8:=ym (HST7.out.later hb_)
      have HBw8:=ym (HBw7.out.trans (hb_.mono HBw7.out.size))
      have HAw8:=ym (HAw7.out.trans (hb_.mono HAw7.out.size))
      have HMw8:=ym (HMw7.out.later hb_)
      clear hb_ hrun
      have k_m:=HMw8.out.cell
      have l_m:=HMw8.out.lt
      go_wp2_with fail
      refine (ep (c:=c) (cr:=0) HR20.out hN7 HL.out HBw8.out xR (by simp) (by unfold I64;omega) (by unfold I64;omega) ((HAw8.out.cell (p:=⟨0,0,none⟩) hp).trans HC0.out) (yr hp HAw8.out.size)).mono ?_
      intro z w9 hrun
      obtain ⟨⟨q3,base3,xs3,As3,cs3,rfl,hst3,hx3⟩,hb_⟩:=hrun.yes
      have HST9:=ym (HST8.out.later hb_)
      have HSN9:=ym hst3
      have hxl3:((xs3.length:Nat):Int)=(N:Int):=by
       have h:=congrArg List.length hx3
       rw [yw] at h
       omega
      have HBw9:=ym (HBw8.out.trans (hb_.mono HBw8.out.size))
      have HAw9:=ym (HAw8.out.trans (hb_.mono HAw8.out.size))
      have HMw9:=ym (HMw8.out.later hb_)
      clear hb_ hrun hst3 hx3 k_m l_m
      go_wp2_with fail
      refine (dW HSN9.out).mono ?_
      rintro z w_ ⟨rfl,rfl⟩
      rw [hxl3]
      go_wp2_with fail
      refine (hU (d:=1) (name:=pwP) (n:=2) HST9.out hxf).mono ?_
      rintro z w10 ⟨⟨ys,A',c',hy,rfl,_⟩,hb_⟩
      have hyl:ys.length=N*N:=by
       rw [←HX0.out,mz] at hy
       have h:=congrArg List.length hy
       rw [yw] at h
       omega
      have HBw10:=ym (HBw9.out.trans (hb_.mono HBw9.out.size))
      have HAw10:=ym (HAw9.out.trans (hb_.mono HAw9.out.size))
      have HMw10:=ym (HMw9.out.later hb_)
      rw [hyl]
      clear hb_ hy hyl
      go_wp2_with fail
      refine (HAWH.out _ HAw10.out).mono ?_
      rintro z w_9 ⟨rfl,hb9⟩
      go_wp2_with fail
      go_ret
      exact ⟨rfl,ac HAw10.out hb9⟩
end Go.Proofs.YtjpndglegpcdnaaGreat
