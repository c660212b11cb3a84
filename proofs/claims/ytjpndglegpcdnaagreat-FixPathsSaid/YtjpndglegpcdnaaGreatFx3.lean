/- fix.fresh: Len, Less, Swap, Pop; a pile of container/heap. Printed by mk_fx3.py. -/
import Derived.Test.YtjpndglegpcdnaaGreatFx1
import Derived.Test.YtjpndglegpcdnaaGreatPosts
import Derived.Test.YtjpndglegpcdnaaGreatPosts2
import Derived.Test.YtjpndglegpcdnaaGreatHeap3
set_option linter.unusedVariables false
set_option linter.unusedSimpArgs false
set_option maxRecDepth 100000
set_option maxHeartbeats 8000000
namespace Go.Proofs.YtjpndglegpcdnaaGreat
open Go.ChangeShapes Go.WideShapes Go.ChangeAt Go.RowKit
def FolE (d:Nat) (w w':World) (R:List Fc × Int) (z:Ending):Prop:=∃xs A c,z=.returned (.tuple #[.slice A xs.length c,.int .i64 R.2])∧xs.map FV.f=R.1∧FRow w.heap.size d w' xs A c∧Below w.heap.size w w'
theorem FRow.nil (base d:Nat) (w:World):FRow base d w [] none 0:=⟨am.nil _ _ _ _ _,fun x hx=>absurd hx (by simp)⟩
theorem FRow.later {base d c:Nat} {w w':World} {xs:List FV} {A:Option Addr} (h:FRow base d w xs A c) (hb:Below w.heap.size w w'):FRow base d w' xs A c:=h.agree (M:=fun _=>False) (ak.of_below hb) (fun _ _ h=>h.elim)
theorem FRow.app {base base2 d c c':Nat} {w w1:World} {xs:List FV} {A A':Option Addr} {y:FV} (h:FRow base d w xs A c) (hy:FcOk y.f) (hs:fl (fun k=>k<base2) w (fun w'=>(aC (d+1)).rd w' w'.heap.size y.f y.cs)) (hb:base≤base2) (hr:∀k,(Value.slice A xs.length c).ownBlock=some k→k<base2)
 (ho:am FvR 33 w1 base 0 (.slice A' (xs++[y]).length c') (xs++[y])) (hg:w.grownBy w1 (Value.slice A xs.length c).ownBlock) (hf:bC w (.slice A xs.length c) (.slice A' (xs++[y]).length c')):FRow base d w1 (xs++[y]) A' c':=by
 have hag:=ak.grown hg
 have hown:∀k,k<w.heap.size→(Value.slice A' (xs++[y]).length c').ownBlock=some k→(Value.slice A xs.length c).ownBlock=some k:=fun k hk hm=>by
  rcases hf with e | ⟨q,e,hq⟩
  ·rw [←e];exact hm
  ·rw [e] at hm;cases hm;omega
 refine ⟨ho,fun x hx=>?_⟩
 rcases List.mem_append.1 hx with hx | hx
 ·refine ⟨(h.deep x hx).1,(h.deep x hx).2.next hag (fun k hk hm=>.inr hm.symm) (fun k hk hm=>?_)⟩
  rcases hm with hm | hm
  ·exact .inl hm
  ·exact .inr (hown k hk hm)
 ·obtain rfl:x=y:=by simpa using hx
  refine ⟨hy,hs.next hag (fun k hk hm=>hr k hm.symm) (fun k hk hm=>?_)⟩
  rcases hm with hm | hm
  ·exact yr hm hb
  ·exact hr k (hown k hk hm)
def RowF (base d:Nat) (xs:List FV) (v:Value) (w:World):Prop:=∃A c,v=.slice A xs.length c∧FRow base d w xs A c
theorem Stb.rowF (base d:Nat) (xs:List FV):Stb (RowF base d xs):=fun _ _ _ ⟨A,c,e,h⟩ hb=>⟨A,c,e,h.later hb⟩
theorem StkQ.b {base D c:Nat} {w:World} {xs:List SV} {A:Option Addr} (h:StkQ base D w xs A c):StkB base 0 D w xs A c:=⟨h.own,h.tms,fun x hx _=>h.sep x hx,fun x hx _ a ha=>⟨.inr (h.lt x hx a ha).1,(h.lt x hx a ha).2⟩⟩
theorem head_rd {d B:Nat} {w:World} {r:Ru} {v0 v1 v2 v3 v4:Value} (h:(RuR d).rd w B r [v0,v1,v2,v3,v4]):(PrR d).rd w B r.head [v0,v1]:=by
 obtain ⟨_,_,_,_,e,hs,h0,_⟩:=h
 simp only [List.cons.injEq,and_true] at e
 obtain ⟨rfl,rfl,rfl,rfl,rfl⟩:=e
 exact ⟨_,rfl,hs,h0⟩
theorem wW {w:World} {base B n c:Nat} {L:List AnV} {e:TypeId} {A:Option Addr} (h:am jo e w base B (.slice A n c) L):L.length≤9223372036854775807:=by
 rcases A with _ | a
 ·rw [(am.none_nil h).1];simp
 ·obtain ⟨_,_,h1,h2⟩:=am.some_row h;omega
theorem bitU_eq {k:Int} (h0:0≤k) (h:k.toNat<16):IntKind.u32.wrap (1*2 ^ k.toNat)=iS k.toNat:=by
 unfold iS
 have h1:(2:Nat) ^ k.toNat≤2 ^ 15:=Nat.pow_le_pow_right (by omega) (by omega)
 have h2:((2 ^ k.toNat:Nat):Int)=(2:Int) ^ k.toNat:=by simp
 have e:∀n:Int,IntKind.u32.wrap n=n % 4294967296:=fun _=>rfl
 rw [Int.one_mul,←h2,e]
 exact Int.emod_eq_of_lt (Int.natCast_nonneg _) (by omega)
theorem pR {d baseS B S cs:Nat} {o:OwD} {vo:List Value} {w:World} {fs:List FV} {As:Option Addr} {m:Int} (ho:(OwR (d+1)).rd w B o vo) (hown:gL o=true) (hB:B≤w.heap.size) (hS:StA baseS d w S fs As cs) (hfew:fs.length≤100000) (hm:w.cell? ⟨0,0,none⟩=some (.int .i64 m)) (hp:0<w.heap.size) :
 Calls Tryz.prog 36 #[.agg vo.toArray,.pointer (some ⟨S,0,none⟩)] w fun z w'=>FolE d w w' (aA (fs.map FV.f) o) z:=by
 obtain ⟨A0,c0,A1,c1,A2,c2,A3,c3,rfl,hr,hbl,htr⟩:=nq ho
 have hok:=qh hown
 have HOK:=ym hown
 have HR:=ym hr
 have HS:=ym hS
 have HM:=ym hm
 have h0:=hok.2.1
 have h16:=hok.2.2
 obtain ⟨i0,hi0,hz0,hz1,hz2⟩:=info_parts eR
 clear ho hr hS hm hown hok hbl
 go_enter Tryz.func36,Tryz.ntmps36
 go_upto_region 1 with fail
 generalize hW:World.alloc _ _=w1
 obtain ⟨hb1,hz⟩:=al1 hW
 have HK1:=ym (n11 hW)
 have HB1:=ym hb1
 have hsz1:=hb1.size
 clear hW hb1 hz
 have k_o:=HK1.out.cell
 have l_o:=HK1.out.lt
 go_wp2_with fail
 refine (lL (d:=d) (B:=B) (r:=o.rule) (vr:=[_,_,_,_,_]) (tr:=o.trusted) ((RuR (d+1)).keep HB1.out hB HR.out) (yn hB hsz1) (HS.out.later HB1.out) hfew ((HB1.out.cell (p:=⟨0,0,none⟩) hp).trans HM.out) (yr hp hsz1)).mono ?_
 rintro z w3 ⟨L,AL,cL,rfl,hLx,hLo,hLk,hLd,hb3⟩
 have HK3:=ym (HK1.out.later hb3)
 have HB3:=ym (ac HB1.out hb3)
 have hsz3:=HB3.out.size
 have hw3:w.heap.size<w3.heap.size:=HK3.out.lt
 have HFR:Hid (aA (fs.map FV.f) o=((aX (fs.map FV.f) o.trusted o.rule).1.filterMap (iY o),(aX (fs.map FV.f) o.trusted o.rule).2)):=ym rfl
 have HLEN:=ym (gP (fs.map FV.f) o.trusted o.rule)
 generalize aX (fs.map FV.f) o.trusted o.rule=R at *
 have HLX:=ym hLx
 have HLO:=ym hLo
 have HLK:=ym hLk
 have hLn:=wW hLo
 have HA3:=ym (fun (w':World) (hb:Below w3.heap.size w3 w') (i:Nat) (hi:i<L.length)=>((hLd L[i] (List.getElem_mem hi)).later hb).here)
 clear hLx hLo hLk hLd hb3 k_o l_o
 go_upto_region 4 with fail
 go_loopw [8,24] (fun u i wr=>∃(j:Nat) (xs:List FV) (A:Option Addr) (c:Nat),j≤L.length∧xs.length≤j∧i=.int .i64 j∧u=.slice A xs.length c∧Hid (xs.map FV.f=(R.1.take j).filterMap (iY o))∧Hid (FRow w3.heap.size d wr xs A c)∧Hid (Below w3.heap.size w3 wr)) (fun _ i _=>L.length-(intOf i).toNat)
 case atStart=>exact ⟨0,[],none,0,yp _,yo _,rfl,rfl,ym rfl,ym (FRow.nil _ _ _),ym (yq _ _)⟩
 case round=>
  obtain ⟨j,xs,A,c,hj,hxj,rfl,rfl,HX,HROW,HW⟩:=hrel
  have hszr:=HW.out.size
  by_cases hlt:j<L.length
  ·obtain ⟨g,cg,eg,hg1,hg2,_⟩:=HLO.out.sh aY (by omega)
   simp only [yB,true_and] at eg
   obtain ⟨rfl,rfl⟩:=eg
   obtain ⟨a0,a1,a2⟩:=gd (HLO.out.later HW.out (yp _)) hlt
   have HRA:=ym (HA3.out wr HW.out j hlt)
   have HYK:=ym (HLK.out _ (List.getElem_mem hlt))
   have HXJ:Hid (R.1[j]? = some L[j].x):=ym (by rw [←HLX.out,List.getElem?_map,yy hlt];rfl)
   have hI0:(0:Int)≤(j:Int):=Int.natCast_nonneg _
   have hI1:(j:Int)<(L.length:Int):=by omega
   generalize L[j]=y at *
   have HTK:Hid (∀q,iY o y.x=q→(R.1.take (j+1)).filterMap (iY o)=(R.1.take j).filterMap (iY o)++q.toList):=ym (fun q hq=>by
    obtain ⟨hjl,e⟩:=List.getElem?_eq_some_iff.1 HXJ.out
    rw [List.take_succ_eq_append_getElem hjl,List.filterMap_append,e]
    simp only [List.filterMap_cons,List.filterMap_nil,hq]
    cases q<;>rfl)
   have HKr:=ym (HK3.out.later HW.out)
   have k_o:=HKr.out.cell
   have l_o:=HKr.out.lt
   go_upto_region 6 with fail
   generalize hW:World.alloc _ _=w4
   obtain ⟨hb4,hz4⟩:=al1 hW
   have HY4:=ym (n11 hW)
   have HK4:=ym (HKr.out.later hb4)
   have HB4:=ym (ac HW.out hb4)
   have HX4:=ym (ac HB3.out HB4.out)
   have hsz4:=hb4.size
   have HPR:=ym (mP ((mJ (d+1)).keep hb4 (yo _) HRA.out))
   have HROW4:=ym (HROW.out.later hb4)
   clear hW hb4 hz4 a0 a1 a2 k_o l_o
   have k_o:=HK4.out.cell
   have l_o:=HK4.out.lt
   have k_a:=HY4.out.cell
   have l_a:=HY4.out.lt
   go_wp2_with fail
   have hHD:(PrR (d+1)).rd w4 wr.heap.size o.rule.head [.string o.rule.head.name,.slice A0 o.rule.head.terms.length c0]:=(PrR (d+1)).wide (yn (yn hB (Nat.le_of_lt hw3)) hszr) ((PrR (d+1)).keep HX4.out hB (head_rd HR.out))
   refine (wk (d:=d) (cn:=y.cn) (ct:=y.ct) (b:=y.x.b) (vp:=[_,_]) hHD HPR.out.1 HPR.out.2 hsz4).mono ?_
   rintro z w5 ⟨⟨Ap,cp,ts,rfl,hts,hq⟩,hb5⟩
   have HK5:=ym (HK4.out.later hb5)
   have HY5:=ym (HY4.out.later hb5)
   have HB5:=ym (ac HB4.out hb5)
   have HROW5:=ym (HROW4.out.later hb5)
   have hsz5:=hb5.size
   have HF:Hid (∀q,gE o.rule.head y.x.b=q→iY o y.x=q.map fun p=>⟨p,orO y.x.o (iS o.block.toNat)⟩):=ym (fun q hq=>by unfold iY;rw [hq];cases q<;>rfl)
   have HTS:=ym hts
   have HQ:=ym hq
   have HBL:Hid (xs.length+1≤1000001):=ym (by
    have h1:=HLEN.out
    rw [←HLX.out,yw] at h1
    omega)
   clear hb5 k_o l_o k_a l_a hHD hts hq
   obtain ⟨F,hF⟩:∃F,gE o.rule.head y.x.b=F:=⟨_,rfl⟩
   have HHF:=ym (HF.out _ hF)
   rw [hF] at HTS ⊢
   clear HF hF
   cases F
   ·have HX1:Hid (xs.map FV.f=(R.1.take (j+1)).filterMap (iY o)):=ym (by rw [HTK.out _ HHF.out,HX.out];simp)
    go_upto_region 7 with fail
    generalize hW:World.alloc _ _=w6
    obtain ⟨hb6,hz6⟩:=al1 hW
    have HROW6:=ym (HROW5.out.later hb6)
    have HB6:=ym (ac HB5.out hb6)
    clear hW hb6 hz6
    go_wp2_with fail
    go_roundw
    case rel=>exact ⟨j+1,xs,A,c,by omega,by omega,by go_num,rfl,HX1,HROW6,HB6⟩
    case measure=>simp [intOf];omega
   ·rename_i p
    have HX1:Hid (xs.map FV.f++[⟨p,orO y.x.o (iS o.block.toNat)⟩]=(R.1.take (j+1)).filterMap (iY o)):=ym (by rw [HTK.out _ HHF.out,HX.out];rfl)
    have HHO:=ym (tW HOK.out HHF.out)
    have HFO:Hid (bO w4.heap.size d w5 ⟨p,orO y.x.o (iS o.block.toNat)⟩ Ap cp):=ym ⟨ts,HTS.out,HQ.out.b⟩
    go_upto_region 8 with fail
    generalize hW:World.alloc _ _=w6
    obtain ⟨hb6,hz6⟩:=al1 hW
    have HP6:=ym (n11 hW)
    have HK6:=ym (HK5.out.later hb6)
    have HY6:=ym (HY5.out.later hb6)
    have HROW6:=ym (HROW5.out.later hb6)
    have HFO6:=ym (HFO.out.later hb6)
    have HB6:=ym (ac HB5.out hb6)
    have hsz6:=hb6.size
    clear hW hb6 hz6
    have hbU:IntKind.u32.wrap (2 ^ o.block.toNat)=iS o.block.toNat:=by have:=bitU_eq h0 h16;rwa [Int.one_mul] at this
    have HST:Hid (sX [fun v _=>v=.slice A xs.length c,fun v _=>v=.agg #[.string p.name,.slice Ap p.terms.length cp],fun v _=>v=.pointer (some ⟨wr.heap.size,2,none⟩),fun v _=>v=.int .u32 y.x.o,fun v _=>v=.pointer (some ⟨w.heap.size,5,none⟩),fun v _=>v=.int .i64 o.block,fun v _=>v=.int .u32 (iS o.block.toNat),fun v _=>v=.int .u32 (orO y.x.o (iS o.block.toNat)),fun v _=>v=.agg #[.string p.name,.slice Ap p.terms.length cp,.int .u32 (orO y.x.o (iS o.block.toNat))],pq w3.heap.size 1 #[.string p.name,.slice Ap p.terms.length cp,.int .u32 (orO y.x.o (iS o.block.toNat))] 33,RowF w3.heap.size d (xs++[⟨⟨p,orO y.x.o (iS o.block.toNat)⟩,Ap,cp⟩])]):=ym ⟨Stb.val _,⟨Stb.val _,⟨Stb.val _,⟨Stb.val _,⟨Stb.val _,⟨Stb.val _,⟨Stb.val _,⟨Stb.val _,⟨Stb.val _,⟨Stb.row _ _ _ _,⟨Stb.rowF _ _ _,trivial⟩⟩⟩⟩⟩⟩⟩⟩⟩⟩⟩
    have HH0:Hid (w3.heap.size≤w6.drew.heap.size):=ym (yn HB6.out.size (yo _))
    have HDR:Hid (Below w6.heap.size w6 w6.drew):=ym (yq _ _).drew
    refine cQ 11 (je [fun v _=>v=.slice A xs.length c,fun v _=>v=.agg #[.string p.name,.slice Ap p.terms.length cp],fun v _=>v=.pointer (some ⟨wr.heap.size,2,none⟩),fun v _=>v=.int .u32 y.x.o,fun v _=>v=.pointer (some ⟨w.heap.size,5,none⟩),fun v _=>v=.int .i64 o.block,fun v _=>v=.int .u32 (iS o.block.toNat),fun v _=>v=.int .u32 (orO y.x.o (iS o.block.toNat)),fun v _=>v=.agg #[.string p.name,.slice Ap p.terms.length cp,.int .u32 (orO y.x.o (iS o.block.toNat))],pq w3.heap.size 1 #[.string p.name,.slice Ap p.terms.length cp,.int .u32 (orO y.x.o (iS o.block.toNat))] 33,RowF w3.heap.size d (xs++[⟨⟨p,orO y.x.o (iS o.block.toNat)⟩,Ap,cp⟩])]) [10] (w3.heap.size) HH0.out (by kernel_rfl) (by kernel_rfl) (by kernel_rfl) (by kernel_rfl) (by kernel_rfl) rfl (aa (aa (aa (aa (aa (aa (aa (aa (aa (aa (aa dp ?op0_) ?op1_) ?op2_) ?op3_) ?op4_) ?op5_) ?op6_) ?op7_) ?op8_) ?op9_) ?op10_) ?last_
    case op0_=>
     refine mvA fun T w' hk hb hgr hd K hK=>?_
     have h_:T[8]?.getD undef=.slice A xs.length c:=gqd (mvK hk 8)
     clear hk hd
     go_simp
     exact hK.out _ _ (mvM HST HH0 hb) rfl
    case op1_=>
     refine mvA fun T w' hk hb hgr hd K hK=>?_
     have h_:T[11]?.getD undef=.pointer (some ⟨w5.heap.size,0,none⟩):=gqd (mvK hk 11)
     have k_:=(HP6.out.later (HDR.out.trans (hgr (by kernel_rfl)))).cell
     have l_:=(HP6.out.later (HDR.out.trans (hgr (by kernel_rfl)))).lt
     clear hk hd
     go_simp
     exact hK.out _ _ (mvM HST HH0 hb) rfl
    case op2_=>
     refine mvA fun T w' hk hb hgr hd K hK=>?_
     have h_:T[10]?.getD undef=.pointer (some ⟨wr.heap.size,0,none⟩):=gqd (mvK hk 10)
     clear hk hd
     go_simp
     exact hK.out _ _ (mvM HST HH0 hb) rfl
    case op3_=>
     refine mvA fun T w' hk hb hgr hd K hK=>?_
     have d2:T[40]?.getD undef=.pointer (some ⟨wr.heap.size,2,none⟩):=gqd (mvD hd 2)
     have k_:=(HY6.out.later (HDR.out.trans (hgr (by kernel_rfl)))).cell
     have l_:=(HY6.out.later (HDR.out.trans (hgr (by kernel_rfl)))).lt
     clear hk hd
     go_simp
     exact hK.out _ _ (mvM HST HH0 hb) rfl
    case op4_=>
     refine mvA fun T w' hk hb hgr hd K hK=>?_
     have h_:T[2]?.getD undef=.pointer (some ⟨w.heap.size,0,none⟩):=gqd (mvK hk 2)
     clear hk hd
     go_simp
     exact hK.out _ _ (mvM HST HH0 hb) rfl
    case op5_=>
     refine mvA fun T w' hk hb hgr hd K hK=>?_
     have d4:T[42]?.getD undef=.pointer (some ⟨w.heap.size,5,none⟩):=gqd (mvD hd 4)
     have k_:=(HK6.out.later (HDR.out.trans (hgr (by kernel_rfl)))).cell
     have l_:=(HK6.out.later (HDR.out.trans (hgr (by kernel_rfl)))).lt
     clear hk hd
     go_simp
     exact hK.out _ _ (mvM HST HH0 hb) rfl
    case op6_=>
     refine mvA fun T w' hk hb hgr hd K hK=>?_
     have d5:T[43]?.getD undef=.int .i64 o.block:=gqd (mvD hd 5)
     clear hk hd
     go_simp
     exact hK.out _ _ (mvM HST HH0 hb) rfl
    case op7_=>
     refine mvA fun T w' hk hb hgr hd K hK=>?_
     have d3:T[41]?.getD undef=.int .u32 y.x.o:=gqd (mvD hd 3)
     have d6:T[44]?.getD undef=.int .u32 (iS o.block.toNat):=gqd (mvD hd 6)
     clear hk hd
     go_simp
     exact hK.out _ _ (mvM HST HH0 hb) rfl
    case op8_=>
     refine mvA fun T w' hk hb hgr hd K hK=>?_
     have d1:T[39]?.getD undef=.agg #[.string p.name,.slice Ap p.terms.length cp]:=gqd (mvD hd 1)
     have d7:T[45]?.getD undef=.int .u32 (orO y.x.o (iS o.block.toNat)):=gqd (mvD hd 7)
     clear hk hd
     go_simp
     exact hK.out _ _ (mvM HST HH0 hb) rfl
    case op9_=>
     refine mvA fun T w' hk hb hgr hd K hK=>?_
     have d8:T[46]?.getD undef=.agg #[.string p.name,.slice Ap p.terms.length cp,.int .u32 (orO y.x.o (iS o.block.toNat))]:=gqd (mvD hd 8)
     clear hk hd
     go_simp
     generalize hW:World.alloc _ _=w4
     obtain ⟨hb4,hz4⟩:=al1 hW
     have hN4:=hW▸heap_alloc_new w' _
     clear hW
     exact hK.out _ _ (mvN HST HH0 hb hb4) ⟨_,rfl,yn HH0.out hb.size,hN4⟩
    case op10_=>
     refine mvA fun T w' hk hb hgr hd K hK=>?_
     have d0:=mvD hd 0
     have d9:=mvD hd 9
     replace d0:T.getD 38 undef=.slice A xs.length c:=d0
     obtain ⟨b9,e9,hb9,hc9⟩:=d9
     have hgw:=HDR.out.trans (hgr (by kernel_rfl))
     have HRW:=HROW6.out.later hgw
     refine fZ (R:=FvR) (e:=33) (.tmp 38) (.tmp 47) 23 rfl (bytes:=48) Tryz.underlying23 hi0 hz0 hz1 hz2 rfl (show 0<3 by omega) bQ (xs:=xs) (base:=w3.heap.size) (B:=0) (v:=.slice A xs.length c) (by exact d0) HRW.own (by exact e9) (ys:=[⟨⟨p,orO y.x.o (iS o.block.toNat)⟩,Ap,cp⟩]) (xl hc9 (bA.one (R:=FvR) rfl)) rfl (yp _) (by have:=HBL.out;simp only [yE,List.length_nil];omega) (by omega) (yn HB6.out.size hgw.size) ?_
     intro v_1 w7 hown hb7 hg hf
     obtain ⟨A',c',rfl⟩:=hown.form
     exact hK.out _ _ (Moved.keep (hb.trans hb7) rfl [] (by kernel_rfl) (by simp)) ⟨A',c',rfl,HRW.app (base2:=w4.heap.size) HHO.out.2.1 ((HFO6.out.later hgw).stab HHO.out.2.1 (fun k h1 h2=>by omega)) HB4.out.size (fun k hk=>(HROW4.out.own.lt k hk).2) hown hg hf⟩
    case last_=>
     refine mvL fun T w' hk hb hgr hd K hK=>?_
     have d10:=mvD hd 10
     obtain ⟨A',c',e48,hrow⟩:=d10
     replace e48:T.getD 48 undef=_:=e48
     have hT:=eq hk.1
     obtain ⟨f_,hf_⟩:∃f_:Nat→Value,(fun t=>T.getD t undef)=f_:=⟨_,rfl⟩
     rw [hf_] at hT
     have E_:=fun t h=>(congrFun hf_ t).symm.trans (hk.2 t h)
     replace e48:f_ 48=_:=(congrFun hf_ 48).symm.trans e48
     replace hT:T=#[f_ 0,f_ 1,f_ 2,f_ 3,f_ 4,f_ 5,f_ 6,f_ 7,f_ 8,f_ 9,f_ 10,f_ 11,f_ 12,f_ 13,f_ 14,f_ 15,f_ 16,f_ 17,f_ 18,f_ 19,f_ 20,f_ 21,f_ 22,f_ 23,f_ 24,f_ 25,f_ 26,f_ 27,f_ 28,f_ 29,f_ 30,f_ 31,f_ 32,f_ 33,f_ 34,f_ 35,f_ 36,f_ 37,f_ 38,f_ 39,f_ 40,f_ 41,f_ 42,f_ 43,f_ 44,f_ 45,f_ 46,f_ 47,f_ 48,f_ 49,f_ 50,f_ 51]:=hT
     clear hf_
     subst hT
     rw [e48,E_ 0 (by kernel_rfl),E_ 1 (by kernel_rfl),E_ 2 (by kernel_rfl),E_ 3 (by kernel_rfl),E_ 4 (by kernel_rfl),E_ 5 (by kernel_rfl),E_ 6 (by kernel_rfl),E_ 7 (by kernel_rfl),E_ 8 (by kernel_rfl),E_ 9 (by kernel_rfl),E_ 10 (by kernel_rfl),E_ 11 (by kernel_rfl),E_ 12 (by kernel_rfl),E_ 13 (by kernel_rfl),E_ 14 (by kernel_rfl),E_ 15 (by kernel_rfl),E_ 16 (by kernel_rfl),E_ 17 (by kernel_rfl),E_ 18 (by kernel_rfl),E_ 19 (by kernel_rfl),E_ 20 (by kernel_rfl),E_ 21 (by kernel_rfl),E_ 22 (by kernel_rfl),E_ 23 (by kernel_rfl),E_ 24 (by kernel_rfl),E_ 25 (by kernel_rfl),E_ 26 (by kernel_rfl),E_ 27 (by kernel_rfl),E_ 28 (by kernel_rfl),E_ 29 (by kernel_rfl),E_ 30 (by kernel_rfl),E_ 31 (by kernel_rfl),E_ 32 (by kernel_rfl),E_ 33 (by kernel_rfl),E_ 34 (by kernel_rfl),E_ 35 (by kernel_rfl),E_ 36 (by kernel_rfl),E_ 37 (by kernel_rfl),E_ 49 (by kernel_rfl),E_ 50 (by kernel_rfl),E_ 51 (by kernel_rfl)]
     clear E_
     clear hd hk
     go_simp
     refine hK.out _ _ ?_
     clear hK
     have HROW7:=ym hrow
     have HB7:=ym (HB6.out.trans (HDR.out.mono HB6.out.size |>.trans hb))
     clear hb hrow hgr
     have hl:(xs++[(⟨⟨p,orO y.x.o (iS o.block.toNat)⟩,Ap,cp⟩:FV)]).length=xs.length+1:=by simp
     go_wp2_with fail
     go_roundw
     case rel=>exact ⟨j+1,_,A',c',by omega,by omega,by go_num,by rw [hl],ym (by rw [List.map_append];exact HX1.out),HROW7,HB7⟩
     case measure=>simp [intOf];omega
  ·have HV:Hid (aA (fs.map FV.f) o=(xs.map FV.f,R.2)):=ym (by rw [HFR.out,HX.out,List.take_of_length_le (by rw [←HLX.out,yw];omega)])
   go_wp2_with fail
   go_ret2
   exact ⟨xs,A,c,by rw [HV.out];rfl,by rw [HV.out],HROW.out.lower (by omega),ac HB3.out HW.out⟩
def cFV (x y:FV):Int:=aS x.f y.f
theorem cFV_ord:Ord3 cFV:=aT.by FV.f
def lJ (cur:Array Value) (xs:List FV):Prop:=∀k,k<xs.length→∀b,b<3→cur[k*3+b]? = (atL cU xs k).cs[b]?
def sA (cur:Array Value) (o:Nat) (x:FV):Array Value:=
 ((cur.setIfInBounds o (.string x.f.pr.name)).setIfInBounds (o+1) (.slice x.a x.f.pr.terms.length x.c)).setIfInBounds (o+2) (.int .u32 x.f.o)
theorem oV {cur:Array Value} {i k b:Nat} {x:FV} (h:i*3+2<cur.size) (hb:b<3):(sA cur (i*3) x)[k*3+b]? = if k=i then x.cs[b]? else cur[k*3+b]?:=by
 unfold sA
 simp only [Array.getElem?_setIfInBounds,Array.size_setIfInBounds]
 by_cases hk:k=i
 ·subst hk
  have h4:b=0∨b=1∨b=2:=by omega
  rcases h4 with rfl | rfl | rfl
  ·rw [if_neg (by omega),if_neg (by omega),if_pos (by omega),if_pos (by omega),if_pos rfl];rfl
  ·rw [if_neg (by omega),if_pos (by omega),if_pos (by omega),if_pos rfl];rfl
  ·rw [if_pos (by omega),if_pos (by omega),if_pos rfl];rfl
 ·rw [if_neg (by omega),if_neg (by omega),if_neg (by omega),if_neg hk]
theorem sB {cur:Array Value} {o:Nat} {x:FV}:(sA cur o x).size=cur.size:=by simp [sA]
theorem lJ.size {cur:Array Value} {xs:List FV} (h:lJ cur xs) {k:Nat} (hk:k<xs.length):k*3+2<cur.size:=by
 have:=h k hk 2 (by omega)
 rcases Nat.lt_or_ge (k*3+2) cur.size with h1 | h1
 ·exact h1
 ·rw [Array.getElem?_eq_none h1] at this;cases this
theorem lJ.swap {cur:Array Value} {xs:List FV} {i j:Nat} (h:lJ cur xs) (hi:i<xs.length) (hj:j<xs.length) :
 lJ (sA (sA cur (i*3) (atL cU xs j)) (j*3) (atL cU xs i)) (sw cU xs i j):=by
 intro k hk b hb
 rw [ck] at hk
 rw [oV (by rw [sB];exact h.size hj) hb,lM hi hj]
 by_cases h1:k=j
 ·rw [if_pos h1,if_pos h1]
 ·rw [if_neg h1,if_neg h1,oV (h.size hi) hb]
  by_cases h2:k=i
  ·rw [if_pos h2,if_pos h2]
  ·rw [if_neg h2,if_neg h2];exact h k hk b hb
theorem lJ.take {cur:Array Value} {xs:List FV} (h:lJ cur xs) (n:Nat):lJ cur (xs.take n):=by
 intro k hk b hb
 rw [yF] at hk
 rw [h k (by omega) b hb]
 congr 2
 rw [bJ (by omega),bJ (by rw [yF];omega),List.getElem_take]
theorem pv {xs:List FV} {k:Nat} (h:k<xs.length):atL cU xs k∈xs:=by rw [bJ h];exact List.getElem_mem h
structure FPile (d P G cp:Nat) (w:World) (xs:List FV):Prop where
 hd:Blk w P #[.slice (some ⟨G,0,none⟩) xs.length cp]
 row:∃cur,Blk w G cur∧lJ cur xs
 deep:∀x∈xs,FcOk x.f∧fl (fun k=>k=P∨k=G) w (fun w'=>(aC (d+1)).rd w' w'.heap.size x.f x.cs)
 few:xs.length≤1000000000000
section
variable {d P G cp:Nat} {w w':World} {xs ys:List FV}
theorem FPile.later (h:FPile d P G cp w xs) (hb:Below w.heap.size w w'):FPile d P G cp w' xs:=by
 obtain ⟨cur,h1,h2⟩:=h.row
 exact ⟨h.hd.later hb,⟨cur,h1.later hb,h2⟩,fun x hx=>⟨(h.deep x hx).1,(h.deep x hx).2.later hb⟩,h.few⟩
theorem FPile.gw (h:FPile d P G cp w xs):G≤w.heap.size:=by
 obtain ⟨cur,h1,_⟩:=h.row
 exact Nat.le_of_lt h1.lt
theorem Exc.agree {g:Nat} {a b:World} (h:Exc g a b):ak (fun k=>k=g) a b:=⟨h.1.mono (yp _),h.2⟩
end
theorem dm (A:Option Addr) (n c:Nat) (w:World) :
 Calls Tryz.prog 38 #[.slice A n c] w fun e w'=>e=.returned (.int .i64 n)∧w=w':=by
 go_enter Tryz.func38,Tryz.ntmps38
 go_wp2_with fail
 go_ret
 exact ⟨rfl,rfl⟩
theorem nc {d P G cp i j:Nat} {w:World} {xs:List FV} (h:FPile d P G cp w xs) (hi:i<xs.length) (hj:j<xs.length) :
 Calls Tryz.prog 259 #[.slice (some ⟨G,0,none⟩) xs.length cp,.int .i64 i,.int .i64 j] w fun e w'=>e=.returned (.bool (decide (cFV (atL cU xs i) (atL cU xs j)<0)))∧Below w.heap.size w w':=by
 have hn:=h.few
 obtain ⟨cur,hG,hr⟩:=h.row
 have hx:=h.deep _ (pv hi)
 have hy:=h.deep _ (pv hj)
 have i0:=hr i hi 0 (by omega)
 have i1:=hr i hi 1 (by omega)
 have i2:=hr i hi 2 (by omega)
 have j0:=hr j hj 0 (by omega)
 have j1:=hr j hj 1 (by omega)
 have j2:=hr j hj 2 (by omega)
 unfold cFV
 generalize atL cU xs i=x at *
 generalize atL cU xs j=y at *
 simp only [FV.cs,fcV,yD,List.getElem?_cons_succ,Nat.add_zero] at i0 i1 i2 j0 j1 j2
 have HX:=ym hx
 have HY:=ym hy
 clear hx hy h hr
 have q_G:=hG.regrown
 go_enter Tryz.func259,Tryz.ntmps259
 have k_G:=hG.cell
 go_wp2_with fail
 have HC:Hid (∀w9,Below w.heap.size w w9→Calls Tryz.prog 35 #[.agg x.cs.toArray,.agg y.cs.toArray] w9 fun z w'=>z=.returned (.int .i64 (aS x.f y.f))∧Below w9.heap.size w9 w'):=ym (fun w9 hb=>cI (d:=d+1) (e:=d+1) (B:=w9.heap.size) ((HX.out.2.later hb).here) ((HY.out.2.later hb).here) (by have:=HX.out.1.few;omega) (by have:=HY.out.1.few;omega) (yo _))
 simp only [FV.cs,fcV] at HC
 refine wp_region_quiet_below (by kernel_rfl) (by kernel_rfl) ?_
 repeat (go_big_quiet_step ((go_at_call 35;exact Calls.regrown_of (HC.out _ (below_regrown _ _ _)))))
 refine wpQuiet_nil ?_
 intro w1 hw1
 have hb1:Below w.heap.size w w1:=by obtain ⟨p,rfl⟩:=hw1;exact below_regrown _ _ _
 clear hw1 q_G k_G
 go_wp2_with fail
 go_ret
 exact ⟨rfl,hb1⟩
theorem nd {d P G cp i j:Nat} {w:World} {xs:List FV} (h:FPile d P G cp w xs) (hPG:P≠G) (hi:i<xs.length) (hj:j<xs.length) :
 Calls Tryz.prog 261 #[.slice (some ⟨G,0,none⟩) xs.length cp,.int .i64 i,.int .i64 j] w fun e w'=>e=.returned (.tuple #[])∧Exc G w w'∧FPile d P G cp w' (sw cU xs i j):=by
 have hn:=h.few
 obtain ⟨cur,hG,hr⟩:=h.row
 have HFIN:Hid (∀w',Exc G w w'→(∃cur',Blk w' G cur'∧lJ cur' (sw cU xs i j))→FPile d P G cp w' (sw cU xs i j)):=ym (fun w' he hc=>⟨by rw [ck];exact he.blk hPG h.hd,hc,fun x hx=>by
  have h1:=h.deep x ((nA hi hj).subset hx)
  exact ⟨h1.1,h1.2.next he.agree (fun k _ hk=>.inr hk) (fun k _ hk=>hk)⟩,by rw [ck];exact h.few⟩)
 have HS:=ym (hr.swap hi hj)
 have i0:=hr i hi 0 (by omega)
 have i1:=hr i hi 1 (by omega)
 have i2:=hr i hi 2 (by omega)
 have j0:=hr j hj 0 (by omega)
 have j1:=hr j hj 1 (by omega)
 have j2:=hr j hj 2 (by omega)
 generalize hxe:atL cU xs i=x at *
 generalize hye:atL cU xs j=y at *
 simp only [FV.cs,fcV,yD,List.getElem?_cons_succ,Nat.add_zero] at i0 i1 i2 j0 j1 j2
 clear h hr
 go_enter Tryz.func261,Tryz.ntmps261
 have k_G:=hG.cell
 have f_G:=hG.free
 by_cases e:j=i
 ·subst e
  obtain rfl:x=y:=by rw [←hxe,←hye]
  go_wp2_with fail
  go_region
  all_goals go_end0
  all_goals refine ⟨rfl,?_,HFIN.out _ ?_ ⟨_,((((((hG.set_ _ _).set_ _ _).set_ _ _).set_ _ _).set_ _ _).set_ _ _).drew,HS.out⟩⟩<;>exact ((((((((Exc.refl G w).set _ _).set _ _).set _ _).set _ _).set _ _).set _ _)).drew
 ·have n00:¬(j*3=i*3):=by omega
  have n01:¬(j*3=i*3+1):=by omega
  have n02:¬(j*3=i*3+2):=by omega
  have n10:¬(j*3+1=i*3):=by omega
  have n11:¬(j*3+1=i*3+1):=by omega
  have n12:¬(j*3+1=i*3+2):=by omega
  have n20:¬(j*3+2=i*3):=by omega
  have n21:¬(j*3+2=i*3+1):=by omega
  have n22:¬(j*3+2=i*3+2):=by omega
  go_wp2_with fail
  go_region
  all_goals go_end0
  all_goals refine ⟨rfl,?_,HFIN.out _ ?_ ⟨_,((((((hG.set_ _ _).set_ _ _).set_ _ _).set_ _ _).set_ _ _).set_ _ _).drew,HS.out⟩⟩<;>exact ((((((((Exc.refl G w).set _ _).set _ _).set _ _).set _ _).set _ _).set _ _)).drew
theorem ou {d P G cp n:Nat} {w:World} {xs:List FV} (h:FPile d P G cp w xs) (hPG:P≠G) (hx:xs.length=n+1) (hc:n+1≤cp) (hc2:cp≤9223372036854775807) :
 Calls Tryz.prog 260 #[.pointer (some ⟨P,0,none⟩)] w fun e w'=>e=.returned (.iface 33 (.agg (atL cU xs n).cs.toArray))∧Exc P w w'∧FPile d P G cp w' (xs.take n):=by
 have hn:n+1≤1000000000000:=by rw [←hx];exact h.few
 have HFIN:Hid (∀w',Exc P w w'→Blk w' P #[.slice (some ⟨G,0,none⟩) (xs.take n).length cp]→FPile d P G cp w' (xs.take n)):=ym (fun w' he hd=>by
  obtain ⟨cur,hG,hr⟩:=h.row
  refine ⟨hd,⟨cur,he.blk (Ne.symm hPG) hG,hr.take n⟩,fun x hx=>?_,by rw [yF];omega⟩
  have h1:=h.deep x (List.mem_of_mem_take hx)
  exact ⟨h1.1,h1.2.next he.agree (fun k _ hk=>.inl hk) (fun k _ hk=>hk)⟩)
 have hP:=h.hd
 obtain ⟨cur,hG,hr⟩:=h.row
 have i0:=hr n (by omega) 0 (by omega)
 have i1:=hr n (by omega) 1 (by omega)
 have i2:=hr n (by omega) 2 (by omega)
 have HT:=ym (show (xs.take n).length=n by rw [yF];omega)
 generalize atL cU xs n=x at *
 simp only [FV.cs,fcV,yD,List.getElem?_cons_succ,Nat.add_zero] at i0 i1 i2
 rw [hx] at hP
 clear hx hr h
 have kP:=hP.cell
 have fP:=hP.free
 have kG:=hG.cell
 have lP:=hP.lt
 have lG:=hG.lt
 go_enter Tryz.func260,Tryz.ntmps260
 go_wp2_with fail
 go_ret
 refine ⟨rfl,?_,HFIN.out _ ?_ (by rw [HT.out];exact (hP.set_ 0 _).old _)⟩<;>exact ((Exc.refl P w).set 0 _).then (Nat.le_of_lt lP) ((yq _ _).alloc (yo _) _)
theorem io {name:String} {f:FuncId} (hm:((Tryz.prog.info? 83).bind fun i=>(i.methods.find? (·.name==name)).map fun m=>(m.path.toList,m.func))=some ([],some (f,false)))
 (fuel:Nat) {w:World} {P:Nat} {A:Option Addr} {n c:Nat} (h:w.cell? ⟨P,0,none⟩=some (.slice A n c)) :
 (method (fuel+1) 83 (.pointer (some ⟨P,0,none⟩)) name).run Tryz.prog w=.ok (f,.slice A n c) w:=
 vv Tryz.underlying83 hm fuel (by
  have ha:(isAgg 84).run Tryz.prog w=.ok false w:=by go_simp
  have hl:(load ⟨P,0,none⟩).run Tryz.prog w=.ok (.slice A n c) w:=by go_simp
  simp [loadVar,Sem.run_bind,ha,hl,h])
theorem qS {d P G cp:Nat} (hPG:P≠G) (hc2:cp≤9223372036854775807):PileG cFV cU 83 P G (FPile d P G cp) (fun xs=>.slice (some ⟨G,0,none⟩) xs.length cp) (fun x=>.iface 33 (.agg x.cs.toArray)) 38 259 261 260 (fun n=>n+1≤cp) where
 ord:=cFV_ord
 few:=fun h=>h.few
 later:=fun h hb=>h.later hb
 gw:=fun h=>h.gw
 mlen:=fun h fuel=>io (by kernel_rfl) fuel (h.hd.cell 0)
 mless:=fun h fuel=>io (by kernel_rfl) fuel (h.hd.cell 0)
 mswap:=fun h fuel=>io (by kernel_rfl) fuel (h.hd.cell 0)
 mpop:=fun w fuel=>vu Tryz.underlying83 (by kernel_rfl) fuel
 elen:=ent Tryz.func38 (by kernel_rfl) rfl
 eless:=ent Tryz.func259 (by kernel_rfl) rfl
 eswap:=ent Tryz.func261 (by kernel_rfl) rfl
 epop:=ent Tryz.func260 (by kernel_rfl) rfl
 len:=fun h=>dm _ _ _ _
 less:=fun h hi hj=>nc h hi hj
 swap:=fun h hi hj=>nd h hPG hi hj
 pop:=fun h hx hc=>ou h hPG hx hc hc2
end Go.Proofs.YtjpndglegpcdnaaGreat
