/- slices.BinarySearchFunc at facts. -/
import Derived.Test.YtdphibjibnffeaaGreatFc2
import Derived.Laws.OwnMore
set_option linter.unusedVariables false
set_option linter.unusedSimpArgs false
set_option maxRecDepth 100000
set_option maxHeartbeats 8000000
namespace Go.Proofs.YtdphibjibnffeaaGreat
open Go.ChangeShapes Go.WideShapes Go.ChangeAt Go.RowKit
structure FV where
 f:Fc
 a:Option Addr
 c:Nat
def FV.cs (x:FV):List Value:=fcV x.f x.a x.c
def FvR:Reader FV where
 k:=3
 rd:=fun _ _ x vs=>vs=x.cs
 keep:=fun _ _ h=>h
 wide:=fun _ h=>h
 len:=fun h=>by rw [h];rfl
theorem ck:dn FvR:=fun {w B x vs} h u hu=>by
 have h:vs=x.cs:=h
 subst h
 simp only [FV.cs,fcV,List.mem_cons,List.not_mem_nil,or_false] at hu
 rcases hu with rfl | rfl | rfl<;>rfl
theorem bA:Shallow FvR FV.cs:=⟨Iff.rfl,fun _=>rfl⟩
theorem fe:(Tryz.prog.info? 33).map (fun i=>(i.zero,i.size,i.bytes))=some (some (.agg #[.string ⟨#[]⟩,.slice none 0 0,.int .u32 0]),3,48):=by kernel_rfl
def cX:FV:=⟨⟨⟨⟨#[]⟩,[]⟩,0⟩,none,0⟩
theorem yb {cs:Array Value} {n q:Nat} (h:q<n):(madeCells cs n).toList[q]? = some (cs[q % cs.size]!):=by
 have hs:q<(madeCells cs n).toList.length:=by rw [Array.length_toList,size_madeCells];exact h
 rw [List.getElem?_eq_getElem hs]
 simp [madeCells]
theorem tt {cs:Array Value} {k n i:Nat} (hk:cs.size=k) (h0:0<k) (hi:i<n):((madeCells cs (n*k)).toList.drop (i*k)).take k=cs.toList:=by
 have hle:(i+1)*k≤n*k:=Nat.mul_le_mul_right _ hi
 rw [Nat.add_mul] at hle
 apply List.ext_getElem?
 intro j
 rw [List.getElem?_take]
 split
 ·rename_i hj
  have e:(i*k+j) % cs.size=j:=by rw [hk,Nat.mul_comm,Nat.mul_add_mod,Nat.mod_eq_of_lt hj]
  rw [List.getElem?_drop,yb (by omega),e,List.getElem?_eq_getElem (by rw [Array.length_toList];omega),getElem!_pos cs j (by omega)]
  simp
 ·rename_i hj
  rw [List.getElem?_eq_none (by rw [Array.length_toList];omega)]
theorem ar.made {α:Type} {R:Reader α} {enc:α→List Value} (hs:Shallow R enc) {cs:Array Value} {x0:α} {w:World} {b base n:Nat} {T:TypeId} (hx:enc x0=cs.toList) (h0:0<R.k) (h:bP w b (madeCells cs (n*R.k)) T) (hb:base≤b) (hn:n≤maxLen):ar R T w base 0 (.slice (some ⟨b,0,none⟩) n n) (List.replicate n x0):=by
 have hk:cs.size=R.k:=by rw [←Array.length_toList,←hx,hs.len]
 refine bP.own (cells:=(madeCells cs (n*R.k)).toList) h ⟨by rw [Array.length_toList,size_madeCells,List.length_replicate],fun i hi=>?_⟩ hb (List.length_replicate ..) hn
 rw [List.length_replicate] at hi
 rw [hs.iff,tt hk h0 hi,List.getElem_replicate,hx]
theorem yd (n:Nat) (hn:n≤1000000) (w:World):(Instr.makeSlice 22 (.int .i64 (n:Int)) (.int .i64 (n:Int))).run Tryz.prog w=.ok (.slice (some ⟨w.heap.size,0,none⟩) n n) (w.alloc (.cells (madeCells #[.string ⟨#[]⟩,.slice none 0 0,.int .u32 0] (n*3)) 33)):=by
 obtain ⟨i0,hi0,hz0,hz1,hz2⟩:=info_parts fe
 have hr:=run_make (P:=Tryz.prog) w 22 33 i0 _ Tryz.underlying22 hi0 hz0 .i64 .i64 n n (by omega) (Int.le_refl _) (by rw [hz2];omega) (by omega)
 simp only [Int.toNat_natCast] at hr
 rw [hz1] at hr
 rw [hr]
 rfl
theorem below3 {w w2:World} {B g:Nat} (h:Below B w w2) (hg:B≤g) {i0 i1 i2:Nat} (v0 v1 v2:Value):Below B w (((w2.setCell ⟨g,i0,none⟩ v0).setCell ⟨g,i1,none⟩ v1).setCell ⟨g,i2,none⟩ v2):=((h.setCell (p:=⟨g,i0,none⟩) hg v0).setCell (p:=⟨g,i1,none⟩) hg v1).setCell (p:=⟨g,i2,none⟩) hg v2
theorem agree3 {w:World} {g i0 i1 i2:Nat} {v0 v1 v2:Value}:am (fun q=>q=g) w (((w.setCell ⟨g,i0,none⟩ v0).setCell ⟨g,i1,none⟩ v1).setCell ⟨g,i2,none⟩ v2):=
 am.set_ (am.set_ (am.set_ (am.refl (fun q=>q=g) w) (fun _=>(rfl:g=g)) i0 v0) (fun _=>(rfl:g=g)) i1 v1) (fun _=>(rfl:g=g)) i2 v2
theorem fv_put {w:World} {base n c g i:Nat} {xs:List FV} (h:ar FvR 33 w base 0 (.slice (some ⟨g,0,none⟩) n c) xs) (hi:i<xs.length) (y:FV) :
 ar FvR 33 (((w.setCell ⟨g,i*3,none⟩ (.string y.f.pr.name)).setCell ⟨g,i*3+1,none⟩ (.slice y.a y.f.pr.terms.length y.c)).setCell ⟨g,i*3+2,none⟩ (.int .u32 y.f.o)) base 0 (.slice (some ⟨g,0,none⟩) n c) (xs.set i y):=by
 have hx:0<xs.length:=by omega
 obtain ⟨g1,c1,e1,_,_,_,_,_,_,p1⟩:=h.sh bA hx
 simp only [Value.slice.injEq,Option.some.injEq,Addr.mk.injEq,and_true] at e1
 obtain ⟨rfl,rfl,rfl⟩:=e1
 have h1:=p1 i hi 0 (.string y.f.pr.name) ⟨⟨⟨y.f.pr.name,xs[i].f.pr.terms⟩,xs[i].f.o⟩,xs[i].a,xs[i].c⟩ (by show 0<3;omega) rfl
 have hl1:i<(xs.set i ⟨⟨⟨y.f.pr.name,xs[i].f.pr.terms⟩,xs[i].f.o⟩,xs[i].a,xs[i].c⟩).length:=by rw [List.length_set];exact hi
 obtain ⟨g2,c2,e2,_,_,_,_,_,_,p2⟩:=h1.sh bA (by omega)
 simp only [Value.slice.injEq,Option.some.injEq,Addr.mk.injEq,and_true] at e2
 obtain ⟨rfl,_,rfl⟩:=e2
 have h2:=p2 i hl1 1 (.slice y.a y.f.pr.terms.length y.c) ⟨⟨⟨y.f.pr.name,y.f.pr.terms⟩,xs[i].f.o⟩,y.a,y.c⟩ (by show 1<3;omega) (by rw [List.getElem_set_self];rfl)
 rw [List.set_set] at h2
 have hl2:i<(xs.set i ⟨⟨⟨y.f.pr.name,y.f.pr.terms⟩,xs[i].f.o⟩,y.a,y.c⟩).length:=by rw [List.length_set];exact hi
 obtain ⟨g3,c3,e3,_,_,_,_,_,_,p3⟩:=h2.sh bA (by omega)
 simp only [Value.slice.injEq,Option.some.injEq,Addr.mk.injEq,and_true] at e3
 obtain ⟨rfl,_,rfl⟩:=e3
 have h3:=p3 i hl2 2 (.int .u32 y.f.o) y (by show 2<3;omega) (by rw [List.getElem_set_self];rfl)
 rw [List.set_set] at h3
 exact h3
structure FRow (base d:Nat) (w:World) (xs:List FV) (A:Option Addr) (c:Nat):Prop where
 own:ar FvR 33 w base 0 (.slice A xs.length c) xs
 deep:∀x∈xs,FcOk x.f∧fD (fun k=>k<base∨(Value.slice A xs.length c).ownBlock=some k) w (fun w'=>(ay (d+1)).rd w' w'.heap.size x.f x.cs)
theorem FRow.agree {base d c:Nat} {w w':World} {xs:List FV} {A:Option Addr} {M:Nat→Prop} (h:FRow base d w xs A c) (ha:am M w w') (hM:∀k,k<w.heap.size→M k→k<base):FRow base d w' xs A c:=
 ⟨h.own.agree ha (fun k hk hm=>by have h1:=(h.own.lt k hk);have h2:=hM k h1.2 hm;omega),fun x hx=>⟨(h.deep x hx).1,(h.deep x hx).2.next (M:=_) ha (fun k hk hm=>.inl (hM k hk hm)) (fun k hk hm=>hm)⟩⟩
theorem FRow.rl {base d c:Nat} {w:World} {xs:List FV} {A:Option Addr} (h:FRow base d w xs A c) (hn:xs.length≤1000000):RSl (ay (d+1)) w w.heap.size (xs.map FV.f) (.slice A xs.length c):=by
 obtain ⟨A3,c3,e3,h1,h2,r3⟩:=h.own.reads (zH _) (by show xs.length*(8*3)≤_;omega)
 simp only [Value.slice.injEq] at e3
 obtain ⟨rfl,_,rfl⟩:=e3
 refine ⟨A,c,by rw [List.length_map],by rw [List.length_map];exact h1,⟨by rw [List.length_map];show xs.length*(8*3)≤_;omega,h2.2⟩,?_⟩
 intro h0
 rw [List.length_map] at h0
 obtain ⟨b,off,e,hb,hc⟩:=r3 h0
 refine ⟨b,off,e,hb,fun i hi=>?_⟩
 rw [List.length_map] at hi
 obtain ⟨vs,hl,⟨x,hx,hr⟩,hv⟩:=hc i hi
 obtain rfl:vs=x.cs:=hr
 exact ⟨x.cs,hl,⟨x.f,by rw [List.getElem?_map,hx];rfl,(h.deep x (List.mem_of_getElem? hx)).2.here⟩,hv⟩
theorem FRow.stab {base d c:Nat} {w:World} {xs:List FV} {A:Option Addr} (h:FRow base d w xs A c) (hn:xs.length≤1000000):fD (fun k=>k<base) w (fun w'=>RSl (ay (d+1)) w' w'.heap.size (xs.map FV.f) (.slice A xs.length c)):=fun w' ha=>(h.agree ha (fun _ _ h=>h)).rl hn
theorem fQ {d B c:Nat} {fs:List Fc} {A:Option Addr} {w:World} (hl:RL (ay (d+1)) w B fs A) (hok:∀f∈fs,FcOk f) (hn:fs.length≤1000000) (hB:B≤w.heap.size) :
 Calls Tryz.prog 70 #[.slice A fs.length c] w fun z w'=>(∃xs A' c',xs.map FV.f=fs∧z=.returned (.slice A' fs.length c')∧FRow w.heap.size d w' xs A' c')∧Below w.heap.size w w':=by
 have HL:=zE hl
 have HOK:=zE hok
 have hmk:=yd fs.length hn w
 clear hl hok
 go_enter Tryz.func70,Tryz.ntmps70
 go_upto_region 3 with fail
 generalize hW:World.alloc _ _=w1
 obtain ⟨hb1,hz⟩:=al1 hW
 have HBT:Hid (bP w1 w.heap.size (madeCells #[.string ⟨#[]⟩,.slice none 0 0,.int .u32 0] (fs.length*3)) 33):=zE (hW▸heap_alloc_new w _)
 have HO1:Hid (ar FvR 33 w1 w.heap.size 0 (.slice (some ⟨w.heap.size,0,none⟩) fs.length fs.length) (List.replicate fs.length cX)):=zE (ar.made bA rfl (by decide) HBT.out (zG _) (by unfold maxLen;omega))
 have HB1:=zE hb1
 have hsz1:=hb1.size
 have hlt1:w.heap.size<w1.heap.size:=by rw [←hW,World.size_alloc];omega
 clear hW hb1 hmk
 go_loopw [11] (fun i wr=>∃(k:Nat) (xs:List FV),k≤fs.length∧i=.int .i64 k∧xs.length=fs.length∧Hid (Below w.heap.size w wr)∧Hid (w1.heap.size≤wr.heap.size)∧Hid (ar FvR 33 wr w.heap.size 0 (.slice (some ⟨w.heap.size,0,none⟩) fs.length fs.length) xs)∧Hid (∀i (hi:i<xs.length) (hi':i<fs.length),i<k→xs[i].f=fs[i]∧fD (fun q=>q<w1.heap.size) wr (fun w'=>(ay (d+1)).rd w' w'.heap.size xs[i].f xs[i].cs))) (fun i _=>fs.length-(intOf i).toNat)
 case atStart=>exact ⟨0,_,zH _,rfl,List.length_replicate ..,HB1,zE (zG _),HO1,zE fun i _ _ h=>absurd h (by omega)⟩
 case round=>
  clear HO1 HBT
  obtain ⟨k,xs,hk,rfl,hxl,HWR,HSZ,HO,HD⟩:=hrel
  have hszr:=HWR.out.size
  have hszw:=HSZ.out
  have hBr:B≤wr.heap.size:=by omega
  by_cases hlt:k<fs.length
  ·have hkx:k<xs.length:=by omega
   obtain ⟨bp_,offp,rfl,hobp⟩:=(HL.out.keep HWR.out hB).base (zI _ _) hBr (by omega)
   obtain ⟨f,vs,hx,hlen,hcell,hr⟩:=(HL.out.keep HWR.out hB).at_ (zI _ _) hBr hlt
   have HF:=zE hr
   have HFE:Hid (fs[k]=f):=zE (by rw [List.getElem?_eq_getElem hlt] at hx;simpa using hx)
   have HFO:Hid (FcOk f):=zE (HOK.out f (List.mem_of_getElem? hx))
   obtain ⟨Af,cf,rfl,g1,g2,g3,g4,_⟩:=aO (show (ay (d+1)).rd wr B f vs from hr)
   have c0:wr.cell? ⟨bp_,offp+k*3,none⟩=some (.string f.pr.name):=hcell 0 _ rfl
   have c1:wr.cell? ⟨bp_,offp+k*3+1,none⟩=some (.slice Af f.pr.terms.length cf):=hcell 1 _ rfl
   have c2:wr.cell? ⟨bp_,offp+k*3+2,none⟩=some (.int .u32 f.o):=hcell 2 _ rfl
   clear hcell hlen hx hr g1 g2 g3 g4
   go_upto_region 5 with fail
   generalize hW:World.alloc _ _=w4
   obtain ⟨hb4,hz4⟩:=al1 hW
   have HBT4:=zE (n11 hW)
   have HW4:=zE hb4
   have hsz4:=hb4.size
   have hB4:B≤w4.heap.size:=by omega
   have HF4:=zE ((ay (d+1)).keep hb4 hBr HF.out)
   clear hW hb4 c0 c1 c2
   have hI0:(0:Int)≤(k:Int):=Int.natCast_nonneg _
   have hI1:(k:Int)<(fs.length:Int):=by omega
   have k_t:=HBT4.out.cell
   have l_t:=HBT4.out.lt
   go_wp2_with fail
   refine (jS (d:=d) (B:=B) (vf:=[_,_,_]) HF4.out HFO.out hB4).mono ?_
   rintro e w5 ⟨⟨A5,c5,rfl,how⟩,hb5⟩
   have HOW:=zE how
   have HB5:=zE hb5
   have HO5:=zE ((HO.out.later HW4.out (zH _)).later hb5 (zH _))
   obtain ⟨g9,c9,e9,h91,h92,h93,h94,h95,h96,h97⟩:=HO5.out.sh bA (by omega)
   simp only [Value.slice.injEq,Option.some.injEq,Addr.mk.injEq,and_true] at e9
   obtain ⟨rfl,-,-⟩:=e9
   obtain ⟨u0,q0⟩:∃u,w5.cell? ⟨w.heap.size,k*3,none⟩=some u:=⟨_,h95 k hkx 0 _ rfl⟩
   obtain ⟨u1,q1⟩:∃u,w5.cell? ⟨w.heap.size,k*3+1,none⟩=some u:=⟨_,h95 k hkx 1 _ rfl⟩
   obtain ⟨u2,q2⟩:∃u,w5.cell? ⟨w.heap.size,k*3+2,none⟩=some u:=⟨_,h95 k hkx 2 _ rfl⟩
   clear how hb5 h95 h97
   have hsz5:=HB5.out.size
   unfold fcV
   go_wp2_with fail
   clear q0 q1 q2 k_t l_t
   have hput:=zE (fv_put HO5.out hkx ⟨f,A5,c5⟩)
   go_roundw
   case rel=>exact ⟨k+1,xs.set k ⟨f,A5,c5⟩,by omega,by go_num,by rw [List.length_set];exact hxl,zE (below3 (ab (ab HWR.out HW4.out) HB5.out) (zG _) _ _ _),zE (by simp only [World.size_setCell];omega),hput,zE (fun i hi hi' hik=>by
    rw [List.length_set] at hi
    have hag:am (fun q=>q=w.heap.size) w5 (((w5.setCell ⟨w.heap.size,k*3,none⟩ (.string f.pr.name)).setCell ⟨w.heap.size,k*3+1,none⟩ (.slice A5 f.pr.terms.length c5)).setCell ⟨w.heap.size,k*3+2,none⟩ (.int .u32 f.o)):=agree3
    by_cases hii:i=k
    ·subst hii
     rw [List.getElem_set_self]
     exact ⟨HFE.out.symm,(HOW.out.stab (M:=fun q=>q<w4.heap.size) HFO.out (fun q h1 h2=>by omega)).next hag (fun q _ e=>by omega) (fun q _ h=>by omega)⟩
    ·rw [List.getElem_set_ne (Ne.symm hii)]
     obtain ⟨e1,e2⟩:=HD.out i hi hi' (by omega)
     exact ⟨e1,((e2.later HW4.out).later HB5.out).next hag (fun q _ e=>by omega) (fun q _ h=>h)⟩)⟩
   case measure=>simp [intOf];omega
  ·have hmap:Hid (xs.map FV.f=fs):=zE (List.ext_getElem (by simp [hxl]) fun i h1 h2=>by
    rw [List.getElem_map]
    exact (HD.out i (by simpa using h1) h2 (by omega)).1)
   go_wp2_with fail
   go_ret
   refine ⟨⟨xs,some ⟨w.heap.size,0,none⟩,fs.length,hmap.out,rfl,⟨by rw [hxl];exact HO.out,fun x hx=>?_⟩⟩,HWR.out⟩
   obtain ⟨i,hi,rfl⟩:=List.getElem_of_mem hx
   obtain ⟨e1,e2⟩:=HD.out i hi (by omega) (by omega)
   refine ⟨by rw [e1];exact HOK.out _ (List.getElem_mem _),e2.less fun q hq hm=>?_⟩
   rcases hm with hm | hm
   ·omega
   ·simp only [Value.ownBlock,Option.some.injEq] at hm
    omega
def pJ (n:Nat) (cs:Nat→Int):Nat:=(List.range n).findIdx (fun i=>!decide (cs i<0))
theorem wk {n:Nat} {cs:Nat→Int} {i:Nat} (h:i≤n) (h1:∀k,k<i→cs k<0) (h2:i<n→¬cs i<0):pJ n cs=i:=by
 unfold pJ
 rcases Nat.lt_or_ge i n with hlt | hge
 ·refine (List.findIdx_eq (by simpa using hlt)).2 ⟨by simpa using h2 hlt,fun j hj=>?_⟩
  simpa using h1 j hj
 ·obtain rfl:i=n:=by omega
  have:(List.range i).findIdx (fun i=>!decide (cs i<0))=(List.range i).length:=List.findIdx_eq_length.2 fun x hx=>by simpa using h1 x (List.mem_range.1 hx)
  rw [this,List.length_range]
theorem wl (n:Nat) (cs:Nat→Int):pJ n cs≤n:=by
 have:=List.findIdx_le_length (xs:=List.range n) (p:=fun i=>!decide (cs i<0))
 rwa [List.length_range] at this
theorem lI {n:Nat} {cs:Nat→Int} {k:Nat} (h:k<pJ n cs):cs k<0:=by
 have h1:=List.not_of_lt_findIdx h
 simpa using h1
theorem wj {n:Nat} {cs:Nat→Int} (h:pJ n cs<n):¬cs (pJ n cs)<0:=by
 intro hlt
 have h1:=List.findIdx_getElem (xs:=List.range n) (p:=fun i=>!decide (cs i<0)) (w:=by rw [List.length_range];exact h)
 have h2:0≤cs (pJ n cs):=by simpa [pJ] using h1
 omega
theorem uW:∀args (w:World),(callFunc 95 args).run Tryz.prog w=.ok (.enter 95 args) w:=ent Tryz.func95 (by kernel_rfl) rfl
theorem zc:∀args (w:World),(callFunc 90 args).run Tryz.prog w=.ok (.enter 90 args) w:=ent Tryz.func90 (by kernel_rfl) rfl
def dz (f:Fc) (name:ByteArray) (n:Int):Int:=orL [dO (bs f.pr.name) (bs name),eG f.pr.terms.length n]
theorem uy {d B G:Nat} {f:Fc} {vf:List Value} {name:ByteArray} {n:Int} {w:World} (hf:(ay (d+1)).rd w B f vf) (hG:Blk w G #[.string name]) (hB:B≤w.heap.size) :
 Calls Tryz.prog 90 #[.agg vf.toArray,.int .i64 n,.pointer (some ⟨G,0,none⟩)] w fun z w'=>z=.returned (.int .i64 (dz f name n))∧Below w.heap.size w w':=by
 obtain ⟨A,c,rfl,hs,h1,h2,h3,hl,ho⟩:=aO hf
 have HG:=zE hG
 clear hf hl ho hG
 go_enter Tryz.func90,Tryz.ntmps90
 go_upto_region 1 with fail
 generalize hW:World.alloc _ _=w1
 obtain ⟨hb,hz⟩:=al1 hW
 have HA1:=zE (n11 hW)
 have HG1:=zE (HG.out.later hb)
 have HU1:=zE hb
 clear hW hb
 have hsz:=HU1.out.size
 have HSL:Hid (∀{w':World},Below w1.heap.size w1 w'→(w'.cell? ⟨w.heap.size,0,none⟩=some (.string f.pr.name)∧w'.cell? ⟨w.heap.size,1,none⟩=some (.slice A f.pr.terms.length c)∧w'.cell? ⟨w.heap.size,2,none⟩=some (.int .u32 f.o)∧w'.cell? ⟨G,0,none⟩=some (.string name))):=zE (fun hb=>⟨(HA1.out.later hb).cell 0,(HA1.out.later hb).cell 1,(HA1.out.later hb).cell 2,(HG1.out.later hb).cell 0⟩)
 refine aQ (fun w'=>w'.cell? ⟨w.heap.size,0,none⟩=some (.string f.pr.name)∧w'.cell? ⟨w.heap.size,1,none⟩=some (.slice A f.pr.terms.length c)∧w'.cell? ⟨w.heap.size,2,none⟩=some (.int .u32 f.o)∧w'.cell? ⟨G,0,none⟩=some (.string name)) (by kernel_rfl) (HSL.out (zI _ _).drew) ?_
 refine aa 0 ?_
 refine aa 1 ?_
 refine aa 2 ?_
 refine aa 3 ?_
 refine aa 5 ?_
 refine aa 6 ?_
 refine aa 7 ?_
 refine aa 8 ?_
 refine aa 9 ?_
 generalize hD:World.drew w1=w2
 have HU:Hid (Below w1.heap.size w1 w2):=zE (hD▸(zI w1.heap.size w1).drew)
 clear hD
 refine aw (rs:=[4]) (by kernel_rfl) rfl ?_
 refine al.cons rfl (fun K hK=>?_) al.nil
 go_simp
 refine (cZ _ _ _).mono ?_
 rintro e w' ⟨rfl,rfl⟩
 refine hK.out _ _ (HSL.out HU.out) ?_
 clear hK
 refine aw (rs:=[10]) (by kernel_rfl) rfl ?_
 refine al.cons rfl (fun K hK=>?_) al.nil
 go_simp
 refine (dM _ _ _).mono ?_
 rintro e w' ⟨rfl,rfl⟩
 refine hK.out _ _ (HSL.out HU.out) ?_
 clear hK
 refine aw (rs:=[11]) (by kernel_rfl) rfl ?_
 refine al.cons rfl (fun K hK=>?_) al.nil
 go_simp
 generalize hW:World.alloc _ _=w4
 obtain ⟨hb4,hz4⟩:=al1 hW
 have HL4:=zE (n11 hW)
 have HU4:Hid (Below w1.heap.size w1 w4):=zE (HU.out.trans (hb4.mono HU.out.size))
 clear hW hb4
 refine hK.out _ _ (HSL.out HU4.out) ?_
 clear hK
 refine aw (rs:=[12]) (by kernel_rfl) rfl ?_
 refine al.cons rfl (fun K hK=>?_) al.nil
 go_simp
 refine (iS [dO (bs f.pr.name) (bs name),eG f.pr.terms.length n] w2.heap.size w4 (fun i hi=>by
  rw [HL4.out.cell i]
  match i,hi with
  | 0,_=>rfl
  | 1,_=>rfl) (by simp)).mono ?_
 rintro e w' ⟨rfl,rfl⟩
 refine hK.out _ _ (HSL.out HU4.out) ?_
 clear hK
 refine aa 13 ?_
 refine bZ (by kernel_rfl) ?_
 go_wp2_with fail
 go_ret
 exact ⟨aC rfl,HU1.out.trans (HU4.out.mono hsz)⟩
theorem kN {d e B c:Nat} {fs:List Fc} {t:Fc} {vt:List Value} {A:Option Addr} {w:World} (hl:RL (ay (d+1)) w B fs A) (ht:(ay (e+1)).rd w B t vt) (hok:∀f∈fs,FcOk f) (htn:t.pr.terms.length*40≤140737488351232) (hn:fs.length≤1000000) (hB:B≤w.heap.size)
 (cs:Nat→Int) (hcs:∀i (hi:i<fs.length),cs i=aW fs[i] t) (hmono:∀i j,i≤j→j<fs.length→cs j<0→cs i<0) :
 Calls Tryz.prog 94 #[.slice A fs.length c,.agg vt.toArray,.func (.func 95) #[] #[]] w fun z w'=>z=.returned (.tuple #[.int .i64 (pJ fs.length cs),.bool (decide (pJ fs.length cs<fs.length∧cs (pJ fs.length cs)=0))])∧Below w.heap.size w w':=by
 have HL:=zE hl
 have HOK:=zE hok
 have HCS:=zE hcs
 have HMO:=zE hmono
 have hen:=uW
 have HT:=zE ht
 obtain ⟨At,ct,rfl,_,_,_,_,_,_⟩:=aO ht
 clear hl hok hcs hmono ht
 go_enter Tryz.func94,Tryz.ntmps94
 go_upto_region 3 with fail
 generalize hW:World.alloc _ _=w1
 obtain ⟨hb1,hz⟩:=al1 hW
 have HBT:=zE (n11 hW)
 have HB1:=zE hb1
 have hsz1:=hb1.size
 clear hW hb1
 have hB1:B≤w1.heap.size:=by omega
 go_loopw [9,10] (fun u v wr=>∃i j:Nat,i≤j∧j≤fs.length∧u=.int .i64 i∧v=.int .i64 j∧Hid (∀k,k<i→cs k<0)∧Hid (∀k,j≤k→k<fs.length→¬cs k<0)∧Hid (Below w1.heap.size w1 wr)) (fun u v _=>(intOf v).toNat-(intOf u).toNat)
 case atStart=>exact ⟨0,fs.length,zH _,zG _,rfl,rfl,zE (fun k h=>absurd h (by omega)),zE (fun k h h2=>absurd h2 (by omega)),zE (zI _ _)⟩
 case round=>
  obtain ⟨i,j,hij,hj,rfl,rfl,HLO,HHI,HWR⟩:=hrel
  have hszr:=HWR.out.size
  have hBr:B≤wr.heap.size:=by omega
  have HBTr:=zE (HBT.out.later HWR.out)
  by_cases hlt:i<j
  ·obtain ⟨m,hm⟩:∃m:Nat,m=(i+j) / 2:=⟨_,rfl⟩
   have hml:m<fs.length:=by omega
   have hm1:(m:Int)<fs.length:=by omega
   have hm0:(0:Int)≤m:=Int.natCast_nonneg _
   go_upto_region 5 with fail
   have hmi:((i:Int)+j) / 2=m:=by omega
   rw [hmi]
   have HM:=zE hm
   clear hmi hm
   obtain ⟨bp_,offp,rfl,hobp⟩:=(HL.out.keep (HB1.out.trans (HWR.out.mono hsz1)) hB).base (zI _ _) hBr (by omega)
   obtain ⟨f,vs,hx,hlen,hcell,hr⟩:=(HL.out.keep (HB1.out.trans (HWR.out.mono hsz1)) hB).at_ (zI _ _) hBr hml
   have HF:=zE hr
   have HFE:Hid (fs[m]=f):=zE (by rw [List.getElem?_eq_getElem hml] at hx;simpa using hx)
   have HFO:Hid (FcOk f):=zE (HOK.out f (List.mem_of_getElem? hx))
   obtain ⟨Af,cf,rfl,g1,g2,g3,g4,_⟩:=aO (show (ay (d+1)).rd wr B f vs from hr)
   have HFC:Hid (∀w',Below wr.heap.size wr w'→w'.cell? ⟨bp_,offp+m*3,none⟩=some (.string f.pr.name)∧w'.cell? ⟨bp_,offp+m*3+1,none⟩=some (.slice Af f.pr.terms.length cf)∧w'.cell? ⟨bp_,offp+m*3+2,none⟩=some (.int .u32 f.o)):=zE (fun w' hb=>⟨(hb.cell (p:=⟨bp_,_,none⟩) hobp).trans (hcell 0 _ rfl),(hb.cell (p:=⟨bp_,_,none⟩) hobp).trans (hcell 1 _ rfl),(hb.cell (p:=⟨bp_,_,none⟩) hobp).trans (hcell 2 _ rfl)⟩)
   have hf8:f.pr.terms.length≤8:=HFO.out.few
   clear hcell hlen hx hr g1 g2 g3 g4
   have HE:Hid (cs m=aW f t):=zE (by rw [HCS.out m hml,HFE.out])
   have HSL:Hid (∀{w':World},Below wr.heap.size wr w'→(w'.cell? ⟨bp_,offp+m*3,none⟩=some (.string f.pr.name)∧w'.cell? ⟨bp_,offp+m*3+1,none⟩=some (.slice Af f.pr.terms.length cf)∧w'.cell? ⟨bp_,offp+m*3+2,none⟩=some (.int .u32 f.o)∧w'.cell? ⟨w.heap.size,0,none⟩=some (.string t.pr.name)∧w'.cell? ⟨w.heap.size,1,none⟩=some (.slice At t.pr.terms.length ct)∧w'.cell? ⟨w.heap.size,2,none⟩=some (.int .u32 t.o))):=zE (fun hb=>have h:=HFC.out _ hb;⟨h.1,h.2.1,h.2.2,(HBTr.out.later hb).cell 0,(HBTr.out.later hb).cell 1,(HBTr.out.later hb).cell 2⟩)
   refine aQ (fun w'=>w'.cell? ⟨bp_,offp+m*3,none⟩=some (.string f.pr.name)∧w'.cell? ⟨bp_,offp+m*3+1,none⟩=some (.slice Af f.pr.terms.length cf)∧w'.cell? ⟨bp_,offp+m*3+2,none⟩=some (.int .u32 f.o)∧w'.cell? ⟨w.heap.size,0,none⟩=some (.string t.pr.name)∧w'.cell? ⟨w.heap.size,1,none⟩=some (.slice At t.pr.terms.length ct)∧w'.cell? ⟨w.heap.size,2,none⟩=some (.int .u32 t.o)) (by kernel_rfl) (HSL.out (zI _ _).drew) ?_
   refine aa 0 ?_
   refine aa 1 ?_
   refine aa 2 ?_
   refine aa 3 ?_
   refine aa 4 ?_
   refine aa 5 ?_
   generalize hD:World.drew wr=w2
   have HU:Hid (Below wr.heap.size wr w2):=zE (hD▸(zI wr.heap.size wr).drew)
   clear hD
   refine aw (rs:=[6]) (by kernel_rfl) rfl ?_
   refine al.cons rfl (fun K hK=>?_) al.nil
   go_simp
   refine (cN (d:=d+1) (e:=e+1) (B:=B) (a:=f) (b:=t) (va:=[_,_,_]) (vb:=[_,_,_]) ((ay (d+1)).keep HU.out hBr HF.out) ((ay (e+1)).keep (HB1.out.trans ((HWR.out.trans (HU.out.mono hszr)).mono hsz1)) hB HT.out) (by omega) htn (zF hBr HU.out.size)).mono ?_
   rintro e w7 ⟨rfl,hb7⟩
   have HW7:Hid (Below w1.heap.size w1 w7):=zE (HWR.out.trans ((HU.out.trans (hb7.mono HU.out.size)).mono hszr))
   have HX7:Hid (Below wr.heap.size wr w7):=zE (HU.out.trans (hb7.mono HU.out.size))
   clear hb7
   refine hK.out _ _ (HSL.out HX7.out) ?_
   clear hK
   refine aa 7 ?_
   refine bZ (by kernel_rfl) ?_
   by_cases hneg:cs m<0
   ·have HN:=zE hneg
    rw [HE.out] at hneg
    have hneg':decide (aW f t<0)=true:=by simpa using hneg
    generalize hgc:aW f t=r at *
    clear hgc
    go_wp2_with fail
    go_roundw
    case rel=>exact ⟨m+1,j,by have:=HM.out;omega,hj,by go_num,rfl,zE (fun k h=>by
     rcases Nat.lt_or_ge k m with h1 | h1
     ·exact HMO.out k m (by omega) hml HN.out
     ·obtain rfl:k=m:=by omega
      exact HN.out),zE (fun k h h2=>by have:=HHI.out k h h2;omega),HW7⟩
    case measure=>have:=HM.out;simp [intOf];omega
   ·have HN:=zE hneg
    rw [HE.out] at hneg
    have hneg':decide (aW f t<0)=false:=by simpa using hneg
    generalize hgc:aW f t=r at *
    clear hgc
    go_wp2_with fail
    go_roundw
    case rel=>exact ⟨i,m,by have:=HM.out;omega,by omega,rfl,by go_num,HLO,zE (fun k h h2=>by have h4:=HMO.out m k h h2;have h5:=HN.out;omega),HW7⟩
    case measure=>have:=HM.out;simp [intOf];omega
  ·obtain rfl:i=j:=by omega
   have HP:=zE (wk (cs:=cs) hj HLO.out (fun h=>by have:=HHI.out i (zG _) h;omega))
   by_cases hin:i<fs.length
   ·have hml:=hin
    have hm1:(i:Int)<fs.length:=by omega
    have hm0:(0:Int)≤i:=Int.natCast_nonneg _
    obtain ⟨bp_,offp,rfl,hobp⟩:=(HL.out.keep (HB1.out.trans (HWR.out.mono hsz1)) hB).base (zI _ _) hBr (by omega)
    obtain ⟨f,vs,hx,hlen,hcell,hr⟩:=(HL.out.keep (HB1.out.trans (HWR.out.mono hsz1)) hB).at_ (zI _ _) hBr hml
    have HF:=zE hr
    have HFE:Hid (fs[i]=f):=zE (by rw [List.getElem?_eq_getElem hml] at hx;simpa using hx)
    have HFO:Hid (FcOk f):=zE (HOK.out f (List.mem_of_getElem? hx))
    obtain ⟨Af,cf,rfl,g1,g2,g3,g4,_⟩:=aO (show (ay (d+1)).rd wr B f vs from hr)
    have HFC:Hid (∀w',Below wr.heap.size wr w'→w'.cell? ⟨bp_,offp+i*3,none⟩=some (.string f.pr.name)∧w'.cell? ⟨bp_,offp+i*3+1,none⟩=some (.slice Af f.pr.terms.length cf)∧w'.cell? ⟨bp_,offp+i*3+2,none⟩=some (.int .u32 f.o)):=zE (fun w' hb=>⟨(hb.cell (p:=⟨bp_,_,none⟩) hobp).trans (hcell 0 _ rfl),(hb.cell (p:=⟨bp_,_,none⟩) hobp).trans (hcell 1 _ rfl),(hb.cell (p:=⟨bp_,_,none⟩) hobp).trans (hcell 2 _ rfl)⟩)
    have hf8:f.pr.terms.length≤8:=HFO.out.few
    clear hcell hlen hx hr g1 g2 g3 g4
    have HE:Hid (cs i=aW f t):=zE (by rw [HCS.out i hml,HFE.out])
    go_upto_region 8 with fail
    have HSL:Hid (∀{w':World},Below wr.heap.size wr w'→(w'.cell? ⟨bp_,offp+i*3,none⟩=some (.string f.pr.name)∧w'.cell? ⟨bp_,offp+i*3+1,none⟩=some (.slice Af f.pr.terms.length cf)∧w'.cell? ⟨bp_,offp+i*3+2,none⟩=some (.int .u32 f.o)∧w'.cell? ⟨w.heap.size,0,none⟩=some (.string t.pr.name)∧w'.cell? ⟨w.heap.size,1,none⟩=some (.slice At t.pr.terms.length ct)∧w'.cell? ⟨w.heap.size,2,none⟩=some (.int .u32 t.o))):=zE (fun hb=>have h:=HFC.out _ hb;⟨h.1,h.2.1,h.2.2,(HBTr.out.later hb).cell 0,(HBTr.out.later hb).cell 1,(HBTr.out.later hb).cell 2⟩)
    refine aQ (fun w'=>w'.cell? ⟨bp_,offp+i*3,none⟩=some (.string f.pr.name)∧w'.cell? ⟨bp_,offp+i*3+1,none⟩=some (.slice Af f.pr.terms.length cf)∧w'.cell? ⟨bp_,offp+i*3+2,none⟩=some (.int .u32 f.o)∧w'.cell? ⟨w.heap.size,0,none⟩=some (.string t.pr.name)∧w'.cell? ⟨w.heap.size,1,none⟩=some (.slice At t.pr.terms.length ct)∧w'.cell? ⟨w.heap.size,2,none⟩=some (.int .u32 t.o)) (by kernel_rfl) (HSL.out (zI _ _).drew) ?_
    refine aa 0 ?_ (by simp only [List.getElem?_toArray,List.getElem?_cons_succ,List.getElem?_cons_zero];rfl)
    (try simp only [Act.put,List.setIfInBounds_toArray,List.set_cons_zero,List.set_cons_succ])
    refine aa 1 ?_ (by simp only [List.getElem?_toArray,List.getElem?_cons_succ,List.getElem?_cons_zero];rfl)
    (try simp only [Act.put,List.setIfInBounds_toArray,List.set_cons_zero,List.set_cons_succ])
    refine aa 2 ?_ (by simp only [List.getElem?_toArray,List.getElem?_cons_succ,List.getElem?_cons_zero];rfl)
    (try simp only [Act.put,List.setIfInBounds_toArray,List.set_cons_zero,List.set_cons_succ])
    refine aa 3 ?_ (by simp only [List.getElem?_toArray,List.getElem?_cons_succ,List.getElem?_cons_zero];rfl)
    (try simp only [Act.put,List.setIfInBounds_toArray,List.set_cons_zero,List.set_cons_succ])
    refine aa 4 ?_ (by simp only [List.getElem?_toArray,List.getElem?_cons_succ,List.getElem?_cons_zero];rfl)
    (try simp only [Act.put,List.setIfInBounds_toArray,List.set_cons_zero,List.set_cons_succ])
    refine aa 5 ?_ (by simp only [List.getElem?_toArray,List.getElem?_cons_succ,List.getElem?_cons_zero];rfl)
    (try simp only [Act.put,List.setIfInBounds_toArray,List.set_cons_zero,List.set_cons_succ])
    refine aa 6 ?_ (by simp only [List.getElem?_toArray,List.getElem?_cons_succ,List.getElem?_cons_zero];rfl)
    (try simp only [Act.put,List.setIfInBounds_toArray,List.set_cons_zero,List.set_cons_succ])
    refine aa 7 ?_ (by simp only [List.getElem?_toArray,List.getElem?_cons_succ,List.getElem?_cons_zero];rfl)
    (try simp only [Act.put,List.setIfInBounds_toArray,List.set_cons_zero,List.set_cons_succ])
    refine aa 8 ?_ (by simp only [List.getElem?_toArray,List.getElem?_cons_succ,List.getElem?_cons_zero];rfl)
    (try simp only [Act.put,List.setIfInBounds_toArray,List.set_cons_zero,List.set_cons_succ])
    refine aa 9 ?_ (by simp only [List.getElem?_toArray,List.getElem?_cons_succ,List.getElem?_cons_zero];rfl)
    (try simp only [Act.put,List.setIfInBounds_toArray,List.set_cons_zero,List.set_cons_succ])
    refine aa 10 ?_ (by simp only [List.getElem?_toArray,List.getElem?_cons_succ,List.getElem?_cons_zero];rfl)
    (try simp only [Act.put,List.setIfInBounds_toArray,List.set_cons_zero,List.set_cons_succ])
    generalize hD:World.drew wr=w2
    have HU:Hid (Below wr.heap.size wr w2):=zE (hD▸(zI wr.heap.size wr).drew)
    clear hD
    refine aw (rs:=[11]) (by kernel_rfl) rfl ?_
    refine al.cons (by simp only [List.getElem?_toArray,List.getElem?_cons_succ,List.getElem?_cons_zero];rfl) (fun K hK=>?_) al.nil
    go_simp
    refine (cN (d:=d+1) (e:=e+1) (B:=B) (a:=f) (b:=t) (va:=[_,_,_]) (vb:=[_,_,_]) ((ay (d+1)).keep HU.out hBr HF.out) ((ay (e+1)).keep (HB1.out.trans ((HWR.out.trans (HU.out.mono hszr)).mono hsz1)) hB HT.out) (by omega) htn (zF hBr HU.out.size)).mono ?_
    rintro e w7 ⟨rfl,hb7⟩
    have HW7:Hid (Below w1.heap.size w1 w7):=zE (HWR.out.trans ((HU.out.trans (hb7.mono HU.out.size)).mono hszr))
    have HX7:Hid (Below wr.heap.size wr w7):=zE (HU.out.trans (hb7.mono HU.out.size))
    clear hb7
    refine hK.out _ _ (HSL.out HX7.out) ?_
    clear hK
    (try simp only [Act.put,List.setIfInBounds_toArray,List.set_cons_zero,List.set_cons_succ])
    refine aa 12 ?_ (by simp only [List.getElem?_toArray,List.getElem?_cons_succ,List.getElem?_cons_zero];rfl)
    (try simp only [Act.put,List.setIfInBounds_toArray,List.set_cons_zero,List.set_cons_succ])
    refine aa 13 ?_ (by simp only [List.getElem?_toArray,List.getElem?_cons_succ,List.getElem?_cons_zero];rfl)
    (try simp only [Act.put,List.setIfInBounds_toArray,List.set_cons_zero,List.set_cons_succ])
    refine aa 14 ?_ (by simp only [List.getElem?_toArray,List.getElem?_cons_succ,List.getElem?_cons_zero];rfl)
    (try simp only [Act.put,List.setIfInBounds_toArray,List.set_cons_zero,List.set_cons_succ])
    refine aa 15 ?_ (by simp only [List.getElem?_toArray,List.getElem?_cons_succ,List.getElem?_cons_zero];rfl)
    (try simp only [Act.put,List.setIfInBounds_toArray,List.set_cons_zero,List.set_cons_succ])
    refine bZ (by kernel_rfl) ?_
    have HQ:Hid ((decide (i<fs.length)&&decide (cs i=0))=(aW f t==0)):=zE (Bool.eq_iff_iff.2 (by rw [HE.out];simp [hin]))
    generalize hgc:aW f t=r at *
    go_wp2_with fail
    go_ret2
    refine ⟨jW (by rw [HP.out]) (by rw [HP.out];first | rw [HQ.out] | rw [Bool.decide_and,HQ.out]),HB1.out.trans (HW7.out.mono hsz1)⟩
   ·go_upto_region 8 with fail
    have hi2:i=fs.length:=by omega
    have hgd:decide ((i:Int)<(fs.length:Int))=false:=by simp;omega
    refine wp_region_quiet_below (by kernel_rfl) (by kernel_rfl) ?_
    repeat (go_big_quiet_step (fail))
    refine wpQuiet_nil ?_
    intro w9 hw_
    have hb:Below wr.heap.size wr w9:=by obtain ⟨p_,rfl⟩:=hw_;exact below_regrown _ _ _
    clear hw_
    go_wp2_with fail
    go_ret2
    have hf:decide (i<fs.length)=false:=decide_eq_false (by omega)
    exact ⟨jW (by rw [HP.out];omega) (by rw [HP.out];first | rw [hf,Bool.false_and] | rw [Bool.decide_and,hf,Bool.false_and]),HB1.out.trans ((HWR.out.trans (hb.mono hszr)).mono hsz1)⟩
theorem sO {d B c G:Nat} {fs:List Fc} {name:ByteArray} {n:Int} {A:Option Addr} {w:World} (hl:RL (ay (d+1)) w B fs A) (hG:Blk w G #[.string name]) (hok:∀f∈fs,FcOk f) (hn:fs.length≤1000000) (hB:B≤w.heap.size)
 (cs:Nat→Int) (hcs:∀i (hi:i<fs.length),cs i=dz fs[i] name n) (hmono:∀i j,i≤j→j<fs.length→cs j<0→cs i<0) :
 Calls Tryz.prog 93 #[.slice A fs.length c,.int .i64 n,.func (.func 90) #[] #[.pointer (some ⟨G,0,none⟩)]] w fun z w'=>z=.returned (.tuple #[.int .i64 (pJ fs.length cs),.bool (decide (pJ fs.length cs<fs.length∧cs (pJ fs.length cs)=0))])∧Below w.heap.size w w':=by
 have HL:=zE hl
 have HOK:=zE hok
 have HCS:=zE hcs
 have HMO:=zE hmono
 have hen:=zc
 have HG:=zE hG
 clear hl hok hcs hmono hG
 go_enter Tryz.func93,Tryz.ntmps93
 go_upto_region 3 with fail
 obtain ⟨w1,hw1⟩:∃w1,w1=w:=⟨_,rfl⟩
 have HB1:Hid (Below w.heap.size w w1):=zE (hw1▸zI _ _)
 have HBT:Hid (Blk w1 G #[.string name]):=zE (hw1▸HG.out)
 rw [←hw1]
 have hsz1:=HB1.out.size
 have hB1:B≤w1.heap.size:=by omega
 clear hw1
 go_loopw [9,10] (fun u v wr=>∃i j:Nat,i≤j∧j≤fs.length∧u=.int .i64 i∧v=.int .i64 j∧Hid (∀k,k<i→cs k<0)∧Hid (∀k,j≤k→k<fs.length→¬cs k<0)∧Hid (Below w1.heap.size w1 wr)) (fun u v _=>(intOf v).toNat-(intOf u).toNat)
 case atStart=>exact ⟨0,fs.length,zH _,zG _,rfl,rfl,zE (fun k h=>absurd h (by omega)),zE (fun k h h2=>absurd h2 (by omega)),zE (zI _ _)⟩
 case round=>
  obtain ⟨i,j,hij,hj,rfl,rfl,HLO,HHI,HWR⟩:=hrel
  have hszr:=HWR.out.size
  have hBr:B≤wr.heap.size:=by omega
  have HBTr:=zE (HBT.out.later HWR.out)
  by_cases hlt:i<j
  ·obtain ⟨m,hm⟩:∃m:Nat,m=(i+j) / 2:=⟨_,rfl⟩
   have hml:m<fs.length:=by omega
   have hm1:(m:Int)<fs.length:=by omega
   have hm0:(0:Int)≤m:=Int.natCast_nonneg _
   go_upto_region 5 with fail
   have hmi:((i:Int)+j) / 2=m:=by omega
   rw [hmi]
   have HM:=zE hm
   clear hmi hm
   obtain ⟨bp_,offp,rfl,hobp⟩:=(HL.out.keep (HB1.out.trans (HWR.out.mono hsz1)) hB).base (zI _ _) hBr (by omega)
   obtain ⟨f,vs,hx,hlen,hcell,hr⟩:=(HL.out.keep (HB1.out.trans (HWR.out.mono hsz1)) hB).at_ (zI _ _) hBr hml
   have HF:=zE hr
   have HFE:Hid (fs[m]=f):=zE (by rw [List.getElem?_eq_getElem hml] at hx;simpa using hx)
   have HFO:Hid (FcOk f):=zE (HOK.out f (List.mem_of_getElem? hx))
   obtain ⟨Af,cf,rfl,g1,g2,g3,g4,_⟩:=aO (show (ay (d+1)).rd wr B f vs from hr)
   have HFC:Hid (∀w',Below wr.heap.size wr w'→w'.cell? ⟨bp_,offp+m*3,none⟩=some (.string f.pr.name)∧w'.cell? ⟨bp_,offp+m*3+1,none⟩=some (.slice Af f.pr.terms.length cf)∧w'.cell? ⟨bp_,offp+m*3+2,none⟩=some (.int .u32 f.o)):=zE (fun w' hb=>⟨(hb.cell (p:=⟨bp_,_,none⟩) hobp).trans (hcell 0 _ rfl),(hb.cell (p:=⟨bp_,_,none⟩) hobp).trans (hcell 1 _ rfl),(hb.cell (p:=⟨bp_,_,none⟩) hobp).trans (hcell 2 _ rfl)⟩)
   have hf8:f.pr.terms.length≤8:=HFO.out.few
   clear hcell hlen hx hr g1 g2 g3 g4
   have HE:Hid (cs m=dz f name n):=zE (by rw [HCS.out m hml,HFE.out])
   obtain ⟨c0,c1,c2⟩:=HFC.out wr (zI _ _)
   go_wp2_with fail
   refine (uy (d:=d) (B:=B) (f:=f) (vf:=[_,_,_]) (name:=name) (n:=n) HF.out HBTr.out hBr).mono ?_
   rintro e w7 ⟨rfl,hb7⟩
   have HW7:Hid (Below w1.heap.size w1 w7):=zE (HWR.out.trans (hb7.mono hszr))
   clear hb7 c0 c1 c2
   by_cases hneg:cs m<0
   ·have HN:=zE hneg
    rw [HE.out] at hneg
    have hneg':decide (dz f name n<0)=true:=by simpa using hneg
    generalize hgc:dz f name n=r at *
    clear hgc
    go_wp2_with fail
    go_roundw
    case rel=>exact ⟨m+1,j,by have:=HM.out;omega,hj,by go_num,rfl,zE (fun k h=>by
     rcases Nat.lt_or_ge k m with h1 | h1
     ·exact HMO.out k m (by omega) hml HN.out
     ·obtain rfl:k=m:=by omega
      exact HN.out),zE (fun k h h2=>by have:=HHI.out k h h2;omega),HW7⟩
    case measure=>have:=HM.out;simp [intOf];omega
   ·have HN:=zE hneg
    rw [HE.out] at hneg
    have hneg':decide (dz f name n<0)=false:=by simpa using hneg
    generalize hgc:dz f name n=r at *
    clear hgc
    go_wp2_with fail
    go_roundw
    case rel=>exact ⟨i,m,by have:=HM.out;omega,by omega,rfl,by go_num,HLO,zE (fun k h h2=>by have h4:=HMO.out m k h h2;have h5:=HN.out;omega),HW7⟩
    case measure=>have:=HM.out;simp [intOf];omega
  ·obtain rfl:i=j:=by omega
   have HP:=zE (wk (cs:=cs) hj HLO.out (fun h=>by have:=HHI.out i (zG _) h;omega))
   by_cases hin:i<fs.length
   ·have hml:=hin
    have hm1:(i:Int)<fs.length:=by omega
    have hm0:(0:Int)≤i:=Int.natCast_nonneg _
    obtain ⟨bp_,offp,rfl,hobp⟩:=(HL.out.keep (HB1.out.trans (HWR.out.mono hsz1)) hB).base (zI _ _) hBr (by omega)
    obtain ⟨f,vs,hx,hlen,hcell,hr⟩:=(HL.out.keep (HB1.out.trans (HWR.out.mono hsz1)) hB).at_ (zI _ _) hBr hml
    have HF:=zE hr
    have HFE:Hid (fs[i]=f):=zE (by rw [List.getElem?_eq_getElem hml] at hx;simpa using hx)
    have HFO:Hid (FcOk f):=zE (HOK.out f (List.mem_of_getElem? hx))
    obtain ⟨Af,cf,rfl,g1,g2,g3,g4,_⟩:=aO (show (ay (d+1)).rd wr B f vs from hr)
    have HFC:Hid (∀w',Below wr.heap.size wr w'→w'.cell? ⟨bp_,offp+i*3,none⟩=some (.string f.pr.name)∧w'.cell? ⟨bp_,offp+i*3+1,none⟩=some (.slice Af f.pr.terms.length cf)∧w'.cell? ⟨bp_,offp+i*3+2,none⟩=some (.int .u32 f.o)):=zE (fun w' hb=>⟨(hb.cell (p:=⟨bp_,_,none⟩) hobp).trans (hcell 0 _ rfl),(hb.cell (p:=⟨bp_,_,none⟩) hobp).trans (hcell 1 _ rfl),(hb.cell (p:=⟨bp_,_,none⟩) hobp).trans (hcell 2 _ rfl)⟩)
    have hf8:f.pr.terms.length≤8:=HFO.out.few
    clear hcell hlen hx hr g1 g2 g3 g4
    have HE:Hid (cs i=dz f name n):=zE (by rw [HCS.out i hml,HFE.out])
    go_upto_region 8 with fail
    obtain ⟨c0,c1,c2⟩:=HFC.out wr (zI _ _)
    go_wp2_with fail
    refine (uy (d:=d) (B:=B) (f:=f) (vf:=[_,_,_]) (name:=name) (n:=n) HF.out HBTr.out hBr).mono ?_
    rintro e w7 ⟨rfl,hb7⟩
    have HW7:Hid (Below w1.heap.size w1 w7):=zE (HWR.out.trans (hb7.mono hszr))
    clear hb7 c0 c1 c2
    have HQ:Hid ((decide (i<fs.length)&&decide (cs i=0))=(dz f name n==0)):=zE (Bool.eq_iff_iff.2 (by rw [HE.out];simp [hin]))
    generalize hgc:dz f name n=r at *
    go_wp2_with fail
    go_ret2
    refine ⟨jW (by rw [HP.out]) (by rw [HP.out];first | rw [HQ.out] | rw [Bool.decide_and,HQ.out]),HB1.out.trans (HW7.out.mono hsz1)⟩
   ·go_upto_region 8 with fail
    have hi2:i=fs.length:=by omega
    have hgd:decide ((i:Int)<(fs.length:Int))=false:=by simp;omega
    have hb:=zI wr.heap.size wr
    go_wp2_with fail
    go_ret2
    have hf:decide (i<fs.length)=false:=decide_eq_false (by omega)
    exact ⟨jW (by rw [HP.out];omega) (by rw [HP.out];first | rw [hf,Bool.false_and] | rw [Bool.decide_and,hf,Bool.false_and]),HB1.out.trans ((HWR.out.trans (hb.mono hszr)).mono hsz1)⟩
end Go.Proofs.YtdphibjibnffeaaGreat
