/- Rows of facts; store.all. -/
import Derived.Test.YtjpndglegpcdnaaGreatFc2
import Derived.Laws.OwnMore
set_option linter.unusedVariables false
set_option linter.unusedSimpArgs false
set_option maxRecDepth 100000
set_option maxHeartbeats 8000000
namespace Go.Proofs.YtjpndglegpcdnaaGreat
open Go.ChangeShapes Go.WideShapes Go.ChangeAt Go.RowKit
structure FV where
 f:Fc
 a:Option Addr
 c:Nat
def FV.cs (x:FV):List Value:=fcV x.f x.a x.c
def FvR:Reader FV where
 k:=3
 rd:=fun _ _ x vs=>vs=x.cs
 keep:=fun _ _ h=>h
 wide:=fun _ h=>h
 len:=fun h=>by rw [h];rfl
theorem bQ:dz FvR:=fun {w B x vs} h u hu=>by
 have h:vs=x.cs:=h
 subst h
 simp only [FV.cs,fcV,List.mem_cons,List.not_mem_nil,or_false] at hu
 rcases hu with rfl | rfl | rfl<;>rfl
theorem bm:Shallow FvR FV.cs:=⟨Iff.rfl,fun _=>rfl⟩
theorem eR:(Tryz.prog.info? 33).map (fun i=>(i.zero,i.size,i.bytes))=some (some (.agg #[.string ⟨#[]⟩,.slice none 0 0,.int .u32 0]),3,48):=by kernel_rfl
def cU:FV:=⟨⟨⟨⟨#[]⟩,[]⟩,0⟩,none,0⟩
theorem wK {cs:Array Value} {n q:Nat} (h:q<n):(madeCells cs n).toList[q]? = some (cs[q % cs.size]!):=by
 have hs:q<(madeCells cs n).toList.length:=by rw [yA,size_madeCells];exact h
 rw [yy hs]
 simp [madeCells]
theorem sk {cs:Array Value} {k n i:Nat} (hk:cs.size=k) (h0:0<k) (hi:i<n):((madeCells cs (n*k)).toList.drop (i*k)).take k=cs.toList:=by
 have hle:(i+1)*k≤n*k:=Nat.mul_le_mul_right _ hi
 rw [Nat.add_mul] at hle
 apply List.ext_getElem?
 intro j
 rw [List.getElem?_take]
 split
 ·rename_i hj
  have e:(i*k+j) % cs.size=j:=by rw [hk,Nat.mul_comm,Nat.mul_add_mod,Nat.mod_eq_of_lt hj]
  rw [List.getElem?_drop,wK (by omega),e,yy (by rw [yA];omega),getElem!_pos cs j (by omega)]
  simp
 ·rename_i hj
  rw [List.getElem?_eq_none (by rw [yA];omega)]
theorem am.made {α:Type} {R:Reader α} {enc:α→List Value} (hs:Shallow R enc) {cs:Array Value} {x0:α} {w:World} {b base n:Nat} {T:TypeId} (hx:enc x0=cs.toList) (h0:0<R.k) (h:bN w b (madeCells cs (n*R.k)) T) (hb:base≤b) (hn:n≤maxLen):am R T w base 0 (.slice (some ⟨b,0,none⟩) n n) (List.replicate n x0):=by
 have hk:cs.size=R.k:=by rw [←yA,←hx,hs.len]
 refine bN.own (cells:=(madeCells cs (n*R.k)).toList) h ⟨by rw [yA,size_madeCells,List.length_replicate],fun i hi=>?_⟩ hb (List.length_replicate ..) hn
 rw [List.length_replicate] at hi
 rw [hs.iff,sk hk h0 hi,List.getElem_replicate,hx]
theorem wM (n:Nat) (hn:n≤1000000) (w:World):(Instr.makeSlice 23 (.int .i64 (n:Int)) (.int .i64 (n:Int))).run Tryz.prog w=.ok (.slice (some ⟨w.heap.size,0,none⟩) n n) (w.alloc (.cells (madeCells #[.string ⟨#[]⟩,.slice none 0 0,.int .u32 0] (n*3)) 33)):=by
 obtain ⟨i0,hi0,hz0,hz1,hz2⟩:=info_parts eR
 have hr:=run_make (P:=Tryz.prog) w 23 33 i0 _ Tryz.underlying23 hi0 hz0 .i64 .i64 n n (by omega) (Int.le_refl _) (by rw [hz2];omega) (by omega)
 simp only [Int.toNat_natCast] at hr
 rw [hz1] at hr
 rw [hr]
 rfl
theorem below3 {w w2:World} {B g:Nat} (h:Below B w w2) (hg:B≤g) {i0 i1 i2:Nat} (v0 v1 v2:Value):Below B w (((w2.setCell ⟨g,i0,none⟩ v0).setCell ⟨g,i1,none⟩ v1).setCell ⟨g,i2,none⟩ v2):=((h.setCell (p:=⟨g,i0,none⟩) hg v0).setCell (p:=⟨g,i1,none⟩) hg v1).setCell (p:=⟨g,i2,none⟩) hg v2
theorem agree3 {w:World} {g i0 i1 i2:Nat} {v0 v1 v2:Value}:ak (fun q=>q=g) w (((w.setCell ⟨g,i0,none⟩ v0).setCell ⟨g,i1,none⟩ v1).setCell ⟨g,i2,none⟩ v2):=
 ak.set_ (ak.set_ (ak.set_ (ak.refl (fun q=>q=g) w) (fun _=>(rfl:g=g)) i0 v0) (fun _=>(rfl:g=g)) i1 v1) (fun _=>(rfl:g=g)) i2 v2
theorem fv_put {w:World} {base n c g i:Nat} {xs:List FV} (h:am FvR 33 w base 0 (.slice (some ⟨g,0,none⟩) n c) xs) (hi:i<xs.length) (y:FV) :
 am FvR 33 (((w.setCell ⟨g,i*3,none⟩ (.string y.f.pr.name)).setCell ⟨g,i*3+1,none⟩ (.slice y.a y.f.pr.terms.length y.c)).setCell ⟨g,i*3+2,none⟩ (.int .u32 y.f.o)) base 0 (.slice (some ⟨g,0,none⟩) n c) (xs.set i y):=by
 have hx:0<xs.length:=by omega
 obtain ⟨g1,c1,e1,_,_,_,_,_,_,p1⟩:=h.sh bm hx
 simp only [yB,yz,Addr.mk.injEq,and_true] at e1
 obtain ⟨rfl,rfl,rfl⟩:=e1
 have h1:=p1 i hi 0 (.string y.f.pr.name) ⟨⟨⟨y.f.pr.name,xs[i].f.pr.terms⟩,xs[i].f.o⟩,xs[i].a,xs[i].c⟩ (by show 0<3;omega) rfl
 have hl1:i<(xs.set i ⟨⟨⟨y.f.pr.name,xs[i].f.pr.terms⟩,xs[i].f.o⟩,xs[i].a,xs[i].c⟩).length:=by rw [List.length_set];exact hi
 obtain ⟨g2,c2,e2,_,_,_,_,_,_,p2⟩:=h1.sh bm (by omega)
 simp only [yB,yz,Addr.mk.injEq,and_true] at e2
 obtain ⟨rfl,_,rfl⟩:=e2
 have h2:=p2 i hl1 1 (.slice y.a y.f.pr.terms.length y.c) ⟨⟨⟨y.f.pr.name,y.f.pr.terms⟩,xs[i].f.o⟩,y.a,y.c⟩ (by show 1<3;omega) (by rw [List.getElem_set_self];rfl)
 rw [List.set_set] at h2
 have hl2:i<(xs.set i ⟨⟨⟨y.f.pr.name,y.f.pr.terms⟩,xs[i].f.o⟩,y.a,y.c⟩).length:=by rw [List.length_set];exact hi
 obtain ⟨g3,c3,e3,_,_,_,_,_,_,p3⟩:=h2.sh bm (by omega)
 simp only [yB,yz,Addr.mk.injEq,and_true] at e3
 obtain ⟨rfl,_,rfl⟩:=e3
 have h3:=p3 i hl2 2 (.int .u32 y.f.o) y (by show 2<3;omega) (by rw [List.getElem_set_self];rfl)
 rw [List.set_set] at h3
 exact h3
structure FRow (base d:Nat) (w:World) (xs:List FV) (A:Option Addr) (c:Nat):Prop where
 own:am FvR 33 w base 0 (.slice A xs.length c) xs
 deep:∀x∈xs,FcOk x.f∧fl (fun k=>k<base∨(Value.slice A xs.length c).ownBlock=some k) w (fun w'=>(aC (d+1)).rd w' w'.heap.size x.f x.cs)
theorem FRow.agree {base d c:Nat} {w w':World} {xs:List FV} {A:Option Addr} {M:Nat→Prop} (h:FRow base d w xs A c) (ha:ak M w w') (hM:∀k,k<w.heap.size→M k→k<base):FRow base d w' xs A c:=
 ⟨h.own.agree ha (fun k hk hm=>by have h1:=(h.own.lt k hk);have h2:=hM k h1.2 hm;omega),fun x hx=>⟨(h.deep x hx).1,(h.deep x hx).2.next (M:=_) ha (fun k hk hm=>.inl (hM k hk hm)) (fun k hk hm=>hm)⟩⟩
theorem FRow.rl {base d c:Nat} {w:World} {xs:List FV} {A:Option Addr} (h:FRow base d w xs A c) (hn:xs.length≤1000000):RSl (aC (d+1)) w w.heap.size (xs.map FV.f) (.slice A xs.length c):=by
 obtain ⟨A3,c3,e3,h1,h2,r3⟩:=h.own.reads (yp _) (by show xs.length*(8*3)≤_;omega)
 simp only [yB] at e3
 obtain ⟨rfl,_,rfl⟩:=e3
 refine ⟨A,c,by rw [yw],by rw [yw];exact h1,⟨by rw [yw];show xs.length*(8*3)≤_;omega,h2.2⟩,?_⟩
 intro h0
 rw [yw] at h0
 obtain ⟨b,off,e,hb,hc⟩:=r3 h0
 refine ⟨b,off,e,hb,fun i hi=>?_⟩
 rw [yw] at hi
 obtain ⟨vs,hl,⟨x,hx,hr⟩,hv⟩:=hc i hi
 obtain rfl:vs=x.cs:=hr
 exact ⟨x.cs,hl,⟨x.f,by rw [List.getElem?_map,hx];rfl,(h.deep x (List.mem_of_getElem? hx)).2.here⟩,hv⟩
theorem FRow.stab {base d c:Nat} {w:World} {xs:List FV} {A:Option Addr} (h:FRow base d w xs A c) (hn:xs.length≤1000000):fl (fun k=>k<base) w (fun w'=>RSl (aC (d+1)) w' w'.heap.size (xs.map FV.f) (.slice A xs.length c)):=fun w' ha=>(h.agree ha (fun _ _ h=>h)).rl hn
theorem im {d B c:Nat} {fs:List Fc} {A:Option Addr} {w:World} (hl:RL (aC (d+1)) w B fs A) (hok:∀f∈fs,FcOk f) (hn:fs.length≤1000000) (hB:B≤w.heap.size) :
 Calls Tryz.prog 31 #[.slice A fs.length c] w fun z w'=>(∃xs A' c',xs.map FV.f=fs∧z=.returned (.slice A' fs.length c')∧FRow w.heap.size d w' xs A' c')∧Below w.heap.size w w':=by
 have HL:=ym hl
 have HOK:=ym hok
 have hmk:=wM fs.length hn w
 clear hl hok
 go_enter Tryz.func31,Tryz.ntmps31
 go_upto_region 3 with fail
 generalize hW:World.alloc _ _=w1
 obtain ⟨hb1,hz⟩:=al1 hW
 have HBT:Hid (bN w1 w.heap.size (madeCells #[.string ⟨#[]⟩,.slice none 0 0,.int .u32 0] (fs.length*3)) 33):=ym (hW▸heap_alloc_new w _)
 have HO1:Hid (am FvR 33 w1 w.heap.size 0 (.slice (some ⟨w.heap.size,0,none⟩) fs.length fs.length) (List.replicate fs.length cU)):=ym (am.made bm rfl (by decide) HBT.out (yo _) (by unfold maxLen;omega))
 have HB1:=ym hb1
 have hsz1:=hb1.size
 have hlt1:w.heap.size<w1.heap.size:=by rw [←hW,World.size_alloc];omega
 clear hW hb1 hmk
 go_loopw [11] (fun i wr=>∃(k:Nat) (xs:List FV),k≤fs.length∧i=.int .i64 k∧xs.length=fs.length∧Hid (Below w.heap.size w wr)∧Hid (w1.heap.size≤wr.heap.size)∧Hid (am FvR 33 wr w.heap.size 0 (.slice (some ⟨w.heap.size,0,none⟩) fs.length fs.length) xs)∧Hid (∀i (hi:i<xs.length) (hi':i<fs.length),i<k→xs[i].f=fs[i]∧fl (fun q=>q<w1.heap.size) wr (fun w'=>(aC (d+1)).rd w' w'.heap.size xs[i].f xs[i].cs))) (fun i _=>fs.length-(intOf i).toNat)
 case atStart=>exact ⟨0,_,yp _,rfl,List.length_replicate ..,HB1,ym (yo _),HO1,ym fun i _ _ h=>absurd h (by omega)⟩
 case round=>
  clear HO1 HBT
  obtain ⟨k,xs,hk,rfl,hxl,HWR,HSZ,HO,HD⟩:=hrel
  have hszr:=HWR.out.size
  have hszw:=HSZ.out
  have hBr:B≤wr.heap.size:=by omega
  by_cases hlt:k<fs.length
  ·have hkx:k<xs.length:=by omega
   obtain ⟨bp_,offp,rfl,hobp⟩:=(HL.out.keep HWR.out hB).base (yq _ _) hBr (by omega)
   obtain ⟨f,vs,hx,hlen,hcell,hr⟩:=(HL.out.keep HWR.out hB).at_ (yq _ _) hBr hlt
   have HF:=ym hr
   have HFE:Hid (fs[k]=f):=ym (by rw [yy hlt] at hx;simpa using hx)
   have HFO:Hid (FcOk f):=ym (HOK.out f (List.mem_of_getElem? hx))
   obtain ⟨Af,cf,rfl,g1,g2,g3,g4,_⟩:=bh (show (aC (d+1)).rd wr B f vs from hr)
   have c0:wr.cell? ⟨bp_,offp+k*3,none⟩=some (.string f.pr.name):=hcell 0 _ rfl
   have c1:wr.cell? ⟨bp_,offp+k*3+1,none⟩=some (.slice Af f.pr.terms.length cf):=hcell 1 _ rfl
   have c2:wr.cell? ⟨bp_,offp+k*3+2,none⟩=some (.int .u32 f.o):=hcell 2 _ rfl
   clear hcell hlen hx hr g1 g2 g3 g4
   go_upto_region 5 with fail
   generalize hW:World.alloc _ _=w4
   obtain ⟨hb4,hz4⟩:=al1 hW
   have HBT4:=ym (n11 hW)
   have HW4:=ym hb4
   have hsz4:=hb4.size
   have hB4:B≤w4.heap.size:=by omega
   have HF4:=ym ((aC (d+1)).keep hb4 hBr HF.out)
   clear hW hb4 c0 c1 c2
   have hI0:(0:Int)≤(k:Int):=Int.natCast_nonneg _
   have hI1:(k:Int)<(fs.length:Int):=by omega
   have k_t:=HBT4.out.cell
   have l_t:=HBT4.out.lt
   go_wp2_with fail
   refine (jw (d:=d) (B:=B) (vf:=[_,_,_]) HF4.out HFO.out hB4).mono ?_
   rintro e w5 ⟨⟨A5,c5,rfl,how⟩,hb5⟩
   have HOW:=ym how
   have HB5:=ym hb5
   have HO5:=ym ((HO.out.later HW4.out (yp _)).later hb5 (yp _))
   obtain ⟨g9,c9,e9,h91,h92,h93,h94,h95,h96,h97⟩:=HO5.out.sh bm (by omega)
   simp only [yB,yz,Addr.mk.injEq,and_true] at e9
   obtain ⟨rfl,-,-⟩:=e9
   obtain ⟨u0,q0⟩:∃u,w5.cell? ⟨w.heap.size,k*3,none⟩=some u:=⟨_,h95 k hkx 0 _ rfl⟩
   obtain ⟨u1,q1⟩:∃u,w5.cell? ⟨w.heap.size,k*3+1,none⟩=some u:=⟨_,h95 k hkx 1 _ rfl⟩
   obtain ⟨u2,q2⟩:∃u,w5.cell? ⟨w.heap.size,k*3+2,none⟩=some u:=⟨_,h95 k hkx 2 _ rfl⟩
   clear how hb5 h95 h97
   have hsz5:=HB5.out.size
   unfold fcV
   go_wp2_with fail
   clear q0 q1 q2 k_t l_t
   have hput:=ym (fv_put HO5.out hkx ⟨f,A5,c5⟩)
   go_roundw
   case rel=>exact ⟨k+1,xs.set k ⟨f,A5,c5⟩,by omega,by go_num,by rw [List.length_set];exact hxl,ym (below3 (ac (ac HWR.out HW4.out) HB5.out) (yo _) _ _ _),ym (by simp only [World.size_setCell];omega),hput,ym (fun i hi hi' hik=>by
    rw [List.length_set] at hi
    have hag:ak (fun q=>q=w.heap.size) w5 (((w5.setCell ⟨w.heap.size,k*3,none⟩ (.string f.pr.name)).setCell ⟨w.heap.size,k*3+1,none⟩ (.slice A5 f.pr.terms.length c5)).setCell ⟨w.heap.size,k*3+2,none⟩ (.int .u32 f.o)):=agree3
    by_cases hii:i=k
    ·subst hii
     rw [List.getElem_set_self]
     exact ⟨HFE.out.symm,(HOW.out.stab (M:=fun q=>q<w4.heap.size) HFO.out (fun q h1 h2=>by omega)).next hag (fun q _ e=>by omega) (fun q _ h=>by omega)⟩
    ·rw [List.getElem_set_ne (Ne.symm hii)]
     obtain ⟨e1,e2⟩:=HD.out i hi hi' (by omega)
     exact ⟨e1,((e2.later HW4.out).later HB5.out).next hag (fun q _ e=>by omega) (fun q _ h=>h)⟩)⟩
   case measure=>simp [intOf];omega
  ·have hmap:Hid (xs.map FV.f=fs):=ym (List.ext_getElem (by simp [hxl]) fun i h1 h2=>by
    rw [List.getElem_map]
    exact (HD.out i (by simpa using h1) h2 (by omega)).1)
   go_wp2_with fail
   go_ret
   refine ⟨⟨xs,some ⟨w.heap.size,0,none⟩,fs.length,hmap.out,rfl,⟨by rw [hxl];exact HO.out,fun x hx=>?_⟩⟩,HWR.out⟩
   obtain ⟨i,hi,rfl⟩:=List.getElem_of_mem hx
   obtain ⟨e1,e2⟩:=HD.out i hi (by omega) (by omega)
   refine ⟨by rw [e1];exact HOK.out _ (List.getElem_mem _),e2.less fun q hq hm=>?_⟩
   rcases hm with hm | hm
   ·omega
   ·simp only [Value.ownBlock,yz] at hm
    omega
end Go.Proofs.YtjpndglegpcdnaaGreat
