/- Sorting and compacting no answers. -/
import Derived.Test.YtdphibjibnffeaaGreatAnSort
import Derived.Lib.SliceRun
set_option linter.unusedVariables false
set_option linter.unusedSimpArgs false
set_option maxRecDepth 100000
set_option maxHeartbeats 8000000
namespace Go.Proofs.YtdphibjibnffeaaGreat
open Go.ChangeShapes Go.WideShapes Go.ChangeAt Go.RowKit
section
variable {α:Type} (q:α→α→Bool)
def eE:α→List α→List α
 | _,[]=>[]
 | p,y::ys=>if q y p=true then eE y ys else y::eE y ys
def cpt:List α→List α
 | []=>[]
 | x::xs=>x::eE q x xs
theorem me (z:α):∀(ys:List α) (p:α),eE q p (ys++[z])=eE q p ys++(if q z ((p::ys).getLast (by simp))=true then [] else [z])
 | [],p=>by simp [eE];rfl
 | y::ys,p=>by
   simp only [List.cons_append,eE]
   rw [me z ys y]
   split<;>simp<;>rfl
theorem qS {xs:List α} {m:Nat} (h:m+1<xs.length):cpt q (xs.take (m+2))=cpt q (xs.take (m+1))++(if q xs[m+1] xs[m]=true then [] else [xs[m+1]]):=by
 cases xs with
 | nil=>simp at h
 | cons x t=>
   have ht:m<t.length:=by simpa using h
   have e1:(x::t).take (m+2)=x::(t.take m++[t[m]]):=by
    rw [List.take_succ_cons,List.take_succ_eq_append_getElem ht]
   have e2:(x::t).take (m+1)=x::t.take m:=rfl
   rw [e1,e2,cpt,cpt,me]
   have e3:(x::t.take m).getLast (by simp)=(x::t)[m]:=by
    rw [List.getLast_eq_getElem]
    have hl:(x::t.take m).length-1=m:=by simp;omega
    have e4:(x::t.take m)=(x::t).take (m+1):=rfl
    simp only [hl]
    simp only [e4,List.getElem_take]
   rw [e3]
   rfl
theorem uj {xs:List α} (h:0<xs.length):cpt q (xs.take 1)=xs.take 1:=by
 cases xs with
 | nil=>simp at h
 | cons x t=>simp [cpt,eE]
theorem kw:∀{ys:List α} {p x:α},x∈eE q p ys→x∈ys
 | [],_,_,h=>by simp [eE] at h
 | y::ys,p,x,h=>by
   rw [eE] at h
   split at h
   ·exact List.mem_cons_of_mem _ (kw h)
   ·rcases List.mem_cons.1 h with h | h
    ·rw [h];exact List.mem_cons_self
    ·exact List.mem_cons_of_mem _ (kw h)
theorem pM {xs:List α} {x:α} (h:x∈cpt q xs):x∈xs:=by
 cases xs with
 | nil=>simp [cpt] at h
 | cons y t=>
   rcases List.mem_cons.1 h with h | h
   ·rw [h];exact List.mem_cons_self
   ·exact List.mem_cons_of_mem _ (kw q h)
end
section
variable {e:TypeId} {w:World} {base g c n i k:Nat} {xs:List AnV}
theorem gm (h:am iV e w base 0 (.slice (some ⟨g,0,none⟩) xs.length c) xs) (hi:i<xs.length):w.cell? ⟨g,i*3,none⟩=some (.slice xs[i].an xs[i].x.b.names.length xs[i].cn)∧w.cell? ⟨g,i*3+1,none⟩=some (.slice xs[i].at_ xs[i].x.b.terms.length xs[i].ct)∧w.cell? ⟨g,i*3+2,none⟩=some (.int .u32 xs[i].x.o):=by
 obtain ⟨g1,c1,e1,_,_,_,_,hc,_,_⟩:=h.sh aT (by omega)
 simp only [Value.slice.injEq,Option.some.injEq,Addr.mk.injEq,and_true] at e1
 obtain ⟨rfl,-,rfl⟩:=e1
 exact ⟨hc i hi 0 _ rfl,hc i hi 1 _ rfl,hc i hi 2 _ rfl⟩
theorem an_some (h:am iV e w base 0 (.slice (some ⟨g,0,none⟩) xs.length c) xs) {t:Nat} (ht:t<xs.length*3):(w.cell? ⟨g,t,none⟩).isSome=true:=by
 obtain ⟨g1,c1,e1,_,_,_,_,hc,_,_⟩:=h.sh aT (by omega)
 simp only [Value.slice.injEq,Option.some.injEq,Addr.mk.injEq,and_true] at e1
 obtain ⟨rfl,-,rfl⟩:=e1
 have h2:=hc (t / 3) (by omega) (t % 3) _ (List.getElem?_eq_getElem (by rw [yn];omega))
 have e2:t / 3*iV.k+t % 3=t:=by show t / 3*3+t % 3=t;omega
 rw [e2] at h2
 rw [h2];rfl
theorem yA {R:List AnV} {s:Nat} (h:R.drop s=xs.drop s) (hs:s≤i) (h1:i<R.length) (h2:i<xs.length):R[i]=xs[i]:=by
 have e:(R.drop s)[i-s]? = (xs.drop s)[i-s]?:=by rw [h]
 rw [List.getElem?_drop,List.getElem?_drop,show s+(i-s)=i by omega,List.getElem?_eq_getElem h1,List.getElem?_eq_getElem h2] at e
 exact Option.some.inj e
theorem nO {R:List AnV} {s:Nat} (h:R.drop s=xs.drop s):R.drop (s+1)=xs.drop (s+1):=by
 have h1:=congrArg (List.drop 1) h
 rwa [List.drop_drop,List.drop_drop] at h1
theorem tx (h:am iV e w base 0 (.slice (some ⟨g,0,none⟩) xs.length c) xs) (h0:0<xs.length):∀o,w.frozen? ⟨g,o,none⟩=false:=by
 obtain ⟨g1,c1,e1,_,_,_,_,_,hf,_⟩:=h.sh aT h0
 simp only [Value.slice.injEq,Option.some.injEq,Addr.mk.injEq,and_true] at e1
 obtain ⟨rfl,-,rfl⟩:=e1
 exact hf
theorem an_put (h:am iV e w base 0 (.slice (some ⟨g,0,none⟩) n c) xs) (hi:i<xs.length) (y:AnV) :
 am iV e (((w.setCell ⟨g,i*3,none⟩ (.slice y.an y.x.b.names.length y.cn)).setCell ⟨g,i*3+1,none⟩ (.slice y.at_ y.x.b.terms.length y.ct)).setCell ⟨g,i*3+2,none⟩ (.int .u32 y.x.o)) base 0 (.slice (some ⟨g,0,none⟩) n c) (xs.set i y):=by
 have hx:0<xs.length:=by omega
 obtain ⟨g1,c1,e1,_,_,_,_,_,_,p1⟩:=h.sh aT hx
 simp only [Value.slice.injEq,Option.some.injEq,Addr.mk.injEq,and_true] at e1
 obtain ⟨rfl,rfl,rfl⟩:=e1
 have h1:=p1 i hi 0 (.slice y.an y.x.b.names.length y.cn) ⟨⟨⟨y.x.b.names,xs[i].x.b.terms⟩,xs[i].x.o⟩,y.an,y.cn,xs[i].at_,xs[i].ct⟩ (by show 0<3;omega) rfl
 have hl1:i<(xs.set i ⟨⟨⟨y.x.b.names,xs[i].x.b.terms⟩,xs[i].x.o⟩,y.an,y.cn,xs[i].at_,xs[i].ct⟩).length:=by rw [List.length_set];exact hi
 obtain ⟨g2,c2,e2,_,_,_,_,_,_,p2⟩:=h1.sh aT (by omega)
 simp only [Value.slice.injEq,Option.some.injEq,Addr.mk.injEq,and_true] at e2
 obtain ⟨rfl,_,rfl⟩:=e2
 have h2:=p2 i hl1 1 (.slice y.at_ y.x.b.terms.length y.ct) ⟨⟨⟨y.x.b.names,y.x.b.terms⟩,xs[i].x.o⟩,y.an,y.cn,y.at_,y.ct⟩ (by show 1<3;omega) (by rw [List.getElem_set_self];rfl)
 rw [List.set_set] at h2
 have hl2:i<(xs.set i ⟨⟨⟨y.x.b.names,y.x.b.terms⟩,xs[i].x.o⟩,y.an,y.cn,y.at_,y.ct⟩).length:=by rw [List.length_set];exact hi
 obtain ⟨g3,c3,e3,_,_,_,_,_,_,p3⟩:=h2.sh aT (by omega)
 simp only [Value.slice.injEq,Option.some.injEq,Addr.mk.injEq,and_true] at e3
 obtain ⟨rfl,_,rfl⟩:=e3
 have h3:=p3 i hl2 2 (.int .u32 y.x.o) y (by show 2<3;omega) (by rw [List.getElem_set_self];rfl)
 rw [List.set_set] at h3
 exact h3
theorem jG:∀(vs:List Value) {w:World} {cur:Array Value} (s:Nat),w.heap[g]? = some (.cells cur e (0,0))→∃cur':Array Value,(w.setCells g s vs).heap[g]? = some (.cells cur' e (0,0))∧cur'.size=cur.size∧∀t,t<s→cur'[t]? = cur[t]?
 | [],_,cur,_,h=>⟨cur,h,rfl,fun _ _=>rfl⟩
 | v::vs,w,cur,s,h=>by
   have hb:bV w g cur e:=h
   obtain ⟨cur',h1,h2,h3⟩:=jG vs (s+1) (show (w.setCell ⟨g,s,none⟩ v).heap[g]? = some (.cells (cur.setIfInBounds s v) e (0,0)) from hb.set_ s v)
   refine ⟨cur',h1,by simpa using h2,fun t ht=>?_⟩
   rw [h3 t (by omega),Array.getElem?_setIfInBounds,if_neg (by omega)]
theorem gP:∀(vs:List Value) (w:World) (s:Nat),aw (fun k=>k=g) w (w.setCells g s vs)
 | [],w,_=>aw.refl _ w
 | v::vs,w,s=>((aw.refl (fun k=>k=g) w).set_ (g:=g) (fun _=>rfl) s v).trans (gP vs _ (s+1)) fun _ _ h=>h
theorem own_cut (h:am iV e w base 0 (.slice (some ⟨g,0,none⟩) xs.length c) xs) (hk:k≤xs.length) (vs:List Value):am iV e (w.setCells g (k*3) vs) base 0 (.slice (some ⟨g,0,none⟩) k c) (xs.take k):=by
 obtain ⟨cells,⟨h1,h2⟩,hf⟩:=h
 have hlen:(xs.take k).length=k:=by rw [List.length_take];omega
 have h1:cells.length=xs.length*3:=h1
 refine ⟨cells.take (k*3),⟨by show (cells.take (k*3)).length=(xs.take k).length*3;rw [hlen,List.length_take];omega,?_⟩,⟨by show (cells.take (k*3)).length=(xs.take k).length*3;rw [hlen,List.length_take];omega,fun i hi=>?_⟩⟩
 ·rcases h2 with ⟨h2,_⟩ | ⟨g',cap,cur,hv,hg,hh,k1,k2,k3,k4⟩
  ·cases h2
  simp only [Value.slice.injEq,Option.some.injEq,Addr.mk.injEq,and_true,true_and] at hv
  obtain ⟨rfl,rfl⟩:=hv
  obtain ⟨cur',m1,m2,m3⟩:=jG vs (k*3) hh
  refine .inr ⟨g,c,cur',by rw [hlen],hg,m1,by rw [hlen];omega,k2,by rw [m2,k3],?_⟩
  rw [←k4]
  show cur'.toList.take ((xs.take k).length*3)=(cur.toList.take (xs.length*3)).take (k*3)
  rw [hlen,List.take_take,Nat.min_eq_left (by omega)]
  refine List.ext_getElem? fun j=>?_
  by_cases hj:j<k*3
  ·rw [List.getElem?_take_of_lt hj,List.getElem?_take_of_lt hj,Array.getElem?_toList,Array.getElem?_toList,m3 j hj]
  ·rw [List.getElem?_take_eq_none (by omega),List.getElem?_take_eq_none (by omega)]
 ·rw [hlen] at hi
  rw [List.getElem_take]
  have h3:=hf.2 i (by omega)
  show ((cells.take (k*3)).drop (i*3)).take 3=xs[i].cs
  have h3:(cells.drop (i*3)).take 3=xs[i].cs:=h3
  rw [←h3,List.drop_take,List.take_take,Nat.min_eq_left (by omega)]
end
theorem qw {P:Program} (w:World) (t e ty:TypeId) (z:Value) (ht:P.underlying t=some (.slice e)) (hv:∀w,(zeroValue e).run P w=.ok z w) (h1:∀v∈z.cells,v.oneCell'=true) (hz:0<z.cells.size) (b o n c:Nat) (hn:0<n)
 (hc:∀j,j<n*z.cells.size→(w.cell? ⟨b,o+j,none⟩).isSome=true) (hf:∀j,w.frozen? ⟨b,o+j,none⟩=false) :
 (Builtin.clear_ #[t] ty #[.slice (some ⟨b,o,none⟩) n c]).run P w=.ok (.tuple #[]) (w.setCells b o (Builtin.zeroCells z.cells n).toList):=by
 have hst:=run_storeCells_cells (P:=P) b o (Builtin.zeroCells z.cells n).toList 0 w (by
  intro j hj
  simpa using hc j (by simpa [Builtin.zeroCells] using hj)) (by intro j hj;exact hf _) (by
  intro v hv'
  simp only [Builtin.zeroCells,Array.toList_map,List.mem_map] at hv'
  obtain ⟨k,hk,rfl⟩:=hv'
  exact h1 _ (by simp [Nat.mod_lt _ hz]))
 simp only [Nat.add_zero] at hst
 obtain ⟨m,rfl⟩:∃m,n=m+1:=⟨n-1,by omega⟩
 simp [Builtin.clear_,run_underlying ht,hv,hst]
def qAn (a b:AnV):Bool:=aM a.x b.x==0
theorem wV:∀args (w:World),(callFunc 58 args).run Tryz.prog w=.ok (.enter 58 args) w:=ent Tryz.func58 (by kernel_rfl) rfl
theorem lX {base d g c:Nat} {w:World} {xs:List AnV} (hr:am iV 48 w base 0 (.slice (some ⟨g,0,none⟩) xs.length c) xs) (hx:0<xs.length) (hok:∀y∈xs,AnOk y.x)
 (hd:∀y∈xs,ie (fun k=>k=g) w (fun w'=>(mC d).rd w' w'.heap.size y.x y.cs)) (hn:xs.length≤1000000) :
 Calls Tryz.prog 57 #[.slice (some ⟨g,0,none⟩) xs.length c,.func (.func 58) #[] #[]] w fun z w'=>
  ∃L,L=cpt qAn xs∧z=.returned (.slice (some ⟨g,0,none⟩) L.length c)∧am iV 48 w' base 0 (.slice (some ⟨g,0,none⟩) L.length c) L∧aw (fun k=>k=g) w w':=by
 have hgl0:g<w.heap.size:=(hr.lt g rfl).2
 have hcap:xs.length≤c∧c≤9223372036854775807:=by
  obtain ⟨g1,c1,e1,_,_,h1,h2,_⟩:=hr.sh aT hx
  simp only [Value.slice.injEq] at e1
  obtain ⟨_,_,rfl⟩:=e1
  exact ⟨h1,h2⟩
 obtain ⟨hc1,hc2⟩:=hcap
 have HR:=yW hr
 have HOK:=yW hok
 have HD:=yW hd
 have hen:=wV
 clear hr hok hd
 go_enter Tryz.func57,Tryz.ntmps57
 by_cases h2:xs.length<2
 ·go_wp2_with fail
  go_ret
  have e:cpt qAn xs=xs:=by
   have:=uj qAn hx
   rwa [List.take_of_length_le (by omega)] at this
  exact ⟨xs,e.symm,rfl,HR.out,aw.refl _ _⟩
 ·go_wp2_with fail
  go_loopw [5] (fun u wr=>∃j:Nat,j<xs.length∧u=.int .i64 ((j:Int)+1)∧Hid (cpt qAn (xs.take (j+1))=xs.take (j+1))∧Hid (Below w.heap.size w wr)) (fun u _=>xs.length-(intOf u).toNat)
  case atStart=>exact ⟨0,hx,rfl,yW (uj qAn hx),yW (za _ _)⟩
  case round=>
   obtain ⟨j,hj,rfl,HC,HW⟩:=hrel
   have hgl:g<wr.heap.size:=zb hgl0 HW.out.size
   by_cases hlt:j+1<xs.length
   ·obtain ⟨x0,x1,x2⟩:=gm (HR.out.later HW.out (yZ _)) hlt
    obtain ⟨y0,y1,y2⟩:=gm (HR.out.later HW.out (yZ _)) hj
    have HCS:=yW (qS qAn hlt)
    have HXO:=yW (HOK.out _ (List.getElem_mem hlt))
    have HYO:=yW (HOK.out _ (List.getElem_mem hj))
    have HX:=yW (fun (w':World) (hb:Below wr.heap.size wr w')=>(HD.out _ (List.getElem_mem hlt)) w' (aw.of_below (HW.out.trans (hb.mono HW.out.size))))
    have HY:=yW (fun (w':World) (hb:Below wr.heap.size wr w')=>(HD.out _ (List.getElem_mem hj)) w' (aw.of_below (HW.out.trans (hb.mono HW.out.size))))
    generalize hxe:xs[j+1]=x at *
    generalize hye:xs[j]=y at *
    have HXE:=yW hxe
    clear hxe hye
    have hJ0:(0:Int)≤(j:Int):=Int.natCast_nonneg _
    have hJ3:(0:Int)≤(j:Int)+1:=by omega
    have hJw:IntKind.i64.wrap (j:Int)=j:=by simp [IntKind.wrap,IntKind.bits,IntKind.signed];omega
    have hJ1:(j:Int)+1<(xs.length:Int):=by omega
    have hJ2:(j:Int)<(xs.length:Int):=by omega
    go_upto_region 6 with fail
    have HSL:Hid (∀{w':World},Below wr.heap.size wr w'→(w'.cell? ⟨g,(j+1)*3,none⟩=some (.slice x.an x.x.b.names.length x.cn)∧w'.cell? ⟨g,(j+1)*3+1,none⟩=some (.slice x.at_ x.x.b.terms.length x.ct)∧w'.cell? ⟨g,(j+1)*3+2,none⟩=some (.int .u32 x.x.o)∧w'.cell? ⟨g,j*3,none⟩=some (.slice y.an y.x.b.names.length y.cn)∧w'.cell? ⟨g,j*3+1,none⟩=some (.slice y.at_ y.x.b.terms.length y.ct)∧w'.cell? ⟨g,j*3+2,none⟩=some (.int .u32 y.x.o))):=yW (fun hb=>⟨(hb.cell hgl).trans x0,(hb.cell hgl).trans x1,(hb.cell hgl).trans x2,(hb.cell hgl).trans y0,(hb.cell hgl).trans y1,(hb.cell hgl).trans y2⟩)
    clear x0 x1 x2 y0 y1 y2
    refine aG (fun w'=>w'.cell? ⟨g,(j+1)*3,none⟩=some (.slice x.an x.x.b.names.length x.cn)∧w'.cell? ⟨g,(j+1)*3+1,none⟩=some (.slice x.at_ x.x.b.terms.length x.ct)∧w'.cell? ⟨g,(j+1)*3+2,none⟩=some (.int .u32 x.x.o)∧w'.cell? ⟨g,j*3,none⟩=some (.slice y.an y.x.b.names.length y.cn)∧w'.cell? ⟨g,j*3+1,none⟩=some (.slice y.at_ y.x.b.terms.length y.ct)∧w'.cell? ⟨g,j*3+2,none⟩=some (.int .u32 y.x.o)) (by kernel_rfl) (HSL.out (za _ _).drew) ?_
    refine aa (i:=0) (v:=?v12_) rfl (by kernel_rfl) (by kernel_rfl) (by kernel_rfl) ?hq12_ ?hw12_ ?hy12_ ?rest12_
    case hq12_=>exact fun _ _ _ h=>h
    case hw12_=>rfl
    case hy12_=>(intro w' hS';(try dsimp only at hS');go_simp;(try with_reducible rfl))
    refine aa (i:=1) (v:=?v13_) rfl (by kernel_rfl) (by kernel_rfl) (by kernel_rfl) ?hq13_ ?hw13_ ?hy13_ ?rest13_
    case hq13_=>exact fun _ _ _ h=>h
    case hw13_=>rfl
    case hy13_=>(intro w' hS';(try dsimp only at hS');go_simp;(try with_reducible rfl))
    refine aa (i:=2) (v:=?v14_) rfl (by kernel_rfl) (by kernel_rfl) (by kernel_rfl) ?hq14_ ?hw14_ ?hy14_ ?rest14_
    case hq14_=>exact fun _ _ _ h=>h
    case hw14_=>rfl
    case hy14_=>(intro w' hS';(try dsimp only at hS');go_simp;(try with_reducible rfl))
    refine aa (i:=3) (v:=?v15_) rfl (by kernel_rfl) (by kernel_rfl) (by kernel_rfl) ?hq15_ ?hw15_ ?hy15_ ?rest15_
    case hq15_=>exact fun _ _ _ h=>h
    case hw15_=>rfl
    case hy15_=>(intro w' hS';(try dsimp only at hS');go_simp;(try with_reducible rfl))
    refine aa (i:=4) (v:=?v16_) rfl (by kernel_rfl) (by kernel_rfl) (by kernel_rfl) ?hq16_ ?hw16_ ?hy16_ ?rest16_
    case hq16_=>exact fun _ _ _ h=>h
    case hw16_=>rfl
    case hy16_=>(intro w' hS';(try dsimp only at hS');go_simp;(try with_reducible rfl))
    refine aa (i:=5) (v:=?v17_) rfl (by kernel_rfl) (by kernel_rfl) (by kernel_rfl) ?hq17_ ?hw17_ ?hy17_ ?rest17_
    case hq17_=>exact fun _ _ _ h=>h
    case hw17_=>rfl
    case hy17_=>(intro w' hS';(try dsimp only at hS');go_simp;(try with_reducible rfl))
    refine aa (i:=6) (v:=?v18_) rfl (by kernel_rfl) (by kernel_rfl) (by kernel_rfl) ?hq18_ ?hw18_ ?hy18_ ?rest18_
    case hq18_=>exact fun _ _ _ h=>h
    case hw18_=>rfl
    case hy18_=>(intro w' hS';(try dsimp only at hS');go_simp;(try with_reducible rfl))
    refine aa (i:=7) (v:=?v19_) rfl (by kernel_rfl) (by kernel_rfl) (by kernel_rfl) ?hq19_ ?hw19_ ?hy19_ ?rest19_
    case hq19_=>exact fun _ _ _ h=>h
    case hw19_=>rfl
    case hy19_=>(intro w' hS';(try dsimp only at hS');go_simp;(try with_reducible rfl))
    refine aa (i:=8) (v:=?v20_) rfl (by kernel_rfl) (by kernel_rfl) (by kernel_rfl) ?hq20_ ?hw20_ ?hy20_ ?rest20_
    case hq20_=>exact fun _ _ _ h=>h
    case hw20_=>rfl
    case hy20_=>(intro w' hS';(try dsimp only at hS');go_simp;(try with_reducible rfl))
    refine aa (i:=9) (v:=?v21_) rfl (by kernel_rfl) (by kernel_rfl) (by kernel_rfl) ?hq21_ ?hw21_ ?hy21_ ?rest21_
    case hq21_=>exact fun _ _ _ h=>h
    case hw21_=>rfl
    case hy21_=>(intro w' hS';(try dsimp only at hS');go_simp;(try with_reducible rfl))
    generalize hD:World.drew wr=w2
    have HU:Hid (Below wr.heap.size wr w2):=yW (hD▸(za wr.heap.size wr).drew)
    clear hD
    refine au (rs:=[10]) (by kernel_rfl) rfl ?_
    refine ak.cons rfl (fun K hK=>?_) ak.nil
    go_simp
    refine (kl (d:=d) (e:=d) (va:=[_,_,_]) (vb:=[_,_,_]) (HX.out w2 HU.out) (HY.out w2 HU.out) HXO.out HYO.out (yY _)).mono ?_
    rintro z w3 ⟨rfl,hb3⟩
    have HU3:Hid (Below wr.heap.size wr w3):=yW (HU.out.trans (hb3.mono HU.out.size))
    clear hb3
    refine hK.out _ _ (HSL.out HU3.out) ?_
    clear hK
    refine bG (by kernel_rfl) ?_
    by_cases hq:(aM x.x y.x==0)=true
    ·clear HSL
     have HQ:Hid (cpt qAn (xs.take (j+2))=xs.take (j+1)):=yW (by
      rw [HCS.out,HC.out]
      rw [show qAn x y=true from hq,if_pos rfl,List.append_nil])
     have HW3:Hid (Below w.heap.size w w3):=yW (HW.out.trans (HU3.out.mono HW.out.size))
     clear HCS HXE HX HY HXO HYO HC
     rw [hq]
     clear hq
     go_wp2_with fail
     obtain ⟨N,hN⟩:∃N,xs.length-(j+1)=N:=⟨_,rfl⟩
     obtain ⟨C2,hC2⟩:∃C2,c-(j+1)=C2:=⟨_,rfl⟩
     rw [hN,hC2]
     have HN:Hid (xs.length=j+1+N):=yW (by omega)
     have hN0:0<N:=by omega
     have hN1:N≤1000000:=by omega
     clear hN hC2
     go_loopw [5,7] (fun u v wr=>∃(k m:Nat) (R:List AnV),u=.int .i64 ((k:Int)+1)∧v=.int .i64 ((m:Int)+1)∧k≤j+m∧m<N∧R.length=xs.length∧Hid (R.take (k+1)=cpt qAn (xs.take (j+m+2)))∧Hid (R.drop (j+m+1)=xs.drop (j+m+1))∧Hid (am iV 48 wr base 0 (.slice (some ⟨g,0,none⟩) xs.length c) R)∧Hid (aw (fun k=>k=g) w wr)) (fun _ v _=>N-(intOf v).toNat)
     case atStart=>exact ⟨j,0,xs,rfl,rfl,yY _,hN0,rfl,yW HQ.out.symm,yW rfl,yW (HR.out.later HW3.out (yZ _)),yW (aw.of_below HW3.out)⟩
     case round=>
      clear HQ HW3 HU HU3
      obtain ⟨k,m,R,rfl,rfl,hkm,hmN,hRl,HRT,HRD,HRO,HAG⟩:=hrel
      have hn2:=HN.out
      have hgl:g<wr.heap.size:=zb hgl0 HAG.out.size
      have hK0:(0:Int)≤(k:Int):=Int.natCast_nonneg _
      have hK3:(0:Int)≤(k:Int)+1:=by omega
      have hK1:(k:Int)+1<(xs.length:Int):=by omega
      have hKn:k+1<xs.length:=by omega
      have HRO1:Hid (am iV 48 wr base 0 (.slice (some ⟨g,0,none⟩) R.length c) R):=yW (by rw [hRl];exact HRO.out)
      by_cases hlt2:m+1<N
      ·have hi1:j+m+2<xs.length:=by omega
       have hi0:j+m+1<xs.length:=by omega
       have hr1:j+m+2<R.length:=by omega
       have hr0:j+m+1<R.length:=by omega
       obtain ⟨x0,x1,x2⟩:=gm HRO1.out hr1
       obtain ⟨y0,y1,y2⟩:=gm HRO1.out hr0
       rw [yA HRD.out (by omega) hr1 hi1,show (j+m+2)*3=(j+1)*3+(m+1)*3 by omega] at x0 x1 x2
       rw [yA HRD.out (by omega) hr0 hi0,show (j+m+1)*3=(j+1)*3+m*3 by omega] at y0 y1 y2
       have HCS:=yW (qS qAn hi1)
       have HXO:=yW (HOK.out _ (List.getElem_mem hi1))
       have HYO:=yW (HOK.out _ (List.getElem_mem hi0))
       have HX:=yW (fun (w':World) (hb:Below wr.heap.size wr w')=>(HD.out _ (List.getElem_mem hi1)) w' (HAG.out.trans (aw.of_below (M:=fun k=>k=g) hb) (fun _ _ h=>h)))
       have HY:=yW (fun (w':World) (hb:Below wr.heap.size wr w')=>(HD.out _ (List.getElem_mem hi0)) w' (HAG.out.trans (aw.of_below (M:=fun k=>k=g) hb) (fun _ _ h=>h)))
       generalize hxe:xs[j+m+2]=x at *
       generalize hye:xs[j+m+1]=y at *
       clear hxe hye hn2 hi1 hi0 hr1 hr0
       have hM0:(0:Int)≤(m:Int):=Int.natCast_nonneg _
       have hM3:(0:Int)≤(m:Int)+1:=by omega
       have hMw:IntKind.i64.wrap (m:Int)=m:=by simp [IntKind.wrap,IntKind.bits,IntKind.signed];omega
       have hM1:(m:Int)+1<(N:Int):=by omega
       have hM2:(m:Int)<(N:Int):=by omega
       go_upto_region 11 with fail
       have HSL:Hid (∀{w':World},Below wr.heap.size wr w'→(w'.cell? ⟨g,(j+1)*3+(m+1)*3,none⟩=some (.slice x.an x.x.b.names.length x.cn)∧w'.cell? ⟨g,(j+1)*3+(m+1)*3+1,none⟩=some (.slice x.at_ x.x.b.terms.length x.ct)∧w'.cell? ⟨g,(j+1)*3+(m+1)*3+2,none⟩=some (.int .u32 x.x.o)∧w'.cell? ⟨g,(j+1)*3+m*3,none⟩=some (.slice y.an y.x.b.names.length y.cn)∧w'.cell? ⟨g,(j+1)*3+m*3+1,none⟩=some (.slice y.at_ y.x.b.terms.length y.ct)∧w'.cell? ⟨g,(j+1)*3+m*3+2,none⟩=some (.int .u32 y.x.o))):=yW (fun hb=>⟨(hb.cell hgl).trans x0,(hb.cell hgl).trans x1,(hb.cell hgl).trans x2,(hb.cell hgl).trans y0,(hb.cell hgl).trans y1,(hb.cell hgl).trans y2⟩)
       clear x0 x1 x2 y0 y1 y2
       refine aG (fun w'=>w'.cell? ⟨g,(j+1)*3+(m+1)*3,none⟩=some (.slice x.an x.x.b.names.length x.cn)∧w'.cell? ⟨g,(j+1)*3+(m+1)*3+1,none⟩=some (.slice x.at_ x.x.b.terms.length x.ct)∧w'.cell? ⟨g,(j+1)*3+(m+1)*3+2,none⟩=some (.int .u32 x.x.o)∧w'.cell? ⟨g,(j+1)*3+m*3,none⟩=some (.slice y.an y.x.b.names.length y.cn)∧w'.cell? ⟨g,(j+1)*3+m*3+1,none⟩=some (.slice y.at_ y.x.b.terms.length y.ct)∧w'.cell? ⟨g,(j+1)*3+m*3+2,none⟩=some (.int .u32 y.x.o)) (by kernel_rfl) (HSL.out (za _ _).drew) ?_
       refine aa (i:=0) (v:=?v1_) rfl (by kernel_rfl) (by kernel_rfl) (by kernel_rfl) ?hq1_ ?hw1_ ?hy1_ ?rest1_
       case hq1_=>exact fun _ _ _ h=>h
       case hw1_=>rfl
       case hy1_=>(intro w' hS';(try dsimp only at hS');go_simp;(try with_reducible rfl))
       refine aa (i:=1) (v:=?v2_) rfl (by kernel_rfl) (by kernel_rfl) (by kernel_rfl) ?hq2_ ?hw2_ ?hy2_ ?rest2_
       case hq2_=>exact fun _ _ _ h=>h
       case hw2_=>rfl
       case hy2_=>(intro w' hS';(try dsimp only at hS');go_simp;(try with_reducible rfl))
       refine aa (i:=2) (v:=?v3_) rfl (by kernel_rfl) (by kernel_rfl) (by kernel_rfl) ?hq3_ ?hw3_ ?hy3_ ?rest3_
       case hq3_=>exact fun _ _ _ h=>h
       case hw3_=>rfl
       case hy3_=>(intro w' hS';(try dsimp only at hS');go_simp;(try with_reducible rfl))
       refine aa (i:=3) (v:=?v4_) rfl (by kernel_rfl) (by kernel_rfl) (by kernel_rfl) ?hq4_ ?hw4_ ?hy4_ ?rest4_
       case hq4_=>exact fun _ _ _ h=>h
       case hw4_=>rfl
       case hy4_=>(intro w' hS';(try dsimp only at hS');go_simp;(try with_reducible rfl))
       refine aa (i:=4) (v:=?v5_) rfl (by kernel_rfl) (by kernel_rfl) (by kernel_rfl) ?hq5_ ?hw5_ ?hy5_ ?rest5_
       case hq5_=>exact fun _ _ _ h=>h
       case hw5_=>rfl
       case hy5_=>(intro w' hS';(try dsimp only at hS');go_simp;(try with_reducible rfl))
       refine aa (i:=5) (v:=?v6_) rfl (by kernel_rfl) (by kernel_rfl) (by kernel_rfl) ?hq6_ ?hw6_ ?hy6_ ?rest6_
       case hq6_=>exact fun _ _ _ h=>h
       case hw6_=>rfl
       case hy6_=>(intro w' hS';(try dsimp only at hS');go_simp;(try with_reducible rfl))
       refine aa (i:=6) (v:=?v7_) rfl (by kernel_rfl) (by kernel_rfl) (by kernel_rfl) ?hq7_ ?hw7_ ?hy7_ ?rest7_
       case hq7_=>exact fun _ _ _ h=>h
       case hw7_=>rfl
       case hy7_=>(intro w' hS';(try dsimp only at hS');go_simp;(try with_reducible rfl))
       refine aa (i:=7) (v:=?v8_) rfl (by kernel_rfl) (by kernel_rfl) (by kernel_rfl) ?hq8_ ?hw8_ ?hy8_ ?rest8_
       case hq8_=>exact fun _ _ _ h=>h
       case hw8_=>rfl
       case hy8_=>(intro w' hS';(try dsimp only at hS');go_simp;(try with_reducible rfl))
       refine aa (i:=8) (v:=?v9_) rfl (by kernel_rfl) (by kernel_rfl) (by kernel_rfl) ?hq9_ ?hw9_ ?hy9_ ?rest9_
       case hq9_=>exact fun _ _ _ h=>h
       case hw9_=>rfl
       case hy9_=>(intro w' hS';(try dsimp only at hS');go_simp;(try with_reducible rfl))
       refine aa (i:=9) (v:=?v10_) rfl (by kernel_rfl) (by kernel_rfl) (by kernel_rfl) ?hq10_ ?hw10_ ?hy10_ ?rest10_
       case hq10_=>exact fun _ _ _ h=>h
       case hw10_=>rfl
       case hy10_=>(intro w' hS';(try dsimp only at hS');go_simp;(try with_reducible rfl))
       generalize hD:World.drew wr=w2
       have HU:Hid (Below wr.heap.size wr w2):=yW (hD▸(za wr.heap.size wr).drew)
       clear hD
       refine au (rs:=[10]) (by kernel_rfl) rfl ?_
       refine ak.cons rfl (fun K hK=>?_) ak.nil
       go_simp
       refine (kl (d:=d) (e:=d) (va:=[_,_,_]) (vb:=[_,_,_]) (HX.out w2 HU.out) (HY.out w2 HU.out) HXO.out HYO.out (yY _)).mono ?_
       rintro z w3 ⟨rfl,hb3⟩
       have HU3:Hid (Below wr.heap.size wr w3):=yW (HU.out.trans (hb3.mono HU.out.size))
       clear hb3
       refine hK.out _ _ (HSL.out HU3.out) ?_
       clear hK
       refine aa (i:=11) (v:=?v11_) rfl (by kernel_rfl) (by kernel_rfl) (by kernel_rfl) ?hq11_ ?hw11_ ?hy11_ ?rest11_
       case hq11_=>exact fun _ _ _ h=>h
       case hw11_=>rfl
       case hy11_=>(intro w' hS';(try dsimp only at hS');go_simp;(try with_reducible rfl))
       refine bG (by kernel_rfl) ?_
       have hn3:=HN.out
       have HQD:Hid (qAn x y=(aM x.x y.x==0)):=yW rfl
       generalize aM x.x y.x=r at *
       by_cases hq2:r=0
       ·subst hq2
        have HQ2:Hid (R.take (k+1)=cpt qAn (xs.take (j+(m+1)+2))):=yW (by
         rw [show j+(m+1)+2=j+m+1+2 by omega,HCS.out,show qAn x y=true from HQD.out,if_pos rfl,List.append_nil]
         exact HRT.out)
        have HD2:Hid (R.drop (j+(m+1)+1)=xs.drop (j+(m+1)+1)):=yW (by
         exact nO (s:=j+m+1) HRD.out)
        have HO2:=yW (HRO.out.later HU3.out (yZ _))
        have HA2:=yW (HAG.out.trans (aw.of_below (M:=fun k=>k=g) HU3.out) (fun _ _ h=>h))
        clear HSL HCS HX HY HXO HYO hn3
        go_wp2_with fail
        go_roundw
        case rel=>exact ⟨k,m+1,R,rfl,by go_num,by omega,hlt2,hRl,HQ2,HD2,HO2,HA2⟩
        case measure=>simp [intOf];omega
       ·have hq3:(r==0)=false:=by simpa using hq2
        have hkR:k+1<R.length:=by omega
        have HRO3:=yW (HRO1.out.later HU3.out (yZ _))
        obtain ⟨t0,t1,t2⟩:=gm HRO3.out hkR
        obtain ⟨u0_,q0⟩:∃u,w3.cell? ⟨g,(k+1)*3,none⟩=some u:=⟨_,t0⟩
        obtain ⟨u1_,q1⟩:∃u,w3.cell? ⟨g,(k+1)*3+1,none⟩=some u:=⟨_,t1⟩
        obtain ⟨u2_,q2⟩:∃u,w3.cell? ⟨g,(k+1)*3+2,none⟩=some u:=⟨_,t2⟩
        have hfr:=tx HRO3.out (by omega)
        obtain ⟨x0,x1,x2,_,_,_⟩:=HSL.out HU3.out
        have HP:=yW (an_put HRO3.out hkR x)
        have HQ2:Hid ((R.set (k+1) x).take (k+1+1)=cpt qAn (xs.take (j+(m+1)+2))):=yW (by
         rw [show j+(m+1)+2=j+m+1+2 by omega,HCS.out,show qAn x y=false from HQD.out.trans hq3,if_neg (by decide)]
         rw [List.take_succ_eq_append_getElem (by rw [List.length_set];exact hkR),List.getElem_set_self,List.take_set_of_le (yY _)]
         rw [HRT.out])
        have HD2:Hid ((R.set (k+1) x).drop (j+(m+1)+1)=xs.drop (j+(m+1)+1)):=yW (by
         rw [List.drop_set_of_lt (by omega)]
         exact nO (s:=j+m+1) HRD.out)
        have HA2:=yW (HAG.out.trans (aw.of_below (M:=fun k=>k=g) HU3.out) (fun _ _ h=>h))
        have hnb:(!(r==0))=true:=by rw [hq3];rfl
        clear HSL HCS HX HY HXO HYO hn3 hq2 t0 t1 t2
        go_wp2_with fail
        go_roundw
        case rel=>exact ⟨k+1,m+1,R.set (k+1) x,by go_num,by go_num,by omega,hlt2,by rw [List.length_set];exact hRl,HQ2,HD2,yW (by have h:=HP.out;rw [hRl] at h;exact h),yW (((HA2.out.set_ (fun _=>rfl) _ _).set_ (fun _=>rfl) _ _).set_ (fun _=>rfl) _ _)⟩
        case measure=>simp [intOf];omega
        all_goals (rename_i h9;rw [hq3] at h9;exact absurd h9 (by decide))
      ·have hzv:=Tryz.zeroValue48
       have hclr:=fun ty=>qw (P:=Tryz.prog) wr 40 48 ty _ Tryz.underlying40 hzv (by decide) (by decide) g ((k+1)*3) (xs.length-(k+1)) (c-(k+1)) (by omega) (by
        intro t ht
        refine an_some HRO1.out ?_
        have ht:t<(xs.length-(k+1))*3:=ht
        rw [hRl];omega) (fun j=>tx HRO1.out (by omega) _)
       have HE:Hid (R.take (k+1)=cpt qAn xs):=yW (by
        rw [HRT.out,List.take_of_length_le (by omega)])
       have hlen:(R.take (k+1)).length=k+1:=by rw [List.length_take];omega
       have HCUT:=yW (fun vs=>own_cut HRO1.out (show k+1≤R.length by omega) vs)
       have hk2:k+1≤xs.length:=by omega
       generalize (Builtin.zeroCells _ _).toList=VS at hclr
       clear hzv hn2
       go_wp2_with fail
       go_ret
       refine ⟨R.take (k+1),HE.out,by rw [hlen];rfl,?_,HAG.out.trans (gP VS _ _) (fun _ _ h=>h)⟩
       rw [hlen]
       exact HCUT.out VS
    ·have hq':(aM x.x y.x==0)=false:=by simpa using hq
     have HQ:Hid (cpt qAn (xs.take (j+2))=xs.take (j+2)):=yW (by
      rw [HCS.out,HC.out]
      rw [show qAn x y=false from hq',if_neg (by decide),←HXE.out,List.take_succ_eq_append_getElem hlt])
     have HW3:Hid (Below w.heap.size w w3):=yW (HW.out.trans (HU3.out.mono HW.out.size))
     clear hq HCS HXE
     go_wp2_with fail
     go_roundw
     case rel=>exact ⟨j+1,hlt,by go_num,HQ,HW3⟩
     case measure=>simp [intOf];omega
   ·go_wp2_with fail
    go_ret
    have e:cpt qAn xs=xs:=by
     have:=HC.out
     rwa [List.take_of_length_le (by omega)] at this
    exact ⟨xs,e.symm,rfl,HR.out.later HW.out (yZ _),aw.of_below HW.out⟩
theorem jv {A:Option Addr} {c:Nat} {F:Value} {w:World}:Calls Tryz.prog 57 #[.slice A 0 c,F] w fun z w'=>z=.returned (.slice A 0 c)∧w=w':=by
 go_enter Tryz.func57,Tryz.ntmps57
 go_wp2_with fail
 go_ret
 exact ⟨rfl,rfl⟩
theorem lL {A:Option Addr} {c:Nat} {F:Value} {w:World}:Calls Tryz.prog 174 #[.slice A 0 c,.int .i64 0,.int .i64 0,F] w fun z w'=>z=.returned (.tuple #[])∧w=w':=by
 go_enter Tryz.func174,Tryz.ntmps174
 go_wp2_with fail
 go_loopw [8] (fun i wr=>i=.int .i64 1∧w=wr) (fun _ _=>0)
 case atStart=>exact ⟨rfl,rfl⟩
 case round=>
  obtain ⟨rfl,rfl⟩:=hrel
  go_wp2_with fail
  go_end0
  exact ⟨rfl,rfl⟩
theorem xF {A:Option Addr} {c:Nat} {l:Int} {F:Value} {w:World}:Calls Tryz.prog 116 #[.slice A 0 c,.int .i64 0,.int .i64 0,.int .i64 l,F] w fun z w'=>z=.returned (.tuple #[])∧w=w':=by
 go_enter Tryz.func116,Tryz.ntmps116
 go_wp2_with fail
 go_loopw [1,2,3,10,11] (fun a b q r t wr=>a=.int .i64 0∧b=.int .i64 0∧q=.int .i64 l∧w=wr) (fun _ _ _ _ _ _=>0)
 case atStart=>exact ⟨rfl,rfl,rfl,rfl⟩
 case round=>
  obtain ⟨rfl,rfl,rfl,rfl⟩:=hrel
  go_wp2_with fail
  refine lL.mono ?_
  rintro e w2 ⟨rfl,rfl⟩
  go_wp2_with fail
  refine bodyPost_ret (results_none rfl _ _ _) rfl ?_
  exact ⟨rfl,rfl⟩
theorem oW {A:Option Addr} {c:Nat} {F:Value} {w:World}:Calls Tryz.prog 56 #[.slice A 0 c,F] w fun z w'=>z=.returned (.tuple #[])∧w=w':=by
 go_enter Tryz.func56,Tryz.ntmps56
 go_wp2_with fail
 refine (Tryz.bits_Len 0 w (by decide) (by decide)).mono ?_
 rintro e w2 ⟨rfl,rfl⟩
 go_wp2_with fail
 refine xF.mono ?_
 rintro e w3 ⟨rfl,rfl⟩
 go_wp2_with fail
 go_end0
 exact ⟨rfl,rfl⟩
end Go.Proofs.YtdphibjibnffeaaGreat
