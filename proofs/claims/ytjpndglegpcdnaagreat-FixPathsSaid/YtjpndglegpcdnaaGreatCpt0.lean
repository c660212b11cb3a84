/- Sorting and compacting no answers. -/
import Derived.Test.YtjpndglegpcdnaaGreatCpt
set_option linter.unusedVariables false
set_option linter.unusedSimpArgs false
set_option maxRecDepth 100000
set_option maxHeartbeats 8000000
namespace Go.Proofs.YtjpndglegpcdnaaGreat
open Go.ChangeShapes Go.WideShapes Go.ChangeAt Go.RowKit
def qAn (a b:AnV):Bool:=aR a.x b.x==0
theorem wi:∀args (w:World),(callFunc 80 args).run Tryz.prog w=.ok (.enter 80 args) w:=ent Tryz.func80 (by kernel_rfl) rfl
theorem mc {base d g c:Nat} {w:World} {xs:List AnV} (hr:am jo 116 w base 0 (.slice (some ⟨g,0,none⟩) xs.length c) xs) (hx:0<xs.length) (hok:∀y∈xs,AnOk y.x)
 (hd:∀y∈xs,fl (fun k=>k=g) w (fun w'=>(mJ d).rd w' w'.heap.size y.x y.cs)) (hn:xs.length≤1000000) :
 Calls Tryz.prog 79 #[.slice (some ⟨g,0,none⟩) xs.length c,.func (.func 80) #[] #[]] w fun z w'=>
  ∃L,L=cpt qAn xs∧z=.returned (.slice (some ⟨g,0,none⟩) L.length c)∧am jo 116 w' base 0 (.slice (some ⟨g,0,none⟩) L.length c) L∧ak (fun k=>k=g) w w':=by
 have hgl0:g<w.heap.size:=(hr.lt g rfl).2
 have hcap:xs.length≤c∧c≤9223372036854775807:=by
  obtain ⟨g1,c1,e1,_,_,h1,h2,_⟩:=hr.sh aY hx
  simp only [yB] at e1
  obtain ⟨_,_,rfl⟩:=e1
  exact ⟨h1,h2⟩
 obtain ⟨hc1,hc2⟩:=hcap
 have HR:=ym hr
 have HOK:=ym hok
 have HD:=ym hd
 have hen:=wi
 clear hr hok hd
 go_enter Tryz.func79,Tryz.ntmps79
 by_cases h2:xs.length<2
 ·go_wp2_with fail
  go_ret
  have e:cpt qAn xs=xs:=by
   have:=tH qAn hx
   rwa [List.take_of_length_le (by omega)] at this
  exact ⟨xs,e.symm,rfl,HR.out,ak.refl _ _⟩
 ·go_wp2_with fail
  go_loopw [5] (fun u wr=>∃j:Nat,j<xs.length∧u=.int .i64 ((j:Int)+1)∧Hid (cpt qAn (xs.take (j+1))=xs.take (j+1))∧Hid (Below w.heap.size w wr)) (fun u _=>xs.length-(intOf u).toNat)
  case atStart=>exact ⟨0,hx,rfl,ym (tH qAn hx),ym (yq _ _)⟩
  case round=>
   obtain ⟨j,hj,rfl,HC,HW⟩:=hrel
   have hgl:g<wr.heap.size:=yr hgl0 HW.out.size
   by_cases hlt:j+1<xs.length
   ·obtain ⟨x0,x1,x2⟩:=gd (HR.out.later HW.out (yp _)) hlt
    obtain ⟨y0,y1,y2⟩:=gd (HR.out.later HW.out (yp _)) hj
    have HCS:=ym (qJ qAn hlt)
    have HXO:=ym (HOK.out _ (List.getElem_mem hlt))
    have HYO:=ym (HOK.out _ (List.getElem_mem hj))
    have HX:=ym (fun (w':World) (hb:Below wr.heap.size wr w')=>(HD.out _ (List.getElem_mem hlt)) w' (ak.of_below (HW.out.trans (hb.mono HW.out.size))))
    have HY:=ym (fun (w':World) (hb:Below wr.heap.size wr w')=>(HD.out _ (List.getElem_mem hj)) w' (ak.of_below (HW.out.trans (hb.mono HW.out.size))))
    generalize hxe:xs[j+1]=x at *
    generalize hye:xs[j]=y at *
    have HXE:=ym hxe
    clear hxe hye
    have hJ0:(0:Int)≤(j:Int):=Int.natCast_nonneg _
    have hJ3:(0:Int)≤(j:Int)+1:=by omega
    have hJw:IntKind.i64.wrap (j:Int)=j:=by simp [IntKind.wrap,IntKind.bits,IntKind.signed];omega
    have hJ1:(j:Int)+1<(xs.length:Int):=by omega
    have hJ2:(j:Int)<(xs.length:Int):=by omega
    go_upto_region 6 with fail
    have HSL:Hid (∀{w':World},Below wr.heap.size wr w'→(w'.cell? ⟨g,(j+1)*3,none⟩=some (.slice x.an x.x.b.names.length x.cn)∧w'.cell? ⟨g,(j+1)*3+1,none⟩=some (.slice x.at_ x.x.b.terms.length x.ct)∧w'.cell? ⟨g,(j+1)*3+2,none⟩=some (.int .u32 x.x.o)∧w'.cell? ⟨g,j*3,none⟩=some (.slice y.an y.x.b.names.length y.cn)∧w'.cell? ⟨g,j*3+1,none⟩=some (.slice y.at_ y.x.b.terms.length y.ct)∧w'.cell? ⟨g,j*3+2,none⟩=some (.int .u32 y.x.o))):=ym (fun hb=>⟨(hb.cell hgl).trans x0,(hb.cell hgl).trans x1,(hb.cell hgl).trans x2,(hb.cell hgl).trans y0,(hb.cell hgl).trans y1,(hb.cell hgl).trans y2⟩)
    clear x0 x1 x2 y0 y1 y2
    refine aN (fun w'=>w'.cell? ⟨g,(j+1)*3,none⟩=some (.slice x.an x.x.b.names.length x.cn)∧w'.cell? ⟨g,(j+1)*3+1,none⟩=some (.slice x.at_ x.x.b.terms.length x.ct)∧w'.cell? ⟨g,(j+1)*3+2,none⟩=some (.int .u32 x.x.o)∧w'.cell? ⟨g,j*3,none⟩=some (.slice y.an y.x.b.names.length y.cn)∧w'.cell? ⟨g,j*3+1,none⟩=some (.slice y.at_ y.x.b.terms.length y.ct)∧w'.cell? ⟨g,j*3+2,none⟩=some (.int .u32 y.x.o)) (by kernel_rfl) (HSL.out (yq _ _).drew) ?_
    refine ab 0 ?_
    refine ab 1 ?_
    refine ab 2 ?_
    refine ab 3 ?_
    refine ab 4 ?_
    refine ab 5 ?_
    refine ab 6 ?_
    refine ab 7 ?_
    refine ab 8 ?_
    refine ab 9 ?_
    generalize hD:World.drew wr=w2
    have HU:Hid (Below wr.heap.size wr w2):=ym (hD▸(yq wr.heap.size wr).drew)
    clear hD
    refine au (rs:=[10]) (by kernel_rfl) rfl ?_
    refine aj.cons rfl (fun K hK=>?_) aj.nil
    go_simp
    refine (kn (d:=d) (e:=d) (va:=[_,_,_]) (vb:=[_,_,_]) (HX.out w2 HU.out) (HY.out w2 HU.out) HXO.out HYO.out (yo _)).mono ?_
    rintro z w3 ⟨rfl,hb3⟩
    have HU3:Hid (Below wr.heap.size wr w3):=ym (HU.out.trans (hb3.mono HU.out.size))
    clear hb3
    refine hK.out _ _ (HSL.out HU3.out) ?_
    clear hK
    refine bY (by kernel_rfl) ?_
    by_cases hq:(aR x.x y.x==0)=true
    ·clear HSL
     have HQ:Hid (cpt qAn (xs.take (j+2))=xs.take (j+1)):=ym (by
      rw [HCS.out,HC.out]
      rw [show qAn x y=true from hq,if_pos rfl,List.append_nil])
     have HW3:Hid (Below w.heap.size w w3):=ym (HW.out.trans (HU3.out.mono HW.out.size))
     clear HCS HXE HX HY HXO HYO HC
     rw [hq]
     clear hq
     go_wp2_with fail
     obtain ⟨N,hN⟩:∃N,xs.length-(j+1)=N:=⟨_,rfl⟩
     obtain ⟨C2,hC2⟩:∃C2,c-(j+1)=C2:=⟨_,rfl⟩
     rw [hN,hC2]
     have HN:Hid (xs.length=j+1+N):=ym (by omega)
     have hN0:0<N:=by omega
     have hN1:N≤1000000:=by omega
     clear hN hC2
     go_loopw [5,7] (fun u v wr=>∃(k m:Nat) (R:List AnV),u=.int .i64 ((k:Int)+1)∧v=.int .i64 ((m:Int)+1)∧k≤j+m∧m<N∧R.length=xs.length∧Hid (R.take (k+1)=cpt qAn (xs.take (j+m+2)))∧Hid (R.drop (j+m+1)=xs.drop (j+m+1))∧Hid (am jo 116 wr base 0 (.slice (some ⟨g,0,none⟩) xs.length c) R)∧Hid (ak (fun k=>k=g) w wr)) (fun _ v _=>N-(intOf v).toNat)
     case atStart=>exact ⟨j,0,xs,rfl,rfl,yo _,hN0,rfl,ym HQ.out.symm,ym rfl,ym (HR.out.later HW3.out (yp _)),ym (ak.of_below HW3.out)⟩
     case round=>
      clear HQ HW3 HU HU3
      obtain ⟨k,m,R,rfl,rfl,hkm,hmN,hRl,HRT,HRD,HRO,HAG⟩:=hrel
      have hn2:=HN.out
      have hgl:g<wr.heap.size:=yr hgl0 HAG.out.size
      have hK0:(0:Int)≤(k:Int):=Int.natCast_nonneg _
      have hK3:(0:Int)≤(k:Int)+1:=by omega
      have hK1:(k:Int)+1<(xs.length:Int):=by omega
      have hKn:k+1<xs.length:=by omega
      have HRO1:Hid (am jo 116 wr base 0 (.slice (some ⟨g,0,none⟩) R.length c) R):=ym (by rw [hRl];exact HRO.out)
      by_cases hlt2:m+1<N
      ·have hi1:j+m+2<xs.length:=by omega
       have hi0:j+m+1<xs.length:=by omega
       have hr1:j+m+2<R.length:=by omega
       have hr0:j+m+1<R.length:=by omega
       obtain ⟨x0,x1,x2⟩:=gd HRO1.out hr1
       obtain ⟨y0,y1,y2⟩:=gd HRO1.out hr0
       rw [xS HRD.out (by omega) hr1 hi1,show (j+m+2)*3=(j+1)*3+(m+1)*3 by omega] at x0 x1 x2
       rw [xS HRD.out (by omega) hr0 hi0,show (j+m+1)*3=(j+1)*3+m*3 by omega] at y0 y1 y2
       have HCS:=ym (qJ qAn hi1)
       have HXO:=ym (HOK.out _ (List.getElem_mem hi1))
       have HYO:=ym (HOK.out _ (List.getElem_mem hi0))
       have HX:=ym (fun (w':World) (hb:Below wr.heap.size wr w')=>(HD.out _ (List.getElem_mem hi1)) w' (HAG.out.trans (ak.of_below (M:=fun k=>k=g) hb) (fun _ _ h=>h)))
       have HY:=ym (fun (w':World) (hb:Below wr.heap.size wr w')=>(HD.out _ (List.getElem_mem hi0)) w' (HAG.out.trans (ak.of_below (M:=fun k=>k=g) hb) (fun _ _ h=>h)))
       generalize hxe:xs[j+m+2]=x at *
       generalize hye:xs[j+m+1]=y at *
       clear hxe hye hn2 hi1 hi0 hr1 hr0
       have hM0:(0:Int)≤(m:Int):=Int.natCast_nonneg _
       have hM3:(0:Int)≤(m:Int)+1:=by omega
       have hMw:IntKind.i64.wrap (m:Int)=m:=by simp [IntKind.wrap,IntKind.bits,IntKind.signed];omega
       have hM1:(m:Int)+1<(N:Int):=by omega
       have hM2:(m:Int)<(N:Int):=by omega
       go_upto_region 11 with fail
       have HSL:Hid (∀{w':World},Below wr.heap.size wr w'→(w'.cell? ⟨g,(j+1)*3+(m+1)*3,none⟩=some (.slice x.an x.x.b.names.length x.cn)∧w'.cell? ⟨g,(j+1)*3+(m+1)*3+1,none⟩=some (.slice x.at_ x.x.b.terms.length x.ct)∧w'.cell? ⟨g,(j+1)*3+(m+1)*3+2,none⟩=some (.int .u32 x.x.o)∧w'.cell? ⟨g,(j+1)*3+m*3,none⟩=some (.slice y.an y.x.b.names.length y.cn)∧w'.cell? ⟨g,(j+1)*3+m*3+1,none⟩=some (.slice y.at_ y.x.b.terms.length y.ct)∧w'.cell? ⟨g,(j+1)*3+m*3+2,none⟩=some (.int .u32 y.x.o))):=ym (fun hb=>⟨(hb.cell hgl).trans x0,(hb.cell hgl).trans x1,(hb.cell hgl).trans x2,(hb.cell hgl).trans y0,(hb.cell hgl).trans y1,(hb.cell hgl).trans y2⟩)
       clear x0 x1 x2 y0 y1 y2
       refine aN (fun w'=>w'.cell? ⟨g,(j+1)*3+(m+1)*3,none⟩=some (.slice x.an x.x.b.names.length x.cn)∧w'.cell? ⟨g,(j+1)*3+(m+1)*3+1,none⟩=some (.slice x.at_ x.x.b.terms.length x.ct)∧w'.cell? ⟨g,(j+1)*3+(m+1)*3+2,none⟩=some (.int .u32 x.x.o)∧w'.cell? ⟨g,(j+1)*3+m*3,none⟩=some (.slice y.an y.x.b.names.length y.cn)∧w'.cell? ⟨g,(j+1)*3+m*3+1,none⟩=some (.slice y.at_ y.x.b.terms.length y.ct)∧w'.cell? ⟨g,(j+1)*3+m*3+2,none⟩=some (.int .u32 y.x.o)) (by kernel_rfl) (HSL.out (yq _ _).drew) ?_
       refine ab 0 ?_
       refine ab 1 ?_
       refine ab 2 ?_
       refine ab 3 ?_
       refine ab 4 ?_
       refine ab 5 ?_
       refine ab 6 ?_
       refine ab 7 ?_
       refine ab 8 ?_
       refine ab 9 ?_
       generalize hD:World.drew wr=w2
       have HU:Hid (Below wr.heap.size wr w2):=ym (hD▸(yq wr.heap.size wr).drew)
       clear hD
       refine au (rs:=[10]) (by kernel_rfl) rfl ?_
       refine aj.cons rfl (fun K hK=>?_) aj.nil
       go_simp
       refine (kn (d:=d) (e:=d) (va:=[_,_,_]) (vb:=[_,_,_]) (HX.out w2 HU.out) (HY.out w2 HU.out) HXO.out HYO.out (yo _)).mono ?_
       rintro z w3 ⟨rfl,hb3⟩
       have HU3:Hid (Below wr.heap.size wr w3):=ym (HU.out.trans (hb3.mono HU.out.size))
       clear hb3
       refine hK.out _ _ (HSL.out HU3.out) ?_
       clear hK
       refine ab 11 ?_
       refine bY (by kernel_rfl) ?_
       have hn3:=HN.out
       have HQD:Hid (qAn x y=(aR x.x y.x==0)):=ym rfl
       generalize aR x.x y.x=r at *
       by_cases hq2:r=0
       ·subst hq2
        have HQ2:Hid (R.take (k+1)=cpt qAn (xs.take (j+(m+1)+2))):=ym (by
         rw [show j+(m+1)+2=j+m+1+2 by omega,HCS.out,show qAn x y=true from HQD.out,if_pos rfl,List.append_nil]
         exact HRT.out)
        have HD2:Hid (R.drop (j+(m+1)+1)=xs.drop (j+(m+1)+1)):=ym (by
         exact od (s:=j+m+1) HRD.out)
        have HO2:=ym (HRO.out.later HU3.out (yp _))
        have HA2:=ym (HAG.out.trans (ak.of_below (M:=fun k=>k=g) HU3.out) (fun _ _ h=>h))
        clear HSL HCS HX HY HXO HYO hn3
        go_wp2_with fail
        go_roundw
        case rel=>exact ⟨k,m+1,R,rfl,by go_num,by omega,hlt2,hRl,HQ2,HD2,HO2,HA2⟩
        case measure=>simp [intOf];omega
       ·have hq3:(r==0)=false:=by simpa using hq2
        have hkR:k+1<R.length:=by omega
        have HRO3:=ym (HRO1.out.later HU3.out (yp _))
        obtain ⟨t0,t1,t2⟩:=gd HRO3.out hkR
        obtain ⟨u0_,q0⟩:∃u,w3.cell? ⟨g,(k+1)*3,none⟩=some u:=⟨_,t0⟩
        obtain ⟨u1_,q1⟩:∃u,w3.cell? ⟨g,(k+1)*3+1,none⟩=some u:=⟨_,t1⟩
        obtain ⟨u2_,q2⟩:∃u,w3.cell? ⟨g,(k+1)*3+2,none⟩=some u:=⟨_,t2⟩
        have hfr:=td HRO3.out (by omega)
        obtain ⟨x0,x1,x2,_,_,_⟩:=HSL.out HU3.out
        have HP:=ym (an_put HRO3.out hkR x)
        have HQ2:Hid ((R.set (k+1) x).take (k+1+1)=cpt qAn (xs.take (j+(m+1)+2))):=ym (by
         rw [show j+(m+1)+2=j+m+1+2 by omega,HCS.out,show qAn x y=false from HQD.out.trans hq3,if_neg (by decide)]
         rw [List.take_succ_eq_append_getElem (by rw [List.length_set];exact hkR),List.getElem_set_self,List.take_set_of_le (yo _)]
         rw [HRT.out])
        have HD2:Hid ((R.set (k+1) x).drop (j+(m+1)+1)=xs.drop (j+(m+1)+1)):=ym (by
         rw [List.drop_set_of_lt (by omega)]
         exact od (s:=j+m+1) HRD.out)
        have HA2:=ym (HAG.out.trans (ak.of_below (M:=fun k=>k=g) HU3.out) (fun _ _ h=>h))
        have hnb:(!(r==0))=true:=by rw [hq3];rfl
        clear HSL HCS HX HY HXO HYO hn3 hq2 t0 t1 t2
        go_wp2_with fail
        go_roundw
        case rel=>exact ⟨k+1,m+1,R.set (k+1) x,by go_num,by go_num,by omega,hlt2,by rw [List.length_set];exact hRl,HQ2,HD2,ym (by have h:=HP.out;rw [hRl] at h;exact h),ym (((HA2.out.set_ (fun _=>rfl) _ _).set_ (fun _=>rfl) _ _).set_ (fun _=>rfl) _ _)⟩
        case measure=>simp [intOf];omega
        all_goals (rename_i h9;rw [hq3] at h9;exact absurd h9 (by decide))
      ·have hzv:=Tryz.zeroValue116
       have hclr:=fun ty=>qr (P:=Tryz.prog) wr 109 116 ty _ Tryz.underlying109 hzv (by decide) (by decide) g ((k+1)*3) (xs.length-(k+1)) (c-(k+1)) (by omega) (by
        intro t ht
        refine an_some HRO1.out ?_
        have ht:t<(xs.length-(k+1))*3:=ht
        rw [hRl];omega) (fun j=>td HRO1.out (by omega) _)
       have HE:Hid (R.take (k+1)=cpt qAn xs):=ym (by
        rw [HRT.out,List.take_of_length_le (by omega)])
       have hlen:(R.take (k+1)).length=k+1:=by rw [yF];omega
       have HCUT:=ym (fun vs=>own_cut HRO1.out (show k+1≤R.length by omega) vs)
       have hk2:k+1≤xs.length:=by omega
       generalize (Builtin.zeroCells _ _).toList=VS at hclr
       clear hzv hn2
       go_wp2_with fail
       go_ret
       refine ⟨R.take (k+1),HE.out,by rw [hlen];rfl,?_,HAG.out.trans (gM VS _ _) (fun _ _ h=>h)⟩
       rw [hlen]
       exact HCUT.out VS
    ·have hq':(aR x.x y.x==0)=false:=by simpa using hq
     have HQ:Hid (cpt qAn (xs.take (j+2))=xs.take (j+2)):=ym (by
      rw [HCS.out,HC.out]
      rw [show qAn x y=false from hq',if_neg (by decide),←HXE.out,List.take_succ_eq_append_getElem hlt])
     have HW3:Hid (Below w.heap.size w w3):=ym (HW.out.trans (HU3.out.mono HW.out.size))
     clear hq HCS HXE
     go_wp2_with fail
     go_roundw
     case rel=>exact ⟨j+1,hlt,by go_num,HQ,HW3⟩
     case measure=>simp [intOf];omega
   ·go_wp2_with fail
    go_ret
    have e:cpt qAn xs=xs:=by
     have:=HC.out
     rwa [List.take_of_length_le (by omega)] at this
    exact ⟨xs,e.symm,rfl,HR.out.later HW.out (yp _),ak.of_below HW.out⟩
theorem jr {A:Option Addr} {c:Nat} {F:Value} {w:World}:Calls Tryz.prog 79 #[.slice A 0 c,F] w fun z w'=>z=.returned (.slice A 0 c)∧w=w':=by
 go_enter Tryz.func79,Tryz.ntmps79
 go_wp2_with fail
 go_ret
 exact ⟨rfl,rfl⟩
theorem lT {A:Option Addr} {c:Nat} {F:Value} {w:World}:Calls Tryz.prog 127 #[.slice A 0 c,.int .i64 0,.int .i64 0,F] w fun z w'=>z=.returned (.tuple #[])∧w=w':=by
 go_enter Tryz.func127,Tryz.ntmps127
 go_wp2_with fail
 go_loopw [8] (fun i wr=>i=.int .i64 1∧w=wr) (fun _ _=>0)
 case atStart=>exact ⟨rfl,rfl⟩
 case round=>
  obtain ⟨rfl,rfl⟩:=hrel
  go_wp2_with fail
  go_end0
  exact ⟨rfl,rfl⟩
theorem wY {A:Option Addr} {c:Nat} {l:Int} {F:Value} {w:World}:Calls Tryz.prog 98 #[.slice A 0 c,.int .i64 0,.int .i64 0,.int .i64 l,F] w fun z w'=>z=.returned (.tuple #[])∧w=w':=by
 go_enter Tryz.func98,Tryz.ntmps98
 go_wp2_with fail
 go_loopw [1,2,3,10,11] (fun a b q r t wr=>a=.int .i64 0∧b=.int .i64 0∧q=.int .i64 l∧w=wr) (fun _ _ _ _ _ _=>0)
 case atStart=>exact ⟨rfl,rfl,rfl,rfl⟩
 case round=>
  obtain ⟨rfl,rfl,rfl,rfl⟩:=hrel
  go_wp2_with fail
  refine lT.mono ?_
  rintro e w2 ⟨rfl,rfl⟩
  go_wp2_with fail
  refine bodyPost_ret (results_none rfl _ _ _) rfl ?_
  exact ⟨rfl,rfl⟩
theorem oY {A:Option Addr} {c:Nat} {F:Value} {w:World}:Calls Tryz.prog 77 #[.slice A 0 c,F] w fun z w'=>z=.returned (.tuple #[])∧w=w':=by
 go_enter Tryz.func77,Tryz.ntmps77
 go_wp2_with fail
 refine (Tryz.bits_Len 0 w (by decide) (by decide)).mono ?_
 rintro e w2 ⟨rfl,rfl⟩
 go_wp2_with fail
 refine wY.mono ?_
 rintro e w3 ⟨rfl,rfl⟩
 go_wp2_with fail
 go_end0
 exact ⟨rfl,rfl⟩
end Go.Proofs.YtjpndglegpcdnaaGreat
