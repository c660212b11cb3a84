/- (*join.walk).goes. -/
import Derived.Test.YtjpndglegpcdnaaGreatCpt
import Derived.Laws.BitsAllLaws
set_option linter.unusedVariables false
set_option linter.unusedSimpArgs false
set_option maxRecDepth 100000
set_option maxHeartbeats 8000000
namespace Go.Proofs.YtjpndglegpcdnaaGreat
open Go.ChangeShapes Go.WideShapes Go.ChangeAt Go.RowKit
def qAn (a b:AnV):Bool:=aT a.x b.x==0
theorem xx:∀args (w:World),(callFunc 80 args).run Tryz.prog w=.ok (.enter 80 args) w:=ent Tryz.func80 (by kernel_rfl) rfl
theorem mB {base d g c:Nat} {w:World} {xs:List AnV} (hr:am jC 116 w base 0 (.slice (some ⟨g,0,none⟩) xs.length c) xs) (hx:0<xs.length) (hok:∀y∈xs,AnOk y.x)
 (hd:∀y∈xs,fD (fun k=>k=g) w (fun w'=>(mZ d).rd w' w'.heap.size y.x y.cs)) (hn:xs.length≤1000000) :
 Calls Tryz.prog 79 #[.slice (some ⟨g,0,none⟩) xs.length c,.func (.func 80) #[] #[]] w fun z w'=>
  ∃L,L=cpt qAn xs∧z=.returned (.slice (some ⟨g,0,none⟩) L.length c)∧am jC 116 w' base 0 (.slice (some ⟨g,0,none⟩) L.length c) L∧ak (fun k=>k=g) w w':=by
 have hgl0:g<w.heap.size:=(hr.lt g rfl).2
 have hcap:xs.length≤c∧c≤9223372036854775807:=by
  obtain ⟨g1,c1,e1,_,_,h1,h2,_⟩:=hr.sh bf hx
  simp only [zG] at e1
  obtain ⟨_,_,rfl⟩:=e1
  exact ⟨h1,h2⟩
 obtain ⟨hc1,hc2⟩:=hcap
 have HR:=zu hr
 have HOK:=zu hok
 have HD:=zu hd
 have hen:=xx
 clear hr hok hd
 go_enter Tryz.func79,Tryz.ntmps79
 by_cases h2:xs.length<2
 ·go_wp2_with fail
  go_ret
  have e:cpt qAn xs=xs:=by
   have:=uH qAn hx
   rwa [List.take_of_length_le (by omega)] at this
  exact ⟨xs,e.symm,rfl,HR.out,ak.refl _ _⟩
 ·go_wp2_with fail
  go_loopw [5] (fun u wr=>∃j:Nat,j<xs.length∧u=.int .i64 ((j:Int)+1)∧Hid (cpt qAn (xs.take (j+1))=xs.take (j+1))∧Hid (Below w.heap.size w wr)) (fun u _=>xs.length-(intOf u).toNat)
  case atStart=>exact ⟨0,hx,rfl,zu (uH qAn hx),zu (zy _ _)⟩
  case round=>
   obtain ⟨j,hj,rfl,HC,HW⟩:=hrel
   have hgl:g<wr.heap.size:=zz hgl0 HW.out.size
   by_cases hlt:j+1<xs.length
   ·obtain ⟨x0,x1,x2⟩:=gu (HR.out.later HW.out (zx _)) hlt
    obtain ⟨y0,y1,y2⟩:=gu (HR.out.later HW.out (zx _)) hj
    have HCS:=zu (rz qAn hlt)
    have HXO:=zu (HOK.out _ (List.getElem_mem hlt))
    have HYO:=zu (HOK.out _ (List.getElem_mem hj))
    have HX:=zu (fun (w':World) (hb:Below wr.heap.size wr w')=>(HD.out _ (List.getElem_mem hlt)) w' (ak.of_below (HW.out.trans (hb.mono HW.out.size))))
    have HY:=zu (fun (w':World) (hb:Below wr.heap.size wr w')=>(HD.out _ (List.getElem_mem hj)) w' (ak.of_below (HW.out.trans (hb.mono HW.out.size))))
    generalize hxe:xs[j+1]=x at *
    generalize hye:xs[j]=y at *
    have HXE:=zu hxe
    clear hxe hye
    have hJ0:(0:Int)≤(j:Int):=Int.natCast_nonneg _
    have hJ3:(0:Int)≤(j:Int)+1:=by omega
    have hJw:IntKind.i64.wrap (j:Int)=j:=by simp [IntKind.wrap,IntKind.bits,IntKind.signed];omega
    have hJ1:(j:Int)+1<(xs.length:Int):=by omega
    have hJ2:(j:Int)<(xs.length:Int):=by omega
    go_upto_region 6 with fail
    have HSL:Hid (∀{w':World},Below wr.heap.size wr w'→(w'.cell? ⟨g,(j+1)*3,none⟩=some (.slice x.an x.x.b.names.length x.cn)∧w'.cell? ⟨g,(j+1)*3+1,none⟩=some (.slice x.at_ x.x.b.terms.length x.ct)∧w'.cell? ⟨g,(j+1)*3+2,none⟩=some (.int .u32 x.x.o)∧w'.cell? ⟨g,j*3,none⟩=some (.slice y.an y.x.b.names.length y.cn)∧w'.cell? ⟨g,j*3+1,none⟩=some (.slice y.at_ y.x.b.terms.length y.ct)∧w'.cell? ⟨g,j*3+2,none⟩=some (.int .u32 y.x.o))):=zu (fun hb=>⟨(hb.cell hgl).trans x0,(hb.cell hgl).trans x1,(hb.cell hgl).trans x2,(hb.cell hgl).trans y0,(hb.cell hgl).trans y1,(hb.cell hgl).trans y2⟩)
    clear x0 x1 x2 y0 y1 y2
    refine aL (fun w'=>w'.cell? ⟨g,(j+1)*3,none⟩=some (.slice x.an x.x.b.names.length x.cn)∧w'.cell? ⟨g,(j+1)*3+1,none⟩=some (.slice x.at_ x.x.b.terms.length x.ct)∧w'.cell? ⟨g,(j+1)*3+2,none⟩=some (.int .u32 x.x.o)∧w'.cell? ⟨g,j*3,none⟩=some (.slice y.an y.x.b.names.length y.cn)∧w'.cell? ⟨g,j*3+1,none⟩=some (.slice y.at_ y.x.b.terms.length y.ct)∧w'.cell? ⟨g,j*3+2,none⟩=some (.int .u32 y.x.o)) (by kernel_rfl) (HSL.out (zy _ _).drew) ?_
    refine ab 0 ?_
    refine ab 1 ?_
    refine ab 2 ?_
    refine ab 3 ?_
    refine ab 4 ?_
    refine ab 5 ?_
    refine ab 6 ?_
    refine ab 7 ?_
    refine ab 8 ?_
    refine ab 9 ?_
    generalize hD:World.drew wr=w2
    have HU:Hid (Below wr.heap.size wr w2):=zu (hD▸(zy wr.heap.size wr).drew)
    clear hD
    refine av (rs:=[10]) (by kernel_rfl) rfl ?_
    refine aj.cons rfl (fun K hK=>?_) aj.nil
    go_simp
    refine (kA (d:=d) (e:=d) (va:=[_,_,_]) (vb:=[_,_,_]) (HX.out w2 HU.out) (HY.out w2 HU.out) HXO.out HYO.out (zw _)).mono ?_
    rintro z w3 ⟨rfl,hb3⟩
    have HU3:Hid (Below wr.heap.size wr w3):=zu (HU.out.trans (hb3.mono HU.out.size))
    clear hb3
    refine hK.out _ _ (HSL.out HU3.out) ?_
    clear hK
    refine bN (by kernel_rfl) ?_
    by_cases hq:(aT x.x y.x==0)=true
    ·clear HSL
     have HQ:Hid (cpt qAn (xs.take (j+2))=xs.take (j+1)):=zu (by
      rw [HCS.out,HC.out]
      rw [show qAn x y=true from hq,if_pos rfl,List.append_nil])
     have HW3:Hid (Below w.heap.size w w3):=zu (HW.out.trans (HU3.out.mono HW.out.size))
     clear HCS HXE HX HY HXO HYO HC
     rw [hq]
     clear hq
     go_wp2_with fail
     obtain ⟨N,hN⟩:∃N,xs.length-(j+1)=N:=⟨_,rfl⟩
     obtain ⟨C2,hC2⟩:∃C2,c-(j+1)=C2:=⟨_,rfl⟩
     rw [hN,hC2]
     have HN:Hid (xs.length=j+1+N):=zu (by omega)
     have hN0:0<N:=by omega
     have hN1:N≤1000000:=by omega
     clear hN hC2
     go_loopw [5,7] (fun u v wr=>∃(k m:Nat) (R:List AnV),u=.int .i64 ((k:Int)+1)∧v=.int .i64 ((m:Int)+1)∧k≤j+m∧m<N∧R.length=xs.length∧Hid (R.take (k+1)=cpt qAn (xs.take (j+m+2)))∧Hid (R.drop (j+m+1)=xs.drop (j+m+1))∧Hid (am jC 116 wr base 0 (.slice (some ⟨g,0,none⟩) xs.length c) R)∧Hid (ak (fun k=>k=g) w wr)) (fun _ v _=>N-(intOf v).toNat)
     case atStart=>exact ⟨j,0,xs,rfl,rfl,zw _,hN0,rfl,zu HQ.out.symm,zu rfl,zu (HR.out.later HW3.out (zx _)),zu (ak.of_below HW3.out)⟩
     case round=>
      clear HQ HW3 HU HU3
      obtain ⟨k,m,R,rfl,rfl,hkm,hmN,hRl,HRT,HRD,HRO,HAG⟩:=hrel
      have hn2:=HN.out
      have hgl:g<wr.heap.size:=zz hgl0 HAG.out.size
      have hK0:(0:Int)≤(k:Int):=Int.natCast_nonneg _
      have hK3:(0:Int)≤(k:Int)+1:=by omega
      have hK1:(k:Int)+1<(xs.length:Int):=by omega
      have hKn:k+1<xs.length:=by omega
      have HRO1:Hid (am jC 116 wr base 0 (.slice (some ⟨g,0,none⟩) R.length c) R):=zu (by rw [hRl];exact HRO.out)
      by_cases hlt2:m+1<N
      ·have hi1:j+m+2<xs.length:=by omega
       have hi0:j+m+1<xs.length:=by omega
       have hr1:j+m+2<R.length:=by omega
       have hr0:j+m+1<R.length:=by omega
       obtain ⟨x0,x1,x2⟩:=gu HRO1.out hr1
       obtain ⟨y0,y1,y2⟩:=gu HRO1.out hr0
       rw [yY HRD.out (by omega) hr1 hi1,show (j+m+2)*3=(j+1)*3+(m+1)*3 by omega] at x0 x1 x2
       rw [yY HRD.out (by omega) hr0 hi0,show (j+m+1)*3=(j+1)*3+m*3 by omega] at y0 y1 y2
       have HCS:=zu (rz qAn hi1)
       have HXO:=zu (HOK.out _ (List.getElem_mem hi1))
       have HYO:=zu (HOK.out _ (List.getElem_mem hi0))
       have HX:=zu (fun (w':World) (hb:Below wr.heap.size wr w')=>(HD.out _ (List.getElem_mem hi1)) w' (HAG.out.trans (ak.of_below (M:=fun k=>k=g) hb) (fun _ _ h=>h)))
       have HY:=zu (fun (w':World) (hb:Below wr.heap.size wr w')=>(HD.out _ (List.getElem_mem hi0)) w' (HAG.out.trans (ak.of_below (M:=fun k=>k=g) hb) (fun _ _ h=>h)))
       generalize hxe:xs[j+m+2]=x at *
       generalize hye:xs[j+m+1]=y at *
       clear hxe hye hn2 hi1 hi0 hr1 hr0
       have hM0:(0:Int)≤(m:Int):=Int.natCast_nonneg _
       have hM3:(0:Int)≤(m:Int)+1:=by omega
       have hMw:IntKind.i64.wrap (m:Int)=m:=by simp [IntKind.wrap,IntKind.bits,IntKind.signed];omega
       have hM1:(m:Int)+1<(N:Int):=by omega
       have hM2:(m:Int)<(N:Int):=by omega
       go_upto_region 11 with fail
       have HSL:Hid (∀{w':World},Below wr.heap.size wr w'→(w'.cell? ⟨g,(j+1)*3+(m+1)*3,none⟩=some (.slice x.an x.x.b.names.length x.cn)∧w'.cell? ⟨g,(j+1)*3+(m+1)*3+1,none⟩=some (.slice x.at_ x.x.b.terms.length x.ct)∧w'.cell? ⟨g,(j+1)*3+(m+1)*3+2,none⟩=some (.int .u32 x.x.o)∧w'.cell? ⟨g,(j+1)*3+m*3,none⟩=some (.slice y.an y.x.b.names.length y.cn)∧w'.cell? ⟨g,(j+1)*3+m*3+1,none⟩=some (.slice y.at_ y.x.b.terms.length y.ct)∧w'.cell? ⟨g,(j+1)*3+m*3+2,none⟩=some (.int .u32 y.x.o))):=zu (fun hb=>⟨(hb.cell hgl).trans x0,(hb.cell hgl).trans x1,(hb.cell hgl).trans x2,(hb.cell hgl).trans y0,(hb.cell hgl).trans y1,(hb.cell hgl).trans y2⟩)
       clear x0 x1 x2 y0 y1 y2
       refine aL (fun w'=>w'.cell? ⟨g,(j+1)*3+(m+1)*3,none⟩=some (.slice x.an x.x.b.names.length x.cn)∧w'.cell? ⟨g,(j+1)*3+(m+1)*3+1,none⟩=some (.slice x.at_ x.x.b.terms.length x.ct)∧w'.cell? ⟨g,(j+1)*3+(m+1)*3+2,none⟩=some (.int .u32 x.x.o)∧w'.cell? ⟨g,(j+1)*3+m*3,none⟩=some (.slice y.an y.x.b.names.length y.cn)∧w'.cell? ⟨g,(j+1)*3+m*3+1,none⟩=some (.slice y.at_ y.x.b.terms.length y.ct)∧w'.cell? ⟨g,(j+1)*3+m*3+2,none⟩=some (.int .u32 y.x.o)) (by kernel_rfl) (HSL.out (zy _ _).drew) ?_
       refine ab 0 ?_
       refine ab 1 ?_
       refine ab 2 ?_
       refine ab 3 ?_
       refine ab 4 ?_
       refine ab 5 ?_
       refine ab 6 ?_
       refine ab 7 ?_
       refine ab 8 ?_
       refine ab 9 ?_
       generalize hD:World.drew wr=w2
       have HU:Hid (Below wr.heap.size wr w2):=zu (hD▸(zy wr.heap.size wr).drew)
       clear hD
       refine av (rs:=[10]) (by kernel_rfl) rfl ?_
       refine aj.cons rfl (fun K hK=>?_) aj.nil
       go_simp
       refine (kA (d:=d) (e:=d) (va:=[_,_,_]) (vb:=[_,_,_]) (HX.out w2 HU.out) (HY.out w2 HU.out) HXO.out HYO.out (zw _)).mono ?_
       rintro z w3 ⟨rfl,hb3⟩
       have HU3:Hid (Below wr.heap.size wr w3):=zu (HU.out.trans (hb3.mono HU.out.size))
       clear hb3
       refine hK.out _ _ (HSL.out HU3.out) ?_
       clear hK
       refine ab 11 ?_
       refine bN (by kernel_rfl) ?_
       have hn3:=HN.out
       have HQD:Hid (qAn x y=(aT x.x y.x==0)):=zu rfl
       generalize aT x.x y.x=r at *
       by_cases hq2:r=0
       ·subst hq2
        have HQ2:Hid (R.take (k+1)=cpt qAn (xs.take (j+(m+1)+2))):=zu (by
         rw [show j+(m+1)+2=j+m+1+2 by omega,HCS.out,show qAn x y=true from HQD.out,if_pos rfl,List.append_nil]
         exact HRT.out)
        have HD2:Hid (R.drop (j+(m+1)+1)=xs.drop (j+(m+1)+1)):=zu (by
         exact oL (s:=j+m+1) HRD.out)
        have HO2:=zu (HRO.out.later HU3.out (zx _))
        have HA2:=zu (HAG.out.trans (ak.of_below (M:=fun k=>k=g) HU3.out) (fun _ _ h=>h))
        clear HSL HCS HX HY HXO HYO hn3
        go_wp2_with fail
        go_roundw
        case rel=>exact ⟨k,m+1,R,rfl,by go_num,by omega,hlt2,hRl,HQ2,HD2,HO2,HA2⟩
        case measure=>simp [intOf];omega
       ·have hq3:(r==0)=false:=by simpa using hq2
        have hkR:k+1<R.length:=by omega
        have HRO3:=zu (HRO1.out.later HU3.out (zx _))
        obtain ⟨t0,t1,t2⟩:=gu HRO3.out hkR
        obtain ⟨u0_,q0⟩:∃u,w3.cell? ⟨g,(k+1)*3,none⟩=some u:=⟨_,t0⟩
        obtain ⟨u1_,q1⟩:∃u,w3.cell? ⟨g,(k+1)*3+1,none⟩=some u:=⟨_,t1⟩
        obtain ⟨u2_,q2⟩:∃u,w3.cell? ⟨g,(k+1)*3+2,none⟩=some u:=⟨_,t2⟩
        have hfr:=ub HRO3.out (by omega)
        obtain ⟨x0,x1,x2,_,_,_⟩:=HSL.out HU3.out
        have HP:=zu (an_put HRO3.out hkR x)
        have HQ2:Hid ((R.set (k+1) x).take (k+1+1)=cpt qAn (xs.take (j+(m+1)+2))):=zu (by
         rw [show j+(m+1)+2=j+m+1+2 by omega,HCS.out,show qAn x y=false from HQD.out.trans hq3,if_neg (by decide)]
         rw [List.take_succ_eq_append_getElem (by rw [List.length_set];exact hkR),List.getElem_set_self,List.take_set_of_le (zw _)]
         rw [HRT.out])
        have HD2:Hid ((R.set (k+1) x).drop (j+(m+1)+1)=xs.drop (j+(m+1)+1)):=zu (by
         rw [List.drop_set_of_lt (by omega)]
         exact oL (s:=j+m+1) HRD.out)
        have HA2:=zu (HAG.out.trans (ak.of_below (M:=fun k=>k=g) HU3.out) (fun _ _ h=>h))
        have hnb:(!(r==0))=true:=by rw [hq3];rfl
        clear HSL HCS HX HY HXO HYO hn3 hq2 t0 t1 t2
        go_wp2_with fail
        go_roundw
        case rel=>exact ⟨k+1,m+1,R.set (k+1) x,by go_num,by go_num,by omega,hlt2,by rw [List.length_set];exact hRl,HQ2,HD2,zu (by have h:=HP.out;rw [hRl] at h;exact h),zu (((HA2.out.set_ (fun _=>rfl) _ _).set_ (fun _=>rfl) _ _).set_ (fun _=>rfl) _ _)⟩
        case measure=>simp [intOf];omega
        all_goals (rename_i h9;rw [hq3] at h9;exact absurd h9 (by decide))
      ·have hzv:=Tryz.zeroValue116
       have hclr:=fun ty=>rf (P:=Tryz.prog) wr 109 116 ty _ Tryz.underlying109 hzv (by decide) (by decide) g ((k+1)*3) (xs.length-(k+1)) (c-(k+1)) (by omega) (by
        intro t ht
        refine an_some HRO1.out ?_
        have ht:t<(xs.length-(k+1))*3:=ht
        rw [hRl];omega) (fun j=>ub HRO1.out (by omega) _)
       have HE:Hid (R.take (k+1)=cpt qAn xs):=zu (by
        rw [HRT.out,List.take_of_length_le (by omega)])
       have hlen:(R.take (k+1)).length=k+1:=by rw [zK];omega
       have HCUT:=zu (fun vs=>own_cut HRO1.out (show k+1≤R.length by omega) vs)
       have hk2:k+1≤xs.length:=by omega
       generalize (Builtin.zeroCells _ _).toList=VS at hclr
       clear hzv hn2
       go_wp2_with fail
       go_ret
       refine ⟨R.take (k+1),HE.out,by rw [hlen];rfl,?_,HAG.out.trans (gV VS _ _) (fun _ _ h=>h)⟩
       rw [hlen]
       exact HCUT.out VS
    ·have hq':(aT x.x y.x==0)=false:=by simpa using hq
     have HQ:Hid (cpt qAn (xs.take (j+2))=xs.take (j+2)):=zu (by
      rw [HCS.out,HC.out]
      rw [show qAn x y=false from hq',if_neg (by decide),←HXE.out,List.take_succ_eq_append_getElem hlt])
     have HW3:Hid (Below w.heap.size w w3):=zu (HW.out.trans (HU3.out.mono HW.out.size))
     clear hq HCS HXE
     go_wp2_with fail
     go_roundw
     case rel=>exact ⟨j+1,hlt,by go_num,HQ,HW3⟩
     case measure=>simp [intOf];omega
   ·go_wp2_with fail
    go_ret
    have e:cpt qAn xs=xs:=by
     have:=HC.out
     rwa [List.take_of_length_le (by omega)] at this
    exact ⟨xs,e.symm,rfl,HR.out.later HW.out (zx _),ak.of_below HW.out⟩
theorem jF {A:Option Addr} {c:Nat} {F:Value} {w:World}:Calls Tryz.prog 79 #[.slice A 0 c,F] w fun z w'=>z=.returned (.slice A 0 c)∧w=w':=by
 go_enter Tryz.func79,Tryz.ntmps79
 go_wp2_with fail
 go_ret
 exact ⟨rfl,rfl⟩
theorem mp {A:Option Addr} {c:Nat} {F:Value} {w:World}:Calls Tryz.prog 127 #[.slice A 0 c,.int .i64 0,.int .i64 0,F] w fun z w'=>z=.returned (.tuple #[])∧w=w':=by
 go_enter Tryz.func127,Tryz.ntmps127
 go_wp2_with fail
 go_loopw [8] (fun i wr=>i=.int .i64 1∧w=wr) (fun _ _=>0)
 case atStart=>exact ⟨rfl,rfl⟩
 case round=>
  obtain ⟨rfl,rfl⟩:=hrel
  go_wp2_with fail
  go_end0
  exact ⟨rfl,rfl⟩
theorem yb {A:Option Addr} {c:Nat} {l:Int} {F:Value} {w:World}:Calls Tryz.prog 98 #[.slice A 0 c,.int .i64 0,.int .i64 0,.int .i64 l,F] w fun z w'=>z=.returned (.tuple #[])∧w=w':=by
 go_enter Tryz.func98,Tryz.ntmps98
 go_wp2_with fail
 go_loopw [1,2,3,10,11] (fun a b q r t wr=>a=.int .i64 0∧b=.int .i64 0∧q=.int .i64 l∧w=wr) (fun _ _ _ _ _ _=>0)
 case atStart=>exact ⟨rfl,rfl,rfl,rfl⟩
 case round=>
  obtain ⟨rfl,rfl,rfl,rfl⟩:=hrel
  go_wp2_with fail
  refine mp.mono ?_
  rintro e w2 ⟨rfl,rfl⟩
  go_wp2_with fail
  refine bodyPost_ret (results_none rfl _ _ _) rfl ?_
  exact ⟨rfl,rfl⟩
theorem pI {A:Option Addr} {c:Nat} {F:Value} {w:World}:Calls Tryz.prog 77 #[.slice A 0 c,F] w fun z w'=>z=.returned (.tuple #[])∧w=w':=by
 go_enter Tryz.func77,Tryz.ntmps77
 go_wp2_with fail
 refine (Tryz.bits_Len 0 w (by decide) (by decide)).mono ?_
 rintro e w2 ⟨rfl,rfl⟩
 go_wp2_with fail
 refine yb.mono ?_
 rintro e w3 ⟨rfl,rfl⟩
 go_wp2_with fail
 go_end0
 exact ⟨rfl,rfl⟩
def yE (tr:Int) (f:Fc):Bool:=bits .andNot .u32 f.o tr !=0
def orO (a b:Int):Int:=bits .or .u32 a b
def ff (tr:Int) (step:Fc→Wst→Wst):List Fc→Wst→Wst
 | [],s=>s
 | f::fs,s=>if yE tr f=true then ff tr step fs s else if 100000≤s.held then ⟨s.held,s.out,4⟩ else
  if (step f ⟨s.held+1,s.out,s.e⟩).e≠0 then step f ⟨s.held+1,s.out,s.e⟩ else ff tr step fs (step f ⟨s.held+1,s.out,s.e⟩)
def eH (fs:List Fc) (tr:Int) (es:List (List OpD)):List Pr→Ans→Wst→Wst
 | [],x,s=>hU es x s
 | p::ps,x,s=>ff tr (fun f s1=>match gQ p f.pr x.b with | some c=>eH fs tr es ps ⟨c,orO x.o f.o⟩ s1 | none=>s1) (bV fs p.name p.terms.length) s
def fo (fs:List Fc) (tr:Int) (es:List (List OpD)) (p:Pr) (ps:List Pr) (x:Ans) (f:Fc) (s1:Wst):Wst:=match gQ p f.pr x.b with | some c=>eH fs tr es ps ⟨c,orO x.o f.o⟩ s1 | none=>s1
theorem gG {fs:List Fc} {tr:Int} {es:List (List OpD)} {p:Pr} {ps:List Pr} {x:Ans} {s:Wst}:eH fs tr es (p::ps) x s=ff tr (fo fs tr es p ps x) (bV fs p.name p.terms.length) s:=rfl
def Few (s s':Wst) (k:Nat):Prop:=s.held≤s'.held∧(s.held≤100000→s'.held≤100000)∧(s'.out.length:Int)+s.held≤s.out.length+s'.held+k
theorem oO {x:Ans}:∀{es:List (List OpD)} {s:Wst},Few s (hU es x s) 1
 | [],s=>⟨Int.le_refl _,fun h=>h,by simp [hU];omega⟩
 | q::qs,s=>by
   unfold hU
   split
   ·exact ⟨Int.le_refl _,fun h=>h,by simp;omega⟩
   ·split
    ·exact oO
    ·exact ⟨Int.le_refl _,fun h=>h,by omega⟩
theorem lp {tr:Int} {step:Fc→Wst→Wst} (hs:∀f s,Few s (step f s) 1):∀{fs:List Fc} {s:Wst},Few s (ff tr step fs s) 0
 | [],s=>⟨Int.le_refl _,fun h=>h,by simp [ff]⟩
 | f::fs,s=>by
   unfold ff
   split
   ·exact lp hs
   ·split
    ·exact ⟨Int.le_refl _,fun h=>h,by simp⟩
    ·rename_i h1 h2
     obtain ⟨a1,a2,a3⟩:=hs f ⟨s.held+1,s.out,s.e⟩
     simp only at a1 a2 a3
     split
     ·exact ⟨by omega,fun _=>a2 (by omega),by omega⟩
     ·obtain ⟨b1,b2,b3⟩:=lp hs (fs:=fs) (s:=step f ⟨s.held+1,s.out,s.e⟩)
      exact ⟨by omega,fun _=>b2 (a2 (by omega)),by omega⟩
theorem fT {fs:List Fc} {tr:Int} {es:List (List OpD)}:∀{ps:List Pr} {x:Ans} {s:Wst},Few s (eH fs tr es ps x s) 1
 | [],x,s=>oO
 | p::ps,x,s=>by
   have h:=lp (tr:=tr) (step:=fo fs tr es p ps x) (fun f s=>by
    unfold fo
    split
    ·exact fT
    ·exact ⟨Int.le_refl _,fun h=>h,by omega⟩) (fs:=bV fs p.name p.terms.length) (s:=s)
   rw [gG]
   exact ⟨h.1,h.2.1,by have:=h.2.2;omega⟩
theorem th {fs:List Fc} {f:Fc} {name:ByteArray} {n:Int} (h:f∈bV fs name n):f∈fs∧f.pr.name=name:=by
 unfold bV at h
 rw [List.mem_filter,zH] at h
 refine ⟨h.1,?_⟩
 have h2:=h.2
 unfold dE at h2
 rw [orL2] at h2
 split at h2
 ·rename_i h3;exact oy (fK.1 h3)
 ·rename_i h3;exact absurd h2 h3
theorem nJ {p:Pr} {f:Fc} (hp:aE p=true) (hf:FcOk f) (hn:f.pr.name=p.name):gH f.pr=true:=by
 unfold aE at hp
 simp only [zC,zH] at hp
 unfold gH aE
 rw [hn]
 simp only [zC,zH,List.all_eq_true]
 exact ⟨⟨hp.1,hf.few,fun x hx=>by have:=hf.fix x hx;unfold af at this;simp only [zC] at this;exact this.2⟩,hf.few,hf.fix⟩
theorem xB {p f:Pr} {b c:Bd} (h:gQ p f b=some c):bH c=true:=by
 unfold gQ at h
 split at h
 ·unfold okB at h
  split at h
  ·split at h
   ·simp only [zE] at h;subst h;assumption
   ·cases h
  ·cases h
 ·cases h
theorem or_u32 {a b:Int} (ha:U32 a) (hb:U32 b):U32 (orO a b):=by
 unfold orO
 rw [u32_or a b ha.1 ha.2 hb.1 hb.2]
 refine ⟨Int.natCast_nonneg _,?_⟩
 have h1:a.toNat<2 ^ 32:=by have:=ha.2;have:=ha.1;omega
 have h2:b.toNat<2 ^ 32:=by have:=hb.2;have:=hb.1;omega
 have:=Nat.or_lt_two_pow h1 h2
 omega
theorem fact_pr {d B:Nat} {w:World} {x:FV} (h:(ax d).rd w B x.f x.cs):(PrR d).rd w B x.f.pr [.string x.f.pr.name,.slice x.a x.f.pr.terms.length x.c]:=by
 obtain ⟨v,e,h1,_⟩:=h
 simp only [FV.cs,fcV,List.cons.injEq,true_and,and_true] at e
 rw [e];exact h1
theorem ul {base D:Nat} {w w':World} {b:Bd} {xs:List SV} {An At:Option Addr} {cn ct:Nat} {M:Nat→Prop} (h:BdQ base D w b xs An cn At ct) (ha:ak M w w') (hM:∀k,base≤k→¬M k):BdQ base D w' b xs An cn At ct:=
 ⟨h.tms,h.nm.agree ha (fun k hk=>hM k (h.nm.lt k hk).1),⟨h.st.own.agree ha (fun k hk=>hM k (h.st.own.lt k hk).1),fun x hx=>(h.st.tms x hx).keep ha.1 fun a e=>ha.2 _ (h.st.lt x hx a e).2 (hM _ (h.st.lt x hx a e).1),h.st.sep,fun x hx a e=>⟨(h.st.lt x hx a e).1,zz (h.st.lt x hx a e).2 ha.size⟩⟩,h.sep⟩
theorem xf {base D:Nat} {w:World} {b:Bd} {o:Int} {xs:List SV} {An At:Option Addr} {cn ct:Nat} {M:Nat→Prop} (h:BdQ base D w b xs An cn At ct) (hb:bH b=true) (hM:∀k,base≤k→¬M k):fD M w (fun w'=>(mZ (D+1)).rd w' w'.heap.size ⟨b,o⟩ (AnV.cs ⟨⟨b,o⟩,An,cn,At,ct⟩)):=fun w' ha=>by
 have h1:=dS.1 hb
 have h2:b.terms.length≤32:=by rw [←h1.1.len];exact h1.2
 have h3:=(ul h ha hM).reads (by have:=h1.2;omega) (by omega)
 exact ⟨An,cn,At,ct,rfl,h3.1,h3.2⟩
structure WkS (d:Nat) (w0:World) (baseS B:Nat) (k:WkC) (fs:List FV) (As:Option Addr) (cs:Nat) (body:List Pr) (Ab:Option Addr) (cb:Nat) (es:List (List OpD)) (Ae:Option Addr) (ce:Nat) (m:Int):Prop where
 st:StA baseS d w0 k.S fs As cs
 few:fs.length≤100000
 hB:B≤w0.heap.size
 bd:k.bd=.slice Ab body.length cb
 bdr:RL (PrR (d+1)) w0 B body Ab
 bn:body.length≤1000000
 may:∀p∈body,aE p=true
 ex:k.ex=.slice Ae es.length ce
 exr:RL (ExR (d+1)) w0 B es Ae
 en:es.length≤1000000
 m0:w0.cell? ⟨0,0,none⟩=some (.int .i64 m)
 pos:0<w0.heap.size
theorem rJ {d baseS B base W:Nat} {w0:World} {k:WkC} {fs:List FV} {As:Option Addr} {cs:Nat} {body:List Pr} {Ab:Option Addr} {cb:Nat} {es:List (List OpD)} {Ae:Option Addr} {ce:Nat} {m:Int} (hst:WkS d w0 baseS B k fs As cs body Ab cb es Ae ce m) (hW:w0.heap.size≤W) :
 ∀(ps:List Pr) (i:Nat),body.drop i=ps→i≤body.length→∀(w:World) (held:Int) (xs:List AnV) (A:Option Addr) (c:Nat) (y:AnV),Below w0.heap.size w0 w→WkAt base d w W k held xs A c 0→fD (StM W (.slice A xs.length c)) w (fun w'=>(mZ (d+1)).rd w' w'.heap.size y.x y.cs)→bH y.x.b=true∧U32 y.x.o→(xs.length:Int)≤held→held≤100000 →
  Calls Tryz.prog 76 #[.pointer (some ⟨W,0,none⟩),.int .i64 i,.agg y.cs.toArray] w fun z w'=>WkE base d W k w w' A xs.length c (eH (fs.map FV.f) k.tr es ps y.x ⟨held,xs.map AnV.x,0⟩) z:=by
 have HST:=zu hst
 clear hst
 intro ps
 induction ps with
 | nil=>
   intro i hi hil w held xs A c y hb0 hw hy hok hlen hheld
   have HW:=zu hw
   have HY:=zu hy
   have HOK:=zu hok
   have HB0:=zu hb0
   have hii:i=body.length:=by have:=List.drop_eq_nil_iff.1 hi;omega
   have hbl:=HST.out.bn
   subst hii
   obtain ⟨kh,kt,kb,ke,ks,kS,ktr⟩:=k
   have hbd:kb=.slice Ab body.length cb:=HST.out.bd
   subst hbd
   clear hw hy hok hb0 hi hil
   unfold AnV.cs anV
   go_enter Tryz.func76,Tryz.ntmps76
   go_upto_region 1 with fail
   generalize hWW:World.alloc _ _=w1
   obtain ⟨hb1,hz⟩:=al1 hWW
   have HA1:=zu (n11 hWW)
   have HB1:=zu hb1
   have HW1:=zu (HW.out.later hb1)
   have hsz1:=hb1.size
   clear hWW hb1
   have k_w:=HW1.out.hd.cell
   have l_w:=HW1.out.hd.lt
   have k_a:=HA1.out.cell
   have l_a:=HA1.out.lt
   unfold wkA at k_w
   go_wp2_with fail
   have HBx:=zu (aa HB0.out HB1.out)
   refine (tR (y:=y) (m:=m) HW1.out HST.out.ex (HST.out.exr.keep HBx.out HST.out.hB) (zv HST.out.hB hW) (HY.out.later HB1.out) HOK.out (by omega) ((HBx.out.cell (p:=⟨0,0,none⟩) HST.out.pos).trans HST.out.m0) (by have:=HST.out.pos;omega) HST.out.en).mono ?_
   rintro z w2 ⟨xs',A',c',rfl,h1,h2,h3,h4⟩
   have HE:=zu (And.intro h1 (And.intro h2 (And.intro h3 h4)))
   clear h1 h2 h3 h4 k_w l_w k_a l_a
   go_wp2_with fail
   refine bodyPost_ret (results_none rfl _ _ _) rfl ?_
   obtain ⟨h1,h2,h3,h4⟩:=HE.out
   refine ⟨xs',A',c',rfl,h1,h2,(ak.of_below HB1.out).trans h3 (fun _ _ h=>h),?_⟩
   rcases h4 with h | ⟨q,h5,h6⟩
   ·exact .inl h
   ·exact .inr ⟨q,h5,by omega⟩
 | cons p ps ih=>
   intro i hi hil w held xs A c y hb0 hw hy hok hlen hheld
   have hlt:i<body.length:=by
    rcases Nat.lt_or_ge i body.length with h | h
    ·exact h
    ·rw [List.drop_eq_nil_of_le h] at hi;cases hi
   have hpe:body[i]=p∧body.drop (i+1)=ps:=by
    rw [List.drop_eq_getElem_cons hlt] at hi
    exact ⟨(List.cons.inj hi).1,(List.cons.inj hi).2⟩
   have HPE:=zu hpe
   have HW:=zu hw
   have HY:=zu hy
   have HOK:=zu hok
   have HB0:=zu hb0
   have HIH:=zu ih
   have hbl:=HST.out.bn
   have hWl:=hw.hd.lt
   have h0w:=hb0.size
   obtain ⟨kh,kt,kb,ke,ks,kS,ktr⟩:=k
   have hbd:kb=.slice Ab body.length cb:=HST.out.bd
   subst hbd
   have HMP:Hid (aE p=true):=zu (HST.out.may p (by rw [←hpe.1];exact List.getElem_mem hlt))
   clear hw hy hok hb0 hi ih hpe
   have hBw:B≤w.heap.size:=by have:=HST.out.hB;omega
   obtain ⟨bp_,offp,rfl,hobp⟩:=(HST.out.bdr.keep HB0.out HST.out.hB).base (zy _ _) hBw (by omega)
   obtain ⟨p',vs,hx,hlen',hcell,hr⟩:=(HST.out.bdr.keep HB0.out HST.out.hB).at_ (zy _ _) hBw hlt
   have HPp:Hid (p'=p):=zu (by rw [←HPE.out.1];rw [zD hlt] at hx;simpa using hx.symm)
   have HPR:Hid ((PrR (d+1)).rd w B p vs):=zu (HPp.out▸hr)
   have hr2:=HPR.out
   obtain ⟨_,rfl,hps,Ap,cp,rfl,hp1,hp2,hpl⟩:=hr2
   have c0:w.cell? ⟨bp_,offp+i*2,none⟩=some (.string p.name):=hcell 0 _ rfl
   have c1:w.cell? ⟨bp_,offp+i*2+1,none⟩=some (.slice Ap p.terms.length cp):=hcell 1 _ rfl
   have hp8:=(gf HMP.out).1
   clear hcell hlen' hx hr hps hp1 hp2 hpl HPp
   have hI0:(0:Int)≤(i:Int):=Int.natCast_nonneg _
   have hI1:(i:Int)<(body.length:Int):=by omega
   have hne:((i:Int)==(body.length:Int))=false:=by simp;omega
   unfold AnV.cs anV
   go_enter Tryz.func76,Tryz.ntmps76
   go_upto_region 1 with fail
   generalize hWW:World.alloc _ _=w1
   obtain ⟨hb1,hz⟩:=al1 hWW
   have HA1:=zu (n11 hWW)
   have HB1:=zu hb1
   have HW1:=zu (HW.out.later hb1)
   have hsz1:=hb1.size
   have d0:=(hb1.cell (p:=⟨bp_,offp+i*2,none⟩) hobp).trans c0
   have d1:=(hb1.cell (p:=⟨bp_,offp+i*2+1,none⟩) hobp).trans c1
   clear hWW hb1 c0 c1
   have k_w:=HW1.out.hd.cell
   have l_w:=HW1.out.hd.lt
   unfold wkA at k_w
   go_upto_region 4 with fail
   clear k_w l_w hne d0 d1
   generalize hWW:World.alloc _ _=w2
   obtain ⟨hb2,hz2⟩:=al1 hWW
   have HP2:Hid (Blk w2 (w.heap.size+1) #[.string p.name,.slice Ap p.terms.length cp]):=zu (by have h:=n11 hWW;rwa [hz] at h)
   have HA2:=zu (HA1.out.later hb2)
   have HB2:=zu (aa HB1.out hb2)
   have HW2:=zu (HW1.out.later hb2)
   have hsz2:=hb2.size
   clear hWW hb2
   have HSL:Hid (∀{w':World},Below w2.heap.size w2 w'→(w'.cell? ⟨W,5,none⟩=some (.pointer (some ⟨kS,0,none⟩))∧w'.cell? ⟨w.heap.size+1,0,none⟩=some (.string p.name)∧w'.cell? ⟨w.heap.size+1,1,none⟩=some (.slice Ap p.terms.length cp))):=zu (fun hb=>⟨(HW2.out.hd.later hb).cell 5,(HP2.out.later hb).cell 0,(HP2.out.later hb).cell 1⟩)
   refine aL (fun w'=>w'.cell? ⟨W,5,none⟩=some (.pointer (some ⟨kS,0,none⟩))∧w'.cell? ⟨w.heap.size+1,0,none⟩=some (.string p.name)∧w'.cell? ⟨w.heap.size+1,1,none⟩=some (.slice Ap p.terms.length cp)) (by kernel_rfl) (HSL.out (zy _ _).drew) ?_
   refine ab 0 ?_
   refine ab 1 ?_
   refine ab 2 ?_
   refine ab 3 ?_
   refine ab 4 ?_
   refine ab 5 ?_
   refine ab 6 ?_
   refine ab 7 ?_
   refine ab 8 ?_
   refine ab 11 ?_
   generalize hD:World.drew w2=w3
   have HU3:Hid (Below w2.heap.size w2 w3):=zu (hD▸(zy w2.heap.size w2).drew)
   clear hD
   have HB3:=zu (aa HB2.out HU3.out)
   have HX3:=zu (aa HB0.out HB3.out)
   refine av (rs:=[9]) (by kernel_rfl) rfl ?_
   refine aj.cons rfl (fun K hK=>?_) aj.nil
   go_simp
   refine (ri (name:=p.name) (n:=(p.terms.length:Int)) (HST.out.st.later HX3.out) HST.out.few).mono ?_
   rintro z w4 ⟨⟨ys,A2,c2,hys,rfl,hrow⟩,hb4⟩
   have HYS:=zu hys
   have HROW:=zu hrow
   have HB4:=zu (aa HB3.out hb4)
   have HY4:Hid (Below w2.heap.size w2 w4):=zu (aa HU3.out hb4)
   have hsz3:=HU3.out.size
   have hsz4:=hb4.size
   clear hys hrow hb4
   refine hK.out _ _ (HSL.out HY4.out) ?_
   clear hK
   refine ab 10 ?_
   refine bN (by kernel_rfl) ?_
   go_wp2_with fail
   have HXA:Hid (ak (StM W (.slice A xs.length c)) w4 w4):=zu (ak.refl _ _)
   have HW4:=zu (HW.out.later HB4.out)
   have hw4:=HB4.out.size
   have HML:Hid (∀k,StM W (.slice A xs.length c) k→k<w.heap.size):=zu (fun k hm=>by
    rcases hm with hm | hm
    ·rw [hm];exact HW.out.hd.lt
    ·exact (HW.out.row.lt k hm).2)
   have HP4:=zu (HP2.out.later HY4.out)
   have HA4:=zu (HA2.out.later HY4.out)
   have HYY:=zu (HY.out.later HB4.out)
   have hyl:ys.length≤100000:=by
    have h1:(ys.map FV.f).length=(bV (fs.map FV.f) p.name p.terms.length).length:=by rw [HYS.out]
    have h2:(bV (fs.map FV.f) p.name p.terms.length).length≤(fs.map FV.f).length:=List.length_filter_le _ _
    rw [zB] at h1 h2
    have:=HST.out.few
    omega
   clear HW1 HA1 HB1 HP2 HA2 HW2 HB2 HU3 HB3 HX3
   go_loopw [44] (fun i_ wr=>∃(j:Nat) (held':Int) (xs':List AnV) (A':Option Addr) (c':Nat),j≤ys.length∧i_=.int .i64 j∧Hid (ff ktr (fo (fs.map FV.f) ktr es p ps y.x) (bV (fs.map FV.f) p.name p.terms.length) ⟨held,xs.map AnV.x,0⟩=ff ktr (fo (fs.map FV.f) ktr es p ps y.x) ((bV (fs.map FV.f) p.name p.terms.length).drop j) ⟨held',xs'.map AnV.x,0⟩)∧Hid ((xs'.length:Int)≤held')∧held'≤100000∧0≤held'∧Hid (WkAt base d wr W ⟨kh,kt,.slice (some ⟨bp_,offp,none⟩) body.length cb,ke,ks,kS,ktr⟩ held' xs' A' c' 0)∧Hid (ak (StM W (.slice A xs.length c)) w4 wr)∧Hid (bA w4 (.slice A xs.length c) (.slice A' xs'.length c'))) (fun i_ _=>ys.length-(intOf i_).toNat)
   case atStart=>exact ⟨0,held,xs,A,c,zx _,rfl,zu rfl,zu hlen,hheld,by omega,HW4,HXA,zu (.inl rfl)⟩
   case round=>
    obtain ⟨j,held',xs',A',c',hj,rfl,HEQ,HLEN,hheld',hh0,HWr,HAG,HFV⟩:=hrel
    have HNM:Hid (∀k,w.heap.size≤k→¬StM W (.slice A xs.length c) k):=zu (fun k hk hm=>by have:=HML.out k hm;omega)
    have HAr:=zu (HAG.out.blk HA4.out (HNM.out _ (zw _)))
    have HPr:=zu (HAG.out.blk HP4.out (HNM.out _ (by omega)))
    have hszr:=HAG.out.size
    by_cases hjl:j<ys.length
    ·have HRr:=zu (HROW.out.agree HAG.out (fun k _ hm=>by have:=HML.out k hm;omega))
     obtain ⟨g,c9,e9,h1,h2,h3,h4,h5,h6,_⟩:=HRr.out.own.sh aU (by omega)
     simp only [zG,true_and] at e9
     obtain ⟨rfl,rfl⟩:=e9
     obtain ⟨x,hx⟩:∃x,x=ys[j]:=⟨_,rfl⟩
     have q0:wr.cell? ⟨g,j*3,none⟩=some (.string x.f.pr.name):=by rw [hx];exact h5 j hjl 0 _ rfl
     have q1:wr.cell? ⟨g,j*3+1,none⟩=some (.slice x.a x.f.pr.terms.length x.c):=by rw [hx];exact h5 j hjl 1 _ rfl
     have q2:wr.cell? ⟨g,j*3+2,none⟩=some (.int .u32 x.f.o):=by rw [hx];exact h5 j hjl 2 _ rfl
     have HXR:Hid ((ax (d+1)).rd wr wr.heap.size x.f x.cs):=zu (by rw [hx];exact (HRr.out.deep _ (List.getElem_mem hjl)).2.here)
     have HXO:Hid (FcOk x.f):=zu (by rw [hx];exact (HRr.out.deep _ (List.getElem_mem hjl)).1)
     have HXL:Hid (x.f∈bV (fs.map FV.f) p.name p.terms.length∧(bV (fs.map FV.f) p.name p.terms.length).drop j=x.f::(bV (fs.map FV.f) p.name p.terms.length).drop (j+1)):=zu (by
      have hl:(ys.map FV.f).length=ys.length:=zB _
      rw [←HYS.out]
      refine ⟨List.mem_map_of_mem (hx▸List.getElem_mem hjl),?_⟩
      rw [List.drop_eq_getElem_cons (by rw [hl];exact hjl),List.getElem_map,hx])
     have hI2:(0:Int)≤(j:Int):=Int.natCast_nonneg _
     have hI3:(j:Int)<(ys.length:Int):=by omega
     have HGL:Hid (g<wr.heap.size):=zu h1
     have HXS:Hid (∀w',ak (StM W (.slice A xs.length c)) w4 w'→(ax (d+1)).rd w' w'.heap.size x.f x.cs):=zu (fun w' h=>by
      rw [hx]
      exact ((HROW.out.deep _ (List.getElem_mem hjl)).2 w' (h.mono fun k hk hm=>.inl (by have:=HML.out k hm;omega))))
     clear h1 h2 h3 h4 h5 h6 hx
     go_upto_region 7 with fail
     generalize hWW:World.alloc _ _=w5
     obtain ⟨hb5,hz5⟩:=al1 hWW
     have HT5:=zu (n11 hWW)
     have HA5:=zu (HAr.out.later hb5)
     have HP5:=zu (HPr.out.later hb5)
     have HW5:=zu (HWr.out.later hb5)
     have HU5:=zu hb5
     have hsz5:=hb5.size
     clear hWW hb5 q0 q1 q2
     have q_t:=HT5.out.regrown
     have q_w:=HW5.out.hd.regrown
     unfold wkA at q_w
     have HAG5:Hid (ak (StM W (.slice A xs.length c)) w4 w5):=zu (HAG.out.trans (N:=fun _=>False) (ak.of_below HU5.out) (fun _ _ h=>h.elim))
     by_cases hbad:yE ktr x.f=true
     ·have HGOON:Hid (ff ktr (fo (fs.map FV.f) ktr es p ps y.x) (bV (fs.map FV.f) p.name p.terms.length) ⟨held,xs.map AnV.x,0⟩=ff ktr (fo (fs.map FV.f) ktr es p ps y.x) ((bV (fs.map FV.f) p.name p.terms.length).drop (j+1)) ⟨held',xs'.map AnV.x,0⟩):=zu (by rw [HEQ.out,HXL.out.2,ff,if_pos hbad])
      unfold yE at hbad
      refine wp_region_quiet_below (by kernel_rfl) (by kernel_rfl) ?_
      repeat (go_big_quiet_step (fail))
      refine wpQuiet_nil ?_
      intro w6 hw_
      have hb:Below w5.heap.size w5 w6:=by obtain ⟨p_,rfl⟩:=hw_;exact below_regrown _ _ _
      have HU6:=zu hb
      clear hw_ q_t q_w hb
      go_wp2_with fail
      go_roundw
      case rel=>exact ⟨j+1,held',xs',A',c',by omega,by go_num,HGOON,HLEN,hheld',hh0,zu (HW5.out.later HU6.out),zu (HAG5.out.trans (N:=fun _=>False) (ak.of_below HU6.out) (fun _ _ h=>h.elim)),HFV⟩
      case measure=>simp [intOf];omega
     ·have HBAD:=zu hbad
      have hbad':(bits .andNot .u32 x.f.o ktr !=0)=false:=by unfold yE at hbad;simpa using hbad
      clear hbad
      refine wp_region_quiet_below (by kernel_rfl) (by kernel_rfl) ?_
      repeat (go_big_quiet_step (fail))
      refine wpQuiet_nil ?_
      intro w6 hw_
      have hb:Below w5.heap.size w5 w6:=by obtain ⟨p_,rfl⟩:=hw_;exact below_regrown _ _ _
      have HU6:=zu hb
      have hsz6:=hb.size
      clear hw_ q_t q_w hb
      have HW6:=zu (HW5.out.later HU6.out)
      have HA6:=zu (HA5.out.later HU6.out)
      have HP6:=zu (HP5.out.later HU6.out)
      have HT6:=zu (HT5.out.later HU6.out)
      have HAG6:Hid (ak (StM W (.slice A xs.length c)) w4 w6):=zu (HAG5.out.trans (N:=fun _=>False) (ak.of_below HU6.out) (fun _ _ h=>h.elim))
      clear HAG5 HW5 HA5 HP5 HT5
      have k_w:=HW6.out.hd.cell
      have l_w:=HW6.out.hd.lt
      have f_w:=HW6.out.hd.free
      unfold wkA at k_w
      by_cases hmost:100000≤held'
      ·have g1:decide (held'≥100000)=true:=by simpa using hmost
       have g2:decide ((100000:Int)≤held')=true:=by simpa using hmost
       have HEND:Hid (ff ktr (fo (fs.map FV.f) ktr es p ps y.x) (bV (fs.map FV.f) p.name p.terms.length) ⟨held,xs.map AnV.x,0⟩=⟨held',xs'.map AnV.x,4⟩):=zu (by rw [HEQ.out,HXL.out.2,ff,if_neg HBAD.out,if_pos hmost])
       clear hmost
       go_wp2_with fail
       refine bodyPost_ret (results_none rfl _ _ _) rfl ?_
       rw [gG,HEND.out]
       exact ⟨xs',A',c',rfl,rfl,HW6.out.put rfl,((ak.of_below HB4.out).trans HAG6.out (fun _ _ h=>h)).set_ (fun _=>.inl rfl) 9 _,HFV.out.imp id (fun ⟨q,e1,e2⟩=>⟨q,e1,by omega⟩)⟩
      ·have g1:decide (held'≥100000)=false:=by simpa using hmost
       have g2:decide ((100000:Int)≤held')=false:=by simpa using hmost
       have hlt9:held'<100000:=by omega
       have HGOON:Hid (ff ktr (fo (fs.map FV.f) ktr es p ps y.x) (bV (fs.map FV.f) p.name p.terms.length) ⟨held,xs.map AnV.x,0⟩=if ((fo (fs.map FV.f) ktr es p ps y.x) x.f ⟨held'+1,xs'.map AnV.x,0⟩).e≠0 then (fo (fs.map FV.f) ktr es p ps y.x) x.f ⟨held'+1,xs'.map AnV.x,0⟩ else ff ktr (fo (fs.map FV.f) ktr es p ps y.x) ((bV (fs.map FV.f) p.name p.terms.length).drop (j+1)) ((fo (fs.map FV.f) ktr es p ps y.x) x.f ⟨held'+1,xs'.map AnV.x,0⟩)):=zu (by rw [HEQ.out,HXL.out.2,ff,if_neg HBAD.out,if_neg hmost])
       clear hmost
       go_upto_region 11 with fail
       clear g1 g2 k_w l_w f_w
       have HW7:Hid (WkAt base d (w6.setCell ⟨W,7,none⟩ (.int .i64 (held'+1))) W ⟨kh,kt,.slice (some ⟨bp_,offp,none⟩) body.length cb,ke,ks,kS,ktr⟩ (held'+1) xs' A' c' 0):=zu (HW6.out.put rfl)
       have HA7:=zu (HA6.out.far (c:=W) (by omega) 7 (.int .i64 (held'+1)))
       have HP7:=zu (HP6.out.far (c:=W) (by omega) 7 (.int .i64 (held'+1)))
       have HT7:=zu (HT6.out.far (c:=W) (by omega) 7 (.int .i64 (held'+1)))
       have HAG7:Hid (ak (StM W (.slice A xs.length c)) w4 (w6.setCell ⟨W,7,none⟩ (.int .i64 (held'+1)))):=zu (HAG6.out.set_ (fun _=>.inl rfl) 7 _)
       have hsz7:w6.heap.size≤(w6.setCell ⟨W,7,none⟩ (.int .i64 (held'+1))).heap.size:=by rw [World.size_setCell];exact zw _
       generalize w6.setCell ⟨W,7,none⟩ (.int .i64 (held'+1))=w7 at *
       have HBB7:Hid (Below B w4 w7):=zu (HAG7.out.below (fun k hk hm=>by
        have h0:=HST.out.hB
        rcases hm with hm | hm
        ·omega
        ·have h1:=(HW.out.row.lt k hm).1
         have h2:=HW.out.lt
         omega) (by omega))
       have HPR7:Hid ((PrR (d+1)).rd w7 B p [.string p.name,.slice Ap p.terms.length cp]):=zu ((PrR (d+1)).keep HBB7.out (zw _) ((PrR (d+1)).keep (HB4.out.mono hBw) (zw _) HPR.out))
       have HXF7:Hid ((PrR (d+1)).rd w7 w7.heap.size x.f.pr [.string x.f.pr.name,.slice x.a x.f.pr.terms.length x.c]):=zu (fact_pr (HXS.out w7 HAG7.out))
       have HY7:=zu (nh (HYY.out w7 HAG7.out))
       have HMF:Hid (gH x.f.pr=true):=zu (nJ HMP.out HXO.out (th HXL.out.1).2)
       have hB7:B≤w7.heap.size:=by omega
       have k_a:=HA7.out.cell
       have l_a:=HA7.out.lt
       have k_p:=HP7.out.cell
       have l_p:=HP7.out.lt
       have k_t:=HT7.out.cell
       have l_t:=HT7.out.lt
       go_wp2_with fail
       refine (xD (d:=d) (cn:=y.cn) (ct:=y.ct) (vp:=[_,_]) (vf:=[_,_]) ((PrR (d+1)).wide hB7 HPR7.out) HXF7.out HY7.out.1 HY7.out.2 HMP.out HMF.out HOK.out.1 (zw _)).mono ?_
       rintro z w8 ⟨⟨An2,cn2,At2,ct2,zs,rfl,hq⟩,hb8⟩
       have HQ:=zu hq
       have HU8:=zu hb8
       have HW8:=zu (HW7.out.later hb8)
       have HA8:=zu (HA7.out.later hb8)
       have HT8:=zu (HT7.out.later hb8)
       have hsz8:=hb8.size
       clear hq hb8 k_a l_a k_p l_p k_t l_t
       go_upto_region 12 with fail
       generalize hWW:World.alloc _ _=w9
       obtain ⟨hb9,hz9⟩:=al1 hWW
       have HU9:=zu (aa HU8.out hb9)
       have HW9:=zu (HW8.out.later hb9)
       have HD9:=zu (n11 hWW)
       have HA9:=zu (HA8.out.later hb9)
       have HT9:=zu (HT8.out.later hb9)
       have HQ9:=zu (HQ.out.later hb9)
       have hsz9:=hb9.size
       have HAG9:Hid (ak (StM W (.slice A xs.length c)) w4 w9):=zu (HAG7.out.trans (N:=fun _=>False) (ak.of_below HU9.out) (fun _ _ h=>h.elim))
       clear hWW hb9
       rcases hfit:gQ p x.f.pr y.x.b with _ | cb2
       ·have HS1:Hid ((fo (fs.map FV.f) ktr es p ps y.x) x.f ⟨held'+1,xs'.map AnV.x,0⟩=⟨held'+1,xs'.map AnV.x,0⟩):=zu (by unfold fo;rw [hfit])
        rw [hfit] at HD9
        simp only [Option.getD_none,Option.isSome_none] at HD9 ⊢
        clear hfit HQ HQ9
        have k_w:=HW9.out.hd.cell
        have l_w:=HW9.out.hd.lt
        unfold wkA at k_w
        go_wp2_with fail
        go_roundw
        case rel=>exact ⟨j+1,held'+1,xs',A',c',by omega,by go_num,zu (by rw [HGOON.out,HS1.out];rfl),zu (by have:=HLEN.out;omega),by omega,by omega,HW9,HAG9,HFV⟩
        case measure=>simp [intOf];omega
       ·have HS1:Hid ((fo (fs.map FV.f) ktr es p ps y.x) x.f ⟨held'+1,xs'.map AnV.x,0⟩=eH (fs.map FV.f) ktr es ps ⟨cb2,orO y.x.o x.f.o⟩ ⟨held'+1,xs'.map AnV.x,0⟩):=zu (by unfold fo;rw [hfit])
        have HCB:=zu (xB hfit)
        rw [hfit] at HQ9 HD9
        simp only [Option.getD_some,Option.isSome_some] at HQ9 HD9 ⊢
        clear hfit HQ
        have k_d:=HD9.out.cell
        have l_d:=HD9.out.lt
        have k_a:=HA9.out.cell
        have l_a:=HA9.out.lt
        have k_t:=HT9.out.cell
        have l_t:=HT9.out.lt
        have HB09:Hid (Below w0.heap.size w0 w9):=zu ((aa HB0.out HB4.out).trans (HAG9.out.below (fun k hk hm=>by
         rcases hm with hm | hm
         ·omega
         ·have h1:=(HW.out.row.lt k hm).1
          have h2:=HW.out.lt
          omega) (by omega)))
        go_wp2_with fail
        refine (HIH.out (i+1) HPE.out.2 (by omega) w9 (held'+1) xs' A' c' ⟨⟨cb2,orO y.x.o x.f.o⟩,An2,cn2,At2,ct2⟩ HB09.out HW9.out (xf HQ9.out HCB.out (fun k hk hm=>by
         rcases hm with hm | hm
         ·omega
         ·have:=(HW7.out.row.lt k hm).2;omega)) ⟨HCB.out,or_u32 HOK.out.2 HXO.out.o⟩ (by have:=HLEN.out;omega) (by omega)).mono ?_
        rintro z w10 ⟨xs2,A3,c3,rfl,e1,e2,e3,e4⟩
        have HR1:=zu e1
        have HR2:=zu e2
        have HR3:=zu e3
        have HR4:=zu e4
        clear e1 e2 e3 e4 k_d l_d k_a l_a k_t l_t
        obtain ⟨s,hs⟩:∃s,s=eH (fs.map FV.f) ktr es ps ⟨cb2,orO y.x.o x.f.o⟩ ⟨held'+1,xs'.map AnV.x,0⟩:=⟨_,rfl⟩
        rw [←hs] at HR1 HR2 HS1
        have HSF:Hid (Few ⟨held'+1,xs'.map AnV.x,0⟩ s 1):=zu (hs▸fT)
        clear hs
        have HAG10:Hid (ak (StM W (.slice A xs.length c)) w4 w10):=zu (HAG9.out.trans HR3.out (fun k hk hm=>by
         rcases hm with hm | hm
         ·exact .inl hm
         ·rcases HFV.out with h | ⟨q,h5,h6⟩
          ·exact .inr (h▸hm)
          ·rw [h5] at hm
           simp only [zE] at hm
           omega))
        have HFV2:Hid (bA w4 (.slice A xs.length c) (.slice A3 xs2.length c3)):=zu (by
         rcases HR4.out with h | ⟨q,h5,h6⟩
         ·rcases HFV.out with h2 | ⟨q,h5,h6⟩
          ·exact .inl (h.trans h2)
          ·exact .inr ⟨q,h.trans h5,h6⟩
         ·exact .inr ⟨q,h5,by have:=HAG9.out.size;omega⟩)
        have k_w:=HR2.out.hd.cell
        have l_w:=HR2.out.hd.lt
        unfold wkA at k_w
        by_cases he:s.e=0
        ·have q1:(s.e !=0)=false:=by simpa using he
         have HE:=zu he
         clear he
         go_wp2_with fail
         go_roundw
         case rel=>exact ⟨j+1,s.held,xs2,A3,c3,by omega,by go_num,zu (by
          rw [HGOON.out,HS1.out,if_neg (by simpa using HE.out)]
          obtain ⟨sh,so,se⟩:=s
          have he:se=0:=HE.out
          subst he
          rw [show xs2.map AnV.x=so from HR1.out]),zu (by
          have h1:=HSF.out.2.2
          have h2:=HLEN.out
          have h3:(xs2.map AnV.x).length=s.out.length:=by rw [HR1.out]
          rw [zB] at h3
          simp only [zB] at h1
          omega),HSF.out.2.1 (by show held'+1≤100000;omega),by have:=HSF.out.1;simp only at this;omega,zu (by have h:=HR2.out;rw [HE.out] at h;exact h),HAG10,HFV2⟩
         case measure=>simp [intOf];omega
        ·have q1:(s.e !=0)=true:=by simpa using he
         have HEND:Hid (ff ktr (fo (fs.map FV.f) ktr es p ps y.x) (bV (fs.map FV.f) p.name p.terms.length) ⟨held,xs.map AnV.x,0⟩=s):=zu (by rw [HGOON.out,HS1.out,if_pos he])
         clear he
         go_wp2_with fail
         refine bodyPost_ret (results_none rfl _ _ _) rfl ?_
         rw [gG,HEND.out]
         exact ⟨xs2,A3,c3,rfl,HR1.out,HR2.out,(ak.of_below HB4.out).trans HAG10.out (fun _ _ h=>h),HFV2.out.imp id (fun ⟨q,e1,e2⟩=>⟨q,e1,by omega⟩)⟩
    ·have HEND:Hid (ff ktr (fo (fs.map FV.f) ktr es p ps y.x) (bV (fs.map FV.f) p.name p.terms.length) ⟨held,xs.map AnV.x,0⟩=⟨held',xs'.map AnV.x,0⟩):=zu (by
      have hl:(ys.map FV.f).length=ys.length:=zB _
      rw [HEQ.out,List.drop_eq_nil_of_le (by rw [←HYS.out,hl];omega)];rfl)
     go_wp2_with fail
     go_end0
     rw [gG,HEND.out]
     exact ⟨xs',A',c',rfl,rfl,HWr.out,(ak.of_below HB4.out).trans HAG.out (fun _ _ h=>h),HFV.out.imp id (fun ⟨q,e1,e2⟩=>⟨q,e1,by omega⟩)⟩
end Go.Proofs.YtjpndglegpcdnaaGreat
