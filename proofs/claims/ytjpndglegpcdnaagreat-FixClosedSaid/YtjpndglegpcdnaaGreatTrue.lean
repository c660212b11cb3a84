/- expr.True. -/
import Derived.Test.YtjpndglegpcdnaaGreatMapF
import Derived.Carry
import Derived.Test.YtjpndglegpcdnaaGreatEv3
set_option linter.unusedVariables false
set_option linter.unusedSimpArgs false
set_option maxRecDepth 100000
set_option maxHeartbeats 8000000
namespace Go.Proofs.YtjpndglegpcdnaaGreat
open Go.ChangeShapes Go.WideShapes Go.ChangeAt Go.RowKit
def five (v1 v2 v3 v4 v5:Value):Array MapEntry:=#[⟨.int .i64 1,v1,0⟩,⟨.int .i64 2,v2,1⟩,⟨.int .i64 3,v3,2⟩,⟨.int .i64 4,v4,3⟩,⟨.int .i64 5,v5,4⟩]
theorem yB {P:Program} {w:World} {t kt et:TypeId} {r:Nat} (ht:P.underlying t=some (.map kt et)) (hk:P.underlying kt=some (.int .i64)) (hb:w.heap[r]? = some (.map #[] 0)) (v1 v2 v3 v4 v5:Value) :
 ∃u1 u2 u3 u4 u5,(Instr.mapUpdate t (.map (some r)) (.int .i64 1) v1).run P w=.ok () u1∧(Instr.mapUpdate t (.map (some r)) (.int .i64 2) v2).run P u1=.ok () u2∧(Instr.mapUpdate t (.map (some r)) (.int .i64 3) v3).run P u2=.ok () u3 ∧
  (Instr.mapUpdate t (.map (some r)) (.int .i64 4) v4).run P u3=.ok () u4∧(Instr.mapUpdate t (.map (some r)) (.int .i64 5) v5).run P u4=.ok () u5 ∧
  u5.heap[r]? = some (.map (five v1 v2 v3 v4 v5) 5)∧(∀b,b≠r→u5.heap[b]? = w.heap[b]?)∧Below r w u5:=by
 obtain ⟨u1,r1,h1,o1,b1⟩:=eP ht hk hb 1 v1 rfl
 obtain ⟨u2,r2,h2,o2,b2⟩:=eP ht hk h1 2 v2 rfl
 obtain ⟨u3,r3,h3,o3,b3⟩:=eP ht hk h2 3 v3 rfl
 obtain ⟨u4,r4,h4,o4,b4⟩:=eP ht hk h3 4 v4 rfl
 obtain ⟨u5,r5,h5,o5,b5⟩:=eP ht hk h4 5 v5 rfl
 exact ⟨u1,u2,u3,u4,u5,r1,r2,r3,r4,r5,h5,fun b hb=>(o5 b hb).trans ((o4 b hb).trans ((o3 b hb).trans ((o2 b hb).trans (o1 b hb)))),(((b1.trans b2).trans b3).trans b4).trans b5⟩
def ReadE (d:Nat) (w w':World) (r:Tm × Int) (e:Ending):Prop:=(∃A c,e=.returned (.tuple #[.agg #[.int .i64 r.1.kind,.int .i64 r.1.n,.string r.1.s,.slice A r.1.l.length c],.int .i64 r.2])∧RTm w' w'.heap.size (d+1) r.1 [.int .i64 r.1.kind,.int .i64 r.1.n,.string r.1.s,.slice A r.1.l.length c])∧Below w.heap.size w w'
theorem needs_2 {o:OpD} (h:o.kind=2):aH o=1:=by simp [aH,h]
theorem needs_3 {o:OpD} (h:o.kind=3):aH o=2:=by simp [aH,h]
theorem wO {o:OpD} (h:o.kind=4∨o.kind=5):aH o=1:=by rcases h with h | h<;>simp [aH,h]
theorem dt.put4 {D g:Nat} {w:World} {x:SV} (h:dt D w x) (hne:∀a,x.a=some a→a.block≠g) (v0 v1 v2 v3:Value):dt D ((((w.setCell ⟨g,0,none⟩ v0).setCell ⟨g,1,none⟩ v1).setCell ⟨g,2,none⟩ v2).setCell ⟨g,3,none⟩ v3) x:=
 h.keep (cC (AI 0 w) (AH _) v0 v1 v2 v3) fun a ha=>by
  rw [Below.heap_setCell _ ⟨g,3,none⟩ _ a.block (hne a ha),Below.heap_setCell _ ⟨g,2,none⟩ _ a.block (hne a ha),Below.heap_setCell _ ⟨g,1,none⟩ _ a.block (hne a ha),Below.heap_setCell _ ⟨g,0,none⟩ _ a.block (hne a ha)]
theorem BelX.blk {B S x:Nat} {w w':World} {vs:Array Value} (h:BelX B S w w') (hx:x<B) (hne:x≠S) (hb:Blk w x vs):Blk w' x vs:=by
 obtain ⟨T,hb⟩:=hb
 exact ⟨T,(h.block x hx hne).trans hb⟩
theorem yu {D B cn ct:Nat} {ops:List OpD} {evs:List Value} {b:Bd} {An At:Option Addr} {w:World} {m:Int} (he:(ExR (D+1)).rd w B ops evs) (hn:RL cX w B (b.names.map mkS) An) (ht:RL (TmR (D+1)) w B b.terms At) (hB:B≤w.heap.size) (hm0:w.cell? ⟨0,0,none⟩=some (.int .i64 m)) (h0:0<w.heap.size) :
 Calls Tryz.prog 151 #[.agg evs.toArray,.agg (bdV An b.names.length cn At b.terms.length ct)] w fun e w'=>ReadE D w w' (if (aP ops&&bG b)=true then ir b ops else (noT,1)) e:=by
 have HE:=AE he
 have HN:=AE hn
 have HT:=AE ht
 clear hn ht
 unfold bdV
 obtain ⟨_,rfl,Ao,co,rfl,hc1,hc2,hl⟩:=he
 have HL:=AE hl
 simp only [OpR] at hc2
 clear hl
 by_cases hm:aP ops=true
 ·have HM:=AE hm
  clear hm
  by_cases hk:bG b=true
  ·have HK:=AE hk
   have hit:(aP ops&&bG b)=true:=by rw [HM.out,HK.out];rfl
   rw [if_pos hit]
   clear hk hit
   go_enter Tryz.func151,Tryz.ntmps151
   go_wp2_with fail
   generalize hW:World.alloc _ _=w1
   obtain ⟨hb1,hz⟩:=al3 hW
   have b_e:=n31 hW
   have b_b:=n32 hW
   have b_r:=n33 hW
   have HB1:=AE hb1
   clear hW
   have hE1:=(ExR (D+1)).keep hb1 hB HE.out
   refine (dl (vs:=[_]) hE1 (AF hB hb1.size)).mono ?_
   rintro e w2 ⟨rfl,hb2⟩
   have HB2:=AE (aa HB1.out hb2)
   have b_e2:=b_e.later hb2
   have b_b2:=b_b.later hb2
   have b_r2:=b_r.later hb2
   clear b_e b_b b_r hb1 hb2 hE1
   have k_b:=b_b2.cell
   have l_b:=b_b2.lt
   rw [HM.out]
   go_wp2_with fail
   refine (dn (cn:=cn) (ct:=ct) (HN.out.keep HB2.out hB) (HT.out.keep HB2.out hB) (AF hB HB2.out.size)).mono ?_
   rintro e w3 ⟨rfl,hb3⟩
   have HB3:=AE (aa HB2.out hb3)
   have b_e3:=b_e2.later hb3
   have b_b3:=b_b2.later hb3
   have b_r3:=b_r2.later hb3
   clear b_e2 b_b2 b_r2 hb3 k_b l_b
   have k_b:=b_b3.cell
   have l_b:=b_b3.lt
   rw [HK.out]
   go_upto_region 4 with fail
   generalize hW:World.alloc _ _=w4
   obtain ⟨hb4,hz4⟩:=al1 hW
   have hmm:=@run_makeMap Tryz.prog
   have b_s4:bS w4 w3.heap.size _ 219:=hW▸heap_alloc_new w3 _
   have hnew:=heap_alloc_new w4 (.map #[] 0)
   rw [hz4] at hnew
   obtain ⟨q1,q2,q3,q4,q5,r1,r2,r3,r4,r5,hmap,hoth,hbm⟩:=yB Tryz.underlying221 Tryz.underlying3 hnew (.func (.func 175) #[.pointer (some ⟨w3.heap.size,0,none⟩)] #[]) (.func (.func 176) #[.pointer (some ⟨w3.heap.size,0,none⟩)] #[]) (.func (.func 177) #[.pointer (some ⟨w3.heap.size,0,none⟩)] #[]) (.func (.func 178) #[.pointer (some ⟨w3.heap.size,0,none⟩)] #[]) (.func (.func 178) #[.pointer (some ⟨w3.heap.size,0,none⟩)] #[])
   have hsu:q5.heap.size=w3.heap.size+1+1∨w3.heap.size+1+1≤q5.heap.size:=.inr (by have:=hbm.size;rw [World.size_alloc] at this;omega)
   have hsu5:w3.heap.size+1+1≤q5.heap.size:=by rcases hsu with h | h<;>omega
   clear hsu
   have hBu:Below w.heap.size w q5:=(((HB3.out.trans (hb4.mono HB3.out.size)).alloc (AF HB3.out.size hb4.size) (.map #[] 0))).trans (hbm.mono (by have:=HB3.out.size;omega))
   have hB3u:Below w3.heap.size w3 q5:=((hb4.alloc hb4.size (.map #[] 0))).trans (hbm.mono (by omega))
   have b_s5:bS q5 w3.heap.size #[.slice An b.names.length cn,.slice At b.terms.length ct,.slice none 0 0,.int .i64 0] 219:=by
    have h4:=b_s4.later ((AI w4.heap.size w4).alloc (AG _) (.map #[] 0))
    exact (hoth w3.heap.size (by omega)).trans h4
   have HMAP:=AE hmap
   have HBU:=AE hBu
   have b_e5:=AE (b_e3.later hB3u)
   have b_r5:=AE (b_r3.later hB3u)
   have h_e3:=b_e3.lt
   have h_r3:=b_r3.lt
   have hS0:w.heap.size≤w3.heap.size:=HB3.out.size
   have HST:Hid (EvS w3.heap.size (w3.heap.size+1+1) D (.slice An b.names.length cn) (.slice At b.terms.length ct) q5 [] 0):=AE ⟨[],none,0,rfl,⟨b_s5,aq.nil _ _ _ _ _,by simp,by simp,by simp⟩⟩
   have HWH:Hid (bz 0 ops=true∧ops.length≤32):=AE (by
    have:=HM.out
    unfold aP at this
    rw [AN,AT] at this
    exact ⟨this.2,this.1⟩)
   clear hmap hoth hbm hnew hW b_s5 b_s4 hB3u hBu b_e3 b_b3 b_r3 k_b l_b hb4
   go_wp2_with fail
   clear r1 r2 r3 r4 r5 hmm
   generalize w3.heap.size=S at *
   go_loopw [] (fun wr=>∃(ts:List Tm) (k:Nat),k≤ops.length∧ts.length≤k∧BelX (S+1+1) S q5 wr∧EvS S (S+1+1) D (.slice An b.names.length cn) (.slice At b.terms.length ct) wr ts k∧bz ts.length (ops.drop k)=true∧evR b ops []=evR b (ops.drop k) ts) (fun wr=>ops.length-(intOf ((wr.cell? ⟨S,3,none⟩).getD undef)).toNat)
   case atStart=>exact ⟨[],0,AH _,AG _,.refl _ _ _,HST.out,HWH.out.1,rfl⟩
   case round=>
    obtain ⟨ts,k,hk,htl,hbx,hst,hwh,hev⟩:=hrel
    obtain ⟨xs,A,c,hxs,hstk⟩:=hst
    have HBX:=AE hbx
    have HSTK:=AE hstk
    have HEV:=AE (And.intro hxs (And.intro hwh hev))
    have hBw:Below w.heap.size w wr:=HBU.out.trans ((hbx.mono (show w.heap.size≤S+1+1 by omega)).low hS0)
    have HBW:=AE hBw
    have b_e:=hbx.blk (by omega) (by omega) b_e5.out
    have b_r:=hbx.blk (by omega) (by omega) b_r5.out
    have k_s:=hstk.hd.blk.cell
    have l_s:=hstk.hd.blk.lt
    have f_s:=hstk.hd.blk.free
    have k_e:=b_e.cell
    have l_e:=b_e.lt
    have HR:=AE b_r
    have hsz:=hBw.size
    have hszu:=hbx.size
    have c3:=k_s 3
    have c3w:Hid (wr.cell? ⟨S,3,none⟩=some (.int .i64 k)):=AE (k_s 3)
    clear hwh hev hxs hbx hstk hBw b_e b_r
    by_cases hlt:k<ops.length
    ·have hlt':decide ((k:Int)<ops.length)=true:=by simp;omega
     have HL1:=AE (HL.out.keep HBW.out hB)
     have hB1:=AF hB hsz
     obtain ⟨bo,oo,rfl,hob⟩:=HL1.out.base (AI _ _) hB1 (by omega)
     obtain ⟨o,vs,ho,hlen,hcell,hr⟩:=HL1.out.at_ (AI _ _) hB1 hlt
     obtain ⟨Aq,cq,rfl,_⟩:=OpR.cells (show (OpR (D+1)).rd wr B o vs from hr)
     have d0:wr.cell? ⟨bo,oo+k*7,none⟩=some (.int .i64 o.kind):=hcell 0 _ rfl
     have d1:wr.cell? ⟨bo,oo+k*7+1,none⟩=some (.int .i64 o.term.kind):=hcell 1 _ rfl
     have d2:wr.cell? ⟨bo,oo+k*7+2,none⟩=some (.int .i64 o.term.n):=hcell 2 _ rfl
     have d3:wr.cell? ⟨bo,oo+k*7+3,none⟩=some (.string o.term.s):=hcell 3 _ rfl
     have d4:wr.cell? ⟨bo,oo+k*7+4,none⟩=some (.slice Aq o.term.l.length cq):=hcell 4 _ rfl
     have d5:wr.cell? ⟨bo,oo+k*7+5,none⟩=some (.int .i64 o.code):=hcell 5 _ rfl
     have d6:wr.cell? ⟨bo,oo+k*7+6,none⟩=some (.int .i64 o.skip):=hcell 6 _ rfl
     have HO:=AE (And.intro ho hr)
     clear hcell hlen ho hr
     go_wp2_with fail
     go_region
     go_wp2_with fail
     go_region
     go_upto_region 8 with fail
     have hsw:(wr.setCell ⟨S,3,none⟩ (.int .i64 ((k:Int)+1))).heap.size=wr.heap.size:=World.size_setCell _ _ _
     have hb8:Below (wr.setCell ⟨S,3,none⟩ (.int .i64 ((k:Int)+1))).heap.size (wr.setCell ⟨S,3,none⟩ (.int .i64 ((k:Int)+1))) (((wr.setCell ⟨S,3,none⟩ (.int .i64 ((k:Int)+1))).alloc (.cells #[.int .i64 o.kind,.int .i64 o.term.kind,.int .i64 o.term.n,.string o.term.s,.slice Aq o.term.l.length cq,.int .i64 o.code,.int .i64 o.skip] 104)).drew.drew):=(((AI _ _).alloc (AG _) _).drew).drew
     have HS8:=AE ((HSTK.out.head ((k:Int)+1)).later hb8)
     have HX8:=AE (((BelX.refl (S+1+1) S wr).setS 3 (.int .i64 ((k:Int)+1))).trans (BelX.of (hb8.mono (by rw [hsw];omega))))
     have b_o8:=((Blk.new (wr.setCell ⟨S,3,none⟩ (.int .i64 ((k:Int)+1))) #[.int .i64 o.kind,.int .i64 o.term.kind,.int .i64 o.term.n,.string o.term.s,.slice Aq o.term.l.length cq,.int .i64 o.code,.int .i64 o.skip] 104).drew).drew
     rw [hsw] at b_o8
     generalize hWz:World.drew _=w8 at *
     have k_o:=b_o8.cell
     have l_o:=b_o8.lt
     have HBX8:=AE (HBX.out.trans HX8.out)
     have HB8:=AE (HBU.out.trans ((HBX8.out.mono (show w.heap.size≤S+1+1 by omega)).low hS0))
     have HM8:=AE ((HBX8.out.block (S+1) (by omega) (by omega)).trans HMAP.out)
     have HO8:Hid ((OpR (D+1)).rd w8 B o _):=AE ((OpR (D+1)).keep ((HX8.out.mono (show B≤S+1+1 by omega)).low (by omega)) (AG B) HO.out.2)
     have hsz8:=HB8.out.size
     have hsb8:S+1+1≤w8.heap.size:=by have:=HBX8.out.size;omega
     obtain ⟨hal,hnd,herr,hgo⟩:=xj HO.out.1 HEV.out.2.1 HEV.out.2.2 HWH.out.2
     have hxl:xs.length=ts.length:=by rw [←HEV.out.1,AM]
     have h32:=HWH.out.2
     have HERR:=AE herr
     have HGO:=AE hgo
     have HAL:=AE hal
     have HBD:=AE (dX HK.out).1
     clear herr hgo hWz hb8 d0 d1 d2 d3 d4 d5 d6 k_s f_s c3 k_e
     rcases mQ hal with hk | hk | hk | hk | hk
     ·have lk:=eR Tryz.underlying221 Tryz.underlying3 HM8.out 1 (.func (.func 175) #[.pointer (some ⟨S,0,none⟩)] #[]) rfl
      rw [←hk] at lk
      have HKD:=AE hk
      clear hk
      go_wp2_with fail
      refine (step1 (cn:=cn) (ct:=ct) HBD.out (HN.out.keep HB8.out hB) (HT.out.keep HB8.out hB) HS8.out HO8.out HAL.out (AF hB hsz8) hsb8 (by omega) HKD.out).mono ?_
      intro z w9 hz
      unfold jw EvE at hz
      rw [HEV.out.1] at hz
      obtain ⟨rfl,hbx9,hs9⟩:=hz
      have H9:=AE (And.intro hbx9 hs9)
      clear hbx9 hs9 lk
      by_cases he:(aS b o ts).1=0
      ·have hq:((aS b o ts).1 !=0)=false:=by simp [he]
       obtain ⟨k',h1,h2,h3,h4,h5⟩:=HGO.out he
       have hs9:=H9.out.2 he
       rw [h3] at hs9
       have HS9:=AE hs9
       have c9:w9.cell? ⟨S,3,none⟩=some (.int .i64 k'):=by obtain ⟨_,_,_,_,hh⟩:=hs9;exact hh.hd.blk.cell 3
       have hle:=gv b o ts
       have HGO5:=AE (And.intro h4 h5)
       clear he hs9 h4 h5 h3
       go_wp2_with fail
       go_roundw
       case rel=>exact ⟨_,k',h2,by omega,HBX8.out.trans H9.out.1,HS9.out,HGO5.out.1,HGO5.out.2⟩
       case measure=>rw [c9,c3w.out];simp [intOf];omega
      ·have hq:((aS b o ts).1 !=0)=true:=by simpa using he
       have HX9:=AE (HBX8.out.trans H9.out.1)
       have b_r9:=HX9.out.blk (show w.heap.size+1+1<S+1+1 by omega) (by omega) b_r5.out
       have k_r:=b_r9.cell
       have f_r:=b_r9.free
       have l_r:=b_r9.lt
       have HB9:=AE (HBU.out.trans ((HX9.out.mono (show w.heap.size≤S+1+1 by omega)).low hS0))
       have HE0:Hid (ir b ops=(noT,(aS b o ts).1)):=AE (by unfold ir;rw [HERR.out he,if_pos he])
       clear he
       go_wp2_with fail
       refine bodyPost_ret (am rfl rfl (dA b_r9 (.int .i64 0) (.int .i64 0) (.string ⟨#[]⟩) (.slice none 0 0)) rfl) rfl ?_
       rw [HE0.out]
       exact ⟨⟨none,0,rfl,(TmOwn.no (base:=0)).rtm⟩,cC HB9.out (by omega) _ _ _ _⟩
     ·have lk:=eR Tryz.underlying221 Tryz.underlying3 HM8.out 2 (.func (.func 176) #[.pointer (some ⟨S,0,none⟩)] #[]) rfl
      rw [←hk] at lk
      have HKD:=AE hk
      clear hk
      go_wp2_with fail
      refine (step2 (b:=b) HS8.out HO8.out (by have:=needs_2 HKD.out;omega) hsb8 (by omega) HKD.out).mono ?_
      intro z w9 hz
      unfold jw EvE at hz
      rw [HEV.out.1] at hz
      obtain ⟨rfl,hbx9,hs9⟩:=hz
      have H9:=AE (And.intro hbx9 hs9)
      clear hbx9 hs9 lk
      by_cases he:(aS b o ts).1=0
      ·have hq:((aS b o ts).1 !=0)=false:=by simp [he]
       obtain ⟨k',h1,h2,h3,h4,h5⟩:=HGO.out he
       have hs9:=H9.out.2 he
       rw [h3] at hs9
       have HS9:=AE hs9
       have c9:w9.cell? ⟨S,3,none⟩=some (.int .i64 k'):=by obtain ⟨_,_,_,_,hh⟩:=hs9;exact hh.hd.blk.cell 3
       have hle:=gv b o ts
       have HGO5:=AE (And.intro h4 h5)
       clear he hs9 h4 h5 h3
       go_wp2_with fail
       go_roundw
       case rel=>exact ⟨_,k',h2,by omega,HBX8.out.trans H9.out.1,HS9.out,HGO5.out.1,HGO5.out.2⟩
       case measure=>rw [c9,c3w.out];simp [intOf];omega
      ·have hq:((aS b o ts).1 !=0)=true:=by simpa using he
       have HX9:=AE (HBX8.out.trans H9.out.1)
       have b_r9:=HX9.out.blk (show w.heap.size+1+1<S+1+1 by omega) (by omega) b_r5.out
       have k_r:=b_r9.cell
       have f_r:=b_r9.free
       have l_r:=b_r9.lt
       have HB9:=AE (HBU.out.trans ((HX9.out.mono (show w.heap.size≤S+1+1 by omega)).low hS0))
       have HE0:Hid (ir b ops=(noT,(aS b o ts).1)):=AE (by unfold ir;rw [HERR.out he,if_pos he])
       clear he
       go_wp2_with fail
       refine bodyPost_ret (am rfl rfl (dA b_r9 (.int .i64 0) (.int .i64 0) (.string ⟨#[]⟩) (.slice none 0 0)) rfl) rfl ?_
       rw [HE0.out]
       exact ⟨⟨none,0,rfl,(TmOwn.no (base:=0)).rtm⟩,cC HB9.out (by omega) _ _ _ _⟩
     ·have lk:=eR Tryz.underlying221 Tryz.underlying3 HM8.out 3 (.func (.func 177) #[.pointer (some ⟨S,0,none⟩)] #[]) rfl
      rw [←hk] at lk
      have HKD:=AE hk
      clear hk
      go_wp2_with fail
      refine (step3 (b:=b) HS8.out HO8.out (by have:=needs_3 HKD.out;omega) hsb8 (by omega) (by omega) ((HB8.out.cell (p:=⟨0,0,none⟩) h0).trans hm0) (by omega) HKD.out).mono ?_
      intro z w9 hz
      unfold jw EvE at hz
      rw [HEV.out.1] at hz
      obtain ⟨rfl,hbx9,hs9⟩:=hz
      have H9:=AE (And.intro hbx9 hs9)
      clear hbx9 hs9 lk
      by_cases he:(aS b o ts).1=0
      ·have hq:((aS b o ts).1 !=0)=false:=by simp [he]
       obtain ⟨k',h1,h2,h3,h4,h5⟩:=HGO.out he
       have hs9:=H9.out.2 he
       rw [h3] at hs9
       have HS9:=AE hs9
       have c9:w9.cell? ⟨S,3,none⟩=some (.int .i64 k'):=by obtain ⟨_,_,_,_,hh⟩:=hs9;exact hh.hd.blk.cell 3
       have hle:=gv b o ts
       have HGO5:=AE (And.intro h4 h5)
       clear he hs9 h4 h5 h3
       go_wp2_with fail
       go_roundw
       case rel=>exact ⟨_,k',h2,by omega,HBX8.out.trans H9.out.1,HS9.out,HGO5.out.1,HGO5.out.2⟩
       case measure=>rw [c9,c3w.out];simp [intOf];omega
      ·have hq:((aS b o ts).1 !=0)=true:=by simpa using he
       have HX9:=AE (HBX8.out.trans H9.out.1)
       have b_r9:=HX9.out.blk (show w.heap.size+1+1<S+1+1 by omega) (by omega) b_r5.out
       have k_r:=b_r9.cell
       have f_r:=b_r9.free
       have l_r:=b_r9.lt
       have HB9:=AE (HBU.out.trans ((HX9.out.mono (show w.heap.size≤S+1+1 by omega)).low hS0))
       have HE0:Hid (ir b ops=(noT,(aS b o ts).1)):=AE (by unfold ir;rw [HERR.out he,if_pos he])
       clear he
       go_wp2_with fail
       refine bodyPost_ret (am rfl rfl (dA b_r9 (.int .i64 0) (.int .i64 0) (.string ⟨#[]⟩) (.slice none 0 0)) rfl) rfl ?_
       rw [HE0.out]
       exact ⟨⟨none,0,rfl,(TmOwn.no (base:=0)).rtm⟩,cC HB9.out (by omega) _ _ _ _⟩
     ·have lk:=eR Tryz.underlying221 Tryz.underlying3 HM8.out 4 (.func (.func 178) #[.pointer (some ⟨S,0,none⟩)] #[]) rfl
      rw [←hk] at lk
      have HKD:=AE hk
      clear hk
      go_wp2_with fail
      refine (step4 (b:=b) HS8.out HO8.out (by have:=wO (.inl HKD.out);omega) hsb8 (by omega) (.inl HKD.out)).mono ?_
      intro z w9 hz
      unfold jw EvE at hz
      rw [HEV.out.1] at hz
      obtain ⟨rfl,hbx9,hs9⟩:=hz
      have H9:=AE (And.intro hbx9 hs9)
      clear hbx9 hs9 lk
      by_cases he:(aS b o ts).1=0
      ·have hq:((aS b o ts).1 !=0)=false:=by simp [he]
       obtain ⟨k',h1,h2,h3,h4,h5⟩:=HGO.out he
       have hs9:=H9.out.2 he
       rw [h3] at hs9
       have HS9:=AE hs9
       have c9:w9.cell? ⟨S,3,none⟩=some (.int .i64 k'):=by obtain ⟨_,_,_,_,hh⟩:=hs9;exact hh.hd.blk.cell 3
       have hle:=gv b o ts
       have HGO5:=AE (And.intro h4 h5)
       clear he hs9 h4 h5 h3
       go_wp2_with fail
       go_roundw
       case rel=>exact ⟨_,k',h2,by omega,HBX8.out.trans H9.out.1,HS9.out,HGO5.out.1,HGO5.out.2⟩
       case measure=>rw [c9,c3w.out];simp [intOf];omega
      ·have hq:((aS b o ts).1 !=0)=true:=by simpa using he
       have HX9:=AE (HBX8.out.trans H9.out.1)
       have b_r9:=HX9.out.blk (show w.heap.size+1+1<S+1+1 by omega) (by omega) b_r5.out
       have k_r:=b_r9.cell
       have f_r:=b_r9.free
       have l_r:=b_r9.lt
       have HB9:=AE (HBU.out.trans ((HX9.out.mono (show w.heap.size≤S+1+1 by omega)).low hS0))
       have HE0:Hid (ir b ops=(noT,(aS b o ts).1)):=AE (by unfold ir;rw [HERR.out he,if_pos he])
       clear he
       go_wp2_with fail
       refine bodyPost_ret (am rfl rfl (dA b_r9 (.int .i64 0) (.int .i64 0) (.string ⟨#[]⟩) (.slice none 0 0)) rfl) rfl ?_
       rw [HE0.out]
       exact ⟨⟨none,0,rfl,(TmOwn.no (base:=0)).rtm⟩,cC HB9.out (by omega) _ _ _ _⟩
     ·have lk:=eR Tryz.underlying221 Tryz.underlying3 HM8.out 5 (.func (.func 178) #[.pointer (some ⟨S,0,none⟩)] #[]) rfl
      rw [←hk] at lk
      have HKD:=AE hk
      clear hk
      go_wp2_with fail
      refine (step4 (b:=b) HS8.out HO8.out (by have:=wO (.inr HKD.out);omega) hsb8 (by omega) (.inr HKD.out)).mono ?_
      intro z w9 hz
      unfold jw EvE at hz
      rw [HEV.out.1] at hz
      obtain ⟨rfl,hbx9,hs9⟩:=hz
      have H9:=AE (And.intro hbx9 hs9)
      clear hbx9 hs9 lk
      by_cases he:(aS b o ts).1=0
      ·have hq:((aS b o ts).1 !=0)=false:=by simp [he]
       obtain ⟨k',h1,h2,h3,h4,h5⟩:=HGO.out he
       have hs9:=H9.out.2 he
       rw [h3] at hs9
       have HS9:=AE hs9
       have c9:w9.cell? ⟨S,3,none⟩=some (.int .i64 k'):=by obtain ⟨_,_,_,_,hh⟩:=hs9;exact hh.hd.blk.cell 3
       have hle:=gv b o ts
       have HGO5:=AE (And.intro h4 h5)
       clear he hs9 h4 h5 h3
       go_wp2_with fail
       go_roundw
       case rel=>exact ⟨_,k',h2,by omega,HBX8.out.trans H9.out.1,HS9.out,HGO5.out.1,HGO5.out.2⟩
       case measure=>rw [c9,c3w.out];simp [intOf];omega
      ·have hq:((aS b o ts).1 !=0)=true:=by simpa using he
       have HX9:=AE (HBX8.out.trans H9.out.1)
       have b_r9:=HX9.out.blk (show w.heap.size+1+1<S+1+1 by omega) (by omega) b_r5.out
       have k_r:=b_r9.cell
       have f_r:=b_r9.free
       have l_r:=b_r9.lt
       have HB9:=AE (HBU.out.trans ((HX9.out.mono (show w.heap.size≤S+1+1 by omega)).low hS0))
       have HE0:Hid (ir b ops=(noT,(aS b o ts).1)):=AE (by unfold ir;rw [HERR.out he,if_pos he])
       clear he
       go_wp2_with fail
       refine bodyPost_ret (am rfl rfl (dA b_r9 (.int .i64 0) (.int .i64 0) (.string ⟨#[]⟩) (.slice none 0 0)) rfl) rfl ?_
       rw [HE0.out]
       exact ⟨⟨none,0,rfl,(TmOwn.no (base:=0)).rtm⟩,cC HB9.out (by omega) _ _ _ _⟩
    ·have hlt':decide ((k:Int)<ops.length)=false:=by simp;omega
     obtain rfl:k=ops.length:=by omega
     have hw1:=HEV.out.2.1
     rw [List.drop_length,jS,AT] at hw1
     have hxl:xs.length=ts.length:=by rw [←HEV.out.1,AM]
     obtain ⟨ys,x,hys⟩:=eQ (xs:=xs) (by omega)
     have hy0:ys=[]:=List.eq_nil_of_length_eq_zero (by rw [hys,AK,List.length_singleton] at hxl;omega)
     have HSP:Hid (StkE S (S+1+1) D (.slice An b.names.length cn) (.slice At b.terms.length ct) wr.drew ([]++[x]) ops.length A c):=AE (by
      have:=HSTK.out.later (AI wr.heap.size wr).drew
      rw [hys,hy0] at this
      exact this)
     have HT1:Hid (ts=[x.t]):=AE (by rw [←HEV.out.1,hys,hy0];rfl)
     clear hys hy0 hxl hw1
     go_wp2_with fail
     go_region
     go_wp2_with fail
     refine (lU HSP.out (by simp)).mono ?_
     rintro e wp ⟨rfl,hex,hs,htm,hap,hlt2⟩
     have b_rp:=hex.blk (by omega) HR.out.drew
     have k_r:=b_rp.cell
     have f_r:=b_rp.free
     have l_r:=b_rp.lt
     have HTM:=AE (And.intro hex (And.intro htm hlt2))
     clear hex hs htm hap hlt2
     unfold SV.cs
     have hszq:S+1+1≤wr.drew.heap.size:=by show S+1+1≤wr.heap.size;omega
     have HBXp:=AE ((HBX.out.drew).trans (.exc HTM.out.1 hszq))
     have HBp:=AE (HBU.out.trans ((HBXp.out.mono (show w.heap.size≤S+1+1 by omega)).low hS0))
     have HE0:Hid (ir b ops=(x.t,0)):=AE (by
      unfold ir
      rw [HEV.out.2.2,List.drop_length,evR_nil,HT1.out]
      rfl)
     go_wp2_with fail
     refine bodyPost_ret (am rfl rfl (dA b_rp (.int .i64 x.t.kind) (.int .i64 x.t.n) (.string x.t.s) (.slice x.a x.t.l.length x.c)) rfl) rfl ?_
     rw [HE0.out]
     exact ⟨⟨x.a,x.c,rfl,(HTM.out.2.1.put4 (fun a ha=>by have:=(HTM.out.2.2 a ha).1;omega) _ _ _ _).1⟩,cC HBp.out (by omega) _ _ _ _⟩
  ·have HK:Hid (bG b=false):=AE (by simpa using hk)
   have hit:¬(aP ops&&bG b)=true:=by rw [HM.out,HK.out];simp
   rw [if_neg hit]
   clear hk hit
   go_enter Tryz.func151,Tryz.ntmps151
   go_wp2_with fail
   generalize hW:World.alloc _ _=w1
   obtain ⟨hb1,hz⟩:=al3 hW
   have b_e:=n31 hW
   have b_b:=n32 hW
   have b_r:=n33 hW
   have HB1:=AE hb1
   clear hW
   have hE1:=(ExR (D+1)).keep hb1 hB HE.out
   refine (dl (vs:=[_]) hE1 (AF hB hb1.size)).mono ?_
   rintro e w2 ⟨rfl,hb2⟩
   have HB2:=AE (aa HB1.out hb2)
   have b_e2:=b_e.later hb2
   have b_b2:=b_b.later hb2
   have b_r2:=b_r.later hb2
   clear b_e b_b b_r hb1 hb2 hE1
   have k_b:=b_b2.cell
   have l_b:=b_b2.lt
   rw [HM.out]
   go_wp2_with fail
   refine (dn (cn:=cn) (ct:=ct) (HN.out.keep HB2.out hB) (HT.out.keep HB2.out hB) (AF hB HB2.out.size)).mono ?_
   rintro e w3 ⟨rfl,hb3⟩
   have HB3:=AE (aa HB2.out hb3)
   have b_r3:=b_r2.later hb3
   clear b_e2 b_b2 b_r2 hb3 k_b l_b
   have k_r:=b_r3.cell
   have l_r:=b_r3.lt
   have f_r:=b_r3.free
   rw [HK.out]
   go_wp2_with fail
   refine bodyPost_ret (am rfl rfl (dA b_r3 (.int .i64 0) (.int .i64 0) (.string ⟨#[]⟩) (.slice none 0 0)) rfl) rfl ?_
   exact ⟨⟨none,0,rfl,(TmOwn.no (base:=0)).rtm⟩,cC HB3.out (by omega) _ _ _ _⟩
 ·have HM:Hid (aP ops=false):=AE (by simpa using hm)
  have hit:¬(aP ops&&bG b)=true:=by rw [HM.out];simp
  rw [if_neg hit]
  clear hm hit
  go_enter Tryz.func151,Tryz.ntmps151
  go_wp2_with fail
  generalize hW:World.alloc _ _=w1
  obtain ⟨hb1,hz⟩:=al3 hW
  have b_r:=n33 hW
  have HB1:=AE hb1
  clear hW
  have hE1:=(ExR (D+1)).keep hb1 hB HE.out
  refine (dl (vs:=[_]) hE1 (AF hB hb1.size)).mono ?_
  rintro e w2 ⟨rfl,hb2⟩
  have HB2:=AE (aa HB1.out hb2)
  have b_r2:=b_r.later hb2
  clear b_r hb1 hb2 hE1
  have k_r:=b_r2.cell
  have l_r:=b_r2.lt
  have f_r:=b_r2.free
  rw [HM.out]
  go_wp2_with fail
  refine bodyPost_ret (am rfl rfl (dA b_r2 (.int .i64 0) (.int .i64 0) (.string ⟨#[]⟩) (.slice none 0 0)) rfl) rfl ?_
  exact ⟨⟨none,0,rfl,(TmOwn.no (base:=0)).rtm⟩,cC HB2.out (by omega) _ _ _ _⟩
def sX (ts:List Tm):Prop:=∀t∈ts,af t=true
theorem sX.add {l:List Tm} {t:Tm} (h:sX l) (ht:af t=true):sX (l++[t]):=fun u hu=>by
 rcases List.mem_append.1 hu with h1 | h1
 ·exact h u h1
 ·rw [List.mem_singleton] at h1;rw [h1];exact ht
theorem sX.left {l r:List Tm} (h:sX (l++r)):sX l:=fun u hu=>h u (List.mem_append_left _ hu)
def eq (r:Tm × Int):Bool × Int:=if r.2≠0 then (false,r.2) else if r.1.kind≠6 then (false,7) else (decide (r.1.n=1),0)
def gW (b:Bd) (ops:List OpD):Tm × Int:=if (aP ops&&bG b)=true then ir b ops else (noT,1)
theorem xE {r:Tm × Int} (h:r.2≠0):eq r=(false,r.2):=by unfold eq;rw [if_pos h]
theorem uv {r:Tm × Int} (h:r.2=0) (hk:r.1.kind≠6):eq r=(false,7):=by unfold eq;rw [if_neg (by simp [h]),if_pos hk]
theorem zu {r:Tm × Int} (h:r.2=0) (hk:r.1.kind=6):eq r=(decide (r.1.n=1),0):=by unfold eq;rw [if_neg (by simp [h]),if_neg (by simp [hk])]
theorem zv {D B cn ct:Nat} {ops:List OpD} {evs:List Value} {b:Bd} {An At:Option Addr} {w:World} {m:Int} (he:(ExR (D+1)).rd w B ops evs) (hn:RL cX w B (b.names.map mkS) An) (ht:RL (TmR (D+1)) w B b.terms At) (hB:B≤w.heap.size) (hm0:w.cell? ⟨0,0,none⟩=some (.int .i64 m)) (h0:0<w.heap.size) :
 Calls Tryz.prog 122 #[.agg evs.toArray,.agg (bdV An b.names.length cn At b.terms.length ct)] w fun e w'=>e=.returned (.tuple #[.bool (eq (gW b ops)).1,.int .i64 (eq (gW b ops)).2])∧Below w.heap.size w w':=by
 have HE:=AE he
 have HN:=AE hn
 have HT:=AE ht
 have HM:=AE hm0
 clear hn ht hm0
 obtain ⟨_,rfl,Ao,co,rfl,hc1,hc2,hl⟩:=he
 simp only [OpR] at hc2
 clear hl
 unfold bdV
 go_enter Tryz.func122,Tryz.ntmps122
 go_wp2_with fail
 generalize hW:World.alloc _ _=w1
 obtain ⟨hb1,hz⟩:=al2 hW
 have HB1:=AE hb1
 clear hW
 refine (yu (evs:=[_]) (D:=D) (cn:=cn) (ct:=ct) ((ExR (D+1)).keep hb1 hB HE.out) (HN.out.keep hb1 hB) (HT.out.keep hb1 hB) (AF hB hb1.size) ((hb1.cell (p:=⟨0,0,none⟩) h0).trans HM.out) (AJ h0 hb1.size)).mono ?_
 rintro z w2 ⟨⟨A,c,rfl,hrd⟩,hb⟩
 have HB2:=AE (aa HB1.out hb)
 clear hb hb1 hrd
 have hev:(if (aP ops&&bG b)=true then ir b ops else (noT,1))=gW b ops:=rfl
 rw [hev]
 clear hev
 generalize hr:gW b ops=r
 have HRR:=AE hr
 clear hr
 go_upto_region 2 with fail
 generalize hW:World.alloc _ _=w3
 obtain ⟨hb,hz3⟩:=al1 hW
 have b_t:=n11 hW
 have HB3:=AE (aa HB2.out hb)
 clear hb hW
 have k_t:=b_t.cell
 by_cases he:r.2=0
 ·have p1:(r.2 !=0)=false:=by simp [he]
  by_cases hk:r.1.kind=6
  ·have p2:(r.1.kind !=6)=false:=by simp [hk]
   have HR:=AE (zu he hk)
   clear he hk
   go_wp2_with fail
   go_ret2
   rw [HRR.out,HR.out]
   exact ⟨rfl,HB3.out⟩
  ·have p2:(r.1.kind !=6)=true:=by simpa using hk
   have HR:=AE (uv he hk)
   clear he hk
   go_wp2_with fail
   go_ret2
   rw [HRR.out,HR.out]
   exact ⟨rfl,HB3.out⟩
 ·have p1:(r.2 !=0)=true:=by simpa using he
  have HR:=AE (xE he)
  clear he
  go_wp2_with fail
  go_ret2
  rw [HRR.out,HR.out]
  exact ⟨rfl,HB3.out⟩
end Go.Proofs.YtjpndglegpcdnaaGreat
