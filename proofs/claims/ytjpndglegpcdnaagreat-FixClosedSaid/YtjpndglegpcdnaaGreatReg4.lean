/- regex.class. -/
import Derived.Test.YtjpndglegpcdnaaGreatMat2
import Derived.Laws.MakeOwn
import Derived.Test.YtjpndglegpcdnaaGreatStk
import Derived.Deep.Cut
import Derived.Deep.DeepCutAuto
import Derived.Deep.LoopGhost
import Derived.BigQuiet
set_option linter.unusedVariables false
set_option linter.unusedSimpArgs false
set_option maxRecDepth 100000
set_option maxHeartbeats 8000000
namespace Go.Proofs.YtjpndglegpcdnaaGreat
open Go.ChangeShapes Go.WideShapes Go.ChangeAt Go.RowKit
theorem tL (n:Nat):madeCells #[.bool false] n=cF (List.replicate n false):=by
 apply Array.ext'
 apply List.ext_getElem?
 intro q
 simp [madeCells,cF,List.getElem?_replicate]
 split<;>simp_all [Nat.mod_one]
theorem ng (n:Nat) (hn:n≤1000000) (w:World):(Instr.makeSlice 252 (.int .i64 (n:Int)) (.int .i64 (n:Int))).run Tryz.prog w=.ok (.slice (some ⟨w.heap.size,0,none⟩) n n) (w.alloc (.cells (cF (List.replicate n false)) 4)):=by
 obtain ⟨i0,hi0,hz0,hz1,hz2⟩:=info_parts yE
 have hr:=run_make (P:=Tryz.prog) w 252 4 i0 _ Tryz.underlying252 hi0 hz0 .i64 .i64 n n (by omega) (Int.le_refl _) (by rw [hz2];omega) (by omega)
 simp only [Int.toNat_natCast] at hr
 rw [hz1,Nat.mul_one] at hr
 rw [hr,←tL]
 rfl
theorem rO {l:List Ins} {c:Nat} {last:Bool} {on:List Bool} {k:Nat} {st:List Bool × Bool} {b:Bool} (h:on[k]? = some b):dO l c last k (on.drop k) st=dO l c last (k+1) (on.drop (k+1)) (if b&&dD (gf l k) c then bQ l false last (k+1) st else st):=by
 obtain ⟨hk,e⟩:=List.getElem?_eq_some_iff.1 h
 rw [List.drop_eq_getElem_cons hk,e]
 rfl
theorem gM {w:World} {W G cl ca B:Nat} {l:List Ins} {Al:Option Addr} {i:Int} {first last:Bool} {st:List Bool × Bool} (h0:0≤i) (hi:i<l.length) (hw:Ways W G l Al cl ca w st) (hl:RL fx w B l Al) (hBW:B≤W) (hBG:B≤G) (hp:Prg l) (hca:l.length≤ca) :
 Calls Tryz.prog 216 #[.pointer (some ⟨W,0,none⟩),.int .i64 i,.bool first,.bool last] w fun e w'=>zE W G l Al cl ca w w' (bQ l first last i st) e:=by
 obtain ⟨i0,rfl⟩:=Int.eq_ofNat_of_zero_le h0
 exact vB hw hl hBW hBG hp (by omega) hca
theorem uq {x:Ins} {c j:Nat} (hk:x.kind=1) (hj:c / 64=j):dD x c=(bits .and .u64 (x.word j / 2 ^ (c % 64)) 1==1):=by
 unfold dD
 rw [hk,hj]
 simp
def TakesE (l:List Ins) (Al:Option Addr) (cl:Nat) (w w':World) (st:List Bool × Bool) (e:Ending):Prop:=
 ∃W G ca,e=.returned (.pointer (some ⟨W,0,none⟩))∧Ways W G l Al cl ca w' st∧w.heap.size≤W∧w.heap.size≤G∧l.length≤ca∧Below w.heap.size w w'
theorem xB {w:World} {W G cl ca B:Nat} {l:List Ins} {Al:Option Addr} {c:Nat} {last:Bool} {st:List Bool × Bool} (hw:Ways W G l Al cl ca w st) (hl:RL fx w B l Al) (hBW:B≤W) (hBG:B≤G) (hp:Prg l) (hc:c<256) (hca:l.length≤ca) :
 Calls Tryz.prog 217 #[.pointer (some ⟨W,0,none⟩),.int .u8 c,.bool last] w fun e w'=>TakesE l Al cl w w' (gA l c last st) e:=by
 have hWlt:=hw.wb.blk.lt
 have hGlt:=hw.gb.blk.lt
 have HW:=AE hw
 have HL:=AE hl
 have HP:=AE hp
 have hlen:=hp.len
 have hmk:=fun w=>ng l.length (by omega) w
 have k_w:∀o,w.cell? ⟨W,o,none⟩=(#[.slice Al l.length cl,.slice (some ⟨G,0,none⟩) l.length ca,.bool st.2]:Array Value)[o]?:=hw.wb.blk.cell
 clear hw hl hp
 go_enter Tryz.func217,Tryz.ntmps217
 go_wp2_with fail
 go_region
 have HB1:Hid (Below w.heap.size w ((w.alloc (.cells (cF (List.replicate l.length false)) 4)).alloc (.cells #[.slice Al l.length cl,.slice (some ⟨w.heap.size,0,none⟩) l.length l.length,.bool false] 254)).drew):=AE (al2 rfl).1.drew
 have HN1:Hid (Ways (w.heap.size+1) w.heap.size l Al cl l.length ((w.alloc (.cells (cF (List.replicate l.length false)) 4)).alloc (.cells #[.slice Al l.length cl,.slice (some ⟨w.heap.size,0,none⟩) l.length l.length,.bool false] 254)).drew (jb l)):=AE (by
  have h0:bS (w.alloc (.cells (cF (List.replicate l.length false)) 4)) w.heap.size (cF (List.replicate l.length false)) 4:=heap_alloc_new w _
  have h1:=h0.later (au (w:=w.alloc (.cells (cF (List.replicate l.length false)) 4)) (o:=.cells #[.slice Al l.length cl,.slice (some ⟨w.heap.size,0,none⟩) l.length l.length,.bool false] 254) rfl)
  have h2:=heap_alloc_new (w.alloc (.cells (cF (List.replicate l.length false)) 4)) (.cells #[.slice Al l.length cl,.slice (some ⟨w.heap.size,0,none⟩) l.length l.length,.bool false] 254)
  rw [World.size_alloc] at h2
  exact ⟨h2,h1,by simp [jb],by omega⟩)
 generalize World.drew _=w1 at *
 have HT1:Hid (gA l c last st=dO l c last 0 (st.1.drop 0) (jb l)):=AE rfl
 have HWO:=AE (HW.out.later HB1.out)
 clear hmk k_w
 have k_w:∀o,w1.cell? ⟨W,o,none⟩=(#[.slice Al l.length cl,.slice (some ⟨G,0,none⟩) l.length ca,.bool st.2]:Array Value)[o]?:=HWO.out.wb.blk.cell
 have hz1:w.heap.size+1<w1.heap.size:=HN1.out.wb.blk.lt
 go_wp2_with fail
 clear k_w
 go_loopw [28] (fun v wr=>∃(k:Nat) (s2:List Bool × Bool),k≤l.length∧v=.int .i64 k∧Hid (gA l c last st=dO l c last k (st.1.drop k) s2)∧Hid (Ways (w.heap.size+1) w.heap.size l Al cl l.length wr s2)∧Hid (Below w.heap.size w wr)∧w.heap.size+1<wr.heap.size) (fun v _=>l.length-(intOf v).toNat)
 case atStart=>exact ⟨0,_,AH _,rfl,HT1,HN1,HB1,hz1⟩
 case round=>
  obtain ⟨k,s2,hk,rfl,HE,HN,HB,hzr⟩:=hrel
  have HWr:=AE (HW.out.later HB.out)
  by_cases hlt:k<l.length
  ·have hks:k<st.1.length:=by rw [HW.out.len];exact hlt
   obtain ⟨b,hb⟩:∃b,st.1[k]? = some b:=⟨_,AO hks⟩
   have HE2:=AE (HE.out.trans (rO (l:=l) (c:=c) (last:=last) (st:=s2) hb))
   have k_w:∀o,wr.cell? ⟨W,o,none⟩=(#[.slice Al l.length cl,.slice (some ⟨G,0,none⟩) l.length ca,.bool st.2]:Array Value)[o]?:=HWr.out.wb.blk.cell
   have c_g:wr.cell? ⟨G,k,none⟩=some (.bool b):=by rw [HWr.out.gb.blk.cell,mS,hb];rfl
   have HLr:=AE (HL.out.keep HB.out (by omega))
   have hB2:B≤wr.heap.size:=by omega
   obtain ⟨b_,off,rfl,hob⟩:=HLr.out.base (AI _ _) hB2 (by omega)
   obtain ⟨x,vs,hx,hxl,hxc,hxr⟩:=HLr.out.at_ (AI _ _) hB2 hlt
   obtain rfl:vs=kA x:=hxr
   have c0:wr.cell? ⟨b_,off+k*7,none⟩=some (.int .i64 x.kind):=hxc 0 _ rfl
   have c1:wr.cell? ⟨b_,off+k*7+1,none⟩=some (.int .u64 x.a):=hxc 1 _ rfl
   have c2:wr.cell? ⟨b_,off+k*7+2,none⟩=some (.int .u64 x.b):=hxc 2 _ rfl
   have c3:wr.cell? ⟨b_,off+k*7+3,none⟩=some (.int .u64 x.c):=hxc 3 _ rfl
   have c4:wr.cell? ⟨b_,off+k*7+4,none⟩=some (.int .u64 x.d):=hxc 4 _ rfl
   have c5:wr.cell? ⟨b_,off+k*7+5,none⟩=some (.int .i64 x.x):=hxc 5 _ rfl
   have c6:wr.cell? ⟨b_,off+k*7+6,none⟩=some (.int .i64 x.y):=hxc 6 _ rfl
   have hIX:gf l k=x:=by
    unfold gf
    rw [Int.toNat_natCast,List.getD_eq_getElem?_getD,hx]
    rfl
   have HTI:Hid (dD x c=true→k+1<l.length):=AE (fun ht=>zq HP.out hlt (by rw [hIX];exact ht))
   rw [hIX] at HE2
   clear hxc hxl hx hIX hks hb HE
   have hn64:c / 64=0∨c / 64=1∨c / 64=2∨c / 64=3:=by omega
   have hr:(c:Int).tmod 64=((c % 64:Nat):Int):=rfl
   have hr2:((c % 64:Nat):Int)<64:=by omega
   have hr3:(0:Int)≤((c % 64:Nat):Int):=by omega
   have hq:(c:Int).tdiv 64=((c / 64:Nat):Int):=rfl
   cases b
   ·have HE3:Hid (gA l c last st=dO l c last (k+1) (st.1.drop (k+1)) s2):=AE (by rw [HE2.out];simp)
    go_wp2_with fail
    go_roundw
    case rel=>exact ⟨k+1,s2,by omega,by go_num,HE3,AE (HN.out.later (au rfl)),AE (aa HB.out (au rfl)),by rw [World.size_alloc];omega⟩
    case measure=>simp [intOf];omega
   ·by_cases hk1:x.kind=1
    ·have q1:(x.kind==1)=true:=by simpa using hk1
     have HTW:=fun (j:Nat) (hj:c / 64=j)=>uq (c:=c) hk1 hj
     clear hk1
     rcases hn64 with hj | hj | hj | hj
     ·have HTW2:=AE (HTW 0 hj)
      rw [hj] at hq
      clear HTW hj
      have hword:x.word 0=x.a:=rfl
      rw [hword] at HTW2
      clear hword
      rcases Bool.eq_false_or_eq_true (bits .and .u64 (x.a / 2 ^ (c % 64)) 1==1) with hbit | hbit
      ·have HT:Hid (dD x c=true):=AE (by rw [HTW2.out,hbit])
       have HE3:Hid (gA l c last st=dO l c last (k+1) (st.1.drop (k+1)) (bQ l false last ((k:Int)+1) s2)):=AE (by rw [HE2.out,HT.out];rfl)
       have hk2:=HTI.out HT.out
       go_wp2_with fail
       generalize hA:World.alloc _ _=w4
       have hb4:=au hA
       have HN4:=AE (HN.out.later hb4)
       have HB4:=AE (aa HB.out hb4)
       clear hA hb4
       refine (gM (B:=B) (by omega) (by omega) HN4.out (HL.out.keep HB4.out (by omega)) (by omega) (by omega) HP.out (AG _)).mono ?_
       rintro e w5 ⟨rfl,he,hn⟩
       have HN5:=AE hn
       have HB5:=AE (HB4.out.trans (he.1.mono (by omega)))
       have hz5:w.heap.size+1<w5.heap.size:=HN5.out.wb.blk.lt
       clear he hn
       go_wp2_with fail
       go_roundw
       case rel=>exact ⟨k+1,_,by omega,by go_num,HE3,HN5,HB5,hz5⟩
       case measure=>simp [intOf];omega
      ·have HT:Hid (dD x c=false):=AE (by rw [HTW2.out,hbit])
       have HE3:Hid (gA l c last st=dO l c last (k+1) (st.1.drop (k+1)) s2):=AE (by rw [HE2.out,HT.out];rfl)
       go_wp2_with fail
       go_roundw
       case rel=>exact ⟨k+1,s2,by omega,by go_num,HE3,AE (HN.out.later (au rfl)),AE (aa HB.out (au rfl)),by rw [World.size_alloc];omega⟩
       case measure=>simp [intOf];omega
     ·have HTW2:=AE (HTW 1 hj)
      rw [hj] at hq
      clear HTW hj
      have hword:x.word 1=x.b:=rfl
      rw [hword] at HTW2
      clear hword
      rcases Bool.eq_false_or_eq_true (bits .and .u64 (x.b / 2 ^ (c % 64)) 1==1) with hbit | hbit
      ·have HT:Hid (dD x c=true):=AE (by rw [HTW2.out,hbit])
       have HE3:Hid (gA l c last st=dO l c last (k+1) (st.1.drop (k+1)) (bQ l false last ((k:Int)+1) s2)):=AE (by rw [HE2.out,HT.out];rfl)
       have hk2:=HTI.out HT.out
       go_wp2_with fail
       generalize hA:World.alloc _ _=w4
       have hb4:=au hA
       have HN4:=AE (HN.out.later hb4)
       have HB4:=AE (aa HB.out hb4)
       clear hA hb4
       refine (gM (B:=B) (by omega) (by omega) HN4.out (HL.out.keep HB4.out (by omega)) (by omega) (by omega) HP.out (AG _)).mono ?_
       rintro e w5 ⟨rfl,he,hn⟩
       have HN5:=AE hn
       have HB5:=AE (HB4.out.trans (he.1.mono (by omega)))
       have hz5:w.heap.size+1<w5.heap.size:=HN5.out.wb.blk.lt
       clear he hn
       go_wp2_with fail
       go_roundw
       case rel=>exact ⟨k+1,_,by omega,by go_num,HE3,HN5,HB5,hz5⟩
       case measure=>simp [intOf];omega
      ·have HT:Hid (dD x c=false):=AE (by rw [HTW2.out,hbit])
       have HE3:Hid (gA l c last st=dO l c last (k+1) (st.1.drop (k+1)) s2):=AE (by rw [HE2.out,HT.out];rfl)
       go_wp2_with fail
       go_roundw
       case rel=>exact ⟨k+1,s2,by omega,by go_num,HE3,AE (HN.out.later (au rfl)),AE (aa HB.out (au rfl)),by rw [World.size_alloc];omega⟩
       case measure=>simp [intOf];omega
     ·have HTW2:=AE (HTW 2 hj)
      rw [hj] at hq
      clear HTW hj
      have hword:x.word 2=x.c:=rfl
      rw [hword] at HTW2
      clear hword
      rcases Bool.eq_false_or_eq_true (bits .and .u64 (x.c / 2 ^ (c % 64)) 1==1) with hbit | hbit
      ·have HT:Hid (dD x c=true):=AE (by rw [HTW2.out,hbit])
       have HE3:Hid (gA l c last st=dO l c last (k+1) (st.1.drop (k+1)) (bQ l false last ((k:Int)+1) s2)):=AE (by rw [HE2.out,HT.out];rfl)
       have hk2:=HTI.out HT.out
       go_wp2_with fail
       generalize hA:World.alloc _ _=w4
       have hb4:=au hA
       have HN4:=AE (HN.out.later hb4)
       have HB4:=AE (aa HB.out hb4)
       clear hA hb4
       refine (gM (B:=B) (by omega) (by omega) HN4.out (HL.out.keep HB4.out (by omega)) (by omega) (by omega) HP.out (AG _)).mono ?_
       rintro e w5 ⟨rfl,he,hn⟩
       have HN5:=AE hn
       have HB5:=AE (HB4.out.trans (he.1.mono (by omega)))
       have hz5:w.heap.size+1<w5.heap.size:=HN5.out.wb.blk.lt
       clear he hn
       go_wp2_with fail
       go_roundw
       case rel=>exact ⟨k+1,_,by omega,by go_num,HE3,HN5,HB5,hz5⟩
       case measure=>simp [intOf];omega
      ·have HT:Hid (dD x c=false):=AE (by rw [HTW2.out,hbit])
       have HE3:Hid (gA l c last st=dO l c last (k+1) (st.1.drop (k+1)) s2):=AE (by rw [HE2.out,HT.out];rfl)
       go_wp2_with fail
       go_roundw
       case rel=>exact ⟨k+1,s2,by omega,by go_num,HE3,AE (HN.out.later (au rfl)),AE (aa HB.out (au rfl)),by rw [World.size_alloc];omega⟩
       case measure=>simp [intOf];omega
     ·have HTW2:=AE (HTW 3 hj)
      rw [hj] at hq
      clear HTW hj
      have hword:x.word 3=x.d:=rfl
      rw [hword] at HTW2
      clear hword
      rcases Bool.eq_false_or_eq_true (bits .and .u64 (x.d / 2 ^ (c % 64)) 1==1) with hbit | hbit
      ·have HT:Hid (dD x c=true):=AE (by rw [HTW2.out,hbit])
       have HE3:Hid (gA l c last st=dO l c last (k+1) (st.1.drop (k+1)) (bQ l false last ((k:Int)+1) s2)):=AE (by rw [HE2.out,HT.out];rfl)
       have hk2:=HTI.out HT.out
       go_wp2_with fail
       generalize hA:World.alloc _ _=w4
       have hb4:=au hA
       have HN4:=AE (HN.out.later hb4)
       have HB4:=AE (aa HB.out hb4)
       clear hA hb4
       refine (gM (B:=B) (by omega) (by omega) HN4.out (HL.out.keep HB4.out (by omega)) (by omega) (by omega) HP.out (AG _)).mono ?_
       rintro e w5 ⟨rfl,he,hn⟩
       have HN5:=AE hn
       have HB5:=AE (HB4.out.trans (he.1.mono (by omega)))
       have hz5:w.heap.size+1<w5.heap.size:=HN5.out.wb.blk.lt
       clear he hn
       go_wp2_with fail
       go_roundw
       case rel=>exact ⟨k+1,_,by omega,by go_num,HE3,HN5,HB5,hz5⟩
       case measure=>simp [intOf];omega
      ·have HT:Hid (dD x c=false):=AE (by rw [HTW2.out,hbit])
       have HE3:Hid (gA l c last st=dO l c last (k+1) (st.1.drop (k+1)) s2):=AE (by rw [HE2.out,HT.out];rfl)
       go_wp2_with fail
       go_roundw
       case rel=>exact ⟨k+1,s2,by omega,by go_num,HE3,AE (HN.out.later (au rfl)),AE (aa HB.out (au rfl)),by rw [World.size_alloc];omega⟩
       case measure=>simp [intOf];omega
    ·have q1:(x.kind==1)=false:=by simpa using hk1
     have HT:Hid (dD x c=false):=AE (by unfold dD;rw [decide_eq_false hk1];rfl)
     have HE3:Hid (gA l c last st=dO l c last (k+1) (st.1.drop (k+1)) s2):=AE (by rw [HE2.out,HT.out];rfl)
     clear hk1
     go_wp2_with fail
     go_roundw
     case rel=>exact ⟨k+1,s2,by omega,by go_num,HE3,AE (HN.out.later (au rfl)),AE (aa HB.out (au rfl)),by rw [World.size_alloc];omega⟩
     case measure=>simp [intOf];omega
  ·have HE3:Hid (gA l c last st=s2):=AE (by
    rw [HE.out,List.drop_eq_nil_iff.2 (by rw [HW.out.len];omega)]
    rfl)
   go_wp2_with fail
   go_ret
   rw [HE3.out]
   exact ⟨w.heap.size+1,w.heap.size,l.length,rfl,HN.out,by omega,AG _,AG _,HB.out⟩
theorem Exc.fresh {P G:Nat} {a b c:World} (h:Exc P a b) (k:Exc G b c) (hP:P<a.heap.size) (hG:a.heap.size≤G):Exc P a c:=
 ⟨h.1.trans (k.1.mono (by omega)),fun i hi hne=>(k.2 i (AJ hi h.1.size) (by omega)).trans (h.2 i hi hne)⟩
theorem stepped {w:World} {P:Nat} {s:ByteArray} {p:PS} (hb:Blk w P (psA s p)):Blk (w.setCell ⟨P,1,none⟩ (.int .i64 ((p.at_:Int)+1))) P (psA s p.step):=hb.set_ 1 _
abbrev zero7:Array Value:=#[.int .i64 0,.int .u64 0,.int .u64 0,.int .u64 0,.int .u64 0,.int .i64 0,.int .i64 0]
structure CS (P G R:Nat) (s:ByteArray) (w0 w:World) (p:PS) (i:Ins):Prop where
 pb:Blk w P (psA s p)
 gb:Blk w G (inA i)
 rb:Blk w R zero7
 ex:Exc P w0 w
 hP:P<w0.heap.size
 hR:w0.heap.size≤R
 hG:R<G
section
variable {P G R:Nat} {s:ByteArray} {w0 w w':World} {p q:PS} {i j:Ins}
theorem CS.later (h:CS P G R s w0 w p i) (hb:Below w.heap.size w w'):CS P G R s w0 w' p i:=
 ⟨h.pb.later hb,h.gb.later hb,h.rb.later hb,h.ex.then (Nat.le_of_lt h.hP) hb,h.hP,h.hR,h.hG⟩
theorem CS.exP (h:CS P G R s w0 w p i) (he:Exc P w w') (hp:Blk w' P (psA s q)):CS P G R s w0 w' q i:=
 ⟨hp,he.blk (by have:=h.hP;have:=h.hR;have:=h.hG;omega) h.gb,he.blk (by have:=h.hP;have:=h.hR;omega) h.rb,h.ex.trans he,h.hP,h.hR,h.hG⟩
theorem CS.exG (h:CS P G R s w0 w p i) (he:Exc G w w') (hg:Blk w' G (inA j)):CS P G R s w0 w' p j:=
 ⟨he.blk (by have:=h.hP;have:=h.hR;have:=h.hG;omega) h.pb,hg,he.blk (by have:=h.hG;omega) h.rb,h.ex.fresh he h.hP (by have:=h.hR;have:=h.hG;omega),h.hP,h.hR,h.hG⟩
theorem CS.step (h:CS P G R s w0 w p i):CS P G R s w0 (w.setCell ⟨P,1,none⟩ (.int .i64 ((p.at_:Int)+1))) p.step i:=
 h.exP ((Exc.refl P w).set 1 _) (stepped h.pb)
theorem CS.cells (h:CS P G R s w0 w p i):∀o,w.cell? ⟨P,o,none⟩=(#[.string s,.int .i64 p.at_,.int .i64 p.deep,.int .i64 p.e]:Array Value)[o]?:=h.pb.cell
end
theorem qQ {s:ByteArray} {n:Nat} {p:PS} {i:Ins} (h:(!bP s p&&!isP s p 93)=false):bm s n p i=(i,p):=by
 cases n with
 | zero=>rfl
 | succ n=>unfold bm;rw [h];rfl
theorem vi {s:ByteArray} {n:Nat} {p:PS} {i:Ins} (h:(!bP s p&&!isP s p 93)=true):bm s (n+1) p i=bm s n (if (eX s p).1.2<(eX s p).1.1 then bj (eX s p).2 3 else (eX s p).2) (el i (eX s p).1.1 (eX s p).1.2):=by
 show (if (!bP s p&&!isP s p 93)=true then _ else _)=_
 rw [h]
 rfl
def eU (i:Ins) (f k:Nat):Ins:=(List.range k).foldl (fun i j=>mw i (f+j)) i
theorem fq (i:Ins) (f k:Nat):eU i f (k+1)=mw (eU i f k) (f+k):=by simp [eU,List.range_succ]
def bI (i:Ins) (k:Nat):Ins:=⟨i.kind,if 0<k then oY i.a else i.a,if 1<k then oY i.b else i.b,if 2<k then oY i.c else i.c,if 3<k then oY i.d else i.d,i.x,i.y⟩
theorem CS.setG {P G R:Nat} {s:ByteArray} {w0 w:World} {p:PS} {i j:Ins} (h:CS P G R s w0 w p i) (n:Nat) (v:Value) (hj:inA j=(inA i).setIfInBounds n v):CS P G R s w0 (w.setCell ⟨G,n,none⟩ v) p j:=
 h.exG ((Exc.refl G w).set n v) (by rw [hj];exact h.gb.set_ n v)
theorem sJ {fn:Func} {tmps:Array Value} {p:Tmp} {g:Nat} {w:World} {cs:Array Value} (h:fn.results=#[.cell p 266]) (hp:tmps.getD p undef=.pointer (some ⟨g,0,none⟩)) (hb:Blk w g cs) (hn:cs.size=7) :
 (results fn tmps).run Tryz.prog w=.ok (.agg cs) w:=by
 obtain ⟨T,hb⟩:=hb
 exact results_cell_row h tmps w g T cs (0,0) _ hp hb Tryz.underlying266 rfl (by rw [hn];kernel_rfl)
theorem CS.put {P G R:Nat} {s:ByteArray} {w0 w:World} {p:PS} {i:Ins} (h:CS P G R s w0 w p i) (v0 v1 v2 v3 v4 v5 v6:Value) :
 Exc P w0 (((((((w.setCell ⟨R,0,none⟩ v0).setCell ⟨R,1,none⟩ v1).setCell ⟨R,2,none⟩ v2).setCell ⟨R,3,none⟩ v3).setCell ⟨R,4,none⟩ v4).setCell ⟨R,5,none⟩ v5).setCell ⟨R,6,none⟩ v6) ∧
 Blk (((((((w.setCell ⟨R,0,none⟩ v0).setCell ⟨R,1,none⟩ v1).setCell ⟨R,2,none⟩ v2).setCell ⟨R,3,none⟩ v3).setCell ⟨R,4,none⟩ v4).setCell ⟨R,5,none⟩ v5).setCell ⟨R,6,none⟩ v6) P (psA s p) ∧
 Blk (((((((w.setCell ⟨R,0,none⟩ v0).setCell ⟨R,1,none⟩ v1).setCell ⟨R,2,none⟩ v2).setCell ⟨R,3,none⟩ v3).setCell ⟨R,4,none⟩ v4).setCell ⟨R,5,none⟩ v5).setCell ⟨R,6,none⟩ v6) R #[v0,v1,v2,v3,v4,v5,v6]:=by
 have hne:P≠R:=by have:=h.hP;have:=h.hR;omega
 refine ⟨?_,?_,?_⟩
 ·exact h.ex.fresh (((((((Exc.refl R w).set 0 v0).set 1 v1).set 2 v2).set 3 v3).set 4 v4).set 5 v5 |>.set 6 v6) h.hP h.hR
 ·exact ((((((h.pb.far hne 0 v0).far hne 1 v1).far hne 2 v2).far hne 3 v3).far hne 4 v4).far hne 5 v5).far hne 6 v6
 ·exact ((((((h.rb.set_ 0 v0).set_ 1 v1).set_ 2 v2).set_ 3 v3).set_ 4 v4).set_ 5 v5).set_ 6 v6
def ji (s:ByteArray) (p:PS):PS:=if isP s p 94=true then p.step else p
def sG (s:ByteArray) (p:PS):PS:=if isP s p 93=true then bj p 3 else p
theorem oT (s:ByteArray) (p:PS):dY s p=(if isP s p 94=true then rZ (bm s (s.size+1-(sG s (ji s p)).at_) (sG s (ji s p)) ci).1 else (bm s (s.size+1-(sG s (ji s p)).at_) (sG s (ji s p)) ci).1,(aI s (bm s (s.size+1-(sG s (ji s p)).at_) (sG s (ji s p)) ci).2).2):=rfl
theorem wg {s:ByteArray} {p:PS} {c:Nat} (h:isP s p c=true):p.at_<s.size∧p.e=0:=by
 obtain ⟨h1,h2⟩:=rt (lI h)
 exact ⟨h2,h1⟩
theorem zT {s:ByteArray} {k b:Nat} (h:k+1<s.size) (hb:ch s (k+1)=b) (w:World):(Instr.index 9 (.string s) (.int .i64 ((k:Int)+1))).run Tryz.prog w=.ok (.int .u8 (b:Int)) w:=by
 rw [run_index_string w 9 s .i64 _ Tryz.underlying9,dif_pos ⟨by omega,by omega⟩]
 rw [←hb,gH h]
 rfl
theorem vj {w:World} {P:Nat} {s:ByteArray} {p:PS} (hb:Blk w P (psA s p)) (hs:s.size≤100000) (ha:p.at_≤s.size) :
 Calls Tryz.prog 239 #[.pointer (some ⟨P,0,none⟩)] w fun e w'=>e=.returned (.agg (kA (dY s p).1).toArray)∧Exc P w w'∧Blk w' P (psA s (dY s p).2):=by
 have hlt:=hb.lt
 have HB0:=AE hb
 clear hb
 go_enter Tryz.func239,Tryz.ntmps239
 go_wp2_with fail
 generalize hW:World.alloc _ _=w1
 obtain ⟨hb,hz⟩:=al2 hW
 have HC1:Hid (CS P (w.heap.size+1) w.heap.size s w w1 p ci):=AE ⟨HB0.out.later hb,n22 hW,n21 hW,Exc.of (Nat.le_of_lt hlt) hb,hlt,AG _,Nat.lt_succ_self _⟩
 clear hW hz hb HB0
 generalize w.heap.size=R at *
 refine (cG (s:=s) (p:=p) (c:=94) HC1.out.pb (by omega) (by omega)).mono ?_
 rintro e w2 ⟨rfl,hb⟩
 have HC2:=AE (HC1.out.later hb)
 clear hb HC1
 go_upto_if 12 with fail
 go_cut [4] (fun v4 wx=>v4=.bool (isP s p 94)∧Hid (CS P (R+1) R s w wx (ji s p) ci))
 case first=>
  rcases Bool.eq_false_or_eq_true (isP s p 94) with hi | hi
  ·obtain ⟨hl,h0⟩:=wg hi
   have HP:Hid (ji s p=p.step):=AE (by unfold ji;rw [if_pos hi])
   have k_p:=HC2.out.cells
   have f_p:=HC2.out.pb.free
   have HI:=AE hi
   rw [hi]
   clear hi
   have hw:wrap64 ((p.at_:Int)+1)=(p.at_:Int)+1:=jT (by omega) (by omega)
   go_wp2_with fail
   go_meet
   exact ⟨by rw [HI.out],by rw [HP.out];exact AE HC2.out.step⟩
  ·have HP:Hid (ji s p=p):=AE (by unfold ji;rw [hi];rfl)
   have HI:=AE hi
   rw [hi]
   clear hi
   go_wp2_with fail
   go_meet
   exact ⟨by rw [HI.out],by rw [HP.out];exact HC2⟩
 case rest=>
  obtain ⟨rfl,HC3⟩:=hcut
  have hat:(ji s p).at_≤s.size:=by
   unfold ji
   split
   ·rename_i h;have:=wg h;show p.at_+1≤_;omega
   ·exact ha
  generalize hQ:ji s p=q at *
  have HQ:=AE hQ
  clear hQ HC2
  go_wp2_with fail
  refine (cG (s:=s) (p:=q) (c:=93) HC3.out.pb (by omega) (by omega)).mono ?_
  rintro e w2 ⟨rfl,hb⟩
  have HC4:=AE (HC3.out.later hb)
  clear hb
  generalize hN:isP s p 94=nb at *
  have HN:=AE hN
  clear hN HC3
  go_upto_if 21 with fail
  go_cut [] (fun wx=>Hid (CS P (R+1) R s w wx (sG s q) ci))
  case first=>
   rcases Bool.eq_false_or_eq_true (isP s q 93) with hi | hi
   ·have HP:Hid (sG s q=bj q 3):=AE (by unfold sG;rw [if_pos hi])
    rw [hi]
    clear hi
    go_wp2_with fail
    refine (ee (s:=s) (p:=q) (n:=3) HC4.out.pb).mono ?_
    rintro e w3 ⟨rfl,he,hp⟩
    go_wp2_with fail
    go_meet
    rw [HP.out]
    exact AE (HC4.out.exP he hp)
   ·have HP:Hid (sG s q=q):=AE (by unfold sG;rw [hi];rfl)
    rw [hi]
    clear hi
    go_wp2_with fail
    go_meet
    rw [HP.out]
    exact HC4
  case rest=>
   have HC5:=hcut
   clear hcut HC4
   have hat2:(sG s q).at_≤s.size:=by
    unfold sG
    split
    ·rw [jC];exact hat
    ·exact hat
   generalize hQ2:sG s q=q2 at *
   have HQ2:=AE hQ2
   clear hQ2 hat
   go_wp2_with fail
   go_loopg [] (s.size+1-q2.at_) (fun g wr=>∃(p1:PS) (i1:Ins),Hid (bm s g p1 i1=bm s (s.size+1-q2.at_) q2 ci)∧bF s p1<g∧p1.at_≤s.size∧Hid (CS P (R+1) R s w wr p1 i1))
   case atStart=>
    refine ⟨q2,ci,AE rfl,?_,hat2,HC5⟩
    unfold bF
    split<;>omega
   case round=>
    obtain ⟨p1,i1,HE,hrem,hat1,HC⟩:=hrel
    rcases Bool.eq_false_or_eq_true (!bP s p1&&!isP s p1 93) with hc | hc
    ·obtain ⟨g,rfl⟩:∃g,gk=g+1:=⟨gk-1,by omega⟩
     have HE2:Hid (bm s g (if (eX s p1).1.2<(eX s p1).1.1 then bj (eX s p1).2 3 else (eX s p1).2) (el i1 (eX s p1).1.1 (eX s p1).1.2)=bm s (s.size+1-q2.at_) q2 ci):=AE (by rw [←vi hc];exact HE.out)
     have hc2:bP s p1=false∧isP s p1 93=false:=by
      revert hc
      cases bP s p1<;>cases isP s p1 93<;>simp
     obtain ⟨h1,h2⟩:=hc2
     have hne:bF s p1≠0:=by
      rw [eE] at h1
      simpa using h1
     clear hc HE
     go_wp2_with fail
     refine (du (s:=s) (p:=p1) HC.out.pb (by omega) (by omega)).mono ?_
     rintro e w3 ⟨rfl,hb⟩
     have HC6:=AE (HC.out.later hb)
     clear hb
     rw [h1]
     clear h1
     go_wp2_with fail
     refine (cG (s:=s) (p:=p1) (c:=93) HC6.out.pb (by omega) (by omega)).mono ?_
     rintro e w4 ⟨rfl,hb⟩
     have HC7:=AE (HC6.out.later hb)
     clear hb HC6
     rw [h2]
     clear h2
     go_wp2_with fail
     refine (ni (s:=s) (p:=p1) HC7.out.pb (by omega) (by omega)).mono ?_
     rintro e w5 ⟨rfl,he,hp⟩
     have HC8:=AE (HC7.out.exP he hp)
     clear he hp HC7
     have hml:=eh s p1
     have hfl:=pH s p1
     have hatA:=hml.at_ hat1
     have hsp:Hid (eX s p1=if isP s (aR s p1).2 45&&(decide ((aR s p1).2.at_+1<s.size)&&decide (ch s ((aR s p1).2.at_+1)≠93)) then (((aR s p1).1,(aR s (aR s p1).2.step).1),(aR s (aR s p1).2.step).2) else (((aR s p1).1,(aR s p1).1),(aR s p1).2)):=AE rfl
     generalize hM:aR s p1=m at *
     obtain ⟨f,pA⟩:=m
     simp only at hml hfl hatA hsp HC8
     have HM:=AE hM
     clear hM
     have hD:isP s pA 45=false∨isP s pA 45=true∧¬(pA.at_+1<s.size)∨isP s pA 45=true∧pA.at_+1<s.size∧ch s (pA.at_+1)=93∨isP s pA 45=true∧pA.at_+1<s.size∧ch s (pA.at_+1)≠93:=by
      rcases Bool.eq_false_or_eq_true (isP s pA 45) with h | h
      ·by_cases h1:pA.at_+1<s.size
       ·by_cases h2:ch s (pA.at_+1)=93
        ·exact .inr (.inr (.inl ⟨h,h1,h2⟩))
        ·exact .inr (.inr (.inr ⟨h,h1,h2⟩))
       ·exact .inr (.inl ⟨h,h1⟩)
      ·exact .inl h
     go_wp2_with fail
     have k_p:∀(d:Nat) (os:Array Obj) (o:Nat),(Sort.grow (redrawn w5 d) os).cell? ⟨P,o,none⟩=(#[.string s,.int .i64 pA.at_,.int .i64 pA.deep,.int .i64 pA.e]:Array Value)[o]?:=HC8.out.pb.regrown
     rcases hD with h | ⟨h,h1⟩ | ⟨h,h1,h2⟩ | ⟨h,h1,h2⟩
     ·have HI:=AE h
      have hsq:eX s p1=((f,f),pA):=by rw [hsp.out,h];rfl
      clear h
      rw [hsq] at HE2
      simp only [Nat.lt_irrefl,if_false] at HE2
      have HE3:Hid (bm s g pA (el i1 f f)=bm s (s.size+1-q2.at_) q2 ci):=HE2
      have hrem3:bF s pA<g:=by have:=hml.lt hne;omega
      have hat3:=hatA
      clear hsq hsp HE2
      refine wp_region_quiet_below (by kernel_rfl) (by kernel_rfl) ?_
      repeat (go_big_quiet_step ((go_at_call 230;exact Calls.regrown_of (dg HI.out (cG (HC8.out.pb.later (below_regrown _ _ _)) (by omega) (by omega))))))
      refine wpQuiet_nil ?_
      intro w6 hw6
      have hb6:Below w5.heap.size w5 w6:=by obtain ⟨p,rfl⟩:=hw6;exact below_regrown _ _ _
      have HC9:=AE (HC8.out.later hb6)
      clear hw6 hb6 k_p
      go_wp2_with fail
      go_loopw [7] (fun v wr2=>∃k:Nat,k≤f+1-f∧v=.int .i64 ((f:Int)+k)∧Hid (CS P (R+1) R s w wr2 (pA) (eU i1 f k))) (fun v _=>f+1-(intOf v).toNat)
      case atStart=>exact ⟨0,AH _,by simp,(by simpa [eU] using HC9)⟩
      case round=>
       obtain ⟨k,hk,rfl,HK⟩:=hrel
       by_cases hlt:f+k≤f
       ·have hcv:IntKind.u8.wrap ((f:Int)+k)=((f+k:Nat):Int):=by rw [IntKind.wrap_u8];omega
        have hcv2:((f:Int)+k) % 256=((f+k:Nat):Int):=by omega
        go_wp2_with fail
        refine (jF (c:=f+k) HK.out.gb (by omega)).mono ?_
        rintro e w9 ⟨rfl,he,hg⟩
        have HK2:=AE (HK.out.exG he hg)
        clear he hg
        go_wp2_with fail
        go_roundw
        case rel=>exact ⟨k+1,by omega,by go_num,by rw [fq];exact HK2⟩
        case measure=>simp [intOf];omega
       ·have HK2:Hid (CS P (R+1) R s w wr (pA) (el i1 f f)):=by
         have:k=f+1-f:=by omega
         rw [this] at HK
         exact HK
        go_wp2_with fail
        go_roundg g
        case rel=>exact ⟨_,_,HE3,hrem3,hat3,HK2⟩
        case measure=>omega
     ·have HI:=AE h
      have hsq:eX s p1=((f,f),pA):=by rw [hsp.out,h,decide_eq_false h1];rfl
      clear h
      have h1':decide ((pA.at_:Int)+1<(s.size:Int))=false:=by simp;omega
      rw [hsq] at HE2
      simp only [Nat.lt_irrefl,if_false] at HE2
      have HE3:Hid (bm s g pA (el i1 f f)=bm s (s.size+1-q2.at_) q2 ci):=HE2
      have hrem3:bF s pA<g:=by have:=hml.lt hne;omega
      have hat3:=hatA
      clear hsq hsp HE2
      refine wp_region_quiet_below (by kernel_rfl) (by kernel_rfl) ?_
      repeat (go_big_quiet_step ((go_at_call 230;exact Calls.regrown_of (dg HI.out (cG (HC8.out.pb.later (below_regrown _ _ _)) (by omega) (by omega))))))
      refine wpQuiet_nil ?_
      intro w6 hw6
      have hb6:Below w5.heap.size w5 w6:=by obtain ⟨p,rfl⟩:=hw6;exact below_regrown _ _ _
      have HC9:=AE (HC8.out.later hb6)
      clear hw6 hb6 k_p
      clear h1'
      go_wp2_with fail
      go_loopw [7] (fun v wr2=>∃k:Nat,k≤f+1-f∧v=.int .i64 ((f:Int)+k)∧Hid (CS P (R+1) R s w wr2 (pA) (eU i1 f k))) (fun v _=>f+1-(intOf v).toNat)
      case atStart=>exact ⟨0,AH _,by simp,(by simpa [eU] using HC9)⟩
      case round=>
       obtain ⟨k,hk,rfl,HK⟩:=hrel
       by_cases hlt:f+k≤f
       ·have hcv:IntKind.u8.wrap ((f:Int)+k)=((f+k:Nat):Int):=by rw [IntKind.wrap_u8];omega
        have hcv2:((f:Int)+k) % 256=((f+k:Nat):Int):=by omega
        go_wp2_with fail
        refine (jF (c:=f+k) HK.out.gb (by omega)).mono ?_
        rintro e w9 ⟨rfl,he,hg⟩
        have HK2:=AE (HK.out.exG he hg)
        clear he hg
        go_wp2_with fail
        go_roundw
        case rel=>exact ⟨k+1,by omega,by go_num,by rw [fq];exact HK2⟩
        case measure=>simp [intOf];omega
       ·have HK2:Hid (CS P (R+1) R s w wr (pA) (el i1 f f)):=by
         have:k=f+1-f:=by omega
         rw [this] at HK
         exact HK
        go_wp2_with fail
        go_roundg g
        case rel=>exact ⟨_,_,HE3,hrem3,hat3,HK2⟩
        case measure=>omega
     ·have HI:=AE h
      have hsq:eX s p1=((f,f),pA):=by rw [hsp.out,h,h2];simp
      clear h
      have hdl:decide ((pA.at_:Int)+1<(s.size:Int))=true:=by simp;omega
      have hix:=fun wx=>zT h1 h2 wx
      clear h2
      rw [hsq] at HE2
      simp only [Nat.lt_irrefl,if_false] at HE2
      have HE3:Hid (bm s g pA (el i1 f f)=bm s (s.size+1-q2.at_) q2 ci):=HE2
      have hrem3:bF s pA<g:=by have:=hml.lt hne;omega
      have hat3:=hatA
      clear hsq hsp HE2
      refine wp_region_quiet_below (by kernel_rfl) (by kernel_rfl) ?_
      repeat (go_big_quiet_step ((go_at_call 230;exact Calls.regrown_of (dg HI.out (cG (HC8.out.pb.later (below_regrown _ _ _)) (by omega) (by omega))))))
      refine wpQuiet_nil ?_
      intro w6 hw6
      have hb6:Below w5.heap.size w5 w6:=by obtain ⟨p,rfl⟩:=hw6;exact below_regrown _ _ _
      have HC9:=AE (HC8.out.later hb6)
      clear hw6 hb6 k_p
      clear hix hdl
      go_wp2_with fail
      go_loopw [7] (fun v wr2=>∃k:Nat,k≤f+1-f∧v=.int .i64 ((f:Int)+k)∧Hid (CS P (R+1) R s w wr2 (pA) (eU i1 f k))) (fun v _=>f+1-(intOf v).toNat)
      case atStart=>exact ⟨0,AH _,by simp,(by simpa [eU] using HC9)⟩
      case round=>
       obtain ⟨k,hk,rfl,HK⟩:=hrel
       by_cases hlt:f+k≤f
       ·have hcv:IntKind.u8.wrap ((f:Int)+k)=((f+k:Nat):Int):=by rw [IntKind.wrap_u8];omega
        have hcv2:((f:Int)+k) % 256=((f+k:Nat):Int):=by omega
        go_wp2_with fail
        refine (jF (c:=f+k) HK.out.gb (by omega)).mono ?_
        rintro e w9 ⟨rfl,he,hg⟩
        have HK2:=AE (HK.out.exG he hg)
        clear he hg
        go_wp2_with fail
        go_roundw
        case rel=>exact ⟨k+1,by omega,by go_num,by rw [fq];exact HK2⟩
        case measure=>simp [intOf];omega
       ·have HK2:Hid (CS P (R+1) R s w wr (pA) (el i1 f f)):=by
         have:k=f+1-f:=by omega
         rw [this] at HK
         exact HK
        go_wp2_with fail
        go_roundg g
        case rel=>exact ⟨_,_,HE3,hrem3,hat3,HK2⟩
        case measure=>omega
     ·have HI:=AE h
      have hsq:eX s p1=((f,(aR s pA.step).1),(aR s pA.step).2):=by rw [hsp.out,h,decide_eq_true h1,decide_eq_true h2];rfl
      have hfA:=Less.byte h
      clear h
      have hdl:decide ((pA.at_:Int)+1<(s.size:Int))=true:=by simp;omega
      generalize hbb:ch s (pA.at_+1)=bb at *
      have hix:=fun wx=>zT h1 hbb wx
      have hnk:((bb:Int)==93)=false:=by simp;omega
      have hnk3:((bb:Int) !=93)=true:=by rw [bne,hnk];rfl
      clear h2 hbb
      rw [hsq] at HE2
      have hml2:=eh s pA.step
      have htl:=pH s pA.step
      have hatB:=hfA.at_ hatA
      have hatC:=hml2.at_ hatB
      have hremC:bF s (aR s pA.step).2<g:=by have h1:=hml2.le;have h2:=hfA.le;have h3:=hml.lt hne;omega
      clear hsq hsp hfA hml2
      refine wp_region_quiet_below (by kernel_rfl) (by kernel_rfl) ?_
      repeat (go_big_quiet_step ((go_at_call 230;exact Calls.regrown_of (dg HI.out (cG (HC8.out.pb.later (below_regrown _ _ _)) (by omega) (by omega))))))
      refine wpQuiet_nil ?_
      intro w6 hw6
      have hb6:Below w5.heap.size w5 w6:=by obtain ⟨p,rfl⟩:=hw6;exact below_regrown _ _ _
      have HC9:=AE (HC8.out.later hb6)
      clear hw6 hb6 k_p
      clear hix hnk hnk3 hdl
      have k_p:=HC9.out.cells
      have f_p:=HC9.out.pb.free
      go_wp2_with fail
      have HC10:=AE HC9.out.step
      generalize w6.setCell _ _=w7 at *
      clear k_p f_p
      refine (ni (s:=s) (p:=pA.step) HC10.out.pb (by omega) (by omega)).mono ?_
      rintro e w8 ⟨rfl,he,hp⟩
      have HC11:=AE (HC10.out.exP he hp)
      clear he hp HC10 HC9
      generalize hM2:aR s pA.step=m at *
      obtain ⟨t,pC⟩:=m
      simp only at htl hatC hremC HC11 HE2
      have HM2:=AE hM2
      clear hM2
      by_cases hgt:t<f
      ·rw [if_pos hgt] at HE2
       have HE3:Hid (bm s g (bj pC 3) (el i1 f t)=bm s (s.size+1-q2.at_) q2 ci):=HE2
       have hrem3:bF s (bj pC 3)<g:=by rw [kI (by decide)];omega
       have hat3:(bj pC 3).at_≤s.size:=by rw [jC];exact hatC
       clear HE2
       go_wp2_with fail
       refine (ee (s:=s) (p:=pC) (n:=3) HC11.out.pb).mono ?_
       rintro e w12 ⟨rfl,he,hp⟩
       have HC12:=AE (HC11.out.exP he hp)
       clear he hp
       go_wp2_with fail
       go_loopw [7] (fun v wr2=>∃k:Nat,k≤t+1-f∧v=.int .i64 ((f:Int)+k)∧Hid (CS P (R+1) R s w wr2 (bj pC 3) (eU i1 f k))) (fun v _=>t+1-(intOf v).toNat)
       case atStart=>exact ⟨0,AH _,by simp,(by simpa [eU] using HC12)⟩
       case round=>
        obtain ⟨k,hk,rfl,HK⟩:=hrel
        by_cases hlt:f+k≤t
        ·exact absurd hlt (by omega)
        ·have HK2:Hid (CS P (R+1) R s w wr (bj pC 3) (el i1 f t)):=by
          have:k=t+1-f:=by omega
          rw [this] at HK
          exact HK
         go_wp2_with fail
         go_roundg g
         case rel=>exact ⟨_,_,HE3,hrem3,hat3,HK2⟩
         case measure=>omega
      ·rw [if_neg hgt] at HE2
       have HE3:Hid (bm s g pC (el i1 f t)=bm s (s.size+1-q2.at_) q2 ci):=HE2
       have hrem3:=hremC
       have hat3:=hatC
       clear HE2
       go_wp2_with fail
       go_loopw [7] (fun v wr2=>∃k:Nat,k≤t+1-f∧v=.int .i64 ((f:Int)+k)∧Hid (CS P (R+1) R s w wr2 (pC) (eU i1 f k))) (fun v _=>t+1-(intOf v).toNat)
       case atStart=>exact ⟨0,AH _,by simp,(by simpa [eU] using HC11)⟩
       case round=>
        obtain ⟨k,hk,rfl,HK⟩:=hrel
        by_cases hlt:f+k≤t
        ·have hcv:IntKind.u8.wrap ((f:Int)+k)=((f+k:Nat):Int):=by rw [IntKind.wrap_u8];omega
         have hcv2:((f:Int)+k) % 256=((f+k:Nat):Int):=by omega
         go_wp2_with fail
         refine (jF (c:=f+k) HK.out.gb (by omega)).mono ?_
         rintro e w9 ⟨rfl,he,hg⟩
         have HK2:=AE (HK.out.exG he hg)
         clear he hg
         go_wp2_with fail
         go_roundw
         case rel=>exact ⟨k+1,by omega,by go_num,by rw [fq];exact HK2⟩
         case measure=>simp [intOf];omega
        ·have HK2:Hid (CS P (R+1) R s w wr (pC) (el i1 f t)):=by
          have:k=t+1-f:=by omega
          rw [this] at HK
          exact HK
         go_wp2_with fail
         go_roundg g
         case rel=>exact ⟨_,_,HE3,hrem3,hat3,HK2⟩
         case measure=>omega
    ·have HE2:Hid (bm s (s.size+1-q2.at_) q2 ci=(i1,p1)):=AE (by rw [←HE.out,qQ hc])
     clear HE
     have hc2:bP s p1=true∨bP s p1=false∧isP s p1 93=true:=by
      revert hc
      cases bP s p1<;>cases isP s p1 93<;>simp
     clear hc
     rcases hc2 with h1 | ⟨h1,h2⟩
     ·go_wp2_with fail
      refine (du (s:=s) (p:=p1) HC.out.pb (by omega) (by omega)).mono ?_
      rintro e w3 ⟨rfl,hb⟩
      have HC6:=AE (HC.out.later hb)
      clear hb
      rw [h1]
      clear h1
      go_wp2_with fail
      refine (fp (s:=s) (p:=p1) HC6.out.pb (by omega) (by omega)).mono ?_
      rintro e w4 ⟨rfl,he,hp⟩
      have HC7:=AE (HC6.out.exP he hp)
      have HR2:Hid (dY s p=(if nb=true then rZ i1 else i1,(aI s p1).2)):=AE (by rw [oT,HQ.out,HQ2.out,HE2.out,HN.out])
      clear he hp HC6
      go_wp2_with fail
      cases nb
      ·go_loopw [90] (fun v wr2=>∃k:Nat,k≤4∧v=.int .i64 k∧Hid (CS P (R+1) R s w wr2 (aI s p1).2 i1)) (fun v _=>4-(intOf v).toNat)
       case atStart=>exact ⟨0,AH _,rfl,HC7⟩
       case round=>
        obtain ⟨k,hk,rfl,HK⟩:=hrel
        by_cases hlt:k<4
        ·go_wp2_with fail
         go_roundw
         case rel=>exact ⟨k+1,by omega,by go_num,HK⟩
         case measure=>simp [intOf];omega
        ·have k_g:∀o,wr.cell? ⟨R+1,o,none⟩=(#[.int .i64 i1.kind,.int .u64 i1.a,.int .u64 i1.b,.int .u64 i1.c,.int .u64 i1.d,.int .i64 i1.x,.int .i64 i1.y]:Array Value)[o]?:=HK.out.gb.cell
         have k_r:=HK.out.rb.cell
         have f_r:=HK.out.rb.free
         go_wp2_with fail
         obtain ⟨x1,x2,x3⟩:=HK.out.put (.int .i64 i1.kind) (.int .u64 i1.a) (.int .u64 i1.b) (.int .u64 i1.c) (.int .u64 i1.d) (.int .i64 i1.x) (.int .i64 i1.y)
         refine bodyPost_ret (sJ rfl rfl x3 rfl) rfl ?_
         rw [HR2.out]
         exact ⟨rfl,x1,x2⟩
      ·go_loopw [90] (fun v wr2=>∃k:Nat,k≤4∧v=.int .i64 k∧Hid (CS P (R+1) R s w wr2 (aI s p1).2 (bI i1 k))) (fun v _=>4-(intOf v).toNat)
       case atStart=>exact ⟨0,AH _,rfl,HC7⟩
       case round=>
        obtain ⟨k,hk,rfl,HK⟩:=hrel
        have k_g:∀o,wr.cell? ⟨R+1,o,none⟩=(#[.int .i64 i1.kind,.int .u64 (bI i1 k).a,.int .u64 (bI i1 k).b,.int .u64 (bI i1 k).c,.int .u64 (bI i1 k).d,.int .i64 i1.x,.int .i64 i1.y]:Array Value)[o]?:=HK.out.gb.cell
        have f_g:=HK.out.gb.free
        have hk5:k=0∨k=1∨k=2∨k=3∨k=4:=by omega
        rcases hk5 with rfl | rfl | rfl | rfl | rfl
        ·go_wp2_with fail
         refine ⟨⟨1,by omega,rfl,AE (HK.out.setG 1 _ (by simp [inA,bI];rfl))⟩,by simp [intOf]⟩
        ·go_wp2_with fail
         refine ⟨⟨2,by omega,rfl,AE (HK.out.setG 2 _ (by simp [inA,bI];rfl))⟩,by simp [intOf]⟩
        ·go_wp2_with fail
         refine ⟨⟨3,by omega,rfl,AE (HK.out.setG 3 _ (by simp [inA,bI];rfl))⟩,by simp [intOf]⟩
        ·go_wp2_with fail
         refine ⟨⟨4,by omega,rfl,AE (HK.out.setG 4 _ (by simp [inA,bI];rfl))⟩,by simp [intOf]⟩
        ·have k_r:=HK.out.rb.cell
         have f_r:=HK.out.rb.free
         go_wp2_with fail
         obtain ⟨x1,x2,x3⟩:=HK.out.put (.int .i64 i1.kind) (.int .u64 (bI i1 4).a) (.int .u64 (bI i1 4).b) (.int .u64 (bI i1 4).c) (.int .u64 (bI i1 4).d) (.int .i64 i1.x) (.int .i64 i1.y)
         refine bodyPost_ret (sJ rfl rfl x3 rfl) rfl ?_
         rw [HR2.out]
         exact ⟨rfl,x1,x2⟩
     ·go_wp2_with fail
      refine (du (s:=s) (p:=p1) HC.out.pb (by omega) (by omega)).mono ?_
      rintro e w3 ⟨rfl,hb⟩
      have HC5a:=AE (HC.out.later hb)
      clear hb
      rw [h1]
      clear h1
      go_wp2_with fail
      refine (cG (s:=s) (p:=p1) (c:=93) HC5a.out.pb (by omega) (by omega)).mono ?_
      rintro e w3 ⟨rfl,hb⟩
      have HC6:=AE (HC5a.out.later hb)
      clear hb HC5a
      rw [h2]
      clear h2
      go_wp2_with fail
      refine (fp (s:=s) (p:=p1) HC6.out.pb (by omega) (by omega)).mono ?_
      rintro e w4 ⟨rfl,he,hp⟩
      have HC7:=AE (HC6.out.exP he hp)
      have HR2:Hid (dY s p=(if nb=true then rZ i1 else i1,(aI s p1).2)):=AE (by rw [oT,HQ.out,HQ2.out,HE2.out,HN.out])
      clear he hp HC6
      go_wp2_with fail
      cases nb
      ·go_loopw [90] (fun v wr2=>∃k:Nat,k≤4∧v=.int .i64 k∧Hid (CS P (R+1) R s w wr2 (aI s p1).2 i1)) (fun v _=>4-(intOf v).toNat)
       case atStart=>exact ⟨0,AH _,rfl,HC7⟩
       case round=>
        obtain ⟨k,hk,rfl,HK⟩:=hrel
        by_cases hlt:k<4
        ·go_wp2_with fail
         go_roundw
         case rel=>exact ⟨k+1,by omega,by go_num,HK⟩
         case measure=>simp [intOf];omega
        ·have k_g:∀o,wr.cell? ⟨R+1,o,none⟩=(#[.int .i64 i1.kind,.int .u64 i1.a,.int .u64 i1.b,.int .u64 i1.c,.int .u64 i1.d,.int .i64 i1.x,.int .i64 i1.y]:Array Value)[o]?:=HK.out.gb.cell
         have k_r:=HK.out.rb.cell
         have f_r:=HK.out.rb.free
         go_wp2_with fail
         obtain ⟨x1,x2,x3⟩:=HK.out.put (.int .i64 i1.kind) (.int .u64 i1.a) (.int .u64 i1.b) (.int .u64 i1.c) (.int .u64 i1.d) (.int .i64 i1.x) (.int .i64 i1.y)
         refine bodyPost_ret (sJ rfl rfl x3 rfl) rfl ?_
         rw [HR2.out]
         exact ⟨rfl,x1,x2⟩
      ·go_loopw [90] (fun v wr2=>∃k:Nat,k≤4∧v=.int .i64 k∧Hid (CS P (R+1) R s w wr2 (aI s p1).2 (bI i1 k))) (fun v _=>4-(intOf v).toNat)
       case atStart=>exact ⟨0,AH _,rfl,HC7⟩
       case round=>
        obtain ⟨k,hk,rfl,HK⟩:=hrel
        have k_g:∀o,wr.cell? ⟨R+1,o,none⟩=(#[.int .i64 i1.kind,.int .u64 (bI i1 k).a,.int .u64 (bI i1 k).b,.int .u64 (bI i1 k).c,.int .u64 (bI i1 k).d,.int .i64 i1.x,.int .i64 i1.y]:Array Value)[o]?:=HK.out.gb.cell
        have f_g:=HK.out.gb.free
        have hk5:k=0∨k=1∨k=2∨k=3∨k=4:=by omega
        rcases hk5 with rfl | rfl | rfl | rfl | rfl
        ·go_wp2_with fail
         refine ⟨⟨1,by omega,rfl,AE (HK.out.setG 1 _ (by simp [inA,bI];rfl))⟩,by simp [intOf]⟩
        ·go_wp2_with fail
         refine ⟨⟨2,by omega,rfl,AE (HK.out.setG 2 _ (by simp [inA,bI];rfl))⟩,by simp [intOf]⟩
        ·go_wp2_with fail
         refine ⟨⟨3,by omega,rfl,AE (HK.out.setG 3 _ (by simp [inA,bI];rfl))⟩,by simp [intOf]⟩
        ·go_wp2_with fail
         refine ⟨⟨4,by omega,rfl,AE (HK.out.setG 4 _ (by simp [inA,bI];rfl))⟩,by simp [intOf]⟩
        ·have k_r:=HK.out.rb.cell
         have f_r:=HK.out.rb.free
         go_wp2_with fail
         obtain ⟨x1,x2,x3⟩:=HK.out.put (.int .i64 i1.kind) (.int .u64 (bI i1 4).a) (.int .u64 (bI i1 4).b) (.int .u64 (bI i1 4).c) (.int .u64 (bI i1 4).d) (.int .i64 i1.x) (.int .i64 i1.y)
         refine bodyPost_ret (sJ rfl rfl x3 rfl) rfl ?_
         rw [HR2.out]
         exact ⟨rfl,x1,x2⟩
end Go.Proofs.YtjpndglegpcdnaaGreat
