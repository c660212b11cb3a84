/- match.ways.takes. -/
import Derived.Test.YtjpndglegpcdnaaGreatMat2
import Derived.Laws.MakeOwn
set_option linter.unusedVariables false
set_option linter.unusedSimpArgs false
set_option maxRecDepth 100000
set_option maxHeartbeats 8000000
namespace Go.Proofs.YtjpndglegpcdnaaGreat
open Go.ChangeShapes Go.WideShapes Go.ChangeAt Go.RowKit
theorem sj (n:Nat):madeCells #[.bool false] n=cE (List.replicate n false):=by
 apply Array.ext'
 apply List.ext_getElem?
 intro q
 simp [madeCells,cE,List.getElem?_replicate]
 split<;>simp_all [Nat.mod_one]
theorem ms (n:Nat) (hn:n≤1000000) (w:World):(Instr.makeSlice 252 (.int .i64 (n:Int)) (.int .i64 (n:Int))).run Tryz.prog w=.ok (.slice (some ⟨w.heap.size,0,none⟩) n n) (w.alloc (.cells (cE (List.replicate n false)) 4)):=by
 obtain ⟨i0,hi0,hz0,hz1,hz2⟩:=info_parts wC
 have hr:=run_make (P:=Tryz.prog) w 252 4 i0 _ Tryz.underlying252 hi0 hz0 .i64 .i64 n n (by omega) (Int.le_refl _) (by rw [hz2];omega) (by omega)
 simp only [Int.toNat_natCast] at hr
 rw [hz1,Nat.mul_one] at hr
 rw [hr,←sj]
 rfl
theorem qw {l:List Ins} {c:Nat} {last:Bool} {on:List Bool} {k:Nat} {st:List Bool × Bool} {b:Bool} (h:on[k]? = some b):dC l c last k (on.drop k) st=dC l c last (k+1) (on.drop (k+1)) (if b&&dt (fH l k) c then bL l false last (k+1) st else st):=by
 obtain ⟨hk,e⟩:=List.getElem?_eq_some_iff.1 h
 rw [List.drop_eq_getElem_cons hk,e]
 rfl
theorem go {w:World} {W G cl ca B:Nat} {l:List Ins} {Al:Option Addr} {i:Int} {first last:Bool} {st:List Bool × Bool} (h0:0≤i) (hi:i<l.length) (hw:Ways W G l Al cl ca w st) (hl:RL ff w B l Al) (hBW:B≤W) (hBG:B≤G) (hp:Prg l) (hca:l.length≤ca) :
 Calls Tryz.prog 216 #[.pointer (some ⟨W,0,none⟩),.int .i64 i,.bool first,.bool last] w fun e w'=>xG W G l Al cl ca w w' (bL l first last i st) e:=by
 obtain ⟨i0,rfl⟩:=Int.eq_ofNat_of_zero_le h0
 exact tK hw hl hBW hBG hp (by omega) hca
theorem sL {x:Ins} {c j:Nat} (hk:x.kind=1) (hj:c / 64=j):dt x c=(bits .and .u64 (x.word j / 2 ^ (c % 64)) 1==1):=by
 unfold dt
 rw [hk,hj]
 simp
def TakesE (l:List Ins) (Al:Option Addr) (cl:Nat) (w w':World) (st:List Bool × Bool) (e:Ending):Prop:=
 ∃W G ca,e=.returned (.pointer (some ⟨W,0,none⟩))∧Ways W G l Al cl ca w' st∧w.heap.size≤W∧w.heap.size≤G∧l.length≤ca∧Below w.heap.size w w'
theorem vi {w:World} {W G cl ca B:Nat} {l:List Ins} {Al:Option Addr} {c:Nat} {last:Bool} {st:List Bool × Bool} (hw:Ways W G l Al cl ca w st) (hl:RL ff w B l Al) (hBW:B≤W) (hBG:B≤G) (hp:Prg l) (hc:c<256) (hca:l.length≤ca) :
 Calls Tryz.prog 217 #[.pointer (some ⟨W,0,none⟩),.int .u8 c,.bool last] w fun e w'=>TakesE l Al cl w w' (takes l c last st) e:=by
 have hWlt:=hw.wb.blk.lt
 have hGlt:=hw.gb.blk.lt
 have HW:=ym hw
 have HL:=ym hl
 have HP:=ym hp
 have hlen:=hp.len
 have hmk:=fun w=>ms l.length (by omega) w
 have k_w:∀o,w.cell? ⟨W,o,none⟩=(#[.slice Al l.length cl,.slice (some ⟨G,0,none⟩) l.length ca,.bool st.2]:Array Value)[o]?:=hw.wb.blk.cell
 clear hw hl hp
 go_enter Tryz.func217,Tryz.ntmps217
 go_wp2_with fail
 go_region
 have HB1:Hid (Below w.heap.size w ((w.alloc (.cells (cE (List.replicate l.length false)) 4)).alloc (.cells #[.slice Al l.length cl,.slice (some ⟨w.heap.size,0,none⟩) l.length l.length,.bool false] 254)).drew):=ym (al2 rfl).1.drew
 have HN1:Hid (Ways (w.heap.size+1) w.heap.size l Al cl l.length ((w.alloc (.cells (cE (List.replicate l.length false)) 4)).alloc (.cells #[.slice Al l.length cl,.slice (some ⟨w.heap.size,0,none⟩) l.length l.length,.bool false] 254)).drew (iz l)):=ym (by
  have h0:bN (w.alloc (.cells (cE (List.replicate l.length false)) 4)) w.heap.size (cE (List.replicate l.length false)) 4:=heap_alloc_new w _
  have h1:=h0.later (ar (w:=w.alloc (.cells (cE (List.replicate l.length false)) 4)) (o:=.cells #[.slice Al l.length cl,.slice (some ⟨w.heap.size,0,none⟩) l.length l.length,.bool false] 254) rfl)
  have h2:=heap_alloc_new (w.alloc (.cells (cE (List.replicate l.length false)) 4)) (.cells #[.slice Al l.length cl,.slice (some ⟨w.heap.size,0,none⟩) l.length l.length,.bool false] 254)
  rw [World.size_alloc] at h2
  exact ⟨h2,h1,by simp [iz],by omega⟩)
 generalize World.drew _=w1 at *
 have HT1:Hid (takes l c last st=dC l c last 0 (st.1.drop 0) (iz l)):=ym rfl
 have HWO:=ym (HW.out.later HB1.out)
 clear hmk k_w
 have k_w:∀o,w1.cell? ⟨W,o,none⟩=(#[.slice Al l.length cl,.slice (some ⟨G,0,none⟩) l.length ca,.bool st.2]:Array Value)[o]?:=HWO.out.wb.blk.cell
 have hz1:w.heap.size+1<w1.heap.size:=HN1.out.wb.blk.lt
 go_wp2_with fail
 clear k_w
 go_loopw [28] (fun v wr=>∃(k:Nat) (s2:List Bool × Bool),k≤l.length∧v=.int .i64 k∧Hid (takes l c last st=dC l c last k (st.1.drop k) s2)∧Hid (Ways (w.heap.size+1) w.heap.size l Al cl l.length wr s2)∧Hid (Below w.heap.size w wr)∧w.heap.size+1<wr.heap.size) (fun v _=>l.length-(intOf v).toNat)
 case atStart=>exact ⟨0,_,yp _,rfl,HT1,HN1,HB1,hz1⟩
 case round=>
  obtain ⟨k,s2,hk,rfl,HE,HN,HB,hzr⟩:=hrel
  have HWr:=ym (HW.out.later HB.out)
  by_cases hlt:k<l.length
  ·have hks:k<st.1.length:=by rw [HW.out.len];exact hlt
   obtain ⟨b,hb⟩:∃b,st.1[k]? = some b:=⟨_,yy hks⟩
   have HE2:=ym (HE.out.trans (qw (l:=l) (c:=c) (last:=last) (st:=s2) hb))
   have k_w:∀o,wr.cell? ⟨W,o,none⟩=(#[.slice Al l.length cl,.slice (some ⟨G,0,none⟩) l.length ca,.bool st.2]:Array Value)[o]?:=HWr.out.wb.blk.cell
   have c_g:wr.cell? ⟨G,k,none⟩=some (.bool b):=by rw [HWr.out.gb.blk.cell,me,hb];rfl
   have HLr:=ym (HL.out.keep HB.out (by omega))
   have hB2:B≤wr.heap.size:=by omega
   obtain ⟨b_,off,rfl,hob⟩:=HLr.out.base (yq _ _) hB2 (by omega)
   obtain ⟨x,vs,hx,hxl,hxc,hxr⟩:=HLr.out.at_ (yq _ _) hB2 hlt
   obtain rfl:vs=jN x:=hxr
   have c0:wr.cell? ⟨b_,off+k*7,none⟩=some (.int .i64 x.kind):=hxc 0 _ rfl
   have c1:wr.cell? ⟨b_,off+k*7+1,none⟩=some (.int .u64 x.a):=hxc 1 _ rfl
   have c2:wr.cell? ⟨b_,off+k*7+2,none⟩=some (.int .u64 x.b):=hxc 2 _ rfl
   have c3:wr.cell? ⟨b_,off+k*7+3,none⟩=some (.int .u64 x.c):=hxc 3 _ rfl
   have c4:wr.cell? ⟨b_,off+k*7+4,none⟩=some (.int .u64 x.d):=hxc 4 _ rfl
   have c5:wr.cell? ⟨b_,off+k*7+5,none⟩=some (.int .i64 x.x):=hxc 5 _ rfl
   have c6:wr.cell? ⟨b_,off+k*7+6,none⟩=some (.int .i64 x.y):=hxc 6 _ rfl
   have hIX:fH l k=x:=by
    unfold fH
    rw [Int.toNat_natCast,List.getD_eq_getElem?_getD,hx]
    rfl
   have HTI:Hid (dt x c=true→k+1<l.length):=ym (fun ht=>xq HP.out hlt (by rw [hIX];exact ht))
   rw [hIX] at HE2
   clear hxc hxl hx hIX hks hb HE
   have hn64:c / 64=0∨c / 64=1∨c / 64=2∨c / 64=3:=by omega
   have hr:(c:Int).tmod 64=((c % 64:Nat):Int):=rfl
   have hr2:((c % 64:Nat):Int)<64:=by omega
   have hr3:(0:Int)≤((c % 64:Nat):Int):=by omega
   have hq:(c:Int).tdiv 64=((c / 64:Nat):Int):=rfl
   cases b
   ·have HE3:Hid (takes l c last st=dC l c last (k+1) (st.1.drop (k+1)) s2):=ym (by rw [HE2.out];simp)
    go_wp2_with fail
    go_roundw
    case rel=>exact ⟨k+1,s2,by omega,by go_num,HE3,ym (HN.out.later (ar rfl)),ym (ac HB.out (ar rfl)),by rw [World.size_alloc];omega⟩
    case measure=>simp [intOf];omega
   ·by_cases hk1:x.kind=1
    ·have q1:(x.kind==1)=true:=by simpa using hk1
     have HTW:=fun (j:Nat) (hj:c / 64=j)=>sL (c:=c) hk1 hj
     clear hk1
     rcases hn64 with hj | hj | hj | hj
     ·have HTW2:=ym (HTW 0 hj)
      rw [hj] at hq
      clear HTW hj
      have hword:x.word 0=x.a:=rfl
      rw [hword] at HTW2
      clear hword
      rcases Bool.eq_false_or_eq_true (bits .and .u64 (x.a / 2 ^ (c % 64)) 1==1) with hbit | hbit
      ·have HT:Hid (dt x c=true):=ym (by rw [HTW2.out,hbit])
       have HE3:Hid (takes l c last st=dC l c last (k+1) (st.1.drop (k+1)) (bL l false last ((k:Int)+1) s2)):=ym (by rw [HE2.out,HT.out];rfl)
       have hk2:=HTI.out HT.out
       go_wp2_with fail
       generalize hA:World.alloc _ _=w4
       have hb4:=ar hA
       have HN4:=ym (HN.out.later hb4)
       have HB4:=ym (ac HB.out hb4)
       clear hA hb4
       refine (go (B:=B) (by omega) (by omega) HN4.out (HL.out.keep HB4.out (by omega)) (by omega) (by omega) HP.out (yo _)).mono ?_
       rintro e w5 ⟨rfl,he,hn⟩
       have HN5:=ym hn
       have HB5:=ym (HB4.out.trans (he.1.mono (by omega)))
       have hz5:w.heap.size+1<w5.heap.size:=HN5.out.wb.blk.lt
       clear he hn
       go_wp2_with fail
       go_roundw
       case rel=>exact ⟨k+1,_,by omega,by go_num,HE3,HN5,HB5,hz5⟩
       case measure=>simp [intOf];omega
      ·have HT:Hid (dt x c=false):=ym (by rw [HTW2.out,hbit])
       have HE3:Hid (takes l c last st=dC l c last (k+1) (st.1.drop (k+1)) s2):=ym (by rw [HE2.out,HT.out];rfl)
       go_wp2_with fail
       go_roundw
       case rel=>exact ⟨k+1,s2,by omega,by go_num,HE3,ym (HN.out.later (ar rfl)),ym (ac HB.out (ar rfl)),by rw [World.size_alloc];omega⟩
       case measure=>simp [intOf];omega
     ·have HTW2:=ym (HTW 1 hj)
      rw [hj] at hq
      clear HTW hj
      have hword:x.word 1=x.b:=rfl
      rw [hword] at HTW2
      clear hword
      rcases Bool.eq_false_or_eq_true (bits .and .u64 (x.b / 2 ^ (c % 64)) 1==1) with hbit | hbit
      ·have HT:Hid (dt x c=true):=ym (by rw [HTW2.out,hbit])
       have HE3:Hid (takes l c last st=dC l c last (k+1) (st.1.drop (k+1)) (bL l false last ((k:Int)+1) s2)):=ym (by rw [HE2.out,HT.out];rfl)
       have hk2:=HTI.out HT.out
       go_wp2_with fail
       generalize hA:World.alloc _ _=w4
       have hb4:=ar hA
       have HN4:=ym (HN.out.later hb4)
       have HB4:=ym (ac HB.out hb4)
       clear hA hb4
       refine (go (B:=B) (by omega) (by omega) HN4.out (HL.out.keep HB4.out (by omega)) (by omega) (by omega) HP.out (yo _)).mono ?_
       rintro e w5 ⟨rfl,he,hn⟩
       have HN5:=ym hn
       have HB5:=ym (HB4.out.trans (he.1.mono (by omega)))
       have hz5:w.heap.size+1<w5.heap.size:=HN5.out.wb.blk.lt
       clear he hn
       go_wp2_with fail
       go_roundw
       case rel=>exact ⟨k+1,_,by omega,by go_num,HE3,HN5,HB5,hz5⟩
       case measure=>simp [intOf];omega
      ·have HT:Hid (dt x c=false):=ym (by rw [HTW2.out,hbit])
       have HE3:Hid (takes l c last st=dC l c last (k+1) (st.1.drop (k+1)) s2):=ym (by rw [HE2.out,HT.out];rfl)
       go_wp2_with fail
       go_roundw
       case rel=>exact ⟨k+1,s2,by omega,by go_num,HE3,ym (HN.out.later (ar rfl)),ym (ac HB.out (ar rfl)),by rw [World.size_alloc];omega⟩
       case measure=>simp [intOf];omega
     ·have HTW2:=ym (HTW 2 hj)
      rw [hj] at hq
      clear HTW hj
      have hword:x.word 2=x.c:=rfl
      rw [hword] at HTW2
      clear hword
      rcases Bool.eq_false_or_eq_true (bits .and .u64 (x.c / 2 ^ (c % 64)) 1==1) with hbit | hbit
      ·have HT:Hid (dt x c=true):=ym (by rw [HTW2.out,hbit])
       have HE3:Hid (takes l c last st=dC l c last (k+1) (st.1.drop (k+1)) (bL l false last ((k:Int)+1) s2)):=ym (by rw [HE2.out,HT.out];rfl)
       have hk2:=HTI.out HT.out
       go_wp2_with fail
       generalize hA:World.alloc _ _=w4
       have hb4:=ar hA
       have HN4:=ym (HN.out.later hb4)
       have HB4:=ym (ac HB.out hb4)
       clear hA hb4
       refine (go (B:=B) (by omega) (by omega) HN4.out (HL.out.keep HB4.out (by omega)) (by omega) (by omega) HP.out (yo _)).mono ?_
       rintro e w5 ⟨rfl,he,hn⟩
       have HN5:=ym hn
       have HB5:=ym (HB4.out.trans (he.1.mono (by omega)))
       have hz5:w.heap.size+1<w5.heap.size:=HN5.out.wb.blk.lt
       clear he hn
       go_wp2_with fail
       go_roundw
       case rel=>exact ⟨k+1,_,by omega,by go_num,HE3,HN5,HB5,hz5⟩
       case measure=>simp [intOf];omega
      ·have HT:Hid (dt x c=false):=ym (by rw [HTW2.out,hbit])
       have HE3:Hid (takes l c last st=dC l c last (k+1) (st.1.drop (k+1)) s2):=ym (by rw [HE2.out,HT.out];rfl)
       go_wp2_with fail
       go_roundw
       case rel=>exact ⟨k+1,s2,by omega,by go_num,HE3,ym (HN.out.later (ar rfl)),ym (ac HB.out (ar rfl)),by rw [World.size_alloc];omega⟩
       case measure=>simp [intOf];omega
     ·have HTW2:=ym (HTW 3 hj)
      rw [hj] at hq
      clear HTW hj
      have hword:x.word 3=x.d:=rfl
      rw [hword] at HTW2
      clear hword
      rcases Bool.eq_false_or_eq_true (bits .and .u64 (x.d / 2 ^ (c % 64)) 1==1) with hbit | hbit
      ·have HT:Hid (dt x c=true):=ym (by rw [HTW2.out,hbit])
       have HE3:Hid (takes l c last st=dC l c last (k+1) (st.1.drop (k+1)) (bL l false last ((k:Int)+1) s2)):=ym (by rw [HE2.out,HT.out];rfl)
       have hk2:=HTI.out HT.out
       go_wp2_with fail
       generalize hA:World.alloc _ _=w4
       have hb4:=ar hA
       have HN4:=ym (HN.out.later hb4)
       have HB4:=ym (ac HB.out hb4)
       clear hA hb4
       refine (go (B:=B) (by omega) (by omega) HN4.out (HL.out.keep HB4.out (by omega)) (by omega) (by omega) HP.out (yo _)).mono ?_
       rintro e w5 ⟨rfl,he,hn⟩
       have HN5:=ym hn
       have HB5:=ym (HB4.out.trans (he.1.mono (by omega)))
       have hz5:w.heap.size+1<w5.heap.size:=HN5.out.wb.blk.lt
       clear he hn
       go_wp2_with fail
       go_roundw
       case rel=>exact ⟨k+1,_,by omega,by go_num,HE3,HN5,HB5,hz5⟩
       case measure=>simp [intOf];omega
      ·have HT:Hid (dt x c=false):=ym (by rw [HTW2.out,hbit])
       have HE3:Hid (takes l c last st=dC l c last (k+1) (st.1.drop (k+1)) s2):=ym (by rw [HE2.out,HT.out];rfl)
       go_wp2_with fail
       go_roundw
       case rel=>exact ⟨k+1,s2,by omega,by go_num,HE3,ym (HN.out.later (ar rfl)),ym (ac HB.out (ar rfl)),by rw [World.size_alloc];omega⟩
       case measure=>simp [intOf];omega
    ·have q1:(x.kind==1)=false:=by simpa using hk1
     have HT:Hid (dt x c=false):=ym (by unfold dt;rw [decide_eq_false hk1];rfl)
     have HE3:Hid (takes l c last st=dC l c last (k+1) (st.1.drop (k+1)) s2):=ym (by rw [HE2.out,HT.out];rfl)
     clear hk1
     go_wp2_with fail
     go_roundw
     case rel=>exact ⟨k+1,s2,by omega,by go_num,HE3,ym (HN.out.later (ar rfl)),ym (ac HB.out (ar rfl)),by rw [World.size_alloc];omega⟩
     case measure=>simp [intOf];omega
  ·have HE3:Hid (takes l c last st=s2):=ym (by
    rw [HE.out,List.drop_eq_nil_iff.2 (by rw [HW.out.len];omega)]
    rfl)
   go_wp2_with fail
   go_ret
   rw [HE3.out]
   exact ⟨w.heap.size+1,w.heap.size,l.length,rfl,HN.out,by omega,yo _,yo _,HB.out⟩
end Go.Proofs.YtjpndglegpcdnaaGreat
