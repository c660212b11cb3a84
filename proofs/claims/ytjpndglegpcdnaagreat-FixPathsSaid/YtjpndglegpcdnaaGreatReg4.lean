/- regex.class. -/
import Derived.Test.YtjpndglegpcdnaaGreatReg3
import Derived.Deep.Cut
import Derived.Deep.DeepCutAuto
import Derived.Deep.LoopGhost
import Derived.BigQuiet
set_option linter.unusedVariables false
set_option linter.unusedSimpArgs false
set_option maxRecDepth 100000
set_option maxHeartbeats 8000000
namespace Go.Proofs.YtjpndglegpcdnaaGreat
open Go.ChangeShapes Go.WideShapes Go.ChangeAt Go.RowKit
theorem Exc.fresh {P G:Nat} {a b c:World} (h:Exc P a b) (k:Exc G b c) (hP:P<a.heap.size) (hG:a.heap.size≤G):Exc P a c:=
 ⟨h.1.trans (k.1.mono (by omega)),fun i hi hne=>(k.2 i (yr hi h.1.size) (by omega)).trans (h.2 i hi hne)⟩
theorem stepped {w:World} {P:Nat} {s:ByteArray} {p:PS} (hb:Blk w P (psA s p)):Blk (w.setCell ⟨P,1,none⟩ (.int .i64 ((p.at_:Int)+1))) P (psA s p.step):=hb.set_ 1 _
abbrev zero7:Array Value:=#[.int .i64 0,.int .u64 0,.int .u64 0,.int .u64 0,.int .u64 0,.int .i64 0,.int .i64 0]
structure CS (P G R:Nat) (s:ByteArray) (w0 w:World) (p:PS) (i:Ins):Prop where
 pb:Blk w P (psA s p)
 gb:Blk w G (inA i)
 rb:Blk w R zero7
 ex:Exc P w0 w
 hP:P<w0.heap.size
 hR:w0.heap.size≤R
 hG:R<G
section
variable {P G R:Nat} {s:ByteArray} {w0 w w':World} {p q:PS} {i j:Ins}
theorem CS.later (h:CS P G R s w0 w p i) (hb:Below w.heap.size w w'):CS P G R s w0 w' p i:=
 ⟨h.pb.later hb,h.gb.later hb,h.rb.later hb,h.ex.then (Nat.le_of_lt h.hP) hb,h.hP,h.hR,h.hG⟩
theorem CS.exP (h:CS P G R s w0 w p i) (he:Exc P w w') (hp:Blk w' P (psA s q)):CS P G R s w0 w' q i:=
 ⟨hp,he.blk (by have:=h.hP;have:=h.hR;have:=h.hG;omega) h.gb,he.blk (by have:=h.hP;have:=h.hR;omega) h.rb,h.ex.trans he,h.hP,h.hR,h.hG⟩
theorem CS.exG (h:CS P G R s w0 w p i) (he:Exc G w w') (hg:Blk w' G (inA j)):CS P G R s w0 w' p j:=
 ⟨he.blk (by have:=h.hP;have:=h.hR;have:=h.hG;omega) h.pb,hg,he.blk (by have:=h.hG;omega) h.rb,h.ex.fresh he h.hP (by have:=h.hR;have:=h.hG;omega),h.hP,h.hR,h.hG⟩
theorem CS.step (h:CS P G R s w0 w p i):CS P G R s w0 (w.setCell ⟨P,1,none⟩ (.int .i64 ((p.at_:Int)+1))) p.step i:=
 h.exP ((Exc.refl P w).set 1 _) (stepped h.pb)
theorem CS.cells (h:CS P G R s w0 w p i):∀o,w.cell? ⟨P,o,none⟩=(#[.string s,.int .i64 p.at_,.int .i64 p.deep,.int .i64 p.e]:Array Value)[o]?:=h.pb.cell
end
theorem pI {s:ByteArray} {n:Nat} {p:PS} {i:Ins} (h:(!bK s p&&!isP s p 93)=false):bg s n p i=(i,p):=by
 cases n with
 | zero=>rfl
 | succ n=>unfold bg;rw [h];rfl
theorem tB {s:ByteArray} {n:Nat} {p:PS} {i:Ins} (h:(!bK s p&&!isP s p 93)=true):bg s (n+1) p i=bg s n (if (eJ s p).1.2<(eJ s p).1.1 then be (eJ s p).2 3 else (eJ s p).2) (dU i (eJ s p).1.1 (eJ s p).1.2):=by
 show (if (!bK s p&&!isP s p 93)=true then _ else _)=_
 rw [h]
 rfl
def eH (i:Ins) (f k:Nat):Ins:=(List.range k).foldl (fun i j=>lI i (f+j)) i
theorem eY (i:Ins) (f k:Nat):eH i f (k+1)=lI (eH i f k) (f+k):=by simp [eH,List.range_succ]
def bE (i:Ins) (k:Nat):Ins:=⟨i.kind,if 0<k then nW i.a else i.a,if 1<k then nW i.b else i.b,if 2<k then nW i.c else i.c,if 3<k then nW i.d else i.d,i.x,i.y⟩
theorem CS.setG {P G R:Nat} {s:ByteArray} {w0 w:World} {p:PS} {i j:Ins} (h:CS P G R s w0 w p i) (n:Nat) (v:Value) (hj:inA j=(inA i).setIfInBounds n v):CS P G R s w0 (w.setCell ⟨G,n,none⟩ v) p j:=
 h.exG ((Exc.refl G w).set n v) (by rw [hj];exact h.gb.set_ n v)
theorem rn {fn:Func} {tmps:Array Value} {p:Tmp} {g:Nat} {w:World} {cs:Array Value} (h:fn.results=#[.cell p 266]) (hp:tmps.getD p undef=.pointer (some ⟨g,0,none⟩)) (hb:Blk w g cs) (hn:cs.size=7) :
 (results fn tmps).run Tryz.prog w=.ok (.agg cs) w:=by
 obtain ⟨T,hb⟩:=hb
 exact results_cell_row h tmps w g T cs (0,0) _ hp hb Tryz.underlying266 rfl (by rw [hn];kernel_rfl)
theorem CS.put {P G R:Nat} {s:ByteArray} {w0 w:World} {p:PS} {i:Ins} (h:CS P G R s w0 w p i) (v0 v1 v2 v3 v4 v5 v6:Value) :
 Exc P w0 (((((((w.setCell ⟨R,0,none⟩ v0).setCell ⟨R,1,none⟩ v1).setCell ⟨R,2,none⟩ v2).setCell ⟨R,3,none⟩ v3).setCell ⟨R,4,none⟩ v4).setCell ⟨R,5,none⟩ v5).setCell ⟨R,6,none⟩ v6) ∧
 Blk (((((((w.setCell ⟨R,0,none⟩ v0).setCell ⟨R,1,none⟩ v1).setCell ⟨R,2,none⟩ v2).setCell ⟨R,3,none⟩ v3).setCell ⟨R,4,none⟩ v4).setCell ⟨R,5,none⟩ v5).setCell ⟨R,6,none⟩ v6) P (psA s p) ∧
 Blk (((((((w.setCell ⟨R,0,none⟩ v0).setCell ⟨R,1,none⟩ v1).setCell ⟨R,2,none⟩ v2).setCell ⟨R,3,none⟩ v3).setCell ⟨R,4,none⟩ v4).setCell ⟨R,5,none⟩ v5).setCell ⟨R,6,none⟩ v6) R #[v0,v1,v2,v3,v4,v5,v6]:=by
 have hne:P≠R:=by have:=h.hP;have:=h.hR;omega
 refine ⟨?_,?_,?_⟩
 ·exact h.ex.fresh (((((((Exc.refl R w).set 0 v0).set 1 v1).set 2 v2).set 3 v3).set 4 v4).set 5 v5 |>.set 6 v6) h.hP h.hR
 ·exact ((((((h.pb.far hne 0 v0).far hne 1 v1).far hne 2 v2).far hne 3 v3).far hne 4 v4).far hne 5 v5).far hne 6 v6
 ·exact ((((((h.rb.set_ 0 v0).set_ 1 v1).set_ 2 v2).set_ 3 v3).set_ 4 v4).set_ 5 v5).set_ 6 v6
def iE (s:ByteArray) (p:PS):PS:=if isP s p 94=true then p.step else p
def rk (s:ByteArray) (p:PS):PS:=if isP s p 93=true then be p 3 else p
theorem nS (s:ByteArray) (p:PS):dK s p=(if isP s p 94=true then qI (bg s (s.size+1-(rk s (iE s p)).at_) (rk s (iE s p)) ch).1 else (bg s (s.size+1-(rk s (iE s p)).at_) (rk s (iE s p)) ch).1,(aE s (bg s (s.size+1-(rk s (iE s p)).at_) (rk s (iE s p)) ch).2).2):=rfl
theorem ud {s:ByteArray} {p:PS} {c:Nat} (h:isP s p c=true):p.at_<s.size∧p.e=0:=by
 obtain ⟨h1,h2⟩:=qe (kW h)
 exact ⟨h2,h1⟩
theorem xU {s:ByteArray} {k b:Nat} (h:k+1<s.size) (hb:cd s (k+1)=b) (w:World):(Instr.index 9 (.string s) (.int .i64 ((k:Int)+1))).run Tryz.prog w=.ok (.int .u8 (b:Int)) w:=by
 rw [run_index_string w 9 s .i64 _ Tryz.underlying9,dif_pos ⟨by omega,by omega⟩]
 rw [←hb,gg h]
 rfl
theorem tC {w:World} {P:Nat} {s:ByteArray} {p:PS} (hb:Blk w P (psA s p)) (hs:s.size≤100000) (ha:p.at_≤s.size) :
 Calls Tryz.prog 239 #[.pointer (some ⟨P,0,none⟩)] w fun e w'=>e=.returned (.agg (jN (dK s p).1).toArray)∧Exc P w w'∧Blk w' P (psA s (dK s p).2):=by
 have hlt:=hb.lt
 have HB0:=ym hb
 clear hb
 go_enter Tryz.func239,Tryz.ntmps239
 go_wp2_with fail
 generalize hW:World.alloc _ _=w1
 obtain ⟨hb,hz⟩:=al2 hW
 have HC1:Hid (CS P (w.heap.size+1) w.heap.size s w w1 p ch):=ym ⟨HB0.out.later hb,n22 hW,n21 hW,Exc.of (Nat.le_of_lt hlt) hb,hlt,yo _,Nat.lt_succ_self _⟩
 clear hW hz hb HB0
 generalize w.heap.size=R at *
 refine (cF (s:=s) (p:=p) (c:=94) HC1.out.pb (by omega) (by omega)).mono ?_
 rintro e w2 ⟨rfl,hb⟩
 have HC2:=ym (HC1.out.later hb)
 clear hb HC1
 go_upto_if 12 with fail
 go_cut [4] (fun v4 wx=>v4=.bool (isP s p 94)∧Hid (CS P (R+1) R s w wx (iE s p) ch))
 case first=>
  rcases Bool.eq_false_or_eq_true (isP s p 94) with hi | hi
  ·obtain ⟨hl,h0⟩:=ud hi
   have HP:Hid (iE s p=p.step):=ym (by unfold iE;rw [if_pos hi])
   have k_p:=HC2.out.cells
   have f_p:=HC2.out.pb.free
   have HI:=ym hi
   rw [hi]
   clear hi
   have hw:wrap64 ((p.at_:Int)+1)=(p.at_:Int)+1:=jm (by omega) (by omega)
   go_wp2_with fail
   go_meet
   exact ⟨by rw [HI.out],by rw [HP.out];exact ym HC2.out.step⟩
  ·have HP:Hid (iE s p=p):=ym (by unfold iE;rw [hi];rfl)
   have HI:=ym hi
   rw [hi]
   clear hi
   go_wp2_with fail
   go_meet
   exact ⟨by rw [HI.out],by rw [HP.out];exact HC2⟩
 case rest=>
  obtain ⟨rfl,HC3⟩:=hcut
  have hat:(iE s p).at_≤s.size:=by
   unfold iE
   split
   ·rename_i h;have:=ud h;show p.at_+1≤_;omega
   ·exact ha
  generalize hQ:iE s p=q at *
  have HQ:=ym hQ
  clear hQ HC2
  go_wp2_with fail
  refine (cF (s:=s) (p:=q) (c:=93) HC3.out.pb (by omega) (by omega)).mono ?_
  rintro e w2 ⟨rfl,hb⟩
  have HC4:=ym (HC3.out.later hb)
  clear hb
  generalize hN:isP s p 94=nb at *
  have HN:=ym hN
  clear hN HC3
  go_upto_if 21 with fail
  go_cut [] (fun wx=>Hid (CS P (R+1) R s w wx (rk s q) ch))
  case first=>
   rcases Bool.eq_false_or_eq_true (isP s q 93) with hi | hi
   ·have HP:Hid (rk s q=be q 3):=ym (by unfold rk;rw [if_pos hi])
    rw [hi]
    clear hi
    go_wp2_with fail
    refine (dP (s:=s) (p:=q) (n:=3) HC4.out.pb).mono ?_
    rintro e w3 ⟨rfl,he,hp⟩
    go_wp2_with fail
    go_meet
    rw [HP.out]
    exact ym (HC4.out.exP he hp)
   ·have HP:Hid (rk s q=q):=ym (by unfold rk;rw [hi];rfl)
    rw [hi]
    clear hi
    go_wp2_with fail
    go_meet
    rw [HP.out]
    exact HC4
  case rest=>
   have HC5:=hcut
   clear hcut HC4
   have hat2:(rk s q).at_≤s.size:=by
    unfold rk
    split
    ·rw [iU];exact hat
    ·exact hat
   generalize hQ2:rk s q=q2 at *
   have HQ2:=ym hQ2
   clear hQ2 hat
   go_wp2_with fail
   go_loopg [] (s.size+1-q2.at_) (fun g wr=>∃(p1:PS) (i1:Ins),Hid (bg s g p1 i1=bg s (s.size+1-q2.at_) q2 ch)∧bz s p1<g∧p1.at_≤s.size∧Hid (CS P (R+1) R s w wr p1 i1))
   case atStart=>
    refine ⟨q2,ch,ym rfl,?_,hat2,HC5⟩
    unfold bz
    split<;>omega
   case round=>
    obtain ⟨p1,i1,HE,hrem,hat1,HC⟩:=hrel
    rcases Bool.eq_false_or_eq_true (!bK s p1&&!isP s p1 93) with hc | hc
    ·obtain ⟨g,rfl⟩:∃g,gk=g+1:=⟨gk-1,by omega⟩
     have HE2:Hid (bg s g (if (eJ s p1).1.2<(eJ s p1).1.1 then be (eJ s p1).2 3 else (eJ s p1).2) (dU i1 (eJ s p1).1.1 (eJ s p1).1.2)=bg s (s.size+1-q2.at_) q2 ch):=ym (by rw [←tB hc];exact HE.out)
     have hc2:bK s p1=false∧isP s p1 93=false:=by
      revert hc
      cases bK s p1<;>cases isP s p1 93<;>simp
     obtain ⟨h1,h2⟩:=hc2
     have hne:bz s p1≠0:=by
      rw [ej] at h1
      simpa using h1
     clear hc HE
     go_wp2_with fail
     refine (di (s:=s) (p:=p1) HC.out.pb (by omega) (by omega)).mono ?_
     rintro e w3 ⟨rfl,hb⟩
     have HC6:=ym (HC.out.later hb)
     clear hb
     rw [h1]
     clear h1
     go_wp2_with fail
     refine (cF (s:=s) (p:=p1) (c:=93) HC6.out.pb (by omega) (by omega)).mono ?_
     rintro e w4 ⟨rfl,hb⟩
     have HC7:=ym (HC6.out.later hb)
     clear hb HC6
     rw [h2]
     clear h2
     go_wp2_with fail
     refine (mv (s:=s) (p:=p1) HC7.out.pb (by omega) (by omega)).mono ?_
     rintro e w5 ⟨rfl,he,hp⟩
     have HC8:=ym (HC7.out.exP he hp)
     clear he hp HC7
     have hml:=dQ s p1
     have hfl:=oH s p1
     have hatA:=hml.at_ hat1
     have hsp:Hid (eJ s p1=if isP s (aO s p1).2 45&&(decide ((aO s p1).2.at_+1<s.size)&&decide (cd s ((aO s p1).2.at_+1)≠93)) then (((aO s p1).1,(aO s (aO s p1).2.step).1),(aO s (aO s p1).2.step).2) else (((aO s p1).1,(aO s p1).1),(aO s p1).2)):=ym rfl
     generalize hM:aO s p1=m at *
     obtain ⟨f,pA⟩:=m
     simp only at hml hfl hatA hsp HC8
     have HM:=ym hM
     clear hM
     have hD:isP s pA 45=false∨isP s pA 45=true∧¬(pA.at_+1<s.size)∨isP s pA 45=true∧pA.at_+1<s.size∧cd s (pA.at_+1)=93∨isP s pA 45=true∧pA.at_+1<s.size∧cd s (pA.at_+1)≠93:=by
      rcases Bool.eq_false_or_eq_true (isP s pA 45) with h | h
      ·by_cases h1:pA.at_+1<s.size
       ·by_cases h2:cd s (pA.at_+1)=93
        ·exact .inr (.inr (.inl ⟨h,h1,h2⟩))
        ·exact .inr (.inr (.inr ⟨h,h1,h2⟩))
       ·exact .inr (.inl ⟨h,h1⟩)
      ·exact .inl h
     go_wp2_with fail
     have k_p:∀(d:Nat) (os:Array Obj) (o:Nat),(Sort.grow (redrawn w5 d) os).cell? ⟨P,o,none⟩=(#[.string s,.int .i64 pA.at_,.int .i64 pA.deep,.int .i64 pA.e]:Array Value)[o]?:=HC8.out.pb.regrown
     rcases hD with h | ⟨h,h1⟩ | ⟨h,h1,h2⟩ | ⟨h,h1,h2⟩
     ·have HI:=ym h
      have hsq:eJ s p1=((f,f),pA):=by rw [hsp.out,h];rfl
      clear h
      rw [hsq] at HE2
      simp only [Nat.lt_irrefl,if_false] at HE2
      have HE3:Hid (bg s g pA (dU i1 f f)=bg s (s.size+1-q2.at_) q2 ch):=HE2
      have hrem3:bz s pA<g:=by have:=hml.lt hne;omega
      have hat3:=hatA
      clear hsq hsp HE2
      refine wp_region_quiet_below (by kernel_rfl) (by kernel_rfl) ?_
      repeat (go_big_quiet_step ((go_at_call 230;exact Calls.regrown_of (cV HI.out (cF (HC8.out.pb.later (below_regrown _ _ _)) (by omega) (by omega))))))
      refine wpQuiet_nil ?_
      intro w6 hw6
      have hb6:Below w5.heap.size w5 w6:=by obtain ⟨p,rfl⟩:=hw6;exact below_regrown _ _ _
      have HC9:=ym (HC8.out.later hb6)
      clear hw6 hb6 k_p
      go_wp2_with fail
      go_loopw [7] (fun v wr2=>∃k:Nat,k≤f+1-f∧v=.int .i64 ((f:Int)+k)∧Hid (CS P (R+1) R s w wr2 (pA) (eH i1 f k))) (fun v _=>f+1-(intOf v).toNat)
      case atStart=>exact ⟨0,yp _,by simp,(by simpa [eH] using HC9)⟩
      case round=>
       obtain ⟨k,hk,rfl,HK⟩:=hrel
       by_cases hlt:f+k≤f
       ·have hcv:IntKind.u8.wrap ((f:Int)+k)=((f+k:Nat):Int):=by rw [IntKind.wrap_u8];omega
        have hcv2:((f:Int)+k) % 256=((f+k:Nat):Int):=by omega
        go_wp2_with fail
        refine (iX (c:=f+k) HK.out.gb (by omega)).mono ?_
        rintro e w9 ⟨rfl,he,hg⟩
        have HK2:=ym (HK.out.exG he hg)
        clear he hg
        go_wp2_with fail
        go_roundw
        case rel=>exact ⟨k+1,by omega,by go_num,by rw [eY];exact HK2⟩
        case measure=>simp [intOf];omega
       ·have HK2:Hid (CS P (R+1) R s w wr (pA) (dU i1 f f)):=by
         have:k=f+1-f:=by omega
         rw [this] at HK
         exact HK
        go_wp2_with fail
        go_roundg g
        case rel=>exact ⟨_,_,HE3,hrem3,hat3,HK2⟩
        case measure=>omega
     ·have HI:=ym h
      have hsq:eJ s p1=((f,f),pA):=by rw [hsp.out,h,decide_eq_false h1];rfl
      clear h
      have h1':decide ((pA.at_:Int)+1<(s.size:Int))=false:=by simp;omega
      rw [hsq] at HE2
      simp only [Nat.lt_irrefl,if_false] at HE2
      have HE3:Hid (bg s g pA (dU i1 f f)=bg s (s.size+1-q2.at_) q2 ch):=HE2
      have hrem3:bz s pA<g:=by have:=hml.lt hne;omega
      have hat3:=hatA
      clear hsq hsp HE2
      refine wp_region_quiet_below (by kernel_rfl) (by kernel_rfl) ?_
      repeat (go_big_quiet_step ((go_at_call 230;exact Calls.regrown_of (cV HI.out (cF (HC8.out.pb.later (below_regrown _ _ _)) (by omega) (by omega))))))
      refine wpQuiet_nil ?_
      intro w6 hw6
      have hb6:Below w5.heap.size w5 w6:=by obtain ⟨p,rfl⟩:=hw6;exact below_regrown _ _ _
      have HC9:=ym (HC8.out.later hb6)
      clear hw6 hb6 k_p
      clear h1'
      go_wp2_with fail
      go_loopw [7] (fun v wr2=>∃k:Nat,k≤f+1-f∧v=.int .i64 ((f:Int)+k)∧Hid (CS P (R+1) R s w wr2 (pA) (eH i1 f k))) (fun v _=>f+1-(intOf v).toNat)
      case atStart=>exact ⟨0,yp _,by simp,(by simpa [eH] using HC9)⟩
      case round=>
       obtain ⟨k,hk,rfl,HK⟩:=hrel
       by_cases hlt:f+k≤f
       ·have hcv:IntKind.u8.wrap ((f:Int)+k)=((f+k:Nat):Int):=by rw [IntKind.wrap_u8];omega
        have hcv2:((f:Int)+k) % 256=((f+k:Nat):Int):=by omega
        go_wp2_with fail
        refine (iX (c:=f+k) HK.out.gb (by omega)).mono ?_
        rintro e w9 ⟨rfl,he,hg⟩
        have HK2:=ym (HK.out.exG he hg)
        clear he hg
        go_wp2_with fail
        go_roundw
        case rel=>exact ⟨k+1,by omega,by go_num,by rw [eY];exact HK2⟩
        case measure=>simp [intOf];omega
       ·have HK2:Hid (CS P (R+1) R s w wr (pA) (dU i1 f f)):=by
         have:k=f+1-f:=by omega
         rw [this] at HK
         exact HK
        go_wp2_with fail
        go_roundg g
        case rel=>exact ⟨_,_,HE3,hrem3,hat3,HK2⟩
        case measure=>omega
     ·have HI:=ym h
      have hsq:eJ s p1=((f,f),pA):=by rw [hsp.out,h,h2];simp
      clear h
      have hdl:decide ((pA.at_:Int)+1<(s.size:Int))=true:=by simp;omega
      have hix:=fun wx=>xU h1 h2 wx
      clear h2
      rw [hsq] at HE2
      simp only [Nat.lt_irrefl,if_false] at HE2
      have HE3:Hid (bg s g pA (dU i1 f f)=bg s (s.size+1-q2.at_) q2 ch):=HE2
      have hrem3:bz s pA<g:=by have:=hml.lt hne;omega
      have hat3:=hatA
      clear hsq hsp HE2
      refine wp_region_quiet_below (by kernel_rfl) (by kernel_rfl) ?_
      repeat (go_big_quiet_step ((go_at_call 230;exact Calls.regrown_of (cV HI.out (cF (HC8.out.pb.later (below_regrown _ _ _)) (by omega) (by omega))))))
      refine wpQuiet_nil ?_
      intro w6 hw6
      have hb6:Below w5.heap.size w5 w6:=by obtain ⟨p,rfl⟩:=hw6;exact below_regrown _ _ _
      have HC9:=ym (HC8.out.later hb6)
      clear hw6 hb6 k_p
      clear hix hdl
      go_wp2_with fail
      go_loopw [7] (fun v wr2=>∃k:Nat,k≤f+1-f∧v=.int .i64 ((f:Int)+k)∧Hid (CS P (R+1) R s w wr2 (pA) (eH i1 f k))) (fun v _=>f+1-(intOf v).toNat)
      case atStart=>exact ⟨0,yp _,by simp,(by simpa [eH] using HC9)⟩
      case round=>
       obtain ⟨k,hk,rfl,HK⟩:=hrel
       by_cases hlt:f+k≤f
       ·have hcv:IntKind.u8.wrap ((f:Int)+k)=((f+k:Nat):Int):=by rw [IntKind.wrap_u8];omega
        have hcv2:((f:Int)+k) % 256=((f+k:Nat):Int):=by omega
        go_wp2_with fail
        refine (iX (c:=f+k) HK.out.gb (by omega)).mono ?_
        rintro e w9 ⟨rfl,he,hg⟩
        have HK2:=ym (HK.out.exG he hg)
        clear he hg
        go_wp2_with fail
        go_roundw
        case rel=>exact ⟨k+1,by omega,by go_num,by rw [eY];exact HK2⟩
        case measure=>simp [intOf];omega
       ·have HK2:Hid (CS P (R+1) R s w wr (pA) (dU i1 f f)):=by
         have:k=f+1-f:=by omega
         rw [this] at HK
         exact HK
        go_wp2_with fail
        go_roundg g
        case rel=>exact ⟨_,_,HE3,hrem3,hat3,HK2⟩
        case measure=>omega
     ·have HI:=ym h
      have hsq:eJ s p1=((f,(aO s pA.step).1),(aO s pA.step).2):=by rw [hsp.out,h,decide_eq_true h1,decide_eq_true h2];rfl
      have hfA:=Less.byte h
      clear h
      have hdl:decide ((pA.at_:Int)+1<(s.size:Int))=true:=by simp;omega
      generalize hbb:cd s (pA.at_+1)=bb at *
      have hix:=fun wx=>xU h1 hbb wx
      have hnk:((bb:Int)==93)=false:=by simp;omega
      have hnk3:((bb:Int) !=93)=true:=by rw [bne,hnk];rfl
      clear h2 hbb
      rw [hsq] at HE2
      have hml2:=dQ s pA.step
      have htl:=oH s pA.step
      have hatB:=hfA.at_ hatA
      have hatC:=hml2.at_ hatB
      have hremC:bz s (aO s pA.step).2<g:=by have h1:=hml2.le;have h2:=hfA.le;have h3:=hml.lt hne;omega
      clear hsq hsp hfA hml2
      refine wp_region_quiet_below (by kernel_rfl) (by kernel_rfl) ?_
      repeat (go_big_quiet_step ((go_at_call 230;exact Calls.regrown_of (cV HI.out (cF (HC8.out.pb.later (below_regrown _ _ _)) (by omega) (by omega))))))
      refine wpQuiet_nil ?_
      intro w6 hw6
      have hb6:Below w5.heap.size w5 w6:=by obtain ⟨p,rfl⟩:=hw6;exact below_regrown _ _ _
      have HC9:=ym (HC8.out.later hb6)
      clear hw6 hb6 k_p
      clear hix hnk hnk3 hdl
      have k_p:=HC9.out.cells
      have f_p:=HC9.out.pb.free
      go_wp2_with fail
      have HC10:=ym HC9.out.step
      generalize w6.setCell _ _=w7 at *
      clear k_p f_p
      refine (mv (s:=s) (p:=pA.step) HC10.out.pb (by omega) (by omega)).mono ?_
      rintro e w8 ⟨rfl,he,hp⟩
      have HC11:=ym (HC10.out.exP he hp)
      clear he hp HC10 HC9
      generalize hM2:aO s pA.step=m at *
      obtain ⟨t,pC⟩:=m
      simp only at htl hatC hremC HC11 HE2
      have HM2:=ym hM2
      clear hM2
      by_cases hgt:t<f
      ·rw [if_pos hgt] at HE2
       have HE3:Hid (bg s g (be pC 3) (dU i1 f t)=bg s (s.size+1-q2.at_) q2 ch):=HE2
       have hrem3:bz s (be pC 3)<g:=by rw [jU (by decide)];omega
       have hat3:(be pC 3).at_≤s.size:=by rw [iU];exact hatC
       clear HE2
       go_wp2_with fail
       refine (dP (s:=s) (p:=pC) (n:=3) HC11.out.pb).mono ?_
       rintro e w12 ⟨rfl,he,hp⟩
       have HC12:=ym (HC11.out.exP he hp)
       clear he hp
       go_wp2_with fail
       go_loopw [7] (fun v wr2=>∃k:Nat,k≤t+1-f∧v=.int .i64 ((f:Int)+k)∧Hid (CS P (R+1) R s w wr2 (be pC 3) (eH i1 f k))) (fun v _=>t+1-(intOf v).toNat)
       case atStart=>exact ⟨0,yp _,by simp,(by simpa [eH] using HC12)⟩
       case round=>
        obtain ⟨k,hk,rfl,HK⟩:=hrel
        by_cases hlt:f+k≤t
        ·exact absurd hlt (by omega)
        ·have HK2:Hid (CS P (R+1) R s w wr (be pC 3) (dU i1 f t)):=by
          have:k=t+1-f:=by omega
          rw [this] at HK
          exact HK
         go_wp2_with fail
         go_roundg g
         case rel=>exact ⟨_,_,HE3,hrem3,hat3,HK2⟩
         case measure=>omega
      ·rw [if_neg hgt] at HE2
       have HE3:Hid (bg s g pC (dU i1 f t)=bg s (s.size+1-q2.at_) q2 ch):=HE2
       have hrem3:=hremC
       have hat3:=hatC
       clear HE2
       go_wp2_with fail
       go_loopw [7] (fun v wr2=>∃k:Nat,k≤t+1-f∧v=.int .i64 ((f:Int)+k)∧Hid (CS P (R+1) R s w wr2 (pC) (eH i1 f k))) (fun v _=>t+1-(intOf v).toNat)
       case atStart=>exact ⟨0,yp _,by simp,(by simpa [eH] using HC11)⟩
       case round=>
        obtain ⟨k,hk,rfl,HK⟩:=hrel
        by_cases hlt:f+k≤t
        ·have hcv:IntKind.u8.wrap ((f:Int)+k)=((f+k:Nat):Int):=by rw [IntKind.wrap_u8];omega
         have hcv2:((f:Int)+k) % 256=((f+k:Nat):Int):=by omega
         go_wp2_with fail
         refine (iX (c:=f+k) HK.out.gb (by omega)).mono ?_
         rintro e w9 ⟨rfl,he,hg⟩
         have HK2:=ym (HK.out.exG he hg)
         clear he hg
         go_wp2_with fail
         go_roundw
         case rel=>exact ⟨k+1,by omega,by go_num,by rw [eY];exact HK2⟩
         case measure=>simp [intOf];omega
        ·have HK2:Hid (CS P (R+1) R s w wr (pC) (dU i1 f t)):=by
          have:k=t+1-f:=by omega
          rw [this] at HK
          exact HK
         go_wp2_with fail
         go_roundg g
         case rel=>exact ⟨_,_,HE3,hrem3,hat3,HK2⟩
         case measure=>omega
    ·have HE2:Hid (bg s (s.size+1-q2.at_) q2 ch=(i1,p1)):=ym (by rw [←HE.out,pI hc])
     clear HE
     have hc2:bK s p1=true∨bK s p1=false∧isP s p1 93=true:=by
      revert hc
      cases bK s p1<;>cases isP s p1 93<;>simp
     clear hc
     rcases hc2 with h1 | ⟨h1,h2⟩
     ·go_wp2_with fail
      refine (di (s:=s) (p:=p1) HC.out.pb (by omega) (by omega)).mono ?_
      rintro e w3 ⟨rfl,hb⟩
      have HC6:=ym (HC.out.later hb)
      clear hb
      rw [h1]
      clear h1
      go_wp2_with fail
      refine (eX (s:=s) (p:=p1) HC6.out.pb (by omega) (by omega)).mono ?_
      rintro e w4 ⟨rfl,he,hp⟩
      have HC7:=ym (HC6.out.exP he hp)
      have HR2:Hid (dK s p=(if nb=true then qI i1 else i1,(aE s p1).2)):=ym (by rw [nS,HQ.out,HQ2.out,HE2.out,HN.out])
      clear he hp HC6
      go_wp2_with fail
      cases nb
      ·go_loopw [90] (fun v wr2=>∃k:Nat,k≤4∧v=.int .i64 k∧Hid (CS P (R+1) R s w wr2 (aE s p1).2 i1)) (fun v _=>4-(intOf v).toNat)
       case atStart=>exact ⟨0,yp _,rfl,HC7⟩
       case round=>
        obtain ⟨k,hk,rfl,HK⟩:=hrel
        by_cases hlt:k<4
        ·go_wp2_with fail
         go_roundw
         case rel=>exact ⟨k+1,by omega,by go_num,HK⟩
         case measure=>simp [intOf];omega
        ·have k_g:∀o,wr.cell? ⟨R+1,o,none⟩=(#[.int .i64 i1.kind,.int .u64 i1.a,.int .u64 i1.b,.int .u64 i1.c,.int .u64 i1.d,.int .i64 i1.x,.int .i64 i1.y]:Array Value)[o]?:=HK.out.gb.cell
         have k_r:=HK.out.rb.cell
         have f_r:=HK.out.rb.free
         go_wp2_with fail
         obtain ⟨x1,x2,x3⟩:=HK.out.put (.int .i64 i1.kind) (.int .u64 i1.a) (.int .u64 i1.b) (.int .u64 i1.c) (.int .u64 i1.d) (.int .i64 i1.x) (.int .i64 i1.y)
         refine bodyPost_ret (rn rfl rfl x3 rfl) rfl ?_
         rw [HR2.out]
         exact ⟨rfl,x1,x2⟩
      ·go_loopw [90] (fun v wr2=>∃k:Nat,k≤4∧v=.int .i64 k∧Hid (CS P (R+1) R s w wr2 (aE s p1).2 (bE i1 k))) (fun v _=>4-(intOf v).toNat)
       case atStart=>exact ⟨0,yp _,rfl,HC7⟩
       case round=>
        obtain ⟨k,hk,rfl,HK⟩:=hrel
        have k_g:∀o,wr.cell? ⟨R+1,o,none⟩=(#[.int .i64 i1.kind,.int .u64 (bE i1 k).a,.int .u64 (bE i1 k).b,.int .u64 (bE i1 k).c,.int .u64 (bE i1 k).d,.int .i64 i1.x,.int .i64 i1.y]:Array Value)[o]?:=HK.out.gb.cell
        have f_g:=HK.out.gb.free
        have hk5:k=0∨k=1∨k=2∨k=3∨k=4:=by omega
        rcases hk5 with rfl | rfl | rfl | rfl | rfl
        ·go_wp2_with fail
         refine ⟨⟨1,by omega,rfl,ym (HK.out.setG 1 _ (by simp [inA,bE];rfl))⟩,by simp [intOf]⟩
        ·go_wp2_with fail
         refine ⟨⟨2,by omega,rfl,ym (HK.out.setG 2 _ (by simp [inA,bE];rfl))⟩,by simp [intOf]⟩
        ·go_wp2_with fail
         refine ⟨⟨3,by omega,rfl,ym (HK.out.setG 3 _ (by simp [inA,bE];rfl))⟩,by simp [intOf]⟩
        ·go_wp2_with fail
         refine ⟨⟨4,by omega,rfl,ym (HK.out.setG 4 _ (by simp [inA,bE];rfl))⟩,by simp [intOf]⟩
        ·have k_r:=HK.out.rb.cell
         have f_r:=HK.out.rb.free
         go_wp2_with fail
         obtain ⟨x1,x2,x3⟩:=HK.out.put (.int .i64 i1.kind) (.int .u64 (bE i1 4).a) (.int .u64 (bE i1 4).b) (.int .u64 (bE i1 4).c) (.int .u64 (bE i1 4).d) (.int .i64 i1.x) (.int .i64 i1.y)
         refine bodyPost_ret (rn rfl rfl x3 rfl) rfl ?_
         rw [HR2.out]
         exact ⟨rfl,x1,x2⟩
     ·go_wp2_with fail
      refine (di (s:=s) (p:=p1) HC.out.pb (by omega) (by omega)).mono ?_
      rintro e w3 ⟨rfl,hb⟩
      have HC5a:=ym (HC.out.later hb)
      clear hb
      rw [h1]
      clear h1
      go_wp2_with fail
      refine (cF (s:=s) (p:=p1) (c:=93) HC5a.out.pb (by omega) (by omega)).mono ?_
      rintro e w3 ⟨rfl,hb⟩
      have HC6:=ym (HC5a.out.later hb)
      clear hb HC5a
      rw [h2]
      clear h2
      go_wp2_with fail
      refine (eX (s:=s) (p:=p1) HC6.out.pb (by omega) (by omega)).mono ?_
      rintro e w4 ⟨rfl,he,hp⟩
      have HC7:=ym (HC6.out.exP he hp)
      have HR2:Hid (dK s p=(if nb=true then qI i1 else i1,(aE s p1).2)):=ym (by rw [nS,HQ.out,HQ2.out,HE2.out,HN.out])
      clear he hp HC6
      go_wp2_with fail
      cases nb
      ·go_loopw [90] (fun v wr2=>∃k:Nat,k≤4∧v=.int .i64 k∧Hid (CS P (R+1) R s w wr2 (aE s p1).2 i1)) (fun v _=>4-(intOf v).toNat)
       case atStart=>exact ⟨0,yp _,rfl,HC7⟩
       case round=>
        obtain ⟨k,hk,rfl,HK⟩:=hrel
        by_cases hlt:k<4
        ·go_wp2_with fail
         go_roundw
         case rel=>exact ⟨k+1,by omega,by go_num,HK⟩
         case measure=>simp [intOf];omega
        ·have k_g:∀o,wr.cell? ⟨R+1,o,none⟩=(#[.int .i64 i1.kind,.int .u64 i1.a,.int .u64 i1.b,.int .u64 i1.c,.int .u64 i1.d,.int .i64 i1.x,.int .i64 i1.y]:Array Value)[o]?:=HK.out.gb.cell
         have k_r:=HK.out.rb.cell
         have f_r:=HK.out.rb.free
         go_wp2_with fail
         obtain ⟨x1,x2,x3⟩:=HK.out.put (.int .i64 i1.kind) (.int .u64 i1.a) (.int .u64 i1.b) (.int .u64 i1.c) (.int .u64 i1.d) (.int .i64 i1.x) (.int .i64 i1.y)
         refine bodyPost_ret (rn rfl rfl x3 rfl) rfl ?_
         rw [HR2.out]
         exact ⟨rfl,x1,x2⟩
      ·go_loopw [90] (fun v wr2=>∃k:Nat,k≤4∧v=.int .i64 k∧Hid (CS P (R+1) R s w wr2 (aE s p1).2 (bE i1 k))) (fun v _=>4-(intOf v).toNat)
       case atStart=>exact ⟨0,yp _,rfl,HC7⟩
       case round=>
        obtain ⟨k,hk,rfl,HK⟩:=hrel
        have k_g:∀o,wr.cell? ⟨R+1,o,none⟩=(#[.int .i64 i1.kind,.int .u64 (bE i1 k).a,.int .u64 (bE i1 k).b,.int .u64 (bE i1 k).c,.int .u64 (bE i1 k).d,.int .i64 i1.x,.int .i64 i1.y]:Array Value)[o]?:=HK.out.gb.cell
        have f_g:=HK.out.gb.free
        have hk5:k=0∨k=1∨k=2∨k=3∨k=4:=by omega
        rcases hk5 with rfl | rfl | rfl | rfl | rfl
        ·go_wp2_with fail
         refine ⟨⟨1,by omega,rfl,ym (HK.out.setG 1 _ (by simp [inA,bE];rfl))⟩,by simp [intOf]⟩
        ·go_wp2_with fail
         refine ⟨⟨2,by omega,rfl,ym (HK.out.setG 2 _ (by simp [inA,bE];rfl))⟩,by simp [intOf]⟩
        ·go_wp2_with fail
         refine ⟨⟨3,by omega,rfl,ym (HK.out.setG 3 _ (by simp [inA,bE];rfl))⟩,by simp [intOf]⟩
        ·go_wp2_with fail
         refine ⟨⟨4,by omega,rfl,ym (HK.out.setG 4 _ (by simp [inA,bE];rfl))⟩,by simp [intOf]⟩
        ·have k_r:=HK.out.rb.cell
         have f_r:=HK.out.rb.free
         go_wp2_with fail
         obtain ⟨x1,x2,x3⟩:=HK.out.put (.int .i64 i1.kind) (.int .u64 (bE i1 4).a) (.int .u64 (bE i1 4).b) (.int .u64 (bE i1 4).c) (.int .u64 (bE i1 4).d) (.int .i64 i1.x) (.int .i64 i1.y)
         refine bodyPost_ret (rn rfl rfl x3 rfl) rfl ?_
         rw [HR2.out]
         exact ⟨rfl,x1,x2⟩
end Go.Proofs.YtjpndglegpcdnaaGreat
