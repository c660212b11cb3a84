/- regex.pattern, row, piece, atom, group: what each does, where those that it calls do theirs. -/
import Derived.Test.YtjpndglegpcdnaaGreatReg3
import Derived.Deep.Cut
import Derived.Deep.DeepCutAuto
import Derived.Deep.LoopGhost
import Derived.BigQuiet
import Derived.Deep.CutRange
set_option linter.unusedVariables false
set_option linter.unusedSimpArgs false
set_option maxRecDepth 100000
set_option maxHeartbeats 8000000
namespace Go.Proofs.YtjpndglegpcdnaaGreat
open Go.ChangeShapes Go.WideShapes Go.ChangeAt Go.RowKit
theorem Exc.fresh {P G:Nat} {a b c:World} (h:Exc P a b) (k:Exc G b c) (hP:P<a.heap.size) (hG:a.heap.size≤G):Exc P a c:=
 ⟨h.1.trans (k.1.mono (by omega)),fun i hi hne=>(k.2 i (zz hi h.1.size) (by omega)).trans (h.2 i hi hne)⟩
theorem stepped {w:World} {P:Nat} {s:ByteArray} {p:PS} (hb:Blk w P (psA s p)):Blk (w.setCell ⟨P,1,none⟩ (.int .i64 ((p.at_:Int)+1))) P (psA s p.step):=hb.set_ 1 _
abbrev zero7:Array Value:=#[.int .i64 0,.int .u64 0,.int .u64 0,.int .u64 0,.int .u64 0,.int .i64 0,.int .i64 0]
structure CS (P G R:Nat) (s:ByteArray) (w0 w:World) (p:PS) (i:Ins):Prop where
 pb:Blk w P (psA s p)
 gb:Blk w G (inA i)
 rb:Blk w R zero7
 ex:Exc P w0 w
 hP:P<w0.heap.size
 hR:w0.heap.size≤R
 hG:R<G
section
variable {P G R:Nat} {s:ByteArray} {w0 w w':World} {p q:PS} {i j:Ins}
theorem CS.later (h:CS P G R s w0 w p i) (hb:Below w.heap.size w w'):CS P G R s w0 w' p i:=
 ⟨h.pb.later hb,h.gb.later hb,h.rb.later hb,h.ex.then (Nat.le_of_lt h.hP) hb,h.hP,h.hR,h.hG⟩
theorem CS.exP (h:CS P G R s w0 w p i) (he:Exc P w w') (hp:Blk w' P (psA s q)):CS P G R s w0 w' q i:=
 ⟨hp,he.blk (by have:=h.hP;have:=h.hR;have:=h.hG;omega) h.gb,he.blk (by have:=h.hP;have:=h.hR;omega) h.rb,h.ex.trans he,h.hP,h.hR,h.hG⟩
theorem CS.exG (h:CS P G R s w0 w p i) (he:Exc G w w') (hg:Blk w' G (inA j)):CS P G R s w0 w' p j:=
 ⟨he.blk (by have:=h.hP;have:=h.hR;have:=h.hG;omega) h.pb,hg,he.blk (by have:=h.hG;omega) h.rb,h.ex.fresh he h.hP (by have:=h.hR;have:=h.hG;omega),h.hP,h.hR,h.hG⟩
theorem CS.step (h:CS P G R s w0 w p i):CS P G R s w0 (w.setCell ⟨P,1,none⟩ (.int .i64 ((p.at_:Int)+1))) p.step i:=
 h.exP ((Exc.refl P w).set 1 _) (stepped h.pb)
theorem CS.cells (h:CS P G R s w0 w p i):∀o,w.cell? ⟨P,o,none⟩=(#[.string s,.int .i64 p.at_,.int .i64 p.deep,.int .i64 p.e]:Array Value)[o]?:=h.pb.cell
end
theorem qp {s:ByteArray} {n:Nat} {p:PS} {i:Ins} (h:(!bP s p&&!isP s p 93)=false):bk s n p i=(i,p):=by
 cases n with
 | zero=>rfl
 | succ n=>unfold bk;rw [h];rfl
theorem ux {s:ByteArray} {n:Nat} {p:PS} {i:Ins} (h:(!bP s p&&!isP s p 93)=true):bk s (n+1) p i=bk s n (if (eU s p).1.2<(eU s p).1.1 then bh (eU s p).2 3 else (eU s p).2) (ei i (eU s p).1.1 (eU s p).1.2):=by
 show (if (!bP s p&&!isP s p 93)=true then _ else _)=_
 rw [h]
 rfl
def eR (i:Ins) (f k:Nat):Ins:=(List.range k).foldl (fun i j=>me i (f+j)) i
theorem fl (i:Ins) (f k:Nat):eR i f (k+1)=me (eR i f k) (f+k):=by simp [eR,List.range_succ]
def bI (i:Ins) (k:Nat):Ins:=⟨i.kind,if 0<k then oF i.a else i.a,if 1<k then oF i.b else i.b,if 2<k then oF i.c else i.c,if 3<k then oF i.d else i.d,i.x,i.y⟩
theorem CS.setG {P G R:Nat} {s:ByteArray} {w0 w:World} {p:PS} {i j:Ins} (h:CS P G R s w0 w p i) (n:Nat) (v:Value) (hj:inA j=(inA i).setIfInBounds n v):CS P G R s w0 (w.setCell ⟨G,n,none⟩ v) p j:=
 h.exG ((Exc.refl G w).set n v) (by rw [hj];exact h.gb.set_ n v)
theorem sd {fn:Func} {tmps:Array Value} {p:Tmp} {g:Nat} {w:World} {cs:Array Value} (h:fn.results=#[.cell p 266]) (hp:tmps.getD p undef=.pointer (some ⟨g,0,none⟩)) (hb:Blk w g cs) (hn:cs.size=7) :
 (results fn tmps).run Tryz.prog w=.ok (.agg cs) w:=by
 obtain ⟨T,hb⟩:=hb
 exact results_cell_row h tmps w g T cs (0,0) _ hp hb Tryz.underlying266 rfl (by rw [hn];kernel_rfl)
theorem CS.put {P G R:Nat} {s:ByteArray} {w0 w:World} {p:PS} {i:Ins} (h:CS P G R s w0 w p i) (v0 v1 v2 v3 v4 v5 v6:Value) :
 Exc P w0 (((((((w.setCell ⟨R,0,none⟩ v0).setCell ⟨R,1,none⟩ v1).setCell ⟨R,2,none⟩ v2).setCell ⟨R,3,none⟩ v3).setCell ⟨R,4,none⟩ v4).setCell ⟨R,5,none⟩ v5).setCell ⟨R,6,none⟩ v6) ∧
 Blk (((((((w.setCell ⟨R,0,none⟩ v0).setCell ⟨R,1,none⟩ v1).setCell ⟨R,2,none⟩ v2).setCell ⟨R,3,none⟩ v3).setCell ⟨R,4,none⟩ v4).setCell ⟨R,5,none⟩ v5).setCell ⟨R,6,none⟩ v6) P (psA s p) ∧
 Blk (((((((w.setCell ⟨R,0,none⟩ v0).setCell ⟨R,1,none⟩ v1).setCell ⟨R,2,none⟩ v2).setCell ⟨R,3,none⟩ v3).setCell ⟨R,4,none⟩ v4).setCell ⟨R,5,none⟩ v5).setCell ⟨R,6,none⟩ v6) R #[v0,v1,v2,v3,v4,v5,v6]:=by
 have hne:P≠R:=by have:=h.hP;have:=h.hR;omega
 refine ⟨?_,?_,?_⟩
 ·exact h.ex.fresh (((((((Exc.refl R w).set 0 v0).set 1 v1).set 2 v2).set 3 v3).set 4 v4).set 5 v5 |>.set 6 v6) h.hP h.hR
 ·exact ((((((h.pb.far hne 0 v0).far hne 1 v1).far hne 2 v2).far hne 3 v3).far hne 4 v4).far hne 5 v5).far hne 6 v6
 ·exact ((((((h.rb.set_ 0 v0).set_ 1 v1).set_ 2 v2).set_ 3 v3).set_ 4 v4).set_ 5 v5).set_ 6 v6
def iR (s:ByteArray) (p:PS):PS:=if isP s p 94=true then p.step else p
def rW (s:ByteArray) (p:PS):PS:=if isP s p 93=true then bh p 3 else p
theorem oA (s:ByteArray) (p:PS):dV s p=(if isP s p 94=true then ry (bk s (s.size+1-(rW s (iR s p)).at_) (rW s (iR s p)) ci).1 else (bk s (s.size+1-(rW s (iR s p)).at_) (rW s (iR s p)) ci).1,(aH s (bk s (s.size+1-(rW s (iR s p)).at_) (rW s (iR s p)) ci).2).2):=rfl
theorem vi {s:ByteArray} {p:PS} {c:Nat} (h:isP s p c=true):p.at_<s.size∧p.e=0:=by
 obtain ⟨h1,h2⟩:=qP (ll h)
 exact ⟨h2,h1⟩
theorem yZ {s:ByteArray} {k b:Nat} (h:k+1<s.size) (hb:ch s (k+1)=b) (w:World):(Instr.index 9 (.string s) (.int .i64 ((k:Int)+1))).run Tryz.prog w=.ok (.int .u8 (b:Int)) w:=by
 rw [run_index_string w 9 s .i64 _ Tryz.underlying9,dif_pos ⟨by omega,by omega⟩]
 rw [←hb,gy h]
 rfl
theorem uy {w:World} {P:Nat} {s:ByteArray} {p:PS} (hb:Blk w P (psA s p)) (hs:s.size≤100000) (ha:p.at_≤s.size) :
 Calls Tryz.prog 239 #[.pointer (some ⟨P,0,none⟩)] w fun e w'=>e=.returned (.agg (jW (dV s p).1).toArray)∧Exc P w w'∧Blk w' P (psA s (dV s p).2):=by
 have hlt:=hb.lt
 have HB0:=zu hb
 clear hb
 go_enter Tryz.func239,Tryz.ntmps239
 go_wp2_with fail
 generalize hW:World.alloc _ _=w1
 obtain ⟨hb,hz⟩:=al2 hW
 have HC1:Hid (CS P (w.heap.size+1) w.heap.size s w w1 p ci):=zu ⟨HB0.out.later hb,n22 hW,n21 hW,Exc.of (Nat.le_of_lt hlt) hb,hlt,zw _,Nat.lt_succ_self _⟩
 clear hW hz hb HB0
 generalize w.heap.size=R at *
 refine (cF (s:=s) (p:=p) (c:=94) HC1.out.pb (by omega) (by omega)).mono ?_
 rintro e w2 ⟨rfl,hb⟩
 have HC2:=zu (HC1.out.later hb)
 clear hb HC1
 go_upto_if 12 with fail
 go_cut [4] (fun v4 wx=>v4=.bool (isP s p 94)∧Hid (CS P (R+1) R s w wx (iR s p) ci))
 case first=>
  rcases Bool.eq_false_or_eq_true (isP s p 94) with hi | hi
  ·obtain ⟨hl,h0⟩:=vi hi
   have HP:Hid (iR s p=p.step):=zu (by unfold iR;rw [if_pos hi])
   have k_p:=HC2.out.cells
   have f_p:=HC2.out.pb.free
   have HI:=zu hi
   rw [hi]
   clear hi
   have hw:wrap64 ((p.at_:Int)+1)=(p.at_:Int)+1:=jA (by omega) (by omega)
   go_wp2_with fail
   go_meet
   exact ⟨by rw [HI.out],by rw [HP.out];exact zu HC2.out.step⟩
  ·have HP:Hid (iR s p=p):=zu (by unfold iR;rw [hi];rfl)
   have HI:=zu hi
   rw [hi]
   clear hi
   go_wp2_with fail
   go_meet
   exact ⟨by rw [HI.out],by rw [HP.out];exact HC2⟩
 case rest=>
  obtain ⟨rfl,HC3⟩:=hcut
  have hat:(iR s p).at_≤s.size:=by
   unfold iR
   split
   ·rename_i h;have:=vi h;show p.at_+1≤_;omega
   ·exact ha
  generalize hQ:iR s p=q at *
  have HQ:=zu hQ
  clear hQ HC2
  go_wp2_with fail
  refine (cF (s:=s) (p:=q) (c:=93) HC3.out.pb (by omega) (by omega)).mono ?_
  rintro e w2 ⟨rfl,hb⟩
  have HC4:=zu (HC3.out.later hb)
  clear hb
  generalize hN:isP s p 94=nb at *
  have HN:=zu hN
  clear hN HC3
  go_upto_if 21 with fail
  go_cut [] (fun wx=>Hid (CS P (R+1) R s w wx (rW s q) ci))
  case first=>
   rcases Bool.eq_false_or_eq_true (isP s q 93) with hi | hi
   ·have HP:Hid (rW s q=bh q 3):=zu (by unfold rW;rw [if_pos hi])
    rw [hi]
    clear hi
    go_wp2_with fail
    refine (eb (s:=s) (p:=q) (n:=3) HC4.out.pb).mono ?_
    rintro e w3 ⟨rfl,he,hp⟩
    go_wp2_with fail
    go_meet
    rw [HP.out]
    exact zu (HC4.out.exP he hp)
   ·have HP:Hid (rW s q=q):=zu (by unfold rW;rw [hi];rfl)
    rw [hi]
    clear hi
    go_wp2_with fail
    go_meet
    rw [HP.out]
    exact HC4
  case rest=>
   have HC5:=hcut
   clear hcut HC4
   have hat2:(rW s q).at_≤s.size:=by
    unfold rW
    split
    ·rw [jh];exact hat
    ·exact hat
   generalize hQ2:rW s q=q2 at *
   have HQ2:=zu hQ2
   clear hQ2 hat
   go_wp2_with fail
   go_loopg [] (s.size+1-q2.at_) (fun g wr=>∃(p1:PS) (i1:Ins),Hid (bk s g p1 i1=bk s (s.size+1-q2.at_) q2 ci)∧bG s p1<g∧p1.at_≤s.size∧Hid (CS P (R+1) R s w wr p1 i1))
   case atStart=>
    refine ⟨q2,ci,zu rfl,?_,hat2,HC5⟩
    unfold bG
    split<;>omega
   case round=>
    obtain ⟨p1,i1,HE,hrem,hat1,HC⟩:=hrel
    rcases Bool.eq_false_or_eq_true (!bP s p1&&!isP s p1 93) with hc | hc
    ·obtain ⟨g,rfl⟩:∃g,gk=g+1:=⟨gk-1,by omega⟩
     have HE2:Hid (bk s g (if (eU s p1).1.2<(eU s p1).1.1 then bh (eU s p1).2 3 else (eU s p1).2) (ei i1 (eU s p1).1.1 (eU s p1).1.2)=bk s (s.size+1-q2.at_) q2 ci):=zu (by rw [←ux hc];exact HE.out)
     have hc2:bP s p1=false∧isP s p1 93=false:=by
      revert hc
      cases bP s p1<;>cases isP s p1 93<;>simp
     obtain ⟨h1,h2⟩:=hc2
     have hne:bG s p1≠0:=by
      rw [eB] at h1
      simpa using h1
     clear hc HE
     go_wp2_with fail
     refine (dt (s:=s) (p:=p1) HC.out.pb (by omega) (by omega)).mono ?_
     rintro e w3 ⟨rfl,hb⟩
     have HC6:=zu (HC.out.later hb)
     clear hb
     rw [h1]
     clear h1
     go_wp2_with fail
     refine (cF (s:=s) (p:=p1) (c:=93) HC6.out.pb (by omega) (by omega)).mono ?_
     rintro e w4 ⟨rfl,hb⟩
     have HC7:=zu (HC6.out.later hb)
     clear hb HC6
     rw [h2]
     clear h2
     go_wp2_with fail
     refine (mN (s:=s) (p:=p1) HC7.out.pb (by omega) (by omega)).mono ?_
     rintro e w5 ⟨rfl,he,hp⟩
     have HC8:=zu (HC7.out.exP he hp)
     clear he hp HC7
     have hml:=ed s p1
     have hfl:=pi s p1
     have hatA:=hml.at_ hat1
     have hsp:Hid (eU s p1=if isP s (aQ s p1).2 45&&(decide ((aQ s p1).2.at_+1<s.size)&&decide (ch s ((aQ s p1).2.at_+1)≠93)) then (((aQ s p1).1,(aQ s (aQ s p1).2.step).1),(aQ s (aQ s p1).2.step).2) else (((aQ s p1).1,(aQ s p1).1),(aQ s p1).2)):=zu rfl
     generalize hM:aQ s p1=m at *
     obtain ⟨f,pA⟩:=m
     simp only at hml hfl hatA hsp HC8
     have HM:=zu hM
     clear hM
     have hD:isP s pA 45=false∨isP s pA 45=true∧¬(pA.at_+1<s.size)∨isP s pA 45=true∧pA.at_+1<s.size∧ch s (pA.at_+1)=93∨isP s pA 45=true∧pA.at_+1<s.size∧ch s (pA.at_+1)≠93:=by
      rcases Bool.eq_false_or_eq_true (isP s pA 45) with h | h
      ·by_cases h1:pA.at_+1<s.size
       ·by_cases h2:ch s (pA.at_+1)=93
        ·exact .inr (.inr (.inl ⟨h,h1,h2⟩))
        ·exact .inr (.inr (.inr ⟨h,h1,h2⟩))
       ·exact .inr (.inl ⟨h,h1⟩)
      ·exact .inl h
     go_wp2_with fail
     have k_p:∀(d:Nat) (os:Array Obj) (o:Nat),(Sort.grow (redrawn w5 d) os).cell? ⟨P,o,none⟩=(#[.string s,.int .i64 pA.at_,.int .i64 pA.deep,.int .i64 pA.e]:Array Value)[o]?:=HC8.out.pb.regrown
     rcases hD with h | ⟨h,h1⟩ | ⟨h,h1,h2⟩ | ⟨h,h1,h2⟩
     ·have HI:=zu h
      have hsq:eU s p1=((f,f),pA):=by rw [hsp.out,h];rfl
      clear h
      rw [hsq] at HE2
      simp only [Nat.lt_irrefl,if_false] at HE2
      have HE3:Hid (bk s g pA (ei i1 f f)=bk s (s.size+1-q2.at_) q2 ci):=HE2
      have hrem3:bG s pA<g:=by have:=hml.lt hne;omega
      have hat3:=hatA
      clear hsq hsp HE2
      refine wp_region_quiet_below (by kernel_rfl) (by kernel_rfl) ?_
      repeat (go_big_quiet_step ((go_at_call 230;exact Calls.regrown_of (df HI.out (cF (HC8.out.pb.later (below_regrown _ _ _)) (by omega) (by omega))))))
      refine wpQuiet_nil ?_
      intro w6 hw6
      have hb6:Below w5.heap.size w5 w6:=by obtain ⟨p,rfl⟩:=hw6;exact below_regrown _ _ _
      have HC9:=zu (HC8.out.later hb6)
      clear hw6 hb6 k_p
      go_wp2_with fail
      go_loopw [7] (fun v wr2=>∃k:Nat,k≤f+1-f∧v=.int .i64 ((f:Int)+k)∧Hid (CS P (R+1) R s w wr2 (pA) (eR i1 f k))) (fun v _=>f+1-(intOf v).toNat)
      case atStart=>exact ⟨0,zx _,by simp,(by simpa [eR] using HC9)⟩
      case round=>
       obtain ⟨k,hk,rfl,HK⟩:=hrel
       by_cases hlt:f+k≤f
       ·have hcv:IntKind.u8.wrap ((f:Int)+k)=((f+k:Nat):Int):=by rw [IntKind.wrap_u8];omega
        have hcv2:((f:Int)+k) % 256=((f+k:Nat):Int):=by omega
        go_wp2_with fail
        refine (jm (c:=f+k) HK.out.gb (by omega)).mono ?_
        rintro e w9 ⟨rfl,he,hg⟩
        have HK2:=zu (HK.out.exG he hg)
        clear he hg
        go_wp2_with fail
        go_roundw
        case rel=>exact ⟨k+1,by omega,by go_num,by rw [fl];exact HK2⟩
        case measure=>simp [intOf];omega
       ·have HK2:Hid (CS P (R+1) R s w wr (pA) (ei i1 f f)):=by
         have:k=f+1-f:=by omega
         rw [this] at HK
         exact HK
        go_wp2_with fail
        go_roundg g
        case rel=>exact ⟨_,_,HE3,hrem3,hat3,HK2⟩
        case measure=>omega
     ·have HI:=zu h
      have hsq:eU s p1=((f,f),pA):=by rw [hsp.out,h,decide_eq_false h1];rfl
      clear h
      have h1':decide ((pA.at_:Int)+1<(s.size:Int))=false:=by simp;omega
      rw [hsq] at HE2
      simp only [Nat.lt_irrefl,if_false] at HE2
      have HE3:Hid (bk s g pA (ei i1 f f)=bk s (s.size+1-q2.at_) q2 ci):=HE2
      have hrem3:bG s pA<g:=by have:=hml.lt hne;omega
      have hat3:=hatA
      clear hsq hsp HE2
      refine wp_region_quiet_below (by kernel_rfl) (by kernel_rfl) ?_
      repeat (go_big_quiet_step ((go_at_call 230;exact Calls.regrown_of (df HI.out (cF (HC8.out.pb.later (below_regrown _ _ _)) (by omega) (by omega))))))
      refine wpQuiet_nil ?_
      intro w6 hw6
      have hb6:Below w5.heap.size w5 w6:=by obtain ⟨p,rfl⟩:=hw6;exact below_regrown _ _ _
      have HC9:=zu (HC8.out.later hb6)
      clear hw6 hb6 k_p
      clear h1'
      go_wp2_with fail
      go_loopw [7] (fun v wr2=>∃k:Nat,k≤f+1-f∧v=.int .i64 ((f:Int)+k)∧Hid (CS P (R+1) R s w wr2 (pA) (eR i1 f k))) (fun v _=>f+1-(intOf v).toNat)
      case atStart=>exact ⟨0,zx _,by simp,(by simpa [eR] using HC9)⟩
      case round=>
       obtain ⟨k,hk,rfl,HK⟩:=hrel
       by_cases hlt:f+k≤f
       ·have hcv:IntKind.u8.wrap ((f:Int)+k)=((f+k:Nat):Int):=by rw [IntKind.wrap_u8];omega
        have hcv2:((f:Int)+k) % 256=((f+k:Nat):Int):=by omega
        go_wp2_with fail
        refine (jm (c:=f+k) HK.out.gb (by omega)).mono ?_
        rintro e w9 ⟨rfl,he,hg⟩
        have HK2:=zu (HK.out.exG he hg)
        clear he hg
        go_wp2_with fail
        go_roundw
        case rel=>exact ⟨k+1,by omega,by go_num,by rw [fl];exact HK2⟩
        case measure=>simp [intOf];omega
       ·have HK2:Hid (CS P (R+1) R s w wr (pA) (ei i1 f f)):=by
         have:k=f+1-f:=by omega
         rw [this] at HK
         exact HK
        go_wp2_with fail
        go_roundg g
        case rel=>exact ⟨_,_,HE3,hrem3,hat3,HK2⟩
        case measure=>omega
     ·have HI:=zu h
      have hsq:eU s p1=((f,f),pA):=by rw [hsp.out,h,h2];simp
      clear h
      have hdl:decide ((pA.at_:Int)+1<(s.size:Int))=true:=by simp;omega
      have hix:=fun wx=>yZ h1 h2 wx
      clear h2
      rw [hsq] at HE2
      simp only [Nat.lt_irrefl,if_false] at HE2
      have HE3:Hid (bk s g pA (ei i1 f f)=bk s (s.size+1-q2.at_) q2 ci):=HE2
      have hrem3:bG s pA<g:=by have:=hml.lt hne;omega
      have hat3:=hatA
      clear hsq hsp HE2
      refine wp_region_quiet_below (by kernel_rfl) (by kernel_rfl) ?_
      repeat (go_big_quiet_step ((go_at_call 230;exact Calls.regrown_of (df HI.out (cF (HC8.out.pb.later (below_regrown _ _ _)) (by omega) (by omega))))))
      refine wpQuiet_nil ?_
      intro w6 hw6
      have hb6:Below w5.heap.size w5 w6:=by obtain ⟨p,rfl⟩:=hw6;exact below_regrown _ _ _
      have HC9:=zu (HC8.out.later hb6)
      clear hw6 hb6 k_p
      clear hix hdl
      go_wp2_with fail
      go_loopw [7] (fun v wr2=>∃k:Nat,k≤f+1-f∧v=.int .i64 ((f:Int)+k)∧Hid (CS P (R+1) R s w wr2 (pA) (eR i1 f k))) (fun v _=>f+1-(intOf v).toNat)
      case atStart=>exact ⟨0,zx _,by simp,(by simpa [eR] using HC9)⟩
      case round=>
       obtain ⟨k,hk,rfl,HK⟩:=hrel
       by_cases hlt:f+k≤f
       ·have hcv:IntKind.u8.wrap ((f:Int)+k)=((f+k:Nat):Int):=by rw [IntKind.wrap_u8];omega
        have hcv2:((f:Int)+k) % 256=((f+k:Nat):Int):=by omega
        go_wp2_with fail
        refine (jm (c:=f+k) HK.out.gb (by omega)).mono ?_
        rintro e w9 ⟨rfl,he,hg⟩
        have HK2:=zu (HK.out.exG he hg)
        clear he hg
        go_wp2_with fail
        go_roundw
        case rel=>exact ⟨k+1,by omega,by go_num,by rw [fl];exact HK2⟩
        case measure=>simp [intOf];omega
       ·have HK2:Hid (CS P (R+1) R s w wr (pA) (ei i1 f f)):=by
         have:k=f+1-f:=by omega
         rw [this] at HK
         exact HK
        go_wp2_with fail
        go_roundg g
        case rel=>exact ⟨_,_,HE3,hrem3,hat3,HK2⟩
        case measure=>omega
     ·have HI:=zu h
      have hsq:eU s p1=((f,(aQ s pA.step).1),(aQ s pA.step).2):=by rw [hsp.out,h,decide_eq_true h1,decide_eq_true h2];rfl
      have hfA:=Less.byte h
      clear h
      have hdl:decide ((pA.at_:Int)+1<(s.size:Int))=true:=by simp;omega
      generalize hbb:ch s (pA.at_+1)=bb at *
      have hix:=fun wx=>yZ h1 hbb wx
      have hnk:((bb:Int)==93)=false:=by simp;omega
      have hnk3:((bb:Int) !=93)=true:=by rw [bne,hnk];rfl
      clear h2 hbb
      rw [hsq] at HE2
      have hml2:=ed s pA.step
      have htl:=pi s pA.step
      have hatB:=hfA.at_ hatA
      have hatC:=hml2.at_ hatB
      have hremC:bG s (aQ s pA.step).2<g:=by have h1:=hml2.le;have h2:=hfA.le;have h3:=hml.lt hne;omega
      clear hsq hsp hfA hml2
      refine wp_region_quiet_below (by kernel_rfl) (by kernel_rfl) ?_
      repeat (go_big_quiet_step ((go_at_call 230;exact Calls.regrown_of (df HI.out (cF (HC8.out.pb.later (below_regrown _ _ _)) (by omega) (by omega))))))
      refine wpQuiet_nil ?_
      intro w6 hw6
      have hb6:Below w5.heap.size w5 w6:=by obtain ⟨p,rfl⟩:=hw6;exact below_regrown _ _ _
      have HC9:=zu (HC8.out.later hb6)
      clear hw6 hb6 k_p
      clear hix hnk hnk3 hdl
      have k_p:=HC9.out.cells
      have f_p:=HC9.out.pb.free
      go_wp2_with fail
      have HC10:=zu HC9.out.step
      generalize w6.setCell _ _=w7 at *
      clear k_p f_p
      refine (mN (s:=s) (p:=pA.step) HC10.out.pb (by omega) (by omega)).mono ?_
      rintro e w8 ⟨rfl,he,hp⟩
      have HC11:=zu (HC10.out.exP he hp)
      clear he hp HC10 HC9
      generalize hM2:aQ s pA.step=m at *
      obtain ⟨t,pC⟩:=m
      simp only at htl hatC hremC HC11 HE2
      have HM2:=zu hM2
      clear hM2
      by_cases hgt:t<f
      ·rw [if_pos hgt] at HE2
       have HE3:Hid (bk s g (bh pC 3) (ei i1 f t)=bk s (s.size+1-q2.at_) q2 ci):=HE2
       have hrem3:bG s (bh pC 3)<g:=by rw [ki (by decide)];omega
       have hat3:(bh pC 3).at_≤s.size:=by rw [jh];exact hatC
       clear HE2
       go_wp2_with fail
       refine (eb (s:=s) (p:=pC) (n:=3) HC11.out.pb).mono ?_
       rintro e w12 ⟨rfl,he,hp⟩
       have HC12:=zu (HC11.out.exP he hp)
       clear he hp
       go_wp2_with fail
       go_loopw [7] (fun v wr2=>∃k:Nat,k≤t+1-f∧v=.int .i64 ((f:Int)+k)∧Hid (CS P (R+1) R s w wr2 (bh pC 3) (eR i1 f k))) (fun v _=>t+1-(intOf v).toNat)
       case atStart=>exact ⟨0,zx _,by simp,(by simpa [eR] using HC12)⟩
       case round=>
        obtain ⟨k,hk,rfl,HK⟩:=hrel
        by_cases hlt:f+k≤t
        ·exact absurd hlt (by omega)
        ·have HK2:Hid (CS P (R+1) R s w wr (bh pC 3) (ei i1 f t)):=by
          have:k=t+1-f:=by omega
          rw [this] at HK
          exact HK
         go_wp2_with fail
         go_roundg g
         case rel=>exact ⟨_,_,HE3,hrem3,hat3,HK2⟩
         case measure=>omega
      ·rw [if_neg hgt] at HE2
       have HE3:Hid (bk s g pC (ei i1 f t)=bk s (s.size+1-q2.at_) q2 ci):=HE2
       have hrem3:=hremC
       have hat3:=hatC
       clear HE2
       go_wp2_with fail
       go_loopw [7] (fun v wr2=>∃k:Nat,k≤t+1-f∧v=.int .i64 ((f:Int)+k)∧Hid (CS P (R+1) R s w wr2 (pC) (eR i1 f k))) (fun v _=>t+1-(intOf v).toNat)
       case atStart=>exact ⟨0,zx _,by simp,(by simpa [eR] using HC11)⟩
       case round=>
        obtain ⟨k,hk,rfl,HK⟩:=hrel
        by_cases hlt:f+k≤t
        ·have hcv:IntKind.u8.wrap ((f:Int)+k)=((f+k:Nat):Int):=by rw [IntKind.wrap_u8];omega
         have hcv2:((f:Int)+k) % 256=((f+k:Nat):Int):=by omega
         go_wp2_with fail
         refine (jm (c:=f+k) HK.out.gb (by omega)).mono ?_
         rintro e w9 ⟨rfl,he,hg⟩
         have HK2:=zu (HK.out.exG he hg)
         clear he hg
         go_wp2_with fail
         go_roundw
         case rel=>exact ⟨k+1,by omega,by go_num,by rw [fl];exact HK2⟩
         case measure=>simp [intOf];omega
        ·have HK2:Hid (CS P (R+1) R s w wr (pC) (ei i1 f t)):=by
          have:k=t+1-f:=by omega
          rw [this] at HK
          exact HK
         go_wp2_with fail
         go_roundg g
         case rel=>exact ⟨_,_,HE3,hrem3,hat3,HK2⟩
         case measure=>omega
    ·have HE2:Hid (bk s (s.size+1-q2.at_) q2 ci=(i1,p1)):=zu (by rw [←HE.out,qp hc])
     clear HE
     have hc2:bP s p1=true∨bP s p1=false∧isP s p1 93=true:=by
      revert hc
      cases bP s p1<;>cases isP s p1 93<;>simp
     clear hc
     rcases hc2 with h1 | ⟨h1,h2⟩
     ·go_wp2_with fail
      refine (dt (s:=s) (p:=p1) HC.out.pb (by omega) (by omega)).mono ?_
      rintro e w3 ⟨rfl,hb⟩
      have HC6:=zu (HC.out.later hb)
      clear hb
      rw [h1]
      clear h1
      go_wp2_with fail
      refine (fk (s:=s) (p:=p1) HC6.out.pb (by omega) (by omega)).mono ?_
      rintro e w4 ⟨rfl,he,hp⟩
      have HC7:=zu (HC6.out.exP he hp)
      have HR2:Hid (dV s p=(if nb=true then ry i1 else i1,(aH s p1).2)):=zu (by rw [oA,HQ.out,HQ2.out,HE2.out,HN.out])
      clear he hp HC6
      go_wp2_with fail
      cases nb
      ·go_loopw [90] (fun v wr2=>∃k:Nat,k≤4∧v=.int .i64 k∧Hid (CS P (R+1) R s w wr2 (aH s p1).2 i1)) (fun v _=>4-(intOf v).toNat)
       case atStart=>exact ⟨0,zx _,rfl,HC7⟩
       case round=>
        obtain ⟨k,hk,rfl,HK⟩:=hrel
        by_cases hlt:k<4
        ·go_wp2_with fail
         go_roundw
         case rel=>exact ⟨k+1,by omega,by go_num,HK⟩
         case measure=>simp [intOf];omega
        ·have k_g:∀o,wr.cell? ⟨R+1,o,none⟩=(#[.int .i64 i1.kind,.int .u64 i1.a,.int .u64 i1.b,.int .u64 i1.c,.int .u64 i1.d,.int .i64 i1.x,.int .i64 i1.y]:Array Value)[o]?:=HK.out.gb.cell
         have k_r:=HK.out.rb.cell
         have f_r:=HK.out.rb.free
         go_wp2_with fail
         obtain ⟨x1,x2,x3⟩:=HK.out.put (.int .i64 i1.kind) (.int .u64 i1.a) (.int .u64 i1.b) (.int .u64 i1.c) (.int .u64 i1.d) (.int .i64 i1.x) (.int .i64 i1.y)
         refine bodyPost_ret (sd rfl rfl x3 rfl) rfl ?_
         rw [HR2.out]
         exact ⟨rfl,x1,x2⟩
      ·go_loopw [90] (fun v wr2=>∃k:Nat,k≤4∧v=.int .i64 k∧Hid (CS P (R+1) R s w wr2 (aH s p1).2 (bI i1 k))) (fun v _=>4-(intOf v).toNat)
       case atStart=>exact ⟨0,zx _,rfl,HC7⟩
       case round=>
        obtain ⟨k,hk,rfl,HK⟩:=hrel
        have k_g:∀o,wr.cell? ⟨R+1,o,none⟩=(#[.int .i64 i1.kind,.int .u64 (bI i1 k).a,.int .u64 (bI i1 k).b,.int .u64 (bI i1 k).c,.int .u64 (bI i1 k).d,.int .i64 i1.x,.int .i64 i1.y]:Array Value)[o]?:=HK.out.gb.cell
        have f_g:=HK.out.gb.free
        have hk5:k=0∨k=1∨k=2∨k=3∨k=4:=by omega
        rcases hk5 with rfl | rfl | rfl | rfl | rfl
        ·go_wp2_with fail
         refine ⟨⟨1,by omega,rfl,zu (HK.out.setG 1 _ (by simp [inA,bI];rfl))⟩,by simp [intOf]⟩
        ·go_wp2_with fail
         refine ⟨⟨2,by omega,rfl,zu (HK.out.setG 2 _ (by simp [inA,bI];rfl))⟩,by simp [intOf]⟩
        ·go_wp2_with fail
         refine ⟨⟨3,by omega,rfl,zu (HK.out.setG 3 _ (by simp [inA,bI];rfl))⟩,by simp [intOf]⟩
        ·go_wp2_with fail
         refine ⟨⟨4,by omega,rfl,zu (HK.out.setG 4 _ (by simp [inA,bI];rfl))⟩,by simp [intOf]⟩
        ·have k_r:=HK.out.rb.cell
         have f_r:=HK.out.rb.free
         go_wp2_with fail
         obtain ⟨x1,x2,x3⟩:=HK.out.put (.int .i64 i1.kind) (.int .u64 (bI i1 4).a) (.int .u64 (bI i1 4).b) (.int .u64 (bI i1 4).c) (.int .u64 (bI i1 4).d) (.int .i64 i1.x) (.int .i64 i1.y)
         refine bodyPost_ret (sd rfl rfl x3 rfl) rfl ?_
         rw [HR2.out]
         exact ⟨rfl,x1,x2⟩
     ·go_wp2_with fail
      refine (dt (s:=s) (p:=p1) HC.out.pb (by omega) (by omega)).mono ?_
      rintro e w3 ⟨rfl,hb⟩
      have HC5a:=zu (HC.out.later hb)
      clear hb
      rw [h1]
      clear h1
      go_wp2_with fail
      refine (cF (s:=s) (p:=p1) (c:=93) HC5a.out.pb (by omega) (by omega)).mono ?_
      rintro e w3 ⟨rfl,hb⟩
      have HC6:=zu (HC5a.out.later hb)
      clear hb HC5a
      rw [h2]
      clear h2
      go_wp2_with fail
      refine (fk (s:=s) (p:=p1) HC6.out.pb (by omega) (by omega)).mono ?_
      rintro e w4 ⟨rfl,he,hp⟩
      have HC7:=zu (HC6.out.exP he hp)
      have HR2:Hid (dV s p=(if nb=true then ry i1 else i1,(aH s p1).2)):=zu (by rw [oA,HQ.out,HQ2.out,HE2.out,HN.out])
      clear he hp HC6
      go_wp2_with fail
      cases nb
      ·go_loopw [90] (fun v wr2=>∃k:Nat,k≤4∧v=.int .i64 k∧Hid (CS P (R+1) R s w wr2 (aH s p1).2 i1)) (fun v _=>4-(intOf v).toNat)
       case atStart=>exact ⟨0,zx _,rfl,HC7⟩
       case round=>
        obtain ⟨k,hk,rfl,HK⟩:=hrel
        by_cases hlt:k<4
        ·go_wp2_with fail
         go_roundw
         case rel=>exact ⟨k+1,by omega,by go_num,HK⟩
         case measure=>simp [intOf];omega
        ·have k_g:∀o,wr.cell? ⟨R+1,o,none⟩=(#[.int .i64 i1.kind,.int .u64 i1.a,.int .u64 i1.b,.int .u64 i1.c,.int .u64 i1.d,.int .i64 i1.x,.int .i64 i1.y]:Array Value)[o]?:=HK.out.gb.cell
         have k_r:=HK.out.rb.cell
         have f_r:=HK.out.rb.free
         go_wp2_with fail
         obtain ⟨x1,x2,x3⟩:=HK.out.put (.int .i64 i1.kind) (.int .u64 i1.a) (.int .u64 i1.b) (.int .u64 i1.c) (.int .u64 i1.d) (.int .i64 i1.x) (.int .i64 i1.y)
         refine bodyPost_ret (sd rfl rfl x3 rfl) rfl ?_
         rw [HR2.out]
         exact ⟨rfl,x1,x2⟩
      ·go_loopw [90] (fun v wr2=>∃k:Nat,k≤4∧v=.int .i64 k∧Hid (CS P (R+1) R s w wr2 (aH s p1).2 (bI i1 k))) (fun v _=>4-(intOf v).toNat)
       case atStart=>exact ⟨0,zx _,rfl,HC7⟩
       case round=>
        obtain ⟨k,hk,rfl,HK⟩:=hrel
        have k_g:∀o,wr.cell? ⟨R+1,o,none⟩=(#[.int .i64 i1.kind,.int .u64 (bI i1 k).a,.int .u64 (bI i1 k).b,.int .u64 (bI i1 k).c,.int .u64 (bI i1 k).d,.int .i64 i1.x,.int .i64 i1.y]:Array Value)[o]?:=HK.out.gb.cell
        have f_g:=HK.out.gb.free
        have hk5:k=0∨k=1∨k=2∨k=3∨k=4:=by omega
        rcases hk5 with rfl | rfl | rfl | rfl | rfl
        ·go_wp2_with fail
         refine ⟨⟨1,by omega,rfl,zu (HK.out.setG 1 _ (by simp [inA,bI];rfl))⟩,by simp [intOf]⟩
        ·go_wp2_with fail
         refine ⟨⟨2,by omega,rfl,zu (HK.out.setG 2 _ (by simp [inA,bI];rfl))⟩,by simp [intOf]⟩
        ·go_wp2_with fail
         refine ⟨⟨3,by omega,rfl,zu (HK.out.setG 3 _ (by simp [inA,bI];rfl))⟩,by simp [intOf]⟩
        ·go_wp2_with fail
         refine ⟨⟨4,by omega,rfl,zu (HK.out.setG 4 _ (by simp [inA,bI];rfl))⟩,by simp [intOf]⟩
        ·have k_r:=HK.out.rb.cell
         have f_r:=HK.out.rb.free
         go_wp2_with fail
         obtain ⟨x1,x2,x3⟩:=HK.out.put (.int .i64 i1.kind) (.int .u64 (bI i1 4).a) (.int .u64 (bI i1 4).b) (.int .u64 (bI i1 4).c) (.int .u64 (bI i1 4).d) (.int .i64 i1.x) (.int .i64 i1.y)
         refine bodyPost_ret (sd rfl rfl x3 rfl) rfl ?_
         rw [HR2.out]
         exact ⟨rfl,x1,x2⟩
def ij (n:Nat) (s:ByteArray) (p:PS):List Ins × PS:=qS s n p
def rowF (n:Nat) (s:ByteArray) (p:PS):List Ins × PS:=jv s n p []
def ef (n:Nat) (s:ByteArray) (p:PS):List Ins × PS:=eQ s n p
def fH (n:Nat) (s:ByteArray) (p:PS):List Ins × PS:=fI s n p
def PE (P:Nat) (s:ByteArray) (w w':World) (r:List Ins × PS) (e:Ending):Prop:=
 (∃A c,e=.returned (.slice A r.1.length c)∧am ft 266 w' w.heap.size 0 (.slice A r.1.length c) r.1)∧Exc P w w'∧Blk w' P (psA s r.2)
structure OkP (s:ByteArray) (p:PS):Prop where
 at_:p.at_≤s.size
 deep:p.deep≤20
def fE (F:FuncId) (f:ByteArray→PS→List Ins × PS) (s:ByteArray) (ok:PS→Prop):Prop:=
 ∀(w:World) (P:Nat) (p:PS),Blk w P (psA s p)→OkP s p→ok p→Calls Tryz.prog F #[.pointer (some ⟨P,0,none⟩)] w fun e w'=>PE P s w w' (f s p) e
theorem OkP.less {s:ByteArray} {d:Nat} {p q:PS} (h:OkP s p) (k:Less s d p q):OkP s q:=⟨k.at_ h.at_,by rw [k.deep];exact h.deep⟩
theorem km {s:ByteArray} {d:Nat} {p:PS} {r:List Ins × PS} (h:Made s d p r) (hs:s.size≤1000):r.1.length≤2000:=by
 have:=h.len
 have:=jM s p
 omega
theorem nN {w w':World} {base P:Nat} {v:Value} {xs:List Ins} (h:am ft 266 w base 0 v xs) (he:Exc P w w') (hP:P<base):am ft 266 w' base 0 v xs:=h.exc he hP
theorem ends_of {s:ByteArray} {p:PS} {c:Nat} (h:isP s p c=true):bG s p≠0:=by
 have:=ll h
 rw [eB] at this
 simpa using this
theorem pq {s:ByteArray} (hs:s.size≤1000) (n m:Nat) (hrow:fE 229 (rowF n) s (fun p=>bG s p≤m)) (hpat:fE 221 (ij n) s (fun p=>bG s p<m)) :
 fE 221 (ij (n+1)) s (fun p=>bG s p≤m):=by
 intro w P p hb hok hm
 have hlt:=hb.lt
 have HOK:=zu hok
 have HB:=zu hb
 have HROW:=zu hrow
 have HPAT:=zu hpat
 clear hb hok hrow hpat
 go_enter Tryz.func221,Tryz.ntmps221
 go_wp2_with fail
 refine (HROW.out w P p HB.out HOK.out hm).mono ?_
 rintro e w1 ⟨⟨A,c,rfl,ho⟩,he,hb⟩
 have HR:Hid (Less s 0 p (rowF n s p).2∧(rowF n s p).1.length+2*bG s (rowF n s p).2≤0+2*bG s p):=zu (yi s n p [])
 have hl1:(rowF n s p).1.length≤2000:=by have:=HR.out.2;have:=jM s p;omega
 have HX:Hid (ij (n+1) s p=if isP s (rowF n s p).2 124=true then (hJ (rowF n s p).1 (ij n s (rowF n s p).2.step).1,(ij n s (rowF n s p).2.step).2) else rowF n s p):=zu rfl
 generalize rowF n s p=r at *
 obtain ⟨l1,q⟩:=r
 simp only at ho hb hl1 HX
 have HO1:=zu ho
 have HE1:=zu he
 have HB1:=zu hb
 have HOK1:Hid (OkP s q):=zu (HOK.out.less HR.out.1)
 have hq:=HOK1.out.at_
 have hle:bG s q≤bG s p:=HR.out.1.le
 clear ho he hb HR
 go_wp2_with fail
 refine (cF (s:=s) (p:=q) (c:=124) HB1.out (by omega) (by omega)).mono ?_
 rintro e w2 ⟨rfl,hb⟩
 have hle2:=HE1.out.1.size
 have HB2:=zu (HB1.out.later hb)
 have HE2:=zu (HE1.out.then (Nat.le_of_lt hlt) hb)
 have HO2:=zu (HO1.out.later hb (zx _))
 have hlt2:P<w2.heap.size:=by have:=HE2.out.1.size;omega
 clear hb HB1 HO1 HE1
 rcases Bool.eq_false_or_eq_true (isP s q 124) with hi | hi
 ·have hst:=Less.byte hi
  have hrem:bG s q.step<m:=by have:=hst.lt (ends_of hi);omega
  have HOK3:Hid (OkP s q.step):=zu (HOK1.out.less hst)
  rw [hi,if_pos rfl] at HX
  rw [hi]
  clear hi hst
  have k_p:∀o,w2.cell? ⟨P,o,none⟩=(#[.string s,.int .i64 q.at_,.int .i64 q.deep,.int .i64 q.e]:Array Value)[o]?:=HB2.out.cell
  have f_p:=HB2.out.free
  go_wp2_with fail
  have HB3:=zu (stepped HB2.out)
  have HE3:=zu (HE2.out.set 1 (.int .i64 ((q.at_:Int)+1)))
  have HO3:=zu (HO2.out.far (c:=P) (i:=1) hlt (zx _) (.int .i64 ((q.at_:Int)+1)))
  generalize w2.setCell _ _=w3 at *
  clear k_p f_p HB2 HE2 HO2
  refine (HPAT.out w3 P q.step HB3.out HOK3.out hrem).mono ?_
  rintro e w4 ⟨⟨A2,c2,rfl,ho⟩,he,hb⟩
  have hl2:(ij n s q.step).1.length≤2000:=km (iO s n q.step) hs
  generalize ij n s q.step=r at *
  obtain ⟨l2,q2⟩:=r
  simp only at ho hl2 hb HX ⊢
  have hsz3:=HE3.out.1.size
  have HO4:=zu (nN HO3.out he hlt)
  have HS4:=zu ho
  have HB4:=zu hb
  have HE4:=zu (HE3.out.trans he)
  have hsz4:=he.1.size
  clear ho he hb HO3 HE3 HB3
  go_wp2_with fail
  refine (sK (B:=w4.heap.size) (HO4.out.rows (by omega)) (HS4.out.rows (by omega)) (zw _) (by omega) (by omega)).mono ?_
  rintro e w5 ⟨⟨A3,c3,rfl,ho⟩,hb⟩
  have HE5:=zu (HE4.out.then (Nat.le_of_lt hlt) hb)
  have HB5:=zu (HB4.out.later hb)
  have HO5:=zu (ho.low (b0:=w.heap.size) (by have:=HE4.out.1.size;omega))
  clear ho hb
  go_wp2_with fail
  go_ret
  rw [HX.out]
  exact ⟨⟨A3,c3,rfl,HO5.out⟩,HE5.out,HB5.out⟩
 ·rw [hi,if_neg (by simp)] at HX
  rw [hi]
  clear hi
  go_wp2_with fail
  go_ret
  rw [HX.out]
  exact ⟨⟨A,c,rfl,HO2.out⟩,HE2.out,HB2.out⟩
def iC (n:Nat) (s:ByteArray) (p:PS):List Ins × PS:=
 if p.deep=20 then ([],bh p 4)
 else
  let q:=ij n s ⟨p.at_,p.deep+1,p.e⟩
  let z:=aH s q.2
  let f:=if z.1≠41 then bh z.2 3 else z.2
  (q.1,⟨f.at_,f.deep-1,f.e⟩)
theorem sS {s:ByteArray} (hs:s.size≤1000) (n m:Nat) (hpat:fE 221 (ij n) s (fun p=>bG s p≤m)) :
 fE 238 (iC n) s (fun p=>bG s p≤m):=by
 intro w P p hb hok hm
 have hlt:=hb.lt
 have HOK:=zu hok
 have HB:=zu hb
 have HPAT:=zu hpat
 have hat:=hok.at_
 have hdp:=hok.deep
 clear hb hok hpat
 by_cases h20:p.deep=20
 ·have HX:Hid (iC n s p=([],bh p 4)):=zu (by unfold iC;rw [if_pos h20])
  have k_p:∀o,w.cell? ⟨P,o,none⟩=(#[.string s,.int .i64 p.at_,.int .i64 p.deep,.int .i64 p.e]:Array Value)[o]?:=HB.out.cell
  have hq:((p.deep:Int)==20)=true:=by simp;omega
  clear h20
  go_enter Tryz.func238,Tryz.ntmps238
  go_wp2_with fail
  refine (eb (s:=s) (p:=p) (n:=4) HB.out).mono ?_
  rintro e w1 ⟨rfl,he,hb⟩
  have HE:=zu he
  have HB1:=zu hb
  clear he hb k_p
  go_wp2_with fail
  go_ret
  rw [HX.out]
  exact ⟨⟨none,0,rfl,am.nil _ _ _ _ _⟩,HE.out,HB1.out⟩
 ·have HX:Hid (iC n s p=((ij n s ⟨p.at_,p.deep+1,p.e⟩).1,⟨(if (aH s (ij n s ⟨p.at_,p.deep+1,p.e⟩).2).1≠41 then bh (aH s (ij n s ⟨p.at_,p.deep+1,p.e⟩).2).2 3 else (aH s (ij n s ⟨p.at_,p.deep+1,p.e⟩).2).2).at_,(if (aH s (ij n s ⟨p.at_,p.deep+1,p.e⟩).2).1≠41 then bh (aH s (ij n s ⟨p.at_,p.deep+1,p.e⟩).2).2 3 else (aH s (ij n s ⟨p.at_,p.deep+1,p.e⟩).2).2).deep-1,(if (aH s (ij n s ⟨p.at_,p.deep+1,p.e⟩).2).1≠41 then bh (aH s (ij n s ⟨p.at_,p.deep+1,p.e⟩).2).2 3 else (aH s (ij n s ⟨p.at_,p.deep+1,p.e⟩).2).2).e⟩)):=zu (by unfold iC;rw [if_neg h20])
  have k_p:∀o,w.cell? ⟨P,o,none⟩=(#[.string s,.int .i64 p.at_,.int .i64 p.deep,.int .i64 p.e]:Array Value)[o]?:=HB.out.cell
  have f_p:=HB.out.free
  have hq:((p.deep:Int)==20)=false:=by simp;omega
  have hwd:wrap64 ((p.deep:Int)+1)=(p.deep:Int)+1:=jA (by omega) (by omega)
  have hdp2:p.deep<20:=by omega
  clear h20
  go_enter Tryz.func238,Tryz.ntmps238
  go_wp2_with fail
  have HB1:Hid (Blk (w.setCell ⟨P,2,none⟩ (.int .i64 ((p.deep:Int)+1))) P (psA s ⟨p.at_,p.deep+1,p.e⟩)):=zu (HB.out.set_ 2 _)
  have HE1:=zu ((Exc.refl P w).set 2 (.int .i64 ((p.deep:Int)+1)))
  generalize w.setCell _ _=w1 at *
  clear k_p f_p hq hwd
  refine (HPAT.out w1 P ⟨p.at_,p.deep+1,p.e⟩ HB1.out ⟨hat,hdp2⟩ hm).mono ?_
  rintro e w2 ⟨⟨A,c,rfl,ho⟩,he,hb⟩
  have HM:Hid (Made s 0 ⟨p.at_,p.deep+1,p.e⟩ (ij n s ⟨p.at_,p.deep+1,p.e⟩)):=zu (iO s n _)
  generalize ij n s ⟨p.at_,p.deep+1,p.e⟩=r at *
  obtain ⟨l,q⟩:=r
  simp only at ho hb HX
  have hdq:q.deep=p.deep+1:=HM.out.less.deep
  have hatq:q.at_≤s.size:=HM.out.less.at_ hat
  have HB2:=zu hb
  have HE2:=zu (HE1.out.trans he)
  have HO2:=zu (ho.low (b0:=w.heap.size) HE1.out.1.size)
  clear ho hb he HB1 HE1 HM
  go_wp2_with fail
  refine (fk (s:=s) (p:=q) HB2.out (by omega) (by omega)).mono ?_
  rintro e w3 ⟨rfl,he,hb⟩
  have hnl:=cN s q
  have hdz:(aH s q).2.deep=q.deep:=hnl.deep
  have HB3:=zu hb
  have HE3:=zu (HE2.out.trans he)
  have HO3:=zu (nN HO2.out he hlt)
  clear hb he HB2 HE2 HO2 hnl
  generalize aH s q=z at *
  obtain ⟨c1,z⟩:=z
  simp only at hdz HB3 HX
  by_cases h41:c1=41
  ·have hq:((c1:Int) !=41)=false:=by rw [h41];rfl
   rw [if_neg (by simp [h41])] at HX
   have hdz1:(z.deep:Int)-1=((z.deep-1:Nat):Int):=by omega
   have hwd:wrap64 (((z.deep-1:Nat):Int))=((z.deep-1:Nat):Int):=jA (by omega) (by omega)
   have k_p:∀o,w3.cell? ⟨P,o,none⟩=(#[.string s,.int .i64 z.at_,.int .i64 z.deep,.int .i64 z.e]:Array Value)[o]?:=HB3.out.cell
   have f_p:=HB3.out.free
   clear h41 hdq hdz
   go_wp2_with fail
   go_ret
   rw [HX.out]
   exact ⟨⟨A,c,rfl,HO3.out.far hlt (zx _) _⟩,HE3.out.set 2 _,HB3.out.set_ 2 _⟩
  ·have hq:((c1:Int) !=41)=true:=by simp;omega
   rw [if_pos h41] at HX
   clear h41
   go_wp2_with fail
   refine (eb (s:=s) (p:=z) (n:=3) HB3.out).mono ?_
   rintro e w4 ⟨rfl,he,hb⟩
   have HB4:=zu hb
   have HE4:=zu (HE3.out.trans he)
   have HO4:=zu (nN HO3.out he hlt)
   have hdz2:(bh z 3).deep=z.deep:=kQ _ _
   clear hb he HB3 HE3 HO3 hq
   generalize bh z 3=y at *
   have hdz1:(y.deep:Int)-1=((y.deep-1:Nat):Int):=by omega
   have hwd:wrap64 (((y.deep-1:Nat):Int))=((y.deep-1:Nat):Int):=jA (by omega) (by omega)
   have k_p:∀o,w4.cell? ⟨P,o,none⟩=(#[.string s,.int .i64 y.at_,.int .i64 y.deep,.int .i64 y.e]:Array Value)[o]?:=HB4.out.cell
   have f_p:=HB4.out.free
   clear hdz2 hdz hdq
   go_wp2_with fail
   go_ret
   rw [HX.out]
   exact ⟨⟨A,c,rfl,HO4.out.far hlt (zx _) _⟩,HE4.out.set 2 _,HB4.out.set_ 2 _⟩
end Go.Proofs.YtjpndglegpcdnaaGreat
