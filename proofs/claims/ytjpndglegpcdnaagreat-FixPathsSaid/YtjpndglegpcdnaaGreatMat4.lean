/- match.fits (a part of a text), Find. -/
import Derived.Test.YtjpndglegpcdnaaGreatReg7
import Derived.RegionTactic
import Derived.Deep.Cut
import Derived.Deep.CutRange
import Derived.Deep.LoopGhost
import Derived.Test.YtjpndglegpcdnaaGreatMat3
set_option linter.unusedVariables false
set_option linter.unusedSimpArgs false
set_option maxRecDepth 100000
set_option maxHeartbeats 8000000
namespace Go.Proofs.YtjpndglegpcdnaaGreat
open Go.ChangeShapes Go.WideShapes Go.ChangeAt Go.RowKit
theorem uV {s:ByteArray} {n:Nat} {p:PS} {out:List Ins} (h:(!bK s p&&(!isP s p 124&&!isP s p 41))=false):jh s n p out=(out,p):=by
 cases n with
 | zero=>rfl
 | succ n=>unfold jh;rw [h];rfl
theorem rowR_go {s:ByteArray} {n:Nat} {p:PS} {out:List Ins} (h:(!bK s p&&(!isP s p 124&&!isP s p 41))=true):jh s (n+1) p out=jh s n (dR n s p).2 (out++aH (dR n s p).1 out.length):=by
 show (if (!bK s p&&(!isP s p 124&&!isP s p 41))=true then _ else _)=_
 rw [h]
 rfl
theorem xi {s:ByteArray} (hs:s.size≤1000) (n m:Nat) (hn:4*m+1≤n) (hpc:∀r,r≤m→∀g,4*r≤g→1≤r→fq 234 (dR g) s (fun p=>bz s p≤r∧bz s p≠0)) :
 fq 229 (rowF n) s (fun p=>bz s p≤m):=by
 obtain ⟨i0,hi0,hz0,hz1,hz2⟩:=info_parts ow
 intro w P p hb hok hm
 have hlt:=hb.lt
 have HB:=ym hb
 have HPC:=ym hpc
 have HOK:=ym hok
 have hrs:=jA s p
 clear hb hok hpc
 go_enter Tryz.func229,Tryz.ntmps229
 go_wp2_with fail
 go_loopg [3] n (fun g v3 wr=>∃(p1:PS) (out:List Ins) (A:Option Addr) (L c:Nat),v3=.slice A L c∧Hid (out.length=L)∧Hid (jh s g p1 out=rowF n s p)∧4*bz s p1+1≤g∧bz s p1≤m∧Hid (OkP s p1)∧L+2*bz s p1≤2000∧Hid (PSt P s w wr p1 out (.slice A L c)))
 case atStart=>exact ⟨p,[],none,0,0,rfl,ym rfl,ym rfl,by omega,hm,HOK,by omega,ym ⟨HB.out,Exc.refl _ _,am.nil _ _ _ _ _,hlt⟩⟩
 case round=>
  obtain ⟨p1,out,A,L,c,rfl,HL,HE,hg,hr1,HOK1,hlen,HS⟩:=hrel
  have hat1:=HOK1.out.at_
  rcases Bool.eq_false_or_eq_true (!bK s p1&&(!isP s p1 124&&!isP s p1 41)) with hc | hc
  ·obtain ⟨g,rfl⟩:∃g,gk=g+1:=⟨gk-1,by omega⟩
   have HE2:Hid (jh s g (dR g s p1).2 (out++aH (dR g s p1).1 L)=rowF n s p):=ym (by rw [←HE.out,rowR_go hc,HL.out])
   have hc2:bK s p1=false∧isP s p1 124=false∧isP s p1 41=false:=by
    revert hc
    cases bK s p1<;>cases isP s p1 124<;>cases isP s p1 41<;>simp
   obtain ⟨h1,h2,h3⟩:=hc2
   have hne:bz s p1≠0:=by
    rw [ej] at h1
    simpa using h1
   clear hc HE
   go_wp2_with fail
   refine (di (s:=s) (p:=p1) HS.out.pb (by omega) (by omega)).mono ?_
   rintro e w3 ⟨rfl,hb⟩
   have HS3:=ym (HS.out.later hb)
   clear hb
   rw [h1]
   clear h1
   go_wp2_with fail
   refine (cF (s:=s) (p:=p1) (c:=124) HS3.out.pb (by omega) (by omega)).mono ?_
   rintro e w4 ⟨rfl,hb⟩
   have HS4:=ym (HS3.out.later hb)
   clear hb HS3
   rw [h2]
   clear h2
   go_wp2_with fail
   refine (cF (s:=s) (p:=p1) (c:=41) HS4.out.pb (by omega) (by omega)).mono ?_
   rintro e w5 ⟨rfl,hb⟩
   have HS5:=ym (HS4.out.later hb)
   clear hb HS4
   rw [h3]
   clear h3
   go_wp2_with fail
   refine (HPC.out (bz s p1) hr1 g (by omega) (by omega) w5 P p1 HS5.out.pb HOK1.out ⟨yo _,hne⟩).mono ?_
   rintro e w6 ⟨⟨A2,c2,rfl,ho⟩,he,hb⟩
   have hmd:Made s 1 p1 (dR g s p1):=sx s g p1 hne (by omega)
   have hok2:=HOK1.out.less hmd.less
   have hrem2:=hmd.one hne
   have hlen2:=hmd.len
   have hl2:=jZ hmd hs
   generalize dR g s p1=r at *
   obtain ⟨l,q⟩:=r
   simp only at ho hb hok2 hrem2 hlen2 hl2 HE2
   have HS6:=ym (PSt.mk (l:=out) hb (HS5.out.ex.trans he) (nr HS5.out.own he hlt) hlt)
   have HO6:=ym (ho.rows (by omega))
   have HOK6:=ym hok2
   generalize hL2:l.length=L2 at *
   have HL2:=ym hL2
   clear ho he hb hmd hok2 hL2 HS5
   go_wp2_with fail
   refine (qc (B:=w6.heap.size) (c:=c2) (k0:=L) HL2.out HO6.out (yo _) (by omega)).mono ?_
   rintro e w7 ⟨⟨A3,c3,rfl,ho⟩,hb⟩
   have HS7:=ym (HS6.out.later hb)
   have HM7:=ym ho.srcn
   have hle7:=HS7.out.ex.1.size
   clear ho hb HS6
   go_wp2_with ((
    at_builtin
    refine aq (R:=ff) (e:=266) (base:=w.heap.size) (B:=0) (xs:=out) (ys:=aH l L) rfl (.tmp 20) (.tmp 25) 248 rfl (bytes:=56) Tryz.underlying248 hi0 hz0 hz1 hz2 rfl (show 0<7 by omega) cN rfl HS7.out.own rfl HM7.out ((ah l L).trans HL2.out).symm (yp _) (by rw [ah,HL2.out,HL.out];omega) (by omega) (hle7) ?_
    intro v w8 hown hb
    obtain ⟨A4,c4,rfl⟩:=hown.form' (show _=L+L2 by rw [yv,ah,HL2.out,HL.out])
    have HOW:=ym hown
    have HBW:=ym hb
    clear hown hb))
   go_roundg g
   case rel=>exact ⟨q,out++aH l L,A4,L+L2,c4,rfl,ym (by rw [yv,ah,HL2.out,HL.out]),HE2,by omega,by omega,HOK6,by omega,ym (HS7.out.to HBW.out HOW.out)⟩
   case measure=>omega
  ·have HX:Hid (rowF n s p=(out,p1)):=ym (by rw [←HE.out,uV hc])
   have hc2:bK s p1=true∨bK s p1=false∧isP s p1 124=true∨bK s p1=false∧isP s p1 124=false∧isP s p1 41=true:=by
    revert hc
    cases bK s p1<;>cases isP s p1 124<;>cases isP s p1 41<;>simp
   clear hc HE
   rcases hc2 with h1 | ⟨h1,h2⟩ | ⟨h1,h2,h3⟩
   all_goals
    go_wp2_with fail
    refine (di (s:=s) (p:=p1) HS.out.pb (by omega) (by omega)).mono ?_
    rintro e w3 ⟨rfl,hb⟩
    have HS3:=ym (HS.out.later hb)
    clear hb
    rw [h1]
    clear h1
    go_wp2_with fail
   ·go_ret
    rw [HX.out]
    exact HS3.out.pe
   ·refine (cF (s:=s) (p:=p1) (c:=124) HS3.out.pb (by omega) (by omega)).mono ?_
    rintro e w4 ⟨rfl,hb⟩
    have HS4:=ym (HS3.out.later hb)
    clear hb HS3
    rw [h2]
    clear h2
    go_wp2_with fail
    go_ret
    rw [HX.out]
    exact HS4.out.pe
   ·refine (cF (s:=s) (p:=p1) (c:=124) HS3.out.pb (by omega) (by omega)).mono ?_
    rintro e w4 ⟨rfl,hb⟩
    have HS4:=ym (HS3.out.later hb)
    clear hb HS3
    rw [h2]
    clear h2
    go_wp2_with fail
    refine (cF (s:=s) (p:=p1) (c:=41) HS4.out.pb (by omega) (by omega)).mono ?_
    rintro e w5 ⟨rfl,hb⟩
    have HS5:=ym (HS4.out.later hb)
    clear hb HS4
    rw [h3]
    clear h3
    go_wp2_with fail
    go_ret
    rw [HX.out]
    exact HS5.out.pe
theorem fq.mono {F:FuncId} {f:ByteArray→PS→List Ins × PS} {s:ByteArray} {ok ok':PS→Prop} (h:fq F f s ok) (hi:∀p,ok' p→ok p):fq F f s ok':=fun w P p hb hok hp=>h w P p hb hok (hi p hp)
theorem uE {s:ByteArray} (hs:s.size≤1000) (r:Nat) (h:∀r',r'<r→∀n,4*r'+2≤n→fq 221 (gZ n) s (fun p=>bz s p≤r')) (g:Nat) (hg:4*r≤g) (hr:1≤r):fq 234 (dR g) s (fun p=>bz s p≤r∧bz s p≠0):=by
 obtain ⟨n,rfl⟩:∃n,g=n+1+1:=⟨g-2,by omega⟩
 have hp:=h (r-1) (by omega) n (by omega)
 have hg:=rW hs n (r-1) hp
 have ha:=tk hs n r (hg.mono fun p hp=>by omega)
 exact sy hs (n+1) r (by omega) ha
theorem qj {s:ByteArray} (hs:s.size≤1000) (m:Nat):∀n,4*m+2≤n→fq 221 (gZ n) s (fun p=>bz s p≤m):=by
 induction m using Nat.strongRecOn with
 | _ m ih=>
   intro n hn
   obtain ⟨k,rfl⟩:∃k,n=k+1:=⟨n-1,by omega⟩
   have hrow:=xi hs k m (by omega) fun r hr g hg h1=>uE hs r (fun r' hr'=>ih r' (by omega)) g hg h1
   refine oP hs k m hrow ?_
   cases m with
   | zero=>exact fun w P p _ _ hp=>absurd hp (by omega)
   | succ m=>exact (ih m (by omega) k (by omega)).mono fun p hp=>by omega
def CompE (w w':World) (r:List Ins × Int) (e:Ending):Prop:=
 (∃A c,e=.returned (.tuple #[.slice A r.1.length c,.int .i64 r.2])∧am ff 266 w' w.heap.size 0 (.slice A r.1.length c) r.1)∧Below w.heap.size w w'
theorem pJ {w:World} {s:ByteArray} (hs:s.size≤140737488351232) :
 Calls Tryz.prog 215 #[.string s] w fun e w'=>CompE w w' (dN s) e:=by
 obtain ⟨i0,hi0,hz0,hz1,hz2⟩:=info_parts ow
 by_cases h256:256<s.size
 ·have HX:Hid (dN s=([],4)):=ym (by unfold dN;rw [if_pos h256])
  go_enter Tryz.func215,Tryz.ntmps215
  go_wp2_with fail
  go_ret2
  rw [HX.out]
  exact ⟨⟨none,0,rfl,am.nil _ _ _ _ _⟩,yq _ _⟩
 ·have HX:Hid (dN s=if (xN s (gZ (fi s.size) s ⟨0,0,0⟩).2).e=0 then ((gZ (fi s.size) s ⟨0,0,0⟩).1++[pM],0) else ([],(xN s (gZ (fi s.size) s ⟨0,0,0⟩).2).e)):=ym (by unfold dN gZ;rw [if_neg h256])
  have HPA:=ym (qj (s:=s) (by omega) s.size (fi s.size) (by unfold fi;omega))
  go_enter Tryz.func215,Tryz.ntmps215
  go_wp2_with fail
  generalize hW:World.alloc _ _=w1
  obtain ⟨hb,hz⟩:=al1 hW
  have HB1:Hid (Blk w1 w.heap.size (psA s ⟨0,0,0⟩)):=ym (n11 hW)
  have HBB:=ym hb
  clear hW hz hb
  refine (HPA.out w1 w.heap.size ⟨0,0,0⟩ HB1.out ⟨yp _,yp _⟩ (jA _ _)).mono ?_
  rintro e w2 ⟨⟨A,c,rfl,ho⟩,he,hb⟩
  have hmd:Made s 0 ⟨0,0,0⟩ (gZ (fi s.size) s ⟨0,0,0⟩):=iD s _ _
  have hl:=jZ hmd (by omega)
  have hat:(gZ (fi s.size) s ⟨0,0,0⟩).2.at_≤s.size:=hmd.less.at_ (yp _)
  generalize gZ (fi s.size) s ⟨0,0,0⟩=r at *
  obtain ⟨l,q⟩:=r
  simp only at ho hb hl hat HX
  have HB2:=ym hb
  have HE2:Hid (Below w.heap.size w w2):=ym (HBB.out.trans he.1)
  have HO2:=ym (ho.low (b0:=w.heap.size) HBB.out.size)
  generalize hLL:l.length=L at *
  have HLL:=ym hLL
  clear ho he hb hmd hLL HB1 HPA
  go_wp2_with fail
  refine (di (s:=s) (p:=q) HB2.out (by omega) (by omega)).mono ?_
  rintro e w3 ⟨rfl,hb⟩
  have HB3:=ym (HB2.out.later hb)
  have HE3:=ym (ac HE2.out hb)
  have HO3:=ym (HO2.out.later hb (yp _))
  clear hb HB2 HE2 HO2
  rcases Bool.eq_false_or_eq_true (bK s q) with h1 | h1
  ·have HF:Hid (xN s q=q):=ym (by unfold xN;rw [if_pos h1])
   rw [HF.out] at HX
   rw [h1]
   clear h1
   by_cases hye:q.e=0
   ·rw [if_pos hye] at HX
    have hne:((q.e:Int) !=0)=false:=by rw [hye];rfl
    have k_p:∀o,w3.cell? ⟨w.heap.size,o,none⟩=(#[.string s,.int .i64 q.at_,.int .i64 q.deep,.int .i64 q.e]:Array Value)[o]?:=HB3.out.cell
    clear hye
    have HJ3:=ym (And.intro (HO3.out.later (ar (w:=w3) (o:=.cells #[.int .i64 6,.int .u64 0,.int .u64 0,.int .u64 0,.int .u64 0,.int .i64 0,.int .i64 0] 266) rfl) (yp _)) (am.src (xs:=[pM]) (fI (w:=w3) (i:=pM) (base:=w.heap.size) (o:=.cells #[.int .i64 6,.int .u64 0,.int .u64 0,.int .u64 0,.int .u64 0,.int .i64 0,.int .i64 0] 266) rfl rfl HE3.out.size)))
    go_wp2_with ((
     at_builtin
     refine aq (R:=ff) (e:=266) (base:=w.heap.size) (B:=0) (xs:=l) (ys:=[pM]) rfl (.tmp 28) (.tmp 30) 248 rfl (bytes:=56) Tryz.underlying248 hi0 hz0 hz1 hz2 rfl (show 0<7 by omega) cN rfl HJ3.out.1 rfl HJ3.out.2 rfl (yp _) (by rw [HLL.out];simp only [yE,List.length_nil];omega) (by omega) ((by rw [World.size_alloc];have:=HE3.out.size;omega)) ?_
     intro v w6 hown hb
     obtain ⟨A5,c5,rfl⟩:=hown.form' (show _=L+1 by rw [yv,HLL.out];rfl)
     have HOW:=ym hown
     have HBW:=ym hb
     clear hown hb))
    go_ret2
    have e9:(l++[pM]).length=L+1:=by rw [yv,HLL.out];rfl
    rw [HX.out]
    refine ⟨⟨A5,c5,?_,?_⟩,(HE3.out.alloc HE3.out.size (.cells #[.int .i64 6,.int .u64 0,.int .u64 0,.int .u64 0,.int .u64 0,.int .i64 0,.int .i64 0] 266)).trans HBW.out⟩
    ·rw [e9];rfl
    ·rw [e9];exact HOW.out
   ·have HX2:Hid (dN s=([],q.e)):=ym (by rw [HX.out,if_neg hye])
    have hne:((q.e:Int) !=0)=true:=by simpa using hye
    have k_p:∀o,w3.cell? ⟨w.heap.size,o,none⟩=(#[.string s,.int .i64 q.at_,.int .i64 q.deep,.int .i64 q.e]:Array Value)[o]?:=HB3.out.cell
    clear hye
    go_wp2_with fail
    go_region
    all_goals
     go_wp2_with fail
     go_ret2
     rw [HX2.out]
     exact ⟨⟨none,0,rfl,am.nil _ _ _ _ _⟩,HE3.out.drew⟩
  ·have HF:Hid (xN s q=be q 3):=ym (by unfold xN;rw [h1];rfl)
   rw [HF.out] at HX
   rw [h1]
   clear h1
   go_wp2_with fail
   refine (dP (s:=s) (p:=q) (n:=3) HB3.out).mono ?_
   rintro e w4 ⟨rfl,he,hb⟩
   have hye:(be q 3).e≠0:=fail_e (by decide)
   have HX2:Hid (dN s=([],(be q 3).e)):=ym (by rw [HX.out,if_neg hye])
   have HB4:=ym hb
   have HE4:Hid (Below w.heap.size w w4):=ym (HE3.out.trans he.1)
   generalize be q 3=y at *
   clear he hb HF
   have hne:((y.e:Int) !=0)=true:=by simpa using hye
   have k_p:∀o,w4.cell? ⟨w.heap.size,o,none⟩=(#[.string s,.int .i64 y.at_,.int .i64 y.deep,.int .i64 y.e]:Array Value)[o]?:=HB4.out.cell
   clear hye
   go_wp2_with fail
   go_region
   all_goals
    go_wp2_with fail
    go_ret2
    rw [HX2.out]
    exact ⟨⟨none,0,rfl,am.nil _ _ _ _ _⟩,HE4.out.drew⟩
theorem run_at {s:ByteArray} {k b:Nat} (h:k<s.size) (hb:cd s k=b) (w:World):(Instr.index 9 (.string s) (.int .i64 (k:Int))).run Tryz.prog w=.ok (.int .u8 (b:Int)) w:=by
 rw [run_index_string w 9 s .i64 _ Tryz.underlying9,dif_pos ⟨by omega,by omega⟩]
 rw [←hb,gg h]
 rfl
theorem rQ (t:ByteArray):t=ByteArray.empty↔t.size=0:=⟨fun h=>by rw [h];rfl,fun h=>ByteArray.ext (Array.eq_empty_of_size_eq_zero h)⟩
theorem rU {l:List Ins} {t:ByteArray} {n i:Nat} {st:List Bool × Bool} (h:st.2=true):iW l t false n i st=true:=by
 cases n with
 | zero=>exact h
 | succ n=>unfold iW;rw [h];rfl
theorem wt {l:List Ins} {t:ByteArray} {n i:Nat} {st:List Bool × Bool} (h:st.2=false):iW l t false (n+1) i st=iW l t false n (i+1) (bL l false (decide (i+1=t.size)) 0 (takes l (cd t i) (decide (i+1=t.size)) st)):=by
 show (if (st.2&&!false)=true then _ else _)=_
 rw [h]
 rfl
theorem uy {w:World} {p t:ByteArray} (hp:p.size≤140737488351232) (ht:t.size≤140737488351232) :
 Calls Tryz.prog 209 #[.string p,.string t,.bool false] w fun e w'=>e=.returned (.tuple #[.bool (fz p t false).1,.int .i64 (fz p t false).2])∧Below w.heap.size w w':=by
 by_cases h256:256<t.size
 ·have HX:Hid (fz p t false=(false,1)):=ym (by unfold fz;rw [if_pos h256])
  go_enter Tryz.func209,Tryz.ntmps209
  go_wp2_with fail
  go_ret2
  rw [HX.out]
  exact ⟨rfl,yq _ _⟩
 ·have HX:Hid (fz p t false=if (dN p).2≠0 then (false,(dN p).2) else (iW (dN p).1 t false t.size 0 (bL (dN p).1 true (decide (t.size=0)) 0 (iz (dN p).1)),0)):=ym (by unfold fz;rw [if_neg h256])
  have h256':decide (256<(t.size:Int))=false:=by simp;omega
  go_enter Tryz.func209,Tryz.ntmps209
  go_wp2_with fail
  clear h256'
  refine (pJ hp).mono ?_
  rintro e w1 ⟨⟨Al,cl,rfl,ho⟩,hb⟩
  by_cases he:(dN p).2=0
  ·have HPR:=ym (wg he)
   rw [if_neg (by simp [he])] at HX
   generalize dN p=r at *
   obtain ⟨l,e⟩:=r
   simp only at he ho HX HPR
   have hq:((e:Int) !=0)=false:=by rw [he];rfl
   have hlen:=HPR.out.len
   have hpos:=HPR.out.pos
   have HL:=ym (ho.rows (by omega))
   have HB1:=ym hb
   have hmk:=fun w=>ms l.length (by omega) w
   clear ho hb he
   go_wp2_with fail
   generalize hA:World.alloc _ _=w2
   obtain ⟨hb,hz⟩:=al2 hA
   have HN2:Hid (Ways (w1.heap.size+1) w1.heap.size l Al cl l.length w2 (iz l)):=ym (by
    have h0:bN (w1.alloc (.cells (cE (List.replicate l.length false)) 4)) w1.heap.size (cE (List.replicate l.length false)) 4:=heap_alloc_new w1 _
    have h1:=h0.later (ar (w:=w1.alloc (.cells (cE (List.replicate l.length false)) 4)) (o:=.cells #[.slice Al l.length cl,.slice (some ⟨w1.heap.size,0,none⟩) l.length l.length,.bool false] 254) rfl)
    have h2:=heap_alloc_new (w1.alloc (.cells (cE (List.replicate l.length false)) 4)) (.cells #[.slice Al l.length cl,.slice (some ⟨w1.heap.size,0,none⟩) l.length l.length,.bool false] 254)
    rw [World.size_alloc] at h2
    exact hA▸⟨h2,h1,by simp [iz],by omega⟩)
   have HB2:=ym hb
   clear hA hz hb hmk
   refine (go (B:=w1.heap.size) (Int.le_refl _) (by omega) HN2.out (HL.out.keep HB2.out (yo _)) (by omega) (yo _) HPR.out (yo _)).mono ?_
   rintro e w3 ⟨rfl,hx,hn⟩
   have hie:t.toList.isEmpty=decide (t.size=0):=by rw [bV,Bool.eq_iff_iff,yC,yC];exact rQ t
   rw [hie] at hn
   have HN3:=ym hn
   have HB3:Hid (Below w1.heap.size w1 w3):=ym (HB2.out.trans (hx.1.mono (by omega)))
   generalize bL l true (decide (t.size=0)) 0 (iz l)=st0 at *
   clear hx hn hie HN2 HB2
   have hz3:w1.heap.size+1<w3.heap.size:=HN3.out.wb.blk.lt
   go_wp2_with fail
   go_loopw [10,36] (fun v10 v36 wr=>∃(k W G ca:Nat) (st:List Bool × Bool),k≤t.size∧v10=.pointer (some ⟨W,0,none⟩)∧v36=.int .i64 k∧w1.heap.size≤W∧w1.heap.size≤G∧l.length≤ca∧Hid (iW l t false t.size 0 st0=iW l t false (t.size-k) k st)∧Hid (Ways W G l Al cl ca wr st)∧Hid (Below w1.heap.size w1 wr)) (fun _ v _=>t.size-(intOf v).toNat)
   case atStart=>exact ⟨0,_,_,_,st0,yp _,rfl,rfl,by omega,yo _,yo _,ym (by rw [Nat.sub_zero]),HN3,HB3⟩
   case round=>
    obtain ⟨k,W,G,ca,st,hk,rfl,rfl,hBW,hBG,hca,HE,HN,HBr⟩:=hrel
    have hWlt:=HN.out.wb.blk.lt
    have k_w:∀o,wr.cell? ⟨W,o,none⟩=(#[.slice Al l.length cl,.slice (some ⟨G,0,none⟩) l.length ca,.bool st.2]:Array Value)[o]?:=HN.out.wb.blk.cell
    by_cases hlt:k<t.size
    ·rcases Bool.eq_false_or_eq_true st.2 with hd | hd
     ·have HR:Hid (iW l t false t.size 0 st0=true):=ym (by rw [HE.out,rU hd])
      rw [hd] at k_w
      clear hd HE
      go_wp2_with fail
      go_ret2
      rw [HX.out,HR.out]
      exact ⟨rfl,ac HB1.out HBr.out⟩
     ·obtain ⟨n,hn⟩:∃n,t.size-k=n+1:=⟨t.size-k-1,by omega⟩
      obtain ⟨lb,hlb⟩:∃lb,decide (k+1=t.size)=lb:=⟨_,rfl⟩
      obtain ⟨c,hcb⟩:∃c,cd t k=c:=⟨_,rfl⟩
      have HE2:Hid (iW l t false t.size 0 st0=iW l t false (t.size-(k+1)) (k+1) (bL l false lb 0 (takes l c lb st))):=ym (by
       rw [HE.out,hn,wt hd,hlb,hcb,show t.size-(k+1)=n by omega])
      have hc256:c<256:=by rw [←hcb];exact tx _ _
      have hix:=fun wx=>run_at hlt hcb wx
      have hql:((k:Int)==(t.size:Int)-1)=lb:=by
       rw [←hlb,Bool.eq_iff_iff]
       simp
       omega
      rw [hd] at k_w
      clear hd HE hn hlb hcb
      go_wp2_with fail
      refine (vi (B:=w1.heap.size) (c:=c) HN.out (HL.out.keep HBr.out (yo _)) hBW hBG HPR.out hc256 hca).mono ?_
      rintro e w4 ⟨W2,G2,ca2,rfl,hn2,hW2,hG2,hca2,hb4⟩
      have HN4:=ym hn2
      have HB4:=ym (ac HBr.out hb4)
      have hszr:=HBr.out.size
      clear hn2 hb4 k_w hix
      go_wp2_with fail
      refine (go (B:=w1.heap.size) (Int.le_refl _) (by omega) HN4.out (HL.out.keep HB4.out (yo _)) (by omega) (by omega) HPR.out hca2).mono ?_
      rintro e w5 ⟨rfl,hx,hn⟩
      have HN5:=ym hn
      have HB5:Hid (Below w1.heap.size w1 w5):=ym (HB4.out.trans (hx.1.mono (by omega)))
      clear hx hn HN4 HB4 hql
      go_wp2_with fail
      go_roundw
      case rel=>exact ⟨k+1,W2,G2,ca2,_,by omega,rfl,by go_num,by omega,by omega,hca2,HE2,HN5,HB5⟩
      case measure=>simp [intOf];omega
    ·have HR:Hid (iW l t false t.size 0 st0=st.2):=ym (by rw [HE.out,show t.size-k=0 by omega];rfl)
     go_wp2_with fail
     go_ret2
     rw [HX.out,HR.out]
     exact ⟨rfl,ac HB1.out HBr.out⟩
  ·have hq:(((dN p).2:Int) !=0)=true:=by simpa using he
   rw [if_pos he] at HX
   have HB:=ym hb
   clear hb ho he
   go_wp2_with fail
   go_ret2
   rw [HX.out]
   exact ⟨rfl,HB.out⟩
theorem qP {w:World} {p t:ByteArray} (hp:p.size≤140737488351232) (ht:t.size≤140737488351232) :
 Calls Tryz.prog 200 #[.string p,.string t] w fun e w'=>e=.returned (.tuple #[.bool (fz p t false).1,.int .i64 (fz p t false).2])∧Below w.heap.size w w':=by
 go_enter Tryz.func200,Tryz.ntmps200
 go_wp2_with fail
 refine (uy hp ht).mono ?_
 rintro e w1 ⟨rfl,hb⟩
 have HB:=ym hb
 clear hb
 go_wp2_with fail
 go_ret2
 exact ⟨rfl,HB.out⟩
end Go.Proofs.YtjpndglegpcdnaaGreat
