/- match.fits (a part of a text), Find. -/
import Derived.Test.YtjpndglegpcdnaaGreatReg5
import Derived.Deep.Cut
import Derived.Deep.CutRange
import Derived.Deep.LoopGhost
import Derived.Test.YtjpndglegpcdnaaGreatApp
import Derived.RegionTactic
import Derived.Test.YtjpndglegpcdnaaGreatMat3
set_option linter.unusedVariables false
set_option linter.unusedSimpArgs false
set_option maxRecDepth 100000
set_option maxHeartbeats 8000000
namespace Go.Proofs.YtjpndglegpcdnaaGreat
open Go.ChangeShapes Go.WideShapes Go.ChangeAt Go.RowKit
structure AS (P G:Nat) (s:ByteArray) (w0 w:World) (p:PS) (i:Ins):Prop where
 pb:Blk w P (psA s p)
 gb:Blk w G (inA i)
 ex:Exc P w0 w
 hP:P<w0.heap.size
 hG:w0.heap.size≤G
section
variable {P G:Nat} {s:ByteArray} {w0 w w':World} {p q:PS} {i j:Ins}
theorem AS.later (h:AS P G s w0 w p i) (hb:Below w.heap.size w w'):AS P G s w0 w' p i:=
 ⟨h.pb.later hb,h.gb.later hb,h.ex.then (Nat.le_of_lt h.hP) hb,h.hP,h.hG⟩
theorem AS.exP (h:AS P G s w0 w p i) (he:Exc P w w') (hp:Blk w' P (psA s q)):AS P G s w0 w' q i:=
 ⟨hp,he.blk (by have:=h.hP;have:=h.hG;omega) h.gb,h.ex.trans he,h.hP,h.hG⟩
theorem AS.exG (h:AS P G s w0 w p i) (he:Exc G w w') (hg:Blk w' G (inA j)):AS P G s w0 w' p j:=
 ⟨he.blk (by have:=h.hP;have:=h.hG;omega) h.pb,hg,h.ex.fresh he h.hP h.hG,h.hP,h.hG⟩
theorem AS.cellsG (h:AS P G s w0 w p i):∀o,w.cell? ⟨G,o,none⟩=(#[.int .i64 i.kind,.int .u64 i.a,.int .u64 i.b,.int .u64 i.c,.int .u64 i.d,.int .i64 i.x,.int .i64 i.y]:Array Value)[o]?:=h.gb.cell
theorem AS.cellsP (h:AS P G s w0 w p i):∀o,w.cell? ⟨P,o,none⟩=(#[.string s,.int .i64 p.at_,.int .i64 p.deep,.int .i64 p.e]:Array Value)[o]?:=h.pb.cell
theorem AS.ends (h:AS P G s w0 w p i):PE P s w0 (w.alloc (.cells #[.int .i64 i.kind,.int .u64 i.a,.int .u64 i.b,.int .u64 i.c,.int .u64 i.d,.int .i64 i.x,.int .i64 i.y] 266)) ([i],p) (.returned (.slice (some ⟨w.heap.size,0,none⟩) 1 1)):=by
 have hb:=ar (w:=w) (o:=.cells #[.int .i64 i.kind,.int .u64 i.a,.int .u64 i.b,.int .u64 i.c,.int .u64 i.d,.int .i64 i.x,.int .i64 i.y] 266) rfl
 exact ⟨⟨_,1,rfl,fY (w:=w) (i:=i) (o:=.cells #[.int .i64 i.kind,.int .u64 i.a,.int .u64 i.b,.int .u64 i.c,.int .u64 i.d,.int .i64 i.x,.int .i64 i.y] 266) rfl rfl h.ex.1.size⟩,(h.later hb).ex,h.pb.later hb⟩
theorem AS.put1 (h:AS P G s w0 w p i) (n:Nat) (v:Value) (hj:inA j=(inA i).setIfInBounds n v):AS P G s w0 (w.setCell ⟨G,n,none⟩ v) p j:=
 h.exG ((Exc.refl G w).set n v) (by rw [hj];exact h.gb.set_ n v)
end
theorem PE.size {P:Nat} {s:ByteArray} {w w':World} {r:List Ins × PS} {e:Ending} (h:PE P s w w' r e):w.heap.size≤w'.heap.size:=h.2.1.1.size
theorem OwnE.low {P:Nat} {s:ByteArray} {w0 w w':World} {r:List Ins × PS} {e:Ending} (h:PE P s w w' r e) (h0:Exc P w0 w):PE P s w0 w' r e:=by
 obtain ⟨⟨A,c,e1,ho⟩,he,hb⟩:=h
 exact ⟨⟨A,c,e1,ho.low h0.1.size⟩,h0.trans he,hb⟩
theorem uk (c:Nat) (hc:c<256):decide (0≤Lib.indexByte [41,42,43,63,124] ((c:Int).toNat.toUInt8))=kE c:=by
 have key:∀c:Fin 256,decide (0≤Lib.indexByte [41,42,43,63,124] (((c.val:Nat):Int).toNat.toUInt8))=kE c.val:=by decide +kernel
 exact key ⟨c,hc⟩
theorem atom_of {s:ByteArray} {n:Nat} {p q:PS} {c:Nat} (h:aH s p=(c,q)):fH (n+1) s p =
 if c=40∧q.e=0 then iC n s q
 else if c=91 then ([(dV s q).1],(dV s q).2)
 else if c=46 then ([anyI],q)
 else if c=94 then ([⟨4,0,0,0,0,0,0⟩],q)
 else if c=36 then ([⟨5,0,0,0,0,0,0⟩],q)
 else if c=92 then ([me ci (aH s q).1],(aH s q).2)
 else if kE c then ([ci],bh q 3)
 else ([me ci c],q):=by
 unfold fH fI iC ij
 rw [h]
theorem next_40 {s:ByteArray} {p q:PS} {c:Nat} (h:aH s p=(c,q)) (hc:c≠0):q.e=0:=by
 unfold aH at h
 split at h
 ·simp only [Prod.mk.injEq] at h;omega
 ·rename_i he
  simp only [Prod.mk.injEq] at h
  have:=qP (s:=s) (p:=p) (by simpa using he)
  rw [←h.2]
  exact this.1
theorem uj {s:ByteArray} (hs:s.size≤1000) (n m:Nat) (hgr:fE 238 (iC n) s (fun p=>bG s p<m)) :
 fE 236 (fH (n+1)) s (fun p=>bG s p≤m∧bG s p≠0):=by
 intro w P p hb hok hm
 have hlt:=hb.lt
 have hat:=hok.at_
 have HB0:=zu hb
 have HGR:=zu hgr
 have HOK:=zu hok
 obtain ⟨hm,hne⟩:=hm
 clear hb hok hgr
 go_enter Tryz.func236,Tryz.ntmps236
 go_wp2_with fail
 generalize hW:World.alloc _ _=w1
 obtain ⟨hb,hz⟩:=al1 hW
 have HC1:Hid (AS P w.heap.size s w w1 p ci):=zu ⟨HB0.out.later hb,n11 hW,Exc.of (Nat.le_of_lt hlt) hb,hlt,zw _⟩
 clear hW hz hb HB0
 generalize w.heap.size=G at *
 refine (fk (s:=s) (p:=p) HC1.out.pb (by omega) (by omega)).mono ?_
 rintro e w2 ⟨rfl,he,hb⟩
 have HC2:=zu (HC1.out.exP he hb)
 have hnl:=cN s p
 have hnt:=qQ s p
 have hrem:bG s (aH s p).2<m:=by have:=hnl.lt hne;omega
 clear he hb HC1
 have HX:∀c q,aH s p=(c,q)→_:=fun c q h=>atom_of (n:=n) h
 generalize hN:aH s p=z at *
 obtain ⟨c,q⟩:=z
 have HXc:=zu (HX c q rfl)
 have h40:Hid (c≠0→q.e=0):=zu (next_40 hN)
 have HOK2:=zu (HOK.out.less hnl)
 simp only at HC2 hnt hrem HOK2
 have hat2:=HOK2.out.at_
 clear HX hN hnl
 have hcases:c=40∨c=91∨c=46∨c=94∨c=36∨c=92∨(c≠40∧c≠91∧c≠46∧c≠94∧c≠36∧c≠92):=by omega
 rcases hcases with rfl | rfl | rfl | rfl | rfl | rfl | ⟨h1,h2,h3,h4,h5,h6⟩
 ·have hq0:=h40.out (by omega)
  have HX2:Hid (fH (n+1) s p=iC n s q):=zu (by rw [HXc.out,if_pos ⟨rfl,hq0⟩])
  have k_p:=HC2.out.cellsP
  have hqe:((q.e:Int)==0)=true:=by rw [hq0];rfl
  clear hq0 HXc
  go_wp2_with fail
  refine (HGR.out w2 P q HC2.out.pb HOK2.out hrem).mono ?_
  rintro e w3 hpe
  have HPE:=zu (OwnE.low hpe HC2.out.ex)
  clear hpe k_p hqe
  obtain ⟨⟨A,c2,rfl,ho⟩,he,hb⟩:=HPE.out
  clear ho he hb
  go_wp2_with fail
  go_ret
  rw [HX2.out]
  exact HPE.out
 ·have HX2:Hid (fH (n+1) s p=([(dV s q).1],(dV s q).2)):=zu (by rw [HXc.out];simp)
  clear HXc
  go_wp2_with fail
  refine (uy (s:=s) (p:=q) HC2.out.pb (by omega) hat2).mono ?_
  rintro e w3 ⟨rfl,he,hb⟩
  have HC3:=zu (HC2.out.exP he hb)
  clear he hb HC2
  generalize dV s q=z at *
  obtain ⟨i,y⟩:=z
  simp only at HC3
  have k_g:∀o,w3.cell? ⟨G,o,none⟩=(#[.int .i64 1,.int .u64 0,.int .u64 0,.int .u64 0,.int .u64 0,.int .i64 0,.int .i64 0]:Array Value)[o]?:=HC3.out.gb.cell
  have f_g:=HC3.out.gb.free
  unfold jW
  go_wp2_with fail
  go_ret
  have h7:=((((((HC3.out.put1 (j:=⟨i.kind,0,0,0,0,0,0⟩) 0 (.int .i64 i.kind) rfl).put1 (j:=⟨i.kind,i.a,0,0,0,0,0⟩) 1 (.int .u64 i.a) rfl).put1 (j:=⟨i.kind,i.a,i.b,0,0,0,0⟩) 2 (.int .u64 i.b) rfl).put1 (j:=⟨i.kind,i.a,i.b,i.c,0,0,0⟩) 3 (.int .u64 i.c) rfl).put1 (j:=⟨i.kind,i.a,i.b,i.c,i.d,0,0⟩) 4 (.int .u64 i.d) rfl).put1 (j:=⟨i.kind,i.a,i.b,i.c,i.d,i.x,0⟩) 5 (.int .i64 i.x) rfl).put1 (j:=⟨i.kind,i.a,i.b,i.c,i.d,i.x,i.y⟩) 6 (.int .i64 i.y) rfl
  have h8:=h7.ends
  simp only [World.size_setCell] at h8
  rw [HX2.out]
  exact h8
 ·have HX2:Hid (fH (n+1) s p=([anyI],q)):=zu (by rw [HXc.out];simp)
  clear HXc
  have k_g:∀o,w2.cell? ⟨G,o,none⟩=(#[.int .i64 1,.int .u64 0,.int .u64 0,.int .u64 0,.int .u64 0,.int .i64 0,.int .i64 0]:Array Value)[o]?:=HC2.out.gb.cell
  have f_g:=HC2.out.gb.free
  go_wp2_with fail
  go_ret
  have h7:=(((HC2.out.put1 (j:=⟨1,18446744073709551615,0,0,0,0,0⟩) 1 (.int .u64 18446744073709551615) rfl).put1 (j:=⟨1,18446744073709551615,18446744073709551615,0,0,0,0⟩) 2 (.int .u64 18446744073709551615) rfl).put1 (j:=⟨1,18446744073709551615,18446744073709551615,18446744073709551615,0,0,0⟩) 3 (.int .u64 18446744073709551615) rfl).put1 (j:=anyI) 4 (.int .u64 18446744073709551615) rfl
  have h8:=h7.ends
  simp only [World.size_setCell] at h8
  rw [HX2.out]
  exact h8
 ·have HX2:Hid (fH (n+1) s p=([⟨4,0,0,0,0,0,0⟩],q)):=zu (by rw [HXc.out];simp)
  clear HXc
  have k_g:∀o,w2.cell? ⟨G,o,none⟩=(#[.int .i64 1,.int .u64 0,.int .u64 0,.int .u64 0,.int .u64 0,.int .i64 0,.int .i64 0]:Array Value)[o]?:=HC2.out.gb.cell
  have f_g:=HC2.out.gb.free
  go_wp2_with fail
  go_ret
  have h7:=HC2.out.put1 (j:=⟨4,0,0,0,0,0,0⟩) 0 (.int .i64 4) rfl
  have h8:=h7.ends
  simp only [World.size_setCell] at h8
  rw [HX2.out]
  exact h8
 ·have HX2:Hid (fH (n+1) s p=([⟨5,0,0,0,0,0,0⟩],q)):=zu (by rw [HXc.out];simp)
  clear HXc
  have k_g:∀o,w2.cell? ⟨G,o,none⟩=(#[.int .i64 1,.int .u64 0,.int .u64 0,.int .u64 0,.int .u64 0,.int .i64 0,.int .i64 0]:Array Value)[o]?:=HC2.out.gb.cell
  have f_g:=HC2.out.gb.free
  go_wp2_with fail
  go_ret
  have h7:=HC2.out.put1 (j:=⟨5,0,0,0,0,0,0⟩) 0 (.int .i64 5) rfl
  have h8:=h7.ends
  simp only [World.size_setCell] at h8
  rw [HX2.out]
  exact h8
 ·have HX2:Hid (fH (n+1) s p=([me ci (aH s q).1],(aH s q).2)):=zu (by rw [HXc.out];simp)
  clear HXc
  go_wp2_with fail
  refine (fk (s:=s) (p:=q) HC2.out.pb (by omega) (by omega)).mono ?_
  rintro e w3 ⟨rfl,he,hb⟩
  have HC3:=zu (HC2.out.exP he hb)
  have hnt2:=qQ s q
  clear he hb HC2
  generalize aH s q=z at *
  obtain ⟨d,y⟩:=z
  simp only at HC3 hnt2 HX2
  go_wp2_with fail
  refine (jm (c:=d) HC3.out.gb hnt2).mono ?_
  rintro e w4 ⟨rfl,he,hg⟩
  have HC4:=zu (HC3.out.exG he hg)
  clear he hg HC3
  generalize me ci d=i at *
  have k_g:=HC4.out.cellsG
  go_wp2_with fail
  go_ret
  rw [HX2.out]
  exact HC4.out.ends
 ·have q1:((c:Int)==40)=false:=by simp;omega
  have q2:((c:Int)==91)=false:=by simp;omega
  have q3:((c:Int)==46)=false:=by simp;omega
  have q4:((c:Int)==94)=false:=by simp;omega
  have q5:((c:Int)==36)=false:=by simp;omega
  have q6:((c:Int)==92)=false:=by simp;omega
  have HX2:Hid (fH (n+1) s p=if kE c then ([ci],bh q 3) else ([me ci c],q)):=zu (by rw [HXc.out,if_neg (by omega),if_neg h2,if_neg h3,if_neg h4,if_neg h5,if_neg h6])
  have HBI:=zu (uk c hnt)
  clear HXc h1 h2 h3 h4 h5 h6
  go_wp2_with fail
  refine (Tryz.strings_IndexByte _ _ _).mono ?_
  rintro e w3 ⟨rfl,rfl⟩
  have HB2:Hid (decide (0≤Lib.indexByte (⟨#[41,42,43,63,124]⟩:ByteArray).data.toList (c:Int).toNat.toUInt8)=kE c):=HBI
  generalize Lib.indexByte (⟨#[41,42,43,63,124]⟩:ByteArray).data.toList (c:Int).toNat.toUInt8=ix at *
  clear HBI
  generalize kE c=bb at *
  cases bb
  ·have hix:decide (0≤ix)=false:=HB2.out
   have hix2:¬(0≤ix):=by simpa using hix
   rw [if_neg (by simp)] at HX2
   go_wp2_with fail
   refine (jm (c:=c) HC2.out.gb hnt).mono ?_
   rintro e w4 ⟨rfl,he,hg⟩
   have HC4:=zu (HC2.out.exG he hg)
   clear he hg
   generalize me ci c=i at *
   have k_g:=HC4.out.cellsG
   go_wp2_with fail
   go_ret
   rw [HX2.out]
   exact HC4.out.ends
  ·have hix:decide (0≤ix)=true:=HB2.out
   have hix2:0≤ix:=by simpa using hix
   rw [if_pos rfl] at HX2
   go_wp2_with fail
   refine (eb (s:=s) (p:=q) (n:=3) HC2.out.pb).mono ?_
   rintro e w4 ⟨rfl,he,hb⟩
   have HC4:=zu (HC2.out.exP he hb)
   clear he hb
   generalize ci=i at *
   have k_g:=HC4.out.cellsG
   go_wp2_with fail
   go_ret
   rw [HX2.out]
   exact HC4.out.ends
theorem qN {B c L:Nat} {l:List Ins} {A:Option Addr} {k0:Int} {w:World} (hL:l.length=L) (hl:RL ft w B l A) (hB:B≤w.heap.size) (hn:L≤1000000) :
 Calls Tryz.prog 235 #[.slice A L c,.int .i64 k0] w fun e w'=>(∃A c,e=.returned (.slice A L c)∧am ft 266 w' w.heap.size 0 (.slice A L c) (aK l k0))∧Below w.heap.size w w':=by
 subst hL
 refine (lx (c:=c) (k0:=k0) hl hB hn).mono ?_
 rintro e w' ⟨⟨A,c,rfl,ho⟩,hb⟩
 rw [ah] at ho ⊢
 exact ⟨⟨A,c,rfl,ho⟩,hb⟩
theorem yc {s:ByteArray} {n:Nat} {p q:PS} {l:List Ins} (h:fH n s p=(l,q)):ef (n+1) s p =
 if isP s q 42 then ([bE 1 (l.length+2)]++aK l 1++[iG 0],q.step)
 else if isP s q 43 then (l++[bE 0 (l.length+1)],q.step)
 else if isP s q 63 then ([bE 1 (l.length+1)]++aK l 1,q.step)
 else (l,q):=by
 unfold ef eQ
 unfold fH at h
 rw [h]
structure PSt (P:Nat) (s:ByteArray) (w0 w:World) (p:PS) (l:List Ins) (v:Value):Prop where
 pb:Blk w P (psA s p)
 ex:Exc P w0 w
 own:am ft 266 w w0.heap.size 0 v l
 hP:P<w0.heap.size
theorem PSt.later {P:Nat} {s:ByteArray} {w0 w w':World} {p:PS} {l:List Ins} {v:Value} (h:PSt P s w0 w p l v) (hb:Below w.heap.size w w'):PSt P s w0 w' p l v:=
 ⟨h.pb.later hb,h.ex.then (Nat.le_of_lt h.hP) hb,h.own.later hb (zx _),h.hP⟩
theorem PSt.step {P:Nat} {s:ByteArray} {w0 w:World} {p:PS} {l:List Ins} {v:Value} (h:PSt P s w0 w p l v):PSt P s w0 (w.setCell ⟨P,1,none⟩ (.int .i64 ((p.at_:Int)+1))) p.step l v:=
 ⟨stepped h.pb,h.ex.set 1 _,h.own.far h.hP (zx _) _,h.hP⟩
theorem PSt.to {P:Nat} {s:ByteArray} {w0 w w':World} {p:PS} {l l':List Ins} {v v':Value} (h:PSt P s w0 w p l v) (hb:Below w0.heap.size w w') (ho:am ft 266 w' w0.heap.size 0 v' l'):PSt P s w0 w' p l' v':=
 ⟨h.pb.keep hb h.hP,h.ex.own hb (zw _) h.hP,ho,h.hP⟩
theorem PSt.cells {P:Nat} {s:ByteArray} {w0 w:World} {p:PS} {l:List Ins} {v:Value} (h:PSt P s w0 w p l v):∀o,w.cell? ⟨P,o,none⟩=(#[.string s,.int .i64 p.at_,.int .i64 p.deep,.int .i64 p.e]:Array Value)[o]?:=h.pb.cell
theorem PSt.pe {P:Nat} {s:ByteArray} {w0 w:World} {p:PS} {l:List Ins} {A:Option Addr} {n c:Nat} (h:PSt P s w0 w p l (.slice A n c)):PE P s w0 w (l,p) (.returned (.slice A n c)):=by
 obtain ⟨A',c',e⟩:=h.own.form
 simp only [zG] at e
 obtain ⟨rfl,rfl,rfl⟩:=e
 exact ⟨⟨_,_,rfl,h.own⟩,h.ex,h.pb⟩
theorem tp {s:ByteArray} (hs:s.size≤1000) (n m:Nat) (hn:1≤n) (hat:fE 236 (fH n) s (fun p=>bG s p≤m∧bG s p≠0)) :
 fE 234 (ef (n+1)) s (fun p=>bG s p≤m∧bG s p≠0):=by
 obtain ⟨i0,hi0,hz0,hz1,hz2⟩:=info_parts oT
 intro w P p hb hok hm
 have hlt:=hb.lt
 have HB:=zu hb
 have HAT:=zu hat
 have HOK:=zu hok
 have HM:=zu hm
 clear hb hok hat hm
 go_enter Tryz.func234,Tryz.ntmps234
 go_wp2_with fail
 refine (HAT.out w P p HB.out HOK.out HM.out).mono ?_
 rintro e w1 ⟨⟨A,c,rfl,ho⟩,he,hb⟩
 have hmd:Made s 1 p (fH n s p):=ui s n p HM.out.2 hn
 have hl:(fH n s p).1.length≤2000:=km hmd hs
 have hok2:=HOK.out.less hmd.less
 have HX:∀l q,fH n s p=(l,q)→_:=fun l q h=>yc h
 generalize fH n s p=r at *
 obtain ⟨l,q⟩:=r
 have HXc:=zu (HX l q rfl)
 simp only at ho hb hl hok2
 have hq:=hok2.at_
 have HS1:=zu (PSt.mk hb he ho hlt)
 clear ho he hb HX hmd hok2 HB
 generalize hLL:l.length=L at *
 have HLL:=zu hLL
 clear hLL
 go_wp2_with fail
 refine (cF (s:=s) (p:=q) (c:=42) HS1.out.pb (by omega) (by omega)).mono ?_
 rintro e w2 ⟨rfl,hb⟩
 have HS2:=zu (HS1.out.later hb)
 clear hb HS1
 have hcases:isP s q 42=true∨isP s q 42=false∧isP s q 43=true∨isP s q 42=false∧isP s q 43=false∧isP s q 63=true∨isP s q 42=false∧isP s q 43=false∧isP s q 63=false:=by
  cases isP s q 42<;>cases isP s q 43<;>cases isP s q 63<;>simp
 rcases hcases with h1 | ⟨h1,h2⟩ | ⟨h1,h2,h3⟩ | ⟨h1,h2,h3⟩
 ·have HX2:Hid (ef (n+1) s p=([bE 1 (L+2)]++aK l 1++[iG 0],q.step)):=zu (by rw [HXc.out,h1];rfl)
  obtain ⟨hq1,_⟩:=vi h1
  rw [h1]
  clear HXc h1
  go_wp2_with fail
  generalize hW:World.alloc _ _=w3
  obtain ⟨hb,hz⟩:=al1 hW
  have HN3:=zu (fY (i:=bE 1 (L+2)) (base:=w.heap.size) hW rfl HS2.out.ex.1.size)
  have HS3:=zu (HS2.out.later hb)
  clear hW hz hb HS2
  refine (qN (B:=w3.heap.size) (c:=c) (k0:=1) HLL.out (HS3.out.own.rows (by rw [HLL.out];omega)) (zw _) (by omega)).mono ?_
  rintro e w4 ⟨⟨A3,c3,rfl,ho⟩,hb⟩
  have HN4:=zu (HN3.out.later hb (zx _))
  have HS4:=zu (HS3.out.later hb)
  have HM4:=zu ho.srcn
  have hle4:=HS4.out.ex.1.size
  clear ho hb HN3 HS3
  go_upto_region 6 with ((
   at_builtin
   refine aq (R:=ft) (e:=266) (base:=w.heap.size) (B:=0) (xs:=[bE 1 (L+2)]) (ys:=aK l 1) rfl (.tmp 16) (.tmp 18) 248 rfl (bytes:=56) Tryz.underlying248 hi0 hz0 hz1 hz2 rfl (show 0<7 by omega) cQ rfl HN4.out rfl HM4.out ((ah l 1).trans HLL.out).symm (zx _) (by rw [ah,HLL.out];simp only [zJ,List.length_nil];omega) (by omega) (hle4) ?_
   intro v w5 hown hb
   obtain ⟨A4,c4,rfl⟩:=hown.form' (show _=L+1 by rw [zA,ah,HLL.out];simp;omega)
   have HOW:=zu hown
   have HBW:=zu hb
   clear hown hb))
  have HS5:=zu (HS4.out.to HBW.out HOW.out)
  have HJ5:=zu (And.intro (HS5.out.own.later (ar (w:=w5) (o:=.cells #[.int .i64 3,.int .u64 0,.int .u64 0,.int .u64 0,.int .u64 0,.int .i64 0,.int .i64 0] 266) rfl) (zx _)) (am.src (xs:=[iG 0]) (fY (w:=w5) (i:=iG 0) (base:=w.heap.size) (o:=.cells #[.int .i64 3,.int .u64 0,.int .u64 0,.int .u64 0,.int .u64 0,.int .i64 0,.int .i64 0] 266) rfl rfl HS5.out.ex.1.size)))
  clear HOW HBW HS4 HN4 HM4
  go_wp2_with ((
   at_builtin
   refine aq (R:=ft) (e:=266) (base:=w.heap.size) (B:=0) (xs:=[bE 1 (L+2)]++aK l 1) (ys:=[iG 0]) rfl (.tmp 20) (.tmp 22) 248 rfl (bytes:=56) Tryz.underlying248 hi0 hz0 hz1 hz2 rfl (show 0<7 by omega) cQ rfl HJ5.out.1 rfl HJ5.out.2 rfl (zx _) (by rw [zA,ah,HLL.out];simp only [zJ,List.length_nil];omega) (by omega) ((by rw [World.size_alloc];have:=HS5.out.ex.1.size;omega)) ?_
   intro v w6 hown hb
   obtain ⟨A5,c5,rfl⟩:=hown.form' (show _=L+2 by rw [zA,zA,ah,HLL.out];simp;omega)
   have HOW:=zu hown
   have HBW:=zu hb
   clear hown hb
   have HS6:=zu ((HS5.out.later (ar (w:=w5) (o:=.cells #[.int .i64 3,.int .u64 0,.int .u64 0,.int .u64 0,.int .u64 0,.int .i64 0,.int .i64 0] 266) rfl)).to HBW.out HOW.out)
   have k_p:=HS6.out.cells
   have f_p:=HS6.out.pb.free))
  go_ret
  rw [HX2.out]
  exact HS6.out.step.pe
 ·have HX2:Hid (ef (n+1) s p=(l++[bE 0 (L+1)],q.step)):=zu (by rw [HXc.out,h1,h2];rfl)
  obtain ⟨hq1,_⟩:=vi h2
  rw [h1]
  clear HXc h1
  go_wp2_with fail
  refine (cF (s:=s) (p:=q) (c:=43) HS2.out.pb (by omega) (by omega)).mono ?_
  rintro e w3 ⟨rfl,hb⟩
  have HS3:=zu (HS2.out.later hb)
  clear hb HS2
  rw [h2]
  clear h2
  have HJ3:=zu (And.intro (HS3.out.own.later (ar (w:=w3) (o:=.cells #[.int .i64 2,.int .u64 0,.int .u64 0,.int .u64 0,.int .u64 0,.int .i64 0,.int .i64 ((L:Int)+1)] 266) rfl) (zx _)) (am.src (xs:=[bE 0 (L+1)]) (fY (w:=w3) (i:=bE 0 (L+1)) (base:=w.heap.size) (o:=.cells #[.int .i64 2,.int .u64 0,.int .u64 0,.int .u64 0,.int .u64 0,.int .i64 0,.int .i64 ((L:Int)+1)] 266) rfl rfl HS3.out.ex.1.size)))
  go_wp2_with ((
   at_builtin
   refine aq (R:=ft) (e:=266) (base:=w.heap.size) (B:=0) (xs:=l) (ys:=[bE 0 (L+1)]) rfl (.tmp 27) (.tmp 31) 248 rfl (bytes:=56) Tryz.underlying248 hi0 hz0 hz1 hz2 rfl (show 0<7 by omega) cQ rfl HJ3.out.1 rfl HJ3.out.2 rfl (zx _) (by rw [HLL.out];simp only [zJ,List.length_nil];omega) (by omega) ((by rw [World.size_alloc];have:=HS3.out.ex.1.size;omega)) ?_
   intro v w6 hown hb
   obtain ⟨A5,c5,rfl⟩:=hown.form' (show _=L+1 by rw [zA,HLL.out];rfl)
   have HOW:=zu hown
   have HBW:=zu hb
   clear hown hb
   have HS6:=zu ((HS3.out.later (ar (w:=w3) (o:=.cells #[.int .i64 2,.int .u64 0,.int .u64 0,.int .u64 0,.int .u64 0,.int .i64 0,.int .i64 ((L:Int)+1)] 266) rfl)).to HBW.out HOW.out)
   have k_p:=HS6.out.cells
   have f_p:=HS6.out.pb.free))
  go_ret
  rw [HX2.out]
  exact HS6.out.step.pe
 ·have HX2:Hid (ef (n+1) s p=([bE 1 (L+1)]++aK l 1,q.step)):=zu (by rw [HXc.out,h1,h2,h3];rfl)
  obtain ⟨hq1,_⟩:=vi h3
  rw [h1]
  clear HXc h1
  go_wp2_with fail
  refine (cF (s:=s) (p:=q) (c:=43) HS2.out.pb (by omega) (by omega)).mono ?_
  rintro e w3 ⟨rfl,hb⟩
  have HS3:=zu (HS2.out.later hb)
  clear hb HS2
  rw [h2]
  clear h2
  go_wp2_with fail
  refine (cF (s:=s) (p:=q) (c:=63) HS3.out.pb (by omega) (by omega)).mono ?_
  rintro e w4 ⟨rfl,hb⟩
  have HS4:=zu (HS3.out.later hb)
  clear hb HS3
  rw [h3]
  clear h3
  go_wp2_with fail
  generalize hW:World.alloc _ _=w5
  obtain ⟨hb,hz⟩:=al1 hW
  have HN5:=zu (fY (i:=bE 1 (L+1)) (base:=w.heap.size) hW rfl HS4.out.ex.1.size)
  have HS5:=zu (HS4.out.later hb)
  clear hW hz hb HS4
  refine (qN (B:=w5.heap.size) (c:=c) (k0:=1) HLL.out (HS5.out.own.rows (by rw [HLL.out];omega)) (zw _) (by omega)).mono ?_
  rintro e w6 ⟨⟨A3,c3,rfl,ho⟩,hb⟩
  have HN6:=zu (HN5.out.later hb (zx _))
  have HS6:=zu (HS5.out.later hb)
  have HM6:=zu ho.srcn
  have hle6:=HS6.out.ex.1.size
  clear ho hb HN5 HS5
  go_wp2_with ((
   at_builtin
   refine aq (R:=ft) (e:=266) (base:=w.heap.size) (B:=0) (xs:=[bE 1 (L+1)]) (ys:=aK l 1) rfl (.tmp 39) (.tmp 41) 248 rfl (bytes:=56) Tryz.underlying248 hi0 hz0 hz1 hz2 rfl (show 0<7 by omega) cQ rfl HN6.out rfl HM6.out ((ah l 1).trans HLL.out).symm (zx _) (by rw [ah,HLL.out];simp only [zJ,List.length_nil];omega) (by omega) (hle6) ?_
   intro v w7 hown hb
   obtain ⟨A4,c4,rfl⟩:=hown.form' (show _=L+1 by rw [zA,ah,HLL.out];simp;omega)
   have HOW:=zu hown
   have HBW:=zu hb
   clear hown hb
   have HS7:=zu (HS6.out.to HBW.out HOW.out)
   have k_p:=HS7.out.cells
   have f_p:=HS7.out.pb.free))
  go_ret
  rw [HX2.out]
  exact HS7.out.step.pe
 ·have HX2:Hid (ef (n+1) s p=(l,q)):=zu (by rw [HXc.out,h1,h2,h3];rfl)
  rw [h1]
  clear HXc h1
  go_wp2_with fail
  refine (cF (s:=s) (p:=q) (c:=43) HS2.out.pb (by omega) (by omega)).mono ?_
  rintro e w3 ⟨rfl,hb⟩
  have HS3:=zu (HS2.out.later hb)
  clear hb HS2
  rw [h2]
  clear h2
  go_wp2_with fail
  refine (cF (s:=s) (p:=q) (c:=63) HS3.out.pb (by omega) (by omega)).mono ?_
  rintro e w4 ⟨rfl,hb⟩
  have HS4:=zu (HS3.out.later hb)
  clear hb HS3
  rw [h3]
  clear h3
  go_wp2_with fail
  go_ret
  rw [HX2.out]
  exact HS4.out.pe
theorem wj {s:ByteArray} {n:Nat} {p:PS} {out:List Ins} (h:(!bP s p&&(!isP s p 124&&!isP s p 41))=false):jv s n p out=(out,p):=by
 cases n with
 | zero=>rfl
 | succ n=>unfold jv;rw [h];rfl
theorem rowR_go {s:ByteArray} {n:Nat} {p:PS} {out:List Ins} (h:(!bP s p&&(!isP s p 124&&!isP s p 41))=true):jv s (n+1) p out=jv s n (ef n s p).2 (out++aK (ef n s p).1 out.length):=by
 show (if (!bP s p&&(!isP s p 124&&!isP s p 41))=true then _ else _)=_
 rw [h]
 rfl
theorem yj {s:ByteArray} (hs:s.size≤1000) (n m:Nat) (hn:4*m+1≤n) (hpc:∀r,r≤m→∀g,4*r≤g→1≤r→fE 234 (ef g) s (fun p=>bG s p≤r∧bG s p≠0)) :
 fE 229 (rowF n) s (fun p=>bG s p≤m):=by
 obtain ⟨i0,hi0,hz0,hz1,hz2⟩:=info_parts oT
 intro w P p hb hok hm
 have hlt:=hb.lt
 have HB:=zu hb
 have HPC:=zu hpc
 have HOK:=zu hok
 have hrs:=jM s p
 clear hb hok hpc
 go_enter Tryz.func229,Tryz.ntmps229
 go_wp2_with fail
 go_loopg [3] n (fun g v3 wr=>∃(p1:PS) (out:List Ins) (A:Option Addr) (L c:Nat),v3=.slice A L c∧Hid (out.length=L)∧Hid (jv s g p1 out=rowF n s p)∧4*bG s p1+1≤g∧bG s p1≤m∧Hid (OkP s p1)∧L+2*bG s p1≤2000∧Hid (PSt P s w wr p1 out (.slice A L c)))
 case atStart=>exact ⟨p,[],none,0,0,rfl,zu rfl,zu rfl,by omega,hm,HOK,by omega,zu ⟨HB.out,Exc.refl _ _,am.nil _ _ _ _ _,hlt⟩⟩
 case round=>
  obtain ⟨p1,out,A,L,c,rfl,HL,HE,hg,hr1,HOK1,hlen,HS⟩:=hrel
  have hat1:=HOK1.out.at_
  rcases Bool.eq_false_or_eq_true (!bP s p1&&(!isP s p1 124&&!isP s p1 41)) with hc | hc
  ·obtain ⟨g,rfl⟩:∃g,gk=g+1:=⟨gk-1,by omega⟩
   have HE2:Hid (jv s g (ef g s p1).2 (out++aK (ef g s p1).1 L)=rowF n s p):=zu (by rw [←HE.out,rowR_go hc,HL.out])
   have hc2:bP s p1=false∧isP s p1 124=false∧isP s p1 41=false:=by
    revert hc
    cases bP s p1<;>cases isP s p1 124<;>cases isP s p1 41<;>simp
   obtain ⟨h1,h2,h3⟩:=hc2
   have hne:bG s p1≠0:=by
    rw [eB] at h1
    simpa using h1
   clear hc HE
   go_wp2_with fail
   refine (dt (s:=s) (p:=p1) HS.out.pb (by omega) (by omega)).mono ?_
   rintro e w3 ⟨rfl,hb⟩
   have HS3:=zu (HS.out.later hb)
   clear hb
   rw [h1]
   clear h1
   go_wp2_with fail
   refine (cF (s:=s) (p:=p1) (c:=124) HS3.out.pb (by omega) (by omega)).mono ?_
   rintro e w4 ⟨rfl,hb⟩
   have HS4:=zu (HS3.out.later hb)
   clear hb HS3
   rw [h2]
   clear h2
   go_wp2_with fail
   refine (cF (s:=s) (p:=p1) (c:=41) HS4.out.pb (by omega) (by omega)).mono ?_
   rintro e w5 ⟨rfl,hb⟩
   have HS5:=zu (HS4.out.later hb)
   clear hb HS4
   rw [h3]
   clear h3
   go_wp2_with fail
   refine (HPC.out (bG s p1) hr1 g (by omega) (by omega) w5 P p1 HS5.out.pb HOK1.out ⟨zw _,hne⟩).mono ?_
   rintro e w6 ⟨⟨A2,c2,rfl,ho⟩,he,hb⟩
   have hmd:Made s 1 p1 (ef g s p1):=tn s g p1 hne (by omega)
   have hok2:=HOK1.out.less hmd.less
   have hrem2:=hmd.one hne
   have hlen2:=hmd.len
   have hl2:=km hmd hs
   generalize ef g s p1=r at *
   obtain ⟨l,q⟩:=r
   simp only at ho hb hok2 hrem2 hlen2 hl2 HE2
   have HS6:=zu (PSt.mk (l:=out) hb (HS5.out.ex.trans he) (nN HS5.out.own he hlt) hlt)
   have HO6:=zu (ho.rows (by omega))
   have HOK6:=zu hok2
   generalize hL2:l.length=L2 at *
   have HL2:=zu hL2
   clear ho he hb hmd hok2 hL2 HS5
   go_wp2_with fail
   refine (qN (B:=w6.heap.size) (c:=c2) (k0:=L) HL2.out HO6.out (zw _) (by omega)).mono ?_
   rintro e w7 ⟨⟨A3,c3,rfl,ho⟩,hb⟩
   have HS7:=zu (HS6.out.later hb)
   have HM7:=zu ho.srcn
   have hle7:=HS7.out.ex.1.size
   clear ho hb HS6
   go_wp2_with ((
    at_builtin
    refine aq (R:=ft) (e:=266) (base:=w.heap.size) (B:=0) (xs:=out) (ys:=aK l L) rfl (.tmp 20) (.tmp 25) 248 rfl (bytes:=56) Tryz.underlying248 hi0 hz0 hz1 hz2 rfl (show 0<7 by omega) cQ rfl HS7.out.own rfl HM7.out ((ah l L).trans HL2.out).symm (zx _) (by rw [ah,HL2.out,HL.out];omega) (by omega) (hle7) ?_
    intro v w8 hown hb
    obtain ⟨A4,c4,rfl⟩:=hown.form' (show _=L+L2 by rw [zA,ah,HL2.out,HL.out])
    have HOW:=zu hown
    have HBW:=zu hb
    clear hown hb))
   go_roundg g
   case rel=>exact ⟨q,out++aK l L,A4,L+L2,c4,rfl,zu (by rw [zA,ah,HL2.out,HL.out]),HE2,by omega,by omega,HOK6,by omega,zu (HS7.out.to HBW.out HOW.out)⟩
   case measure=>omega
  ·have HX:Hid (rowF n s p=(out,p1)):=zu (by rw [←HE.out,wj hc])
   have hc2:bP s p1=true∨bP s p1=false∧isP s p1 124=true∨bP s p1=false∧isP s p1 124=false∧isP s p1 41=true:=by
    revert hc
    cases bP s p1<;>cases isP s p1 124<;>cases isP s p1 41<;>simp
   clear hc HE
   rcases hc2 with h1 | ⟨h1,h2⟩ | ⟨h1,h2,h3⟩
   all_goals
    go_wp2_with fail
    refine (dt (s:=s) (p:=p1) HS.out.pb (by omega) (by omega)).mono ?_
    rintro e w3 ⟨rfl,hb⟩
    have HS3:=zu (HS.out.later hb)
    clear hb
    rw [h1]
    clear h1
    go_wp2_with fail
   ·go_ret
    rw [HX.out]
    exact HS3.out.pe
   ·refine (cF (s:=s) (p:=p1) (c:=124) HS3.out.pb (by omega) (by omega)).mono ?_
    rintro e w4 ⟨rfl,hb⟩
    have HS4:=zu (HS3.out.later hb)
    clear hb HS3
    rw [h2]
    clear h2
    go_wp2_with fail
    go_ret
    rw [HX.out]
    exact HS4.out.pe
   ·refine (cF (s:=s) (p:=p1) (c:=124) HS3.out.pb (by omega) (by omega)).mono ?_
    rintro e w4 ⟨rfl,hb⟩
    have HS4:=zu (HS3.out.later hb)
    clear hb HS3
    rw [h2]
    clear h2
    go_wp2_with fail
    refine (cF (s:=s) (p:=p1) (c:=41) HS4.out.pb (by omega) (by omega)).mono ?_
    rintro e w5 ⟨rfl,hb⟩
    have HS5:=zu (HS4.out.later hb)
    clear hb HS4
    rw [h3]
    clear h3
    go_wp2_with fail
    go_ret
    rw [HX.out]
    exact HS5.out.pe
theorem fE.mono {F:FuncId} {f:ByteArray→PS→List Ins × PS} {s:ByteArray} {ok ok':PS→Prop} (h:fE F f s ok) (hi:∀p,ok' p→ok p):fE F f s ok':=fun w P p hb hok hp=>h w P p hb hok (hi p hp)
theorem vO {s:ByteArray} (hs:s.size≤1000) (r:Nat) (h:∀r',r'<r→∀n,4*r'+2≤n→fE 221 (ij n) s (fun p=>bG s p≤r')) (g:Nat) (hg:4*r≤g) (hr:1≤r):fE 234 (ef g) s (fun p=>bG s p≤r∧bG s p≠0):=by
 obtain ⟨n,rfl⟩:∃n,g=n+1+1:=⟨g-2,by omega⟩
 have hp:=h (r-1) (by omega) n (by omega)
 have hg:=sS hs n (r-1) hp
 have ha:=uj hs n r (hg.mono fun p hp=>by omega)
 exact tp hs (n+1) r (by omega) ha
theorem qT {s:ByteArray} (hs:s.size≤1000) (m:Nat):∀n,4*m+2≤n→fE 221 (ij n) s (fun p=>bG s p≤m):=by
 induction m using Nat.strongRecOn with
 | _ m ih=>
   intro n hn
   obtain ⟨k,rfl⟩:∃k,n=k+1:=⟨n-1,by omega⟩
   have hrow:=yj hs k m (by omega) fun r hr g hg h1=>vO hs r (fun r' hr'=>ih r' (by omega)) g hg h1
   refine pq hs k m hrow ?_
   cases m with
   | zero=>exact fun w P p _ _ hp=>absurd hp (by omega)
   | succ m=>exact (ih m (by omega) k (by omega)).mono fun p hp=>by omega
def CompE (w w':World) (r:List Ins × Int) (e:Ending):Prop:=
 (∃A c,e=.returned (.tuple #[.slice A r.1.length c,.int .i64 r.2])∧am ft 266 w' w.heap.size 0 (.slice A r.1.length c) r.1)∧Below w.heap.size w w'
theorem qt {w:World} {s:ByteArray} (hs:s.size≤140737488351232) :
 Calls Tryz.prog 215 #[.string s] w fun e w'=>CompE w w' (dY s) e:=by
 obtain ⟨i0,hi0,hz0,hz1,hz2⟩:=info_parts oT
 by_cases h256:256<s.size
 ·have HX:Hid (dY s=([],4)):=zu (by unfold dY;rw [if_pos h256])
  go_enter Tryz.func215,Tryz.ntmps215
  go_wp2_with fail
  go_ret2
  rw [HX.out]
  exact ⟨⟨none,0,rfl,am.nil _ _ _ _ _⟩,zy _ _⟩
 ·have HX:Hid (dY s=if (yR s (ij (fx s.size) s ⟨0,0,0⟩).2).e=0 then ((ij (fx s.size) s ⟨0,0,0⟩).1++[qw],0) else ([],(yR s (ij (fx s.size) s ⟨0,0,0⟩).2).e)):=zu (by unfold dY ij;rw [if_neg h256])
  have HPA:=zu (qT (s:=s) (by omega) s.size (fx s.size) (by unfold fx;omega))
  go_enter Tryz.func215,Tryz.ntmps215
  go_wp2_with fail
  generalize hW:World.alloc _ _=w1
  obtain ⟨hb,hz⟩:=al1 hW
  have HB1:Hid (Blk w1 w.heap.size (psA s ⟨0,0,0⟩)):=zu (n11 hW)
  have HBB:=zu hb
  clear hW hz hb
  refine (HPA.out w1 w.heap.size ⟨0,0,0⟩ HB1.out ⟨zx _,zx _⟩ (jM _ _)).mono ?_
  rintro e w2 ⟨⟨A,c,rfl,ho⟩,he,hb⟩
  have hmd:Made s 0 ⟨0,0,0⟩ (ij (fx s.size) s ⟨0,0,0⟩):=iO s _ _
  have hl:=km hmd (by omega)
  have hat:(ij (fx s.size) s ⟨0,0,0⟩).2.at_≤s.size:=hmd.less.at_ (zx _)
  generalize ij (fx s.size) s ⟨0,0,0⟩=r at *
  obtain ⟨l,q⟩:=r
  simp only at ho hb hl hat HX
  have HB2:=zu hb
  have HE2:Hid (Below w.heap.size w w2):=zu (HBB.out.trans he.1)
  have HO2:=zu (ho.low (b0:=w.heap.size) HBB.out.size)
  generalize hLL:l.length=L at *
  have HLL:=zu hLL
  clear ho he hb hmd hLL HB1 HPA
  go_wp2_with fail
  refine (dt (s:=s) (p:=q) HB2.out (by omega) (by omega)).mono ?_
  rintro e w3 ⟨rfl,hb⟩
  have HB3:=zu (HB2.out.later hb)
  have HE3:=zu (aa HE2.out hb)
  have HO3:=zu (HO2.out.later hb (zx _))
  clear hb HB2 HE2 HO2
  rcases Bool.eq_false_or_eq_true (bP s q) with h1 | h1
  ·have HF:Hid (yR s q=q):=zu (by unfold yR;rw [if_pos h1])
   rw [HF.out] at HX
   rw [h1]
   clear h1
   by_cases hye:q.e=0
   ·rw [if_pos hye] at HX
    have hne:((q.e:Int) !=0)=false:=by rw [hye];rfl
    have k_p:∀o,w3.cell? ⟨w.heap.size,o,none⟩=(#[.string s,.int .i64 q.at_,.int .i64 q.deep,.int .i64 q.e]:Array Value)[o]?:=HB3.out.cell
    clear hye
    have HJ3:=zu (And.intro (HO3.out.later (ar (w:=w3) (o:=.cells #[.int .i64 6,.int .u64 0,.int .u64 0,.int .u64 0,.int .u64 0,.int .i64 0,.int .i64 0] 266) rfl) (zx _)) (am.src (xs:=[qw]) (fY (w:=w3) (i:=qw) (base:=w.heap.size) (o:=.cells #[.int .i64 6,.int .u64 0,.int .u64 0,.int .u64 0,.int .u64 0,.int .i64 0,.int .i64 0] 266) rfl rfl HE3.out.size)))
    go_wp2_with ((
     at_builtin
     refine aq (R:=ft) (e:=266) (base:=w.heap.size) (B:=0) (xs:=l) (ys:=[qw]) rfl (.tmp 28) (.tmp 30) 248 rfl (bytes:=56) Tryz.underlying248 hi0 hz0 hz1 hz2 rfl (show 0<7 by omega) cQ rfl HJ3.out.1 rfl HJ3.out.2 rfl (zx _) (by rw [HLL.out];simp only [zJ,List.length_nil];omega) (by omega) ((by rw [World.size_alloc];have:=HE3.out.size;omega)) ?_
     intro v w6 hown hb
     obtain ⟨A5,c5,rfl⟩:=hown.form' (show _=L+1 by rw [zA,HLL.out];rfl)
     have HOW:=zu hown
     have HBW:=zu hb
     clear hown hb))
    go_ret2
    have e9:(l++[qw]).length=L+1:=by rw [zA,HLL.out];rfl
    rw [HX.out]
    refine ⟨⟨A5,c5,?_,?_⟩,(HE3.out.alloc HE3.out.size (.cells #[.int .i64 6,.int .u64 0,.int .u64 0,.int .u64 0,.int .u64 0,.int .i64 0,.int .i64 0] 266)).trans HBW.out⟩
    ·rw [e9];rfl
    ·rw [e9];exact HOW.out
   ·have HX2:Hid (dY s=([],q.e)):=zu (by rw [HX.out,if_neg hye])
    have hne:((q.e:Int) !=0)=true:=by simpa using hye
    have k_p:∀o,w3.cell? ⟨w.heap.size,o,none⟩=(#[.string s,.int .i64 q.at_,.int .i64 q.deep,.int .i64 q.e]:Array Value)[o]?:=HB3.out.cell
    clear hye
    go_wp2_with fail
    go_region
    all_goals
     go_wp2_with fail
     go_ret2
     rw [HX2.out]
     exact ⟨⟨none,0,rfl,am.nil _ _ _ _ _⟩,HE3.out.drew⟩
  ·have HF:Hid (yR s q=bh q 3):=zu (by unfold yR;rw [h1];rfl)
   rw [HF.out] at HX
   rw [h1]
   clear h1
   go_wp2_with fail
   refine (eb (s:=s) (p:=q) (n:=3) HB3.out).mono ?_
   rintro e w4 ⟨rfl,he,hb⟩
   have hye:(bh q 3).e≠0:=fail_e (by decide)
   have HX2:Hid (dY s=([],(bh q 3).e)):=zu (by rw [HX.out,if_neg hye])
   have HB4:=zu hb
   have HE4:Hid (Below w.heap.size w w4):=zu (HE3.out.trans he.1)
   generalize bh q 3=y at *
   clear he hb HF
   have hne:((y.e:Int) !=0)=true:=by simpa using hye
   have k_p:∀o,w4.cell? ⟨w.heap.size,o,none⟩=(#[.string s,.int .i64 y.at_,.int .i64 y.deep,.int .i64 y.e]:Array Value)[o]?:=HB4.out.cell
   clear hye
   go_wp2_with fail
   go_region
   all_goals
    go_wp2_with fail
    go_ret2
    rw [HX2.out]
    exact ⟨⟨none,0,rfl,am.nil _ _ _ _ _⟩,HE4.out.drew⟩
theorem run_at {s:ByteArray} {k b:Nat} (h:k<s.size) (hb:ch s k=b) (w:World):(Instr.index 9 (.string s) (.int .i64 (k:Int))).run Tryz.prog w=.ok (.int .u8 (b:Int)) w:=by
 rw [run_index_string w 9 s .i64 _ Tryz.underlying9,dif_pos ⟨by omega,by omega⟩]
 rw [←hb,gy h]
 rfl
theorem sL (t:ByteArray):t=ByteArray.empty↔t.size=0:=⟨fun h=>by rw [h];rfl,fun h=>ByteArray.ext (Array.eq_empty_of_size_eq_zero h)⟩
theorem sP {l:List Ins} {t:ByteArray} {n i:Nat} {st:List Bool × Bool} (h:st.2=true):jj l t false n i st=true:=by
 cases n with
 | zero=>exact h
 | succ n=>unfold jj;rw [h];rfl
theorem xC {l:List Ins} {t:ByteArray} {n i:Nat} {st:List Bool × Bool} (h:st.2=false):jj l t false (n+1) i st=jj l t false n (i+1) (bQ l false (decide (i+1=t.size)) 0 (takes l (ch t i) (decide (i+1=t.size)) st)):=by
 show (if (st.2&&!false)=true then _ else _)=_
 rw [h]
 rfl
theorem vI {w:World} {p t:ByteArray} (hp:p.size≤140737488351232) (ht:t.size≤140737488351232) :
 Calls Tryz.prog 209 #[.string p,.string t,.bool false] w fun e w'=>e=.returned (.tuple #[.bool (fO p t false).1,.int .i64 (fO p t false).2])∧Below w.heap.size w w':=by
 by_cases h256:256<t.size
 ·have HX:Hid (fO p t false=(false,1)):=zu (by unfold fO;rw [if_pos h256])
  go_enter Tryz.func209,Tryz.ntmps209
  go_wp2_with fail
  go_ret2
  rw [HX.out]
  exact ⟨rfl,zy _ _⟩
 ·have HX:Hid (fO p t false=if (dY p).2≠0 then (false,(dY p).2) else (jj (dY p).1 t false t.size 0 (bQ (dY p).1 true (decide (t.size=0)) 0 (iL (dY p).1)),0)):=zu (by unfold fO;rw [if_neg h256])
  have h256':decide (256<(t.size:Int))=false:=by simp;omega
  go_enter Tryz.func209,Tryz.ntmps209
  go_wp2_with fail
  clear h256'
  refine (qt hp).mono ?_
  rintro e w1 ⟨⟨Al,cl,rfl,ho⟩,hb⟩
  by_cases he:(dY p).2=0
  ·have HPR:=zu (xu he)
   rw [if_neg (by simp [he])] at HX
   generalize dY p=r at *
   obtain ⟨l,e⟩:=r
   simp only at he ho HX HPR
   have hq:((e:Int) !=0)=false:=by rw [he];rfl
   have hlen:=HPR.out.len
   have hpos:=HPR.out.pos
   have HL:=zu (ho.rows (by omega))
   have HB1:=zu hb
   have hmk:=fun w=>mL l.length (by omega) w
   clear ho hb he
   go_wp2_with fail
   generalize hA:World.alloc _ _=w2
   obtain ⟨hb,hz⟩:=al2 hA
   have HN2:Hid (Ways (w1.heap.size+1) w1.heap.size l Al cl l.length w2 (iL l)):=zu (by
    have h0:bS (w1.alloc (.cells (cE (List.replicate l.length false)) 4)) w1.heap.size (cE (List.replicate l.length false)) 4:=heap_alloc_new w1 _
    have h1:=h0.later (ar (w:=w1.alloc (.cells (cE (List.replicate l.length false)) 4)) (o:=.cells #[.slice Al l.length cl,.slice (some ⟨w1.heap.size,0,none⟩) l.length l.length,.bool false] 254) rfl)
    have h2:=heap_alloc_new (w1.alloc (.cells (cE (List.replicate l.length false)) 4)) (.cells #[.slice Al l.length cl,.slice (some ⟨w1.heap.size,0,none⟩) l.length l.length,.bool false] 254)
    rw [World.size_alloc] at h2
    exact hA▸⟨h2,h1,by simp [iL],by omega⟩)
   have HB2:=zu hb
   clear hA hz hb hmk
   refine (gE (B:=w1.heap.size) (Int.le_refl _) (by omega) HN2.out (HL.out.keep HB2.out (zw _)) (by omega) (zw _) HPR.out (zw _)).mono ?_
   rintro e w3 ⟨rfl,hx,hn⟩
   have hie:t.toList.isEmpty=decide (t.size=0):=by rw [be,Bool.eq_iff_iff,zH,zH];exact sL t
   rw [hie] at hn
   have HN3:=zu hn
   have HB3:Hid (Below w1.heap.size w1 w3):=zu (HB2.out.trans (hx.1.mono (by omega)))
   generalize bQ l true (decide (t.size=0)) 0 (iL l)=st0 at *
   clear hx hn hie HN2 HB2
   have hz3:w1.heap.size+1<w3.heap.size:=HN3.out.wb.blk.lt
   go_wp2_with fail
   go_loopw [10,36] (fun v10 v36 wr=>∃(k W G ca:Nat) (st:List Bool × Bool),k≤t.size∧v10=.pointer (some ⟨W,0,none⟩)∧v36=.int .i64 k∧w1.heap.size≤W∧w1.heap.size≤G∧l.length≤ca∧Hid (jj l t false t.size 0 st0=jj l t false (t.size-k) k st)∧Hid (Ways W G l Al cl ca wr st)∧Hid (Below w1.heap.size w1 wr)) (fun _ v _=>t.size-(intOf v).toNat)
   case atStart=>exact ⟨0,_,_,_,st0,zx _,rfl,rfl,by omega,zw _,zw _,zu (by rw [Nat.sub_zero]),HN3,HB3⟩
   case round=>
    obtain ⟨k,W,G,ca,st,hk,rfl,rfl,hBW,hBG,hca,HE,HN,HBr⟩:=hrel
    have hWlt:=HN.out.wb.blk.lt
    have k_w:∀o,wr.cell? ⟨W,o,none⟩=(#[.slice Al l.length cl,.slice (some ⟨G,0,none⟩) l.length ca,.bool st.2]:Array Value)[o]?:=HN.out.wb.blk.cell
    by_cases hlt:k<t.size
    ·rcases Bool.eq_false_or_eq_true st.2 with hd | hd
     ·have HR:Hid (jj l t false t.size 0 st0=true):=zu (by rw [HE.out,sP hd])
      rw [hd] at k_w
      clear hd HE
      go_wp2_with fail
      go_ret2
      rw [HX.out,HR.out]
      exact ⟨rfl,aa HB1.out HBr.out⟩
     ·obtain ⟨n,hn⟩:∃n,t.size-k=n+1:=⟨t.size-k-1,by omega⟩
      obtain ⟨lb,hlb⟩:∃lb,decide (k+1=t.size)=lb:=⟨_,rfl⟩
      obtain ⟨c,hcb⟩:∃c,ch t k=c:=⟨_,rfl⟩
      have HE2:Hid (jj l t false t.size 0 st0=jj l t false (t.size-(k+1)) (k+1) (bQ l false lb 0 (takes l c lb st))):=zu (by
       rw [HE.out,hn,xC hd,hlb,hcb,show t.size-(k+1)=n by omega])
      have hc256:c<256:=by rw [←hcb];exact uu _ _
      have hix:=fun wx=>run_at hlt hcb wx
      have hql:((k:Int)==(t.size:Int)-1)=lb:=by
       rw [←hlb,Bool.eq_iff_iff]
       simp
       omega
      rw [hd] at k_w
      clear hd HE hn hlb hcb
      go_wp2_with fail
      refine (wD (B:=w1.heap.size) (c:=c) HN.out (HL.out.keep HBr.out (zw _)) hBW hBG HPR.out hc256 hca).mono ?_
      rintro e w4 ⟨W2,G2,ca2,rfl,hn2,hW2,hG2,hca2,hb4⟩
      have HN4:=zu hn2
      have HB4:=zu (aa HBr.out hb4)
      have hszr:=HBr.out.size
      clear hn2 hb4 k_w hix
      go_wp2_with fail
      refine (gE (B:=w1.heap.size) (Int.le_refl _) (by omega) HN4.out (HL.out.keep HB4.out (zw _)) (by omega) (by omega) HPR.out hca2).mono ?_
      rintro e w5 ⟨rfl,hx,hn⟩
      have HN5:=zu hn
      have HB5:Hid (Below w1.heap.size w1 w5):=zu (HB4.out.trans (hx.1.mono (by omega)))
      clear hx hn HN4 HB4 hql
      go_wp2_with fail
      go_roundw
      case rel=>exact ⟨k+1,W2,G2,ca2,_,by omega,rfl,by go_num,by omega,by omega,hca2,HE2,HN5,HB5⟩
      case measure=>simp [intOf];omega
    ·have HR:Hid (jj l t false t.size 0 st0=st.2):=zu (by rw [HE.out,show t.size-k=0 by omega];rfl)
     go_wp2_with fail
     go_ret2
     rw [HX.out,HR.out]
     exact ⟨rfl,aa HB1.out HBr.out⟩
  ·have hq:(((dY p).2:Int) !=0)=true:=by simpa using he
   rw [if_pos he] at HX
   have HB:=zu hb
   clear hb ho he
   go_wp2_with fail
   go_ret2
   rw [HX.out]
   exact ⟨rfl,HB.out⟩
theorem rE {w:World} {p t:ByteArray} (hp:p.size≤140737488351232) (ht:t.size≤140737488351232) :
 Calls Tryz.prog 200 #[.string p,.string t] w fun e w'=>e=.returned (.tuple #[.bool (fO p t false).1,.int .i64 (fO p t false).2])∧Below w.heap.size w w':=by
 go_enter Tryz.func200,Tryz.ntmps200
 go_wp2_with fail
 refine (vI hp ht).mono ?_
 rintro e w1 ⟨rfl,hb⟩
 have HB:=zu hb
 clear hb
 go_wp2_with fail
 go_ret2
 exact ⟨rfl,HB.out⟩
end Go.Proofs.YtjpndglegpcdnaaGreat
