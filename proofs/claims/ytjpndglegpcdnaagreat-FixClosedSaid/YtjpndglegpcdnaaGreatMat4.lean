/- match.fits (a part of a text), Find. -/
import Derived.Test.YtjpndglegpcdnaaGreatStk
import Derived.Test.YtjpndglegpcdnaaGreatReg4
import Derived.Deep.Cut
import Derived.Deep.CutRange
import Derived.Deep.LoopGhost
import Derived.RegionTactic
set_option linter.unusedVariables false
set_option linter.unusedSimpArgs false
set_option maxRecDepth 100000
set_option maxHeartbeats 8000000
namespace Go.Proofs.YtjpndglegpcdnaaGreat
open Go.ChangeShapes Go.WideShapes Go.ChangeAt Go.RowKit
def iB (n:Nat) (s:ByteArray) (p:PS):List Ins × PS:=rx s n p
def rowF (n:Nat) (s:ByteArray) (p:PS):List Ins × PS:=jO s n p []
def ej (n:Nat) (s:ByteArray) (p:PS):List Ins × PS:=eT s n p
def fN (n:Nat) (s:ByteArray) (p:PS):List Ins × PS:=fO s n p
def PE (P:Nat) (s:ByteArray) (w w':World) (r:List Ins × PS) (e:Ending):Prop:=
 (∃A c,e=.returned (.slice A r.1.length c)∧aq fx 266 w' w.heap.size 0 (.slice A r.1.length c) r.1)∧Exc P w w'∧Blk w' P (psA s r.2)
structure OkP (s:ByteArray) (p:PS):Prop where
 at_:p.at_≤s.size
 deep:p.deep≤20
def fK (F:FuncId) (f:ByteArray→PS→List Ins × PS) (s:ByteArray) (ok:PS→Prop):Prop:=
 ∀(w:World) (P:Nat) (p:PS),Blk w P (psA s p)→OkP s p→ok p→Calls Tryz.prog F #[.pointer (some ⟨P,0,none⟩)] w fun e w'=>PE P s w w' (f s p) e
theorem OkP.less {s:ByteArray} {d:Nat} {p q:PS} (h:OkP s p) (k:Less s d p q):OkP s q:=⟨k.at_ h.at_,by rw [k.deep];exact h.deep⟩
theorem kM {s:ByteArray} {d:Nat} {p:PS} {r:List Ins × PS} (h:Made s d p r) (hs:s.size≤1000):r.1.length≤2000:=by
 have:=h.len
 have:=kl s p
 omega
theorem od {w w':World} {base P:Nat} {v:Value} {xs:List Ins} (h:aq fx 266 w base 0 v xs) (he:Exc P w w') (hP:P<base):aq fx 266 w' base 0 v xs:=h.exc he hP
theorem ends_of {s:ByteArray} {p:PS} {c:Nat} (h:isP s p c=true):bF s p≠0:=by
 have:=lI h
 rw [eE] at this
 simpa using this
theorem pP {s:ByteArray} (hs:s.size≤1000) (n m:Nat) (hrow:fK 229 (rowF n) s (fun p=>bF s p≤m)) (hpat:fK 221 (iB n) s (fun p=>bF s p<m)) :
 fK 221 (iB (n+1)) s (fun p=>bF s p≤m):=by
 intro w P p hb hok hm
 have hlt:=hb.lt
 have HOK:=AE hok
 have HB:=AE hb
 have HROW:=AE hrow
 have HPAT:=AE hpat
 clear hb hok hrow hpat
 go_enter Tryz.func221,Tryz.ntmps221
 go_wp2_with fail
 refine (HROW.out w P p HB.out HOK.out hm).mono ?_
 rintro e w1 ⟨⟨A,c,rfl,ho⟩,he,hb⟩
 have HR:Hid (Less s 0 p (rowF n s p).2∧(rowF n s p).1.length+2*bF s (rowF n s p).2≤0+2*bF s p):=AE (zh s n p [])
 have hl1:(rowF n s p).1.length≤2000:=by have:=HR.out.2;have:=kl s p;omega
 have HX:Hid (iB (n+1) s p=if isP s (rowF n s p).2 124=true then (io (rowF n s p).1 (iB n s (rowF n s p).2.step).1,(iB n s (rowF n s p).2.step).2) else rowF n s p):=AE rfl
 generalize rowF n s p=r at *
 obtain ⟨l1,q⟩:=r
 simp only at ho hb hl1 HX
 have HO1:=AE ho
 have HE1:=AE he
 have HB1:=AE hb
 have HOK1:Hid (OkP s q):=AE (HOK.out.less HR.out.1)
 have hq:=HOK1.out.at_
 have hle:bF s q≤bF s p:=HR.out.1.le
 clear ho he hb HR
 go_wp2_with fail
 refine (cG (s:=s) (p:=q) (c:=124) HB1.out (by omega) (by omega)).mono ?_
 rintro e w2 ⟨rfl,hb⟩
 have hle2:=HE1.out.1.size
 have HB2:=AE (HB1.out.later hb)
 have HE2:=AE (HE1.out.then (Nat.le_of_lt hlt) hb)
 have HO2:=AE (HO1.out.later hb (AH _))
 have hlt2:P<w2.heap.size:=by have:=HE2.out.1.size;omega
 clear hb HB1 HO1 HE1
 rcases Bool.eq_false_or_eq_true (isP s q 124) with hi | hi
 ·have hst:=Less.byte hi
  have hrem:bF s q.step<m:=by have:=hst.lt (ends_of hi);omega
  have HOK3:Hid (OkP s q.step):=AE (HOK1.out.less hst)
  rw [hi,if_pos rfl] at HX
  rw [hi]
  clear hi hst
  have k_p:∀o,w2.cell? ⟨P,o,none⟩=(#[.string s,.int .i64 q.at_,.int .i64 q.deep,.int .i64 q.e]:Array Value)[o]?:=HB2.out.cell
  have f_p:=HB2.out.free
  go_wp2_with fail
  have HB3:=AE (stepped HB2.out)
  have HE3:=AE (HE2.out.set 1 (.int .i64 ((q.at_:Int)+1)))
  have HO3:=AE (HO2.out.far (c:=P) (i:=1) hlt (AH _) (.int .i64 ((q.at_:Int)+1)))
  generalize w2.setCell _ _=w3 at *
  clear k_p f_p HB2 HE2 HO2
  refine (HPAT.out w3 P q.step HB3.out HOK3.out hrem).mono ?_
  rintro e w4 ⟨⟨A2,c2,rfl,ho⟩,he,hb⟩
  have hl2:(iB n s q.step).1.length≤2000:=kM (jf s n q.step) hs
  generalize iB n s q.step=r at *
  obtain ⟨l2,q2⟩:=r
  simp only at ho hl2 hb HX ⊢
  have hsz3:=HE3.out.1.size
  have HO4:=AE (od HO3.out he hlt)
  have HS4:=AE ho
  have HB4:=AE hb
  have HE4:=AE (HE3.out.trans he)
  have hsz4:=he.1.size
  clear ho he hb HO3 HE3 HB3
  go_wp2_with fail
  refine (tp (B:=w4.heap.size) (HO4.out.rows (by omega)) (HS4.out.rows (by omega)) (AG _) (by omega) (by omega)).mono ?_
  rintro e w5 ⟨⟨A3,c3,rfl,ho⟩,hb⟩
  have HE5:=AE (HE4.out.then (Nat.le_of_lt hlt) hb)
  have HB5:=AE (HB4.out.later hb)
  have HO5:=AE (ho.low (b0:=w.heap.size) (by have:=HE4.out.1.size;omega))
  clear ho hb
  go_wp2_with fail
  go_ret
  rw [HX.out]
  exact ⟨⟨A3,c3,rfl,HO5.out⟩,HE5.out,HB5.out⟩
 ·rw [hi,if_neg (by simp)] at HX
  rw [hi]
  clear hi
  go_wp2_with fail
  go_ret
  rw [HX.out]
  exact ⟨⟨A,c,rfl,HO2.out⟩,HE2.out,HB2.out⟩
def iS (n:Nat) (s:ByteArray) (p:PS):List Ins × PS:=
 if p.deep=20 then ([],bj p 4)
 else
  let q:=iB n s ⟨p.at_,p.deep+1,p.e⟩
  let z:=aI s q.2
  let f:=if z.1≠41 then bj z.2 3 else z.2
  (q.1,⟨f.at_,f.deep-1,f.e⟩)
theorem tC {s:ByteArray} (hs:s.size≤1000) (n m:Nat) (hpat:fK 221 (iB n) s (fun p=>bF s p≤m)) :
 fK 238 (iS n) s (fun p=>bF s p≤m):=by
 intro w P p hb hok hm
 have hlt:=hb.lt
 have HOK:=AE hok
 have HB:=AE hb
 have HPAT:=AE hpat
 have hat:=hok.at_
 have hdp:=hok.deep
 clear hb hok hpat
 by_cases h20:p.deep=20
 ·have HX:Hid (iS n s p=([],bj p 4)):=AE (by unfold iS;rw [if_pos h20])
  have k_p:∀o,w.cell? ⟨P,o,none⟩=(#[.string s,.int .i64 p.at_,.int .i64 p.deep,.int .i64 p.e]:Array Value)[o]?:=HB.out.cell
  have hq:((p.deep:Int)==20)=true:=by simp;omega
  clear h20
  go_enter Tryz.func238,Tryz.ntmps238
  go_wp2_with fail
  refine (ee (s:=s) (p:=p) (n:=4) HB.out).mono ?_
  rintro e w1 ⟨rfl,he,hb⟩
  have HE:=AE he
  have HB1:=AE hb
  clear he hb k_p
  go_wp2_with fail
  go_ret
  rw [HX.out]
  exact ⟨⟨none,0,rfl,aq.nil _ _ _ _ _⟩,HE.out,HB1.out⟩
 ·have HX:Hid (iS n s p=((iB n s ⟨p.at_,p.deep+1,p.e⟩).1,⟨(if (aI s (iB n s ⟨p.at_,p.deep+1,p.e⟩).2).1≠41 then bj (aI s (iB n s ⟨p.at_,p.deep+1,p.e⟩).2).2 3 else (aI s (iB n s ⟨p.at_,p.deep+1,p.e⟩).2).2).at_,(if (aI s (iB n s ⟨p.at_,p.deep+1,p.e⟩).2).1≠41 then bj (aI s (iB n s ⟨p.at_,p.deep+1,p.e⟩).2).2 3 else (aI s (iB n s ⟨p.at_,p.deep+1,p.e⟩).2).2).deep-1,(if (aI s (iB n s ⟨p.at_,p.deep+1,p.e⟩).2).1≠41 then bj (aI s (iB n s ⟨p.at_,p.deep+1,p.e⟩).2).2 3 else (aI s (iB n s ⟨p.at_,p.deep+1,p.e⟩).2).2).e⟩)):=AE (by unfold iS;rw [if_neg h20])
  have k_p:∀o,w.cell? ⟨P,o,none⟩=(#[.string s,.int .i64 p.at_,.int .i64 p.deep,.int .i64 p.e]:Array Value)[o]?:=HB.out.cell
  have f_p:=HB.out.free
  have hq:((p.deep:Int)==20)=false:=by simp;omega
  have hwd:wrap64 ((p.deep:Int)+1)=(p.deep:Int)+1:=jT (by omega) (by omega)
  have hdp2:p.deep<20:=by omega
  clear h20
  go_enter Tryz.func238,Tryz.ntmps238
  go_wp2_with fail
  have HB1:Hid (Blk (w.setCell ⟨P,2,none⟩ (.int .i64 ((p.deep:Int)+1))) P (psA s ⟨p.at_,p.deep+1,p.e⟩)):=AE (HB.out.set_ 2 _)
  have HE1:=AE ((Exc.refl P w).set 2 (.int .i64 ((p.deep:Int)+1)))
  generalize w.setCell _ _=w1 at *
  clear k_p f_p hq hwd
  refine (HPAT.out w1 P ⟨p.at_,p.deep+1,p.e⟩ HB1.out ⟨hat,hdp2⟩ hm).mono ?_
  rintro e w2 ⟨⟨A,c,rfl,ho⟩,he,hb⟩
  have HM:Hid (Made s 0 ⟨p.at_,p.deep+1,p.e⟩ (iB n s ⟨p.at_,p.deep+1,p.e⟩)):=AE (jf s n _)
  generalize iB n s ⟨p.at_,p.deep+1,p.e⟩=r at *
  obtain ⟨l,q⟩:=r
  simp only at ho hb HX
  have hdq:q.deep=p.deep+1:=HM.out.less.deep
  have hatq:q.at_≤s.size:=HM.out.less.at_ hat
  have HB2:=AE hb
  have HE2:=AE (HE1.out.trans he)
  have HO2:=AE (ho.low (b0:=w.heap.size) HE1.out.1.size)
  clear ho hb he HB1 HE1 HM
  go_wp2_with fail
  refine (fp (s:=s) (p:=q) HB2.out (by omega) (by omega)).mono ?_
  rintro e w3 ⟨rfl,he,hb⟩
  have hnl:=cP s q
  have hdz:(aI s q).2.deep=q.deep:=hnl.deep
  have HB3:=AE hb
  have HE3:=AE (HE2.out.trans he)
  have HO3:=AE (od HO2.out he hlt)
  clear hb he HB2 HE2 HO2 hnl
  generalize aI s q=z at *
  obtain ⟨c1,z⟩:=z
  simp only at hdz HB3 HX
  by_cases h41:c1=41
  ·have hq:((c1:Int) !=41)=false:=by rw [h41];rfl
   rw [if_neg (by simp [h41])] at HX
   have hdz1:(z.deep:Int)-1=((z.deep-1:Nat):Int):=by omega
   have hwd:wrap64 (((z.deep-1:Nat):Int))=((z.deep-1:Nat):Int):=jT (by omega) (by omega)
   have k_p:∀o,w3.cell? ⟨P,o,none⟩=(#[.string s,.int .i64 z.at_,.int .i64 z.deep,.int .i64 z.e]:Array Value)[o]?:=HB3.out.cell
   have f_p:=HB3.out.free
   clear h41 hdq hdz
   go_wp2_with fail
   go_ret
   rw [HX.out]
   exact ⟨⟨A,c,rfl,HO3.out.far hlt (AH _) _⟩,HE3.out.set 2 _,HB3.out.set_ 2 _⟩
  ·have hq:((c1:Int) !=41)=true:=by simp;omega
   rw [if_pos h41] at HX
   clear h41
   go_wp2_with fail
   refine (ee (s:=s) (p:=z) (n:=3) HB3.out).mono ?_
   rintro e w4 ⟨rfl,he,hb⟩
   have HB4:=AE hb
   have HE4:=AE (HE3.out.trans he)
   have HO4:=AE (od HO3.out he hlt)
   have hdz2:(bj z 3).deep=z.deep:=lu _ _
   clear hb he HB3 HE3 HO3 hq
   generalize bj z 3=y at *
   have hdz1:(y.deep:Int)-1=((y.deep-1:Nat):Int):=by omega
   have hwd:wrap64 (((y.deep-1:Nat):Int))=((y.deep-1:Nat):Int):=jT (by omega) (by omega)
   have k_p:∀o,w4.cell? ⟨P,o,none⟩=(#[.string s,.int .i64 y.at_,.int .i64 y.deep,.int .i64 y.e]:Array Value)[o]?:=HB4.out.cell
   have f_p:=HB4.out.free
   clear hdz2 hdz hdq
   go_wp2_with fail
   go_ret
   rw [HX.out]
   exact ⟨⟨A,c,rfl,HO4.out.far hlt (AH _) _⟩,HE4.out.set 2 _,HB4.out.set_ 2 _⟩
structure AS (P G:Nat) (s:ByteArray) (w0 w:World) (p:PS) (i:Ins):Prop where
 pb:Blk w P (psA s p)
 gb:Blk w G (inA i)
 ex:Exc P w0 w
 hP:P<w0.heap.size
 hG:w0.heap.size≤G
section
variable {P G:Nat} {s:ByteArray} {w0 w w':World} {p q:PS} {i j:Ins}
theorem AS.later (h:AS P G s w0 w p i) (hb:Below w.heap.size w w'):AS P G s w0 w' p i:=
 ⟨h.pb.later hb,h.gb.later hb,h.ex.then (Nat.le_of_lt h.hP) hb,h.hP,h.hG⟩
theorem AS.exP (h:AS P G s w0 w p i) (he:Exc P w w') (hp:Blk w' P (psA s q)):AS P G s w0 w' q i:=
 ⟨hp,he.blk (by have:=h.hP;have:=h.hG;omega) h.gb,h.ex.trans he,h.hP,h.hG⟩
theorem AS.exG (h:AS P G s w0 w p i) (he:Exc G w w') (hg:Blk w' G (inA j)):AS P G s w0 w' p j:=
 ⟨he.blk (by have:=h.hP;have:=h.hG;omega) h.pb,hg,h.ex.fresh he h.hP h.hG,h.hP,h.hG⟩
theorem AS.cellsG (h:AS P G s w0 w p i):∀o,w.cell? ⟨G,o,none⟩=(#[.int .i64 i.kind,.int .u64 i.a,.int .u64 i.b,.int .u64 i.c,.int .u64 i.d,.int .i64 i.x,.int .i64 i.y]:Array Value)[o]?:=h.gb.cell
theorem AS.cellsP (h:AS P G s w0 w p i):∀o,w.cell? ⟨P,o,none⟩=(#[.string s,.int .i64 p.at_,.int .i64 p.deep,.int .i64 p.e]:Array Value)[o]?:=h.pb.cell
theorem AS.ends (h:AS P G s w0 w p i):PE P s w0 (w.alloc (.cells #[.int .i64 i.kind,.int .u64 i.a,.int .u64 i.b,.int .u64 i.c,.int .u64 i.d,.int .i64 i.x,.int .i64 i.y] 266)) ([i],p) (.returned (.slice (some ⟨w.heap.size,0,none⟩) 1 1)):=by
 have hb:=au (w:=w) (o:=.cells #[.int .i64 i.kind,.int .u64 i.a,.int .u64 i.b,.int .u64 i.c,.int .u64 i.d,.int .i64 i.x,.int .i64 i.y] 266) rfl
 exact ⟨⟨_,1,rfl,gg (w:=w) (i:=i) (o:=.cells #[.int .i64 i.kind,.int .u64 i.a,.int .u64 i.b,.int .u64 i.c,.int .u64 i.d,.int .i64 i.x,.int .i64 i.y] 266) rfl rfl h.ex.1.size⟩,(h.later hb).ex,h.pb.later hb⟩
theorem AS.put1 (h:AS P G s w0 w p i) (n:Nat) (v:Value) (hj:inA j=(inA i).setIfInBounds n v):AS P G s w0 (w.setCell ⟨G,n,none⟩ v) p j:=
 h.exG ((Exc.refl G w).set n v) (by rw [hj];exact h.gb.set_ n v)
end
theorem PE.size {P:Nat} {s:ByteArray} {w w':World} {r:List Ins × PS} {e:Ending} (h:PE P s w w' r e):w.heap.size≤w'.heap.size:=h.2.1.1.size
theorem OwnE.low {P:Nat} {s:ByteArray} {w0 w w':World} {r:List Ins × PS} {e:Ending} (h:PE P s w w' r e) (h0:Exc P w0 w):PE P s w0 w' r e:=by
 obtain ⟨⟨A,c,e1,ho⟩,he,hb⟩:=h
 exact ⟨⟨A,c,e1,ho.low h0.1.size⟩,h0.trans he,hb⟩
theorem uT (c:Nat) (hc:c<256):decide (0≤Lib.indexByte [41,42,43,63,124] ((c:Int).toNat.toUInt8))=lg c:=by
 have key:∀c:Fin 256,decide (0≤Lib.indexByte [41,42,43,63,124] (((c.val:Nat):Int).toNat.toUInt8))=lg c.val:=by decide +kernel
 exact key ⟨c,hc⟩
theorem atom_of {s:ByteArray} {n:Nat} {p q:PS} {c:Nat} (h:aI s p=(c,q)):fN (n+1) s p =
 if c=40∧q.e=0 then iS n s q
 else if c=91 then ([(dY s q).1],(dY s q).2)
 else if c=46 then ([anyI],q)
 else if c=94 then ([⟨4,0,0,0,0,0,0⟩],q)
 else if c=36 then ([⟨5,0,0,0,0,0,0⟩],q)
 else if c=92 then ([mw ci (aI s q).1],(aI s q).2)
 else if lg c then ([ci],bj q 3)
 else ([mw ci c],q):=by
 unfold fN fO iS iB
 rw [h]
theorem next_40 {s:ByteArray} {p q:PS} {c:Nat} (h:aI s p=(c,q)) (hc:c≠0):q.e=0:=by
 unfold aI at h
 split at h
 ·simp only [Prod.mk.injEq] at h;omega
 ·rename_i he
  simp only [Prod.mk.injEq] at h
  have:=rt (s:=s) (p:=p) (by simpa using he)
  rw [←h.2]
  exact this.1
theorem uS {s:ByteArray} (hs:s.size≤1000) (n m:Nat) (hgr:fK 238 (iS n) s (fun p=>bF s p<m)) :
 fK 236 (fN (n+1)) s (fun p=>bF s p≤m∧bF s p≠0):=by
 intro w P p hb hok hm
 have hlt:=hb.lt
 have hat:=hok.at_
 have HB0:=AE hb
 have HGR:=AE hgr
 have HOK:=AE hok
 obtain ⟨hm,hne⟩:=hm
 clear hb hok hgr
 go_enter Tryz.func236,Tryz.ntmps236
 go_wp2_with fail
 generalize hW:World.alloc _ _=w1
 obtain ⟨hb,hz⟩:=al1 hW
 have HC1:Hid (AS P w.heap.size s w w1 p ci):=AE ⟨HB0.out.later hb,n11 hW,Exc.of (Nat.le_of_lt hlt) hb,hlt,AG _⟩
 clear hW hz hb HB0
 generalize w.heap.size=G at *
 refine (fp (s:=s) (p:=p) HC1.out.pb (by omega) (by omega)).mono ?_
 rintro e w2 ⟨rfl,he,hb⟩
 have HC2:=AE (HC1.out.exP he hb)
 have hnl:=cP s p
 have hnt:=rv s p
 have hrem:bF s (aI s p).2<m:=by have:=hnl.lt hne;omega
 clear he hb HC1
 have HX:∀c q,aI s p=(c,q)→_:=fun c q h=>atom_of (n:=n) h
 generalize hN:aI s p=z at *
 obtain ⟨c,q⟩:=z
 have HXc:=AE (HX c q rfl)
 have h40:Hid (c≠0→q.e=0):=AE (next_40 hN)
 have HOK2:=AE (HOK.out.less hnl)
 simp only at HC2 hnt hrem HOK2
 have hat2:=HOK2.out.at_
 clear HX hN hnl
 have hcases:c=40∨c=91∨c=46∨c=94∨c=36∨c=92∨(c≠40∧c≠91∧c≠46∧c≠94∧c≠36∧c≠92):=by omega
 rcases hcases with rfl | rfl | rfl | rfl | rfl | rfl | ⟨h1,h2,h3,h4,h5,h6⟩
 ·have hq0:=h40.out (by omega)
  have HX2:Hid (fN (n+1) s p=iS n s q):=AE (by rw [HXc.out,if_pos ⟨rfl,hq0⟩])
  have k_p:=HC2.out.cellsP
  have hqe:((q.e:Int)==0)=true:=by rw [hq0];rfl
  clear hq0 HXc
  go_wp2_with fail
  refine (HGR.out w2 P q HC2.out.pb HOK2.out hrem).mono ?_
  rintro e w3 hpe
  have HPE:=AE (OwnE.low hpe HC2.out.ex)
  clear hpe k_p hqe
  obtain ⟨⟨A,c2,rfl,ho⟩,he,hb⟩:=HPE.out
  clear ho he hb
  go_wp2_with fail
  go_ret
  rw [HX2.out]
  exact HPE.out
 ·have HX2:Hid (fN (n+1) s p=([(dY s q).1],(dY s q).2)):=AE (by rw [HXc.out];simp)
  clear HXc
  go_wp2_with fail
  refine (vj (s:=s) (p:=q) HC2.out.pb (by omega) hat2).mono ?_
  rintro e w3 ⟨rfl,he,hb⟩
  have HC3:=AE (HC2.out.exP he hb)
  clear he hb HC2
  generalize dY s q=z at *
  obtain ⟨i,y⟩:=z
  simp only at HC3
  have k_g:∀o,w3.cell? ⟨G,o,none⟩=(#[.int .i64 1,.int .u64 0,.int .u64 0,.int .u64 0,.int .u64 0,.int .i64 0,.int .i64 0]:Array Value)[o]?:=HC3.out.gb.cell
  have f_g:=HC3.out.gb.free
  unfold kA
  go_wp2_with fail
  go_ret
  have h7:=((((((HC3.out.put1 (j:=⟨i.kind,0,0,0,0,0,0⟩) 0 (.int .i64 i.kind) rfl).put1 (j:=⟨i.kind,i.a,0,0,0,0,0⟩) 1 (.int .u64 i.a) rfl).put1 (j:=⟨i.kind,i.a,i.b,0,0,0,0⟩) 2 (.int .u64 i.b) rfl).put1 (j:=⟨i.kind,i.a,i.b,i.c,0,0,0⟩) 3 (.int .u64 i.c) rfl).put1 (j:=⟨i.kind,i.a,i.b,i.c,i.d,0,0⟩) 4 (.int .u64 i.d) rfl).put1 (j:=⟨i.kind,i.a,i.b,i.c,i.d,i.x,0⟩) 5 (.int .i64 i.x) rfl).put1 (j:=⟨i.kind,i.a,i.b,i.c,i.d,i.x,i.y⟩) 6 (.int .i64 i.y) rfl
  have h8:=h7.ends
  simp only [World.size_setCell] at h8
  rw [HX2.out]
  exact h8
 ·have HX2:Hid (fN (n+1) s p=([anyI],q)):=AE (by rw [HXc.out];simp)
  clear HXc
  have k_g:∀o,w2.cell? ⟨G,o,none⟩=(#[.int .i64 1,.int .u64 0,.int .u64 0,.int .u64 0,.int .u64 0,.int .i64 0,.int .i64 0]:Array Value)[o]?:=HC2.out.gb.cell
  have f_g:=HC2.out.gb.free
  go_wp2_with fail
  go_ret
  have h7:=(((HC2.out.put1 (j:=⟨1,18446744073709551615,0,0,0,0,0⟩) 1 (.int .u64 18446744073709551615) rfl).put1 (j:=⟨1,18446744073709551615,18446744073709551615,0,0,0,0⟩) 2 (.int .u64 18446744073709551615) rfl).put1 (j:=⟨1,18446744073709551615,18446744073709551615,18446744073709551615,0,0,0⟩) 3 (.int .u64 18446744073709551615) rfl).put1 (j:=anyI) 4 (.int .u64 18446744073709551615) rfl
  have h8:=h7.ends
  simp only [World.size_setCell] at h8
  rw [HX2.out]
  exact h8
 ·have HX2:Hid (fN (n+1) s p=([⟨4,0,0,0,0,0,0⟩],q)):=AE (by rw [HXc.out];simp)
  clear HXc
  have k_g:∀o,w2.cell? ⟨G,o,none⟩=(#[.int .i64 1,.int .u64 0,.int .u64 0,.int .u64 0,.int .u64 0,.int .i64 0,.int .i64 0]:Array Value)[o]?:=HC2.out.gb.cell
  have f_g:=HC2.out.gb.free
  go_wp2_with fail
  go_ret
  have h7:=HC2.out.put1 (j:=⟨4,0,0,0,0,0,0⟩) 0 (.int .i64 4) rfl
  have h8:=h7.ends
  simp only [World.size_setCell] at h8
  rw [HX2.out]
  exact h8
 ·have HX2:Hid (fN (n+1) s p=([⟨5,0,0,0,0,0,0⟩],q)):=AE (by rw [HXc.out];simp)
  clear HXc
  have k_g:∀o,w2.cell? ⟨G,o,none⟩=(#[.int .i64 1,.int .u64 0,.int .u64 0,.int .u64 0,.int .u64 0,.int .i64 0,.int .i64 0]:Array Value)[o]?:=HC2.out.gb.cell
  have f_g:=HC2.out.gb.free
  go_wp2_with fail
  go_ret
  have h7:=HC2.out.put1 (j:=⟨5,0,0,0,0,0,0⟩) 0 (.int .i64 5) rfl
  have h8:=h7.ends
  simp only [World.size_setCell] at h8
  rw [HX2.out]
  exact h8
 ·have HX2:Hid (fN (n+1) s p=([mw ci (aI s q).1],(aI s q).2)):=AE (by rw [HXc.out];simp)
  clear HXc
  go_wp2_with fail
  refine (fp (s:=s) (p:=q) HC2.out.pb (by omega) (by omega)).mono ?_
  rintro e w3 ⟨rfl,he,hb⟩
  have HC3:=AE (HC2.out.exP he hb)
  have hnt2:=rv s q
  clear he hb HC2
  generalize aI s q=z at *
  obtain ⟨d,y⟩:=z
  simp only at HC3 hnt2 HX2
  go_wp2_with fail
  refine (jF (c:=d) HC3.out.gb hnt2).mono ?_
  rintro e w4 ⟨rfl,he,hg⟩
  have HC4:=AE (HC3.out.exG he hg)
  clear he hg HC3
  generalize mw ci d=i at *
  have k_g:=HC4.out.cellsG
  go_wp2_with fail
  go_ret
  rw [HX2.out]
  exact HC4.out.ends
 ·have q1:((c:Int)==40)=false:=by simp;omega
  have q2:((c:Int)==91)=false:=by simp;omega
  have q3:((c:Int)==46)=false:=by simp;omega
  have q4:((c:Int)==94)=false:=by simp;omega
  have q5:((c:Int)==36)=false:=by simp;omega
  have q6:((c:Int)==92)=false:=by simp;omega
  have HX2:Hid (fN (n+1) s p=if lg c then ([ci],bj q 3) else ([mw ci c],q)):=AE (by rw [HXc.out,if_neg (by omega),if_neg h2,if_neg h3,if_neg h4,if_neg h5,if_neg h6])
  have HBI:=AE (uT c hnt)
  clear HXc h1 h2 h3 h4 h5 h6
  go_wp2_with fail
  refine (Tryz.strings_IndexByte _ _ _).mono ?_
  rintro e w3 ⟨rfl,rfl⟩
  have HB2:Hid (decide (0≤Lib.indexByte (⟨#[41,42,43,63,124]⟩:ByteArray).data.toList (c:Int).toNat.toUInt8)=lg c):=HBI
  generalize Lib.indexByte (⟨#[41,42,43,63,124]⟩:ByteArray).data.toList (c:Int).toNat.toUInt8=ix at *
  clear HBI
  generalize lg c=bb at *
  cases bb
  ·have hix:decide (0≤ix)=false:=HB2.out
   have hix2:¬(0≤ix):=by simpa using hix
   rw [if_neg (by simp)] at HX2
   go_wp2_with fail
   refine (jF (c:=c) HC2.out.gb hnt).mono ?_
   rintro e w4 ⟨rfl,he,hg⟩
   have HC4:=AE (HC2.out.exG he hg)
   clear he hg
   generalize mw ci c=i at *
   have k_g:=HC4.out.cellsG
   go_wp2_with fail
   go_ret
   rw [HX2.out]
   exact HC4.out.ends
  ·have hix:decide (0≤ix)=true:=HB2.out
   have hix2:0≤ix:=by simpa using hix
   rw [if_pos rfl] at HX2
   go_wp2_with fail
   refine (ee (s:=s) (p:=q) (n:=3) HC2.out.pb).mono ?_
   rintro e w4 ⟨rfl,he,hb⟩
   have HC4:=AE (HC2.out.exP he hb)
   clear he hb
   generalize ci=i at *
   have k_g:=HC4.out.cellsG
   go_wp2_with fail
   go_ret
   rw [HX2.out]
   exact HC4.out.ends
theorem rp {B c L:Nat} {l:List Ins} {A:Option Addr} {k0:Int} {w:World} (hL:l.length=L) (hl:RL fx w B l A) (hB:B≤w.heap.size) (hn:L≤1000000) :
 Calls Tryz.prog 235 #[.slice A L c,.int .i64 k0] w fun e w'=>(∃A c,e=.returned (.slice A L c)∧aq fx 266 w' w.heap.size 0 (.slice A L c) (aL l k0))∧Below w.heap.size w w':=by
 subst hL
 refine (lS (c:=c) (k0:=k0) hl hB hn).mono ?_
 rintro e w' ⟨⟨A,c,rfl,ho⟩,hb⟩
 rw [ah] at ho ⊢
 exact ⟨⟨A,c,rfl,ho⟩,hb⟩
theorem zb {s:ByteArray} {n:Nat} {p q:PS} {l:List Ins} (h:fN n s p=(l,q)):ej (n+1) s p =
 if isP s q 42 then ([bD 1 (l.length+2)]++aL l 1++[iW 0],q.step)
 else if isP s q 43 then (l++[bD 0 (l.length+1)],q.step)
 else if isP s q 63 then ([bD 1 (l.length+1)]++aL l 1,q.step)
 else (l,q):=by
 unfold ej eT
 unfold fN at h
 rw [h]
structure PSt (P:Nat) (s:ByteArray) (w0 w:World) (p:PS) (l:List Ins) (v:Value):Prop where
 pb:Blk w P (psA s p)
 ex:Exc P w0 w
 own:aq fx 266 w w0.heap.size 0 v l
 hP:P<w0.heap.size
theorem PSt.later {P:Nat} {s:ByteArray} {w0 w w':World} {p:PS} {l:List Ins} {v:Value} (h:PSt P s w0 w p l v) (hb:Below w.heap.size w w'):PSt P s w0 w' p l v:=
 ⟨h.pb.later hb,h.ex.then (Nat.le_of_lt h.hP) hb,h.own.later hb (AH _),h.hP⟩
theorem PSt.step {P:Nat} {s:ByteArray} {w0 w:World} {p:PS} {l:List Ins} {v:Value} (h:PSt P s w0 w p l v):PSt P s w0 (w.setCell ⟨P,1,none⟩ (.int .i64 ((p.at_:Int)+1))) p.step l v:=
 ⟨stepped h.pb,h.ex.set 1 _,h.own.far h.hP (AH _) _,h.hP⟩
theorem PSt.to {P:Nat} {s:ByteArray} {w0 w w':World} {p:PS} {l l':List Ins} {v v':Value} (h:PSt P s w0 w p l v) (hb:Below w0.heap.size w w') (ho:aq fx 266 w' w0.heap.size 0 v' l'):PSt P s w0 w' p l' v':=
 ⟨h.pb.keep hb h.hP,h.ex.own hb (AG _) h.hP,ho,h.hP⟩
theorem PSt.cells {P:Nat} {s:ByteArray} {w0 w:World} {p:PS} {l:List Ins} {v:Value} (h:PSt P s w0 w p l v):∀o,w.cell? ⟨P,o,none⟩=(#[.string s,.int .i64 p.at_,.int .i64 p.deep,.int .i64 p.e]:Array Value)[o]?:=h.pb.cell
theorem PSt.pe {P:Nat} {s:ByteArray} {w0 w:World} {p:PS} {l:List Ins} {A:Option Addr} {n c:Nat} (h:PSt P s w0 w p l (.slice A n c)):PE P s w0 w (l,p) (.returned (.slice A n c)):=by
 obtain ⟨A',c',e⟩:=h.own.form
 simp only [AR] at e
 obtain ⟨rfl,rfl,rfl⟩:=e
 exact ⟨⟨_,_,rfl,h.own⟩,h.ex,h.pb⟩
theorem tW {s:ByteArray} (hs:s.size≤1000) (n m:Nat) (hn:1≤n) (hat:fK 236 (fN n) s (fun p=>bF s p≤m∧bF s p≠0)) :
 fK 234 (ej (n+1)) s (fun p=>bF s p≤m∧bF s p≠0):=by
 obtain ⟨i0,hi0,hz0,hz1,hz2⟩:=info_parts pt
 intro w P p hb hok hm
 have hlt:=hb.lt
 have HB:=AE hb
 have HAT:=AE hat
 have HOK:=AE hok
 have HM:=AE hm
 clear hb hok hat hm
 go_enter Tryz.func234,Tryz.ntmps234
 go_wp2_with fail
 refine (HAT.out w P p HB.out HOK.out HM.out).mono ?_
 rintro e w1 ⟨⟨A,c,rfl,ho⟩,he,hb⟩
 have hmd:Made s 1 p (fN n s p):=uR s n p HM.out.2 hn
 have hl:(fN n s p).1.length≤2000:=kM hmd hs
 have hok2:=HOK.out.less hmd.less
 have HX:∀l q,fN n s p=(l,q)→_:=fun l q h=>zb h
 generalize fN n s p=r at *
 obtain ⟨l,q⟩:=r
 have HXc:=AE (HX l q rfl)
 simp only at ho hb hl hok2
 have hq:=hok2.at_
 have HS1:=AE (PSt.mk hb he ho hlt)
 clear ho he hb HX hmd hok2 HB
 generalize hLL:l.length=L at *
 have HLL:=AE hLL
 clear hLL
 go_wp2_with fail
 refine (cG (s:=s) (p:=q) (c:=42) HS1.out.pb (by omega) (by omega)).mono ?_
 rintro e w2 ⟨rfl,hb⟩
 have HS2:=AE (HS1.out.later hb)
 clear hb HS1
 have hcases:isP s q 42=true∨isP s q 42=false∧isP s q 43=true∨isP s q 42=false∧isP s q 43=false∧isP s q 63=true∨isP s q 42=false∧isP s q 43=false∧isP s q 63=false:=by
  cases isP s q 42<;>cases isP s q 43<;>cases isP s q 63<;>simp
 rcases hcases with h1 | ⟨h1,h2⟩ | ⟨h1,h2,h3⟩ | ⟨h1,h2,h3⟩
 ·have HX2:Hid (ej (n+1) s p=([bD 1 (L+2)]++aL l 1++[iW 0],q.step)):=AE (by rw [HXc.out,h1];rfl)
  obtain ⟨hq1,_⟩:=wg h1
  rw [h1]
  clear HXc h1
  go_wp2_with fail
  generalize hW:World.alloc _ _=w3
  obtain ⟨hb,hz⟩:=al1 hW
  have HN3:=AE (gg (i:=bD 1 (L+2)) (base:=w.heap.size) hW rfl HS2.out.ex.1.size)
  have HS3:=AE (HS2.out.later hb)
  clear hW hz hb HS2
  refine (rp (B:=w3.heap.size) (c:=c) (k0:=1) HLL.out (HS3.out.own.rows (by rw [HLL.out];omega)) (AG _) (by omega)).mono ?_
  rintro e w4 ⟨⟨A3,c3,rfl,ho⟩,hb⟩
  have HN4:=AE (HN3.out.later hb (AH _))
  have HS4:=AE (HS3.out.later hb)
  have HM4:=AE ho.srcn
  have hle4:=HS4.out.ex.1.size
  clear ho hb HN3 HS3
  go_upto_region 6 with ((
   at_builtin
   refine ar (R:=fx) (e:=266) (base:=w.heap.size) (B:=0) (xs:=[bD 1 (L+2)]) (ys:=aL l 1) rfl (.tmp 16) (.tmp 18) 248 rfl (bytes:=56) Tryz.underlying248 hi0 hz0 hz1 hz2 rfl (show 0<7 by omega) cS rfl HN4.out rfl HM4.out ((ah l 1).trans HLL.out).symm (AH _) (by rw [ah,HLL.out];simp only [AV,List.length_nil];omega) (by omega) (hle4) ?_
   intro v w5 hown hb
   obtain ⟨A4,c4,rfl⟩:=hown.form' (show _=L+1 by rw [AK,ah,HLL.out];simp;omega)
   have HOW:=AE hown
   have HBW:=AE hb
   clear hown hb))
  have HS5:=AE (HS4.out.to HBW.out HOW.out)
  have HJ5:=AE (And.intro (HS5.out.own.later (au (w:=w5) (o:=.cells #[.int .i64 3,.int .u64 0,.int .u64 0,.int .u64 0,.int .u64 0,.int .i64 0,.int .i64 0] 266) rfl) (AH _)) (aq.src (xs:=[iW 0]) (gg (w:=w5) (i:=iW 0) (base:=w.heap.size) (o:=.cells #[.int .i64 3,.int .u64 0,.int .u64 0,.int .u64 0,.int .u64 0,.int .i64 0,.int .i64 0] 266) rfl rfl HS5.out.ex.1.size)))
  clear HOW HBW HS4 HN4 HM4
  go_wp2_with ((
   at_builtin
   refine ar (R:=fx) (e:=266) (base:=w.heap.size) (B:=0) (xs:=[bD 1 (L+2)]++aL l 1) (ys:=[iW 0]) rfl (.tmp 20) (.tmp 22) 248 rfl (bytes:=56) Tryz.underlying248 hi0 hz0 hz1 hz2 rfl (show 0<7 by omega) cS rfl HJ5.out.1 rfl HJ5.out.2 rfl (AH _) (by rw [AK,ah,HLL.out];simp only [AV,List.length_nil];omega) (by omega) ((by rw [World.size_alloc];have:=HS5.out.ex.1.size;omega)) ?_
   intro v w6 hown hb
   obtain ⟨A5,c5,rfl⟩:=hown.form' (show _=L+2 by rw [AK,AK,ah,HLL.out];simp;omega)
   have HOW:=AE hown
   have HBW:=AE hb
   clear hown hb
   have HS6:=AE ((HS5.out.later (au (w:=w5) (o:=.cells #[.int .i64 3,.int .u64 0,.int .u64 0,.int .u64 0,.int .u64 0,.int .i64 0,.int .i64 0] 266) rfl)).to HBW.out HOW.out)
   have k_p:=HS6.out.cells
   have f_p:=HS6.out.pb.free))
  go_ret
  rw [HX2.out]
  exact HS6.out.step.pe
 ·have HX2:Hid (ej (n+1) s p=(l++[bD 0 (L+1)],q.step)):=AE (by rw [HXc.out,h1,h2];rfl)
  obtain ⟨hq1,_⟩:=wg h2
  rw [h1]
  clear HXc h1
  go_wp2_with fail
  refine (cG (s:=s) (p:=q) (c:=43) HS2.out.pb (by omega) (by omega)).mono ?_
  rintro e w3 ⟨rfl,hb⟩
  have HS3:=AE (HS2.out.later hb)
  clear hb HS2
  rw [h2]
  clear h2
  have HJ3:=AE (And.intro (HS3.out.own.later (au (w:=w3) (o:=.cells #[.int .i64 2,.int .u64 0,.int .u64 0,.int .u64 0,.int .u64 0,.int .i64 0,.int .i64 ((L:Int)+1)] 266) rfl) (AH _)) (aq.src (xs:=[bD 0 (L+1)]) (gg (w:=w3) (i:=bD 0 (L+1)) (base:=w.heap.size) (o:=.cells #[.int .i64 2,.int .u64 0,.int .u64 0,.int .u64 0,.int .u64 0,.int .i64 0,.int .i64 ((L:Int)+1)] 266) rfl rfl HS3.out.ex.1.size)))
  go_wp2_with ((
   at_builtin
   refine ar (R:=fx) (e:=266) (base:=w.heap.size) (B:=0) (xs:=l) (ys:=[bD 0 (L+1)]) rfl (.tmp 27) (.tmp 31) 248 rfl (bytes:=56) Tryz.underlying248 hi0 hz0 hz1 hz2 rfl (show 0<7 by omega) cS rfl HJ3.out.1 rfl HJ3.out.2 rfl (AH _) (by rw [HLL.out];simp only [AV,List.length_nil];omega) (by omega) ((by rw [World.size_alloc];have:=HS3.out.ex.1.size;omega)) ?_
   intro v w6 hown hb
   obtain ⟨A5,c5,rfl⟩:=hown.form' (show _=L+1 by rw [AK,HLL.out];rfl)
   have HOW:=AE hown
   have HBW:=AE hb
   clear hown hb
   have HS6:=AE ((HS3.out.later (au (w:=w3) (o:=.cells #[.int .i64 2,.int .u64 0,.int .u64 0,.int .u64 0,.int .u64 0,.int .i64 0,.int .i64 ((L:Int)+1)] 266) rfl)).to HBW.out HOW.out)
   have k_p:=HS6.out.cells
   have f_p:=HS6.out.pb.free))
  go_ret
  rw [HX2.out]
  exact HS6.out.step.pe
 ·have HX2:Hid (ej (n+1) s p=([bD 1 (L+1)]++aL l 1,q.step)):=AE (by rw [HXc.out,h1,h2,h3];rfl)
  obtain ⟨hq1,_⟩:=wg h3
  rw [h1]
  clear HXc h1
  go_wp2_with fail
  refine (cG (s:=s) (p:=q) (c:=43) HS2.out.pb (by omega) (by omega)).mono ?_
  rintro e w3 ⟨rfl,hb⟩
  have HS3:=AE (HS2.out.later hb)
  clear hb HS2
  rw [h2]
  clear h2
  go_wp2_with fail
  refine (cG (s:=s) (p:=q) (c:=63) HS3.out.pb (by omega) (by omega)).mono ?_
  rintro e w4 ⟨rfl,hb⟩
  have HS4:=AE (HS3.out.later hb)
  clear hb HS3
  rw [h3]
  clear h3
  go_wp2_with fail
  generalize hW:World.alloc _ _=w5
  obtain ⟨hb,hz⟩:=al1 hW
  have HN5:=AE (gg (i:=bD 1 (L+1)) (base:=w.heap.size) hW rfl HS4.out.ex.1.size)
  have HS5:=AE (HS4.out.later hb)
  clear hW hz hb HS4
  refine (rp (B:=w5.heap.size) (c:=c) (k0:=1) HLL.out (HS5.out.own.rows (by rw [HLL.out];omega)) (AG _) (by omega)).mono ?_
  rintro e w6 ⟨⟨A3,c3,rfl,ho⟩,hb⟩
  have HN6:=AE (HN5.out.later hb (AH _))
  have HS6:=AE (HS5.out.later hb)
  have HM6:=AE ho.srcn
  have hle6:=HS6.out.ex.1.size
  clear ho hb HN5 HS5
  go_wp2_with ((
   at_builtin
   refine ar (R:=fx) (e:=266) (base:=w.heap.size) (B:=0) (xs:=[bD 1 (L+1)]) (ys:=aL l 1) rfl (.tmp 39) (.tmp 41) 248 rfl (bytes:=56) Tryz.underlying248 hi0 hz0 hz1 hz2 rfl (show 0<7 by omega) cS rfl HN6.out rfl HM6.out ((ah l 1).trans HLL.out).symm (AH _) (by rw [ah,HLL.out];simp only [AV,List.length_nil];omega) (by omega) (hle6) ?_
   intro v w7 hown hb
   obtain ⟨A4,c4,rfl⟩:=hown.form' (show _=L+1 by rw [AK,ah,HLL.out];simp;omega)
   have HOW:=AE hown
   have HBW:=AE hb
   clear hown hb
   have HS7:=AE (HS6.out.to HBW.out HOW.out)
   have k_p:=HS7.out.cells
   have f_p:=HS7.out.pb.free))
  go_ret
  rw [HX2.out]
  exact HS7.out.step.pe
 ·have HX2:Hid (ej (n+1) s p=(l,q)):=AE (by rw [HXc.out,h1,h2,h3];rfl)
  rw [h1]
  clear HXc h1
  go_wp2_with fail
  refine (cG (s:=s) (p:=q) (c:=43) HS2.out.pb (by omega) (by omega)).mono ?_
  rintro e w3 ⟨rfl,hb⟩
  have HS3:=AE (HS2.out.later hb)
  clear hb HS2
  rw [h2]
  clear h2
  go_wp2_with fail
  refine (cG (s:=s) (p:=q) (c:=63) HS3.out.pb (by omega) (by omega)).mono ?_
  rintro e w4 ⟨rfl,hb⟩
  have HS4:=AE (HS3.out.later hb)
  clear hb HS3
  rw [h3]
  clear h3
  go_wp2_with fail
  go_ret
  rw [HX2.out]
  exact HS4.out.pe
theorem xl {s:ByteArray} {n:Nat} {p:PS} {out:List Ins} (h:(!bP s p&&(!isP s p 124&&!isP s p 41))=false):jO s n p out=(out,p):=by
 cases n with
 | zero=>rfl
 | succ n=>unfold jO;rw [h];rfl
theorem rowR_go {s:ByteArray} {n:Nat} {p:PS} {out:List Ins} (h:(!bP s p&&(!isP s p 124&&!isP s p 41))=true):jO s (n+1) p out=jO s n (ej n s p).2 (out++aL (ej n s p).1 out.length):=by
 show (if (!bP s p&&(!isP s p 124&&!isP s p 41))=true then _ else _)=_
 rw [h]
 rfl
theorem zi {s:ByteArray} (hs:s.size≤1000) (n m:Nat) (hn:4*m+1≤n) (hpc:∀r,r≤m→∀g,4*r≤g→1≤r→fK 234 (ej g) s (fun p=>bF s p≤r∧bF s p≠0)) :
 fK 229 (rowF n) s (fun p=>bF s p≤m):=by
 obtain ⟨i0,hi0,hz0,hz1,hz2⟩:=info_parts pt
 intro w P p hb hok hm
 have hlt:=hb.lt
 have HB:=AE hb
 have HPC:=AE hpc
 have HOK:=AE hok
 have hrs:=kl s p
 clear hb hok hpc
 go_enter Tryz.func229,Tryz.ntmps229
 go_wp2_with fail
 go_loopg [3] n (fun g v3 wr=>∃(p1:PS) (out:List Ins) (A:Option Addr) (L c:Nat),v3=.slice A L c∧Hid (out.length=L)∧Hid (jO s g p1 out=rowF n s p)∧4*bF s p1+1≤g∧bF s p1≤m∧Hid (OkP s p1)∧L+2*bF s p1≤2000∧Hid (PSt P s w wr p1 out (.slice A L c)))
 case atStart=>exact ⟨p,[],none,0,0,rfl,AE rfl,AE rfl,by omega,hm,HOK,by omega,AE ⟨HB.out,Exc.refl _ _,aq.nil _ _ _ _ _,hlt⟩⟩
 case round=>
  obtain ⟨p1,out,A,L,c,rfl,HL,HE,hg,hr1,HOK1,hlen,HS⟩:=hrel
  have hat1:=HOK1.out.at_
  rcases Bool.eq_false_or_eq_true (!bP s p1&&(!isP s p1 124&&!isP s p1 41)) with hc | hc
  ·obtain ⟨g,rfl⟩:∃g,gk=g+1:=⟨gk-1,by omega⟩
   have HE2:Hid (jO s g (ej g s p1).2 (out++aL (ej g s p1).1 L)=rowF n s p):=AE (by rw [←HE.out,rowR_go hc,HL.out])
   have hc2:bP s p1=false∧isP s p1 124=false∧isP s p1 41=false:=by
    revert hc
    cases bP s p1<;>cases isP s p1 124<;>cases isP s p1 41<;>simp
   obtain ⟨h1,h2,h3⟩:=hc2
   have hne:bF s p1≠0:=by
    rw [eE] at h1
    simpa using h1
   clear hc HE
   go_wp2_with fail
   refine (du (s:=s) (p:=p1) HS.out.pb (by omega) (by omega)).mono ?_
   rintro e w3 ⟨rfl,hb⟩
   have HS3:=AE (HS.out.later hb)
   clear hb
   rw [h1]
   clear h1
   go_wp2_with fail
   refine (cG (s:=s) (p:=p1) (c:=124) HS3.out.pb (by omega) (by omega)).mono ?_
   rintro e w4 ⟨rfl,hb⟩
   have HS4:=AE (HS3.out.later hb)
   clear hb HS3
   rw [h2]
   clear h2
   go_wp2_with fail
   refine (cG (s:=s) (p:=p1) (c:=41) HS4.out.pb (by omega) (by omega)).mono ?_
   rintro e w5 ⟨rfl,hb⟩
   have HS5:=AE (HS4.out.later hb)
   clear hb HS4
   rw [h3]
   clear h3
   go_wp2_with fail
   refine (HPC.out (bF s p1) hr1 g (by omega) (by omega) w5 P p1 HS5.out.pb HOK1.out ⟨AG _,hne⟩).mono ?_
   rintro e w6 ⟨⟨A2,c2,rfl,ho⟩,he,hb⟩
   have hmd:Made s 1 p1 (ej g s p1):=tV s g p1 hne (by omega)
   have hok2:=HOK1.out.less hmd.less
   have hrem2:=hmd.one hne
   have hlen2:=hmd.len
   have hl2:=kM hmd hs
   generalize ej g s p1=r at *
   obtain ⟨l,q⟩:=r
   simp only at ho hb hok2 hrem2 hlen2 hl2 HE2
   have HS6:=AE (PSt.mk (l:=out) hb (HS5.out.ex.trans he) (od HS5.out.own he hlt) hlt)
   have HO6:=AE (ho.rows (by omega))
   have HOK6:=AE hok2
   generalize hL2:l.length=L2 at *
   have HL2:=AE hL2
   clear ho he hb hmd hok2 hL2 HS5
   go_wp2_with fail
   refine (rp (B:=w6.heap.size) (c:=c2) (k0:=L) HL2.out HO6.out (AG _) (by omega)).mono ?_
   rintro e w7 ⟨⟨A3,c3,rfl,ho⟩,hb⟩
   have HS7:=AE (HS6.out.later hb)
   have HM7:=AE ho.srcn
   have hle7:=HS7.out.ex.1.size
   clear ho hb HS6
   go_wp2_with ((
    at_builtin
    refine ar (R:=fx) (e:=266) (base:=w.heap.size) (B:=0) (xs:=out) (ys:=aL l L) rfl (.tmp 20) (.tmp 25) 248 rfl (bytes:=56) Tryz.underlying248 hi0 hz0 hz1 hz2 rfl (show 0<7 by omega) cS rfl HS7.out.own rfl HM7.out ((ah l L).trans HL2.out).symm (AH _) (by rw [ah,HL2.out,HL.out];omega) (by omega) (hle7) ?_
    intro v w8 hown hb
    obtain ⟨A4,c4,rfl⟩:=hown.form' (show _=L+L2 by rw [AK,ah,HL2.out,HL.out])
    have HOW:=AE hown
    have HBW:=AE hb
    clear hown hb))
   go_roundg g
   case rel=>exact ⟨q,out++aL l L,A4,L+L2,c4,rfl,AE (by rw [AK,ah,HL2.out,HL.out]),HE2,by omega,by omega,HOK6,by omega,AE (HS7.out.to HBW.out HOW.out)⟩
   case measure=>omega
  ·have HX:Hid (rowF n s p=(out,p1)):=AE (by rw [←HE.out,xl hc])
   have hc2:bP s p1=true∨bP s p1=false∧isP s p1 124=true∨bP s p1=false∧isP s p1 124=false∧isP s p1 41=true:=by
    revert hc
    cases bP s p1<;>cases isP s p1 124<;>cases isP s p1 41<;>simp
   clear hc HE
   rcases hc2 with h1 | ⟨h1,h2⟩ | ⟨h1,h2,h3⟩
   all_goals
    go_wp2_with fail
    refine (du (s:=s) (p:=p1) HS.out.pb (by omega) (by omega)).mono ?_
    rintro e w3 ⟨rfl,hb⟩
    have HS3:=AE (HS.out.later hb)
    clear hb
    rw [h1]
    clear h1
    go_wp2_with fail
   ·go_ret
    rw [HX.out]
    exact HS3.out.pe
   ·refine (cG (s:=s) (p:=p1) (c:=124) HS3.out.pb (by omega) (by omega)).mono ?_
    rintro e w4 ⟨rfl,hb⟩
    have HS4:=AE (HS3.out.later hb)
    clear hb HS3
    rw [h2]
    clear h2
    go_wp2_with fail
    go_ret
    rw [HX.out]
    exact HS4.out.pe
   ·refine (cG (s:=s) (p:=p1) (c:=124) HS3.out.pb (by omega) (by omega)).mono ?_
    rintro e w4 ⟨rfl,hb⟩
    have HS4:=AE (HS3.out.later hb)
    clear hb HS3
    rw [h2]
    clear h2
    go_wp2_with fail
    refine (cG (s:=s) (p:=p1) (c:=41) HS4.out.pb (by omega) (by omega)).mono ?_
    rintro e w5 ⟨rfl,hb⟩
    have HS5:=AE (HS4.out.later hb)
    clear hb HS4
    rw [h3]
    clear h3
    go_wp2_with fail
    go_ret
    rw [HX.out]
    exact HS5.out.pe
theorem fK.mono {F:FuncId} {f:ByteArray→PS→List Ins × PS} {s:ByteArray} {ok ok':PS→Prop} (h:fK F f s ok) (hi:∀p,ok' p→ok p):fK F f s ok':=fun w P p hb hok hp=>h w P p hb hok (hi p hp)
theorem wU {s:ByteArray} (hs:s.size≤1000) (r:Nat) (h:∀r',r'<r→∀n,4*r'+2≤n→fK 221 (iB n) s (fun p=>bF s p≤r')) (g:Nat) (hg:4*r≤g) (hr:1≤r):fK 234 (ej g) s (fun p=>bF s p≤r∧bF s p≠0):=by
 obtain ⟨n,rfl⟩:∃n,g=n+1+1:=⟨g-2,by omega⟩
 have hp:=h (r-1) (by omega) n (by omega)
 have hg:=tC hs n (r-1) hp
 have ha:=uS hs n r (hg.mono fun p hp=>by omega)
 exact tW hs (n+1) r (by omega) ha
theorem rz {s:ByteArray} (hs:s.size≤1000) (m:Nat):∀n,4*m+2≤n→fK 221 (iB n) s (fun p=>bF s p≤m):=by
 induction m using Nat.strongRecOn with
 | _ m ih=>
   intro n hn
   obtain ⟨k,rfl⟩:∃k,n=k+1:=⟨n-1,by omega⟩
   have hrow:=zi hs k m (by omega) fun r hr g hg h1=>wU hs r (fun r' hr'=>ih r' (by omega)) g hg h1
   refine pP hs k m hrow ?_
   cases m with
   | zero=>exact fun w P p _ _ hp=>absurd hp (by omega)
   | succ m=>exact (ih m (by omega) k (by omega)).mono fun p hp=>by omega
def CompE (w w':World) (r:List Ins × Int) (e:Ending):Prop:=
 (∃A c,e=.returned (.tuple #[.slice A r.1.length c,.int .i64 r.2])∧aq fx 266 w' w.heap.size 0 (.slice A r.1.length c) r.1)∧Below w.heap.size w w'
theorem qT {w:World} {s:ByteArray} (hs:s.size≤140737488351232) :
 Calls Tryz.prog 215 #[.string s] w fun e w'=>CompE w w' (ec s) e:=by
 obtain ⟨i0,hi0,hz0,hz1,hz2⟩:=info_parts pt
 by_cases h256:256<s.size
 ·have HX:Hid (ec s=([],4)):=AE (by unfold ec;rw [if_pos h256])
  go_enter Tryz.func215,Tryz.ntmps215
  go_wp2_with fail
  go_ret2
  rw [HX.out]
  exact ⟨⟨none,0,rfl,aq.nil _ _ _ _ _⟩,AI _ _⟩
 ·have HX:Hid (ec s=if (zN s (iB (fB s.size) s ⟨0,0,0⟩).2).e=0 then ((iB (fB s.size) s ⟨0,0,0⟩).1++[qW],0) else ([],(zN s (iB (fB s.size) s ⟨0,0,0⟩).2).e)):=AE (by unfold ec iB;rw [if_neg h256])
  have HPA:=AE (rz (s:=s) (by omega) s.size (fB s.size) (by unfold fB;omega))
  go_enter Tryz.func215,Tryz.ntmps215
  go_wp2_with fail
  generalize hW:World.alloc _ _=w1
  obtain ⟨hb,hz⟩:=al1 hW
  have HB1:Hid (Blk w1 w.heap.size (psA s ⟨0,0,0⟩)):=AE (n11 hW)
  have HBB:=AE hb
  clear hW hz hb
  refine (HPA.out w1 w.heap.size ⟨0,0,0⟩ HB1.out ⟨AH _,AH _⟩ (kl _ _)).mono ?_
  rintro e w2 ⟨⟨A,c,rfl,ho⟩,he,hb⟩
  have hmd:Made s 0 ⟨0,0,0⟩ (iB (fB s.size) s ⟨0,0,0⟩):=jf s _ _
  have hl:=kM hmd (by omega)
  have hat:(iB (fB s.size) s ⟨0,0,0⟩).2.at_≤s.size:=hmd.less.at_ (AH _)
  generalize iB (fB s.size) s ⟨0,0,0⟩=r at *
  obtain ⟨l,q⟩:=r
  simp only at ho hb hl hat HX
  have HB2:=AE hb
  have HE2:Hid (Below w.heap.size w w2):=AE (HBB.out.trans he.1)
  have HO2:=AE (ho.low (b0:=w.heap.size) HBB.out.size)
  generalize hLL:l.length=L at *
  have HLL:=AE hLL
  clear ho he hb hmd hLL HB1 HPA
  go_wp2_with fail
  refine (du (s:=s) (p:=q) HB2.out (by omega) (by omega)).mono ?_
  rintro e w3 ⟨rfl,hb⟩
  have HB3:=AE (HB2.out.later hb)
  have HE3:=AE (aa HE2.out hb)
  have HO3:=AE (HO2.out.later hb (AH _))
  clear hb HB2 HE2 HO2
  rcases Bool.eq_false_or_eq_true (bP s q) with h1 | h1
  ·have HF:Hid (zN s q=q):=AE (by unfold zN;rw [if_pos h1])
   rw [HF.out] at HX
   rw [h1]
   clear h1
   by_cases hye:q.e=0
   ·rw [if_pos hye] at HX
    have hne:((q.e:Int) !=0)=false:=by rw [hye];rfl
    have k_p:∀o,w3.cell? ⟨w.heap.size,o,none⟩=(#[.string s,.int .i64 q.at_,.int .i64 q.deep,.int .i64 q.e]:Array Value)[o]?:=HB3.out.cell
    clear hye
    have HJ3:=AE (And.intro (HO3.out.later (au (w:=w3) (o:=.cells #[.int .i64 6,.int .u64 0,.int .u64 0,.int .u64 0,.int .u64 0,.int .i64 0,.int .i64 0] 266) rfl) (AH _)) (aq.src (xs:=[qW]) (gg (w:=w3) (i:=qW) (base:=w.heap.size) (o:=.cells #[.int .i64 6,.int .u64 0,.int .u64 0,.int .u64 0,.int .u64 0,.int .i64 0,.int .i64 0] 266) rfl rfl HE3.out.size)))
    go_wp2_with ((
     at_builtin
     refine ar (R:=fx) (e:=266) (base:=w.heap.size) (B:=0) (xs:=l) (ys:=[qW]) rfl (.tmp 28) (.tmp 30) 248 rfl (bytes:=56) Tryz.underlying248 hi0 hz0 hz1 hz2 rfl (show 0<7 by omega) cS rfl HJ3.out.1 rfl HJ3.out.2 rfl (AH _) (by rw [HLL.out];simp only [AV,List.length_nil];omega) (by omega) ((by rw [World.size_alloc];have:=HE3.out.size;omega)) ?_
     intro v w6 hown hb
     obtain ⟨A5,c5,rfl⟩:=hown.form' (show _=L+1 by rw [AK,HLL.out];rfl)
     have HOW:=AE hown
     have HBW:=AE hb
     clear hown hb))
    go_ret2
    have e9:(l++[qW]).length=L+1:=by rw [AK,HLL.out];rfl
    rw [HX.out]
    refine ⟨⟨A5,c5,?_,?_⟩,(HE3.out.alloc HE3.out.size (.cells #[.int .i64 6,.int .u64 0,.int .u64 0,.int .u64 0,.int .u64 0,.int .i64 0,.int .i64 0] 266)).trans HBW.out⟩
    ·rw [e9];rfl
    ·rw [e9];exact HOW.out
   ·have HX2:Hid (ec s=([],q.e)):=AE (by rw [HX.out,if_neg hye])
    have hne:((q.e:Int) !=0)=true:=by simpa using hye
    have k_p:∀o,w3.cell? ⟨w.heap.size,o,none⟩=(#[.string s,.int .i64 q.at_,.int .i64 q.deep,.int .i64 q.e]:Array Value)[o]?:=HB3.out.cell
    clear hye
    go_wp2_with fail
    go_region
    all_goals
     go_wp2_with fail
     go_ret2
     rw [HX2.out]
     exact ⟨⟨none,0,rfl,aq.nil _ _ _ _ _⟩,HE3.out.drew⟩
  ·have HF:Hid (zN s q=bj q 3):=AE (by unfold zN;rw [h1];rfl)
   rw [HF.out] at HX
   rw [h1]
   clear h1
   go_wp2_with fail
   refine (ee (s:=s) (p:=q) (n:=3) HB3.out).mono ?_
   rintro e w4 ⟨rfl,he,hb⟩
   have hye:(bj q 3).e≠0:=fail_e (by decide)
   have HX2:Hid (ec s=([],(bj q 3).e)):=AE (by rw [HX.out,if_neg hye])
   have HB4:=AE hb
   have HE4:Hid (Below w.heap.size w w4):=AE (HE3.out.trans he.1)
   generalize bj q 3=y at *
   clear he hb HF
   have hne:((y.e:Int) !=0)=true:=by simpa using hye
   have k_p:∀o,w4.cell? ⟨w.heap.size,o,none⟩=(#[.string s,.int .i64 y.at_,.int .i64 y.deep,.int .i64 y.e]:Array Value)[o]?:=HB4.out.cell
   clear hye
   go_wp2_with fail
   go_region
   all_goals
    go_wp2_with fail
    go_ret2
    rw [HX2.out]
    exact ⟨⟨none,0,rfl,aq.nil _ _ _ _ _⟩,HE4.out.drew⟩
theorem run_at {s:ByteArray} {k b:Nat} (h:k<s.size) (hb:ch s k=b) (w:World):(Instr.index 9 (.string s) (.int .i64 (k:Int))).run Tryz.prog w=.ok (.int .u8 (b:Int)) w:=by
 rw [run_index_string w 9 s .i64 _ Tryz.underlying9,dif_pos ⟨by omega,by omega⟩]
 rw [←hb,gH h]
 rfl
theorem tq (t:ByteArray):t=ByteArray.empty↔t.size=0:=⟨fun h=>by rw [h];rfl,fun h=>ByteArray.ext (Array.eq_empty_of_size_eq_zero h)⟩
theorem tz {l:List Ins} {t:ByteArray} {n i:Nat} {st:List Bool × Bool} (h:st.2=true):jE l t false n i st=true:=by
 cases n with
 | zero=>exact h
 | succ n=>unfold jE;rw [h];rfl
theorem yz {l:List Ins} {t:ByteArray} {n i:Nat} {st:List Bool × Bool} (h:st.2=false):jE l t false (n+1) i st=jE l t false n (i+1) (bQ l false (decide (i+1=t.size)) 0 (gA l (ch t i) (decide (i+1=t.size)) st)):=by
 show (if (st.2&&!false)=true then _ else _)=_
 rw [h]
 rfl
theorem wN {w:World} {p t:ByteArray} (hp:p.size≤140737488351232) (ht:t.size≤140737488351232) :
 Calls Tryz.prog 209 #[.string p,.string t,.bool false] w fun e w'=>e=.returned (.tuple #[.bool (fW p t false).1,.int .i64 (fW p t false).2])∧Below w.heap.size w w':=by
 by_cases h256:256<t.size
 ·have HX:Hid (fW p t false=(false,1)):=AE (by unfold fW;rw [if_pos h256])
  go_enter Tryz.func209,Tryz.ntmps209
  go_wp2_with fail
  go_ret2
  rw [HX.out]
  exact ⟨rfl,AI _ _⟩
 ·have HX:Hid (fW p t false=if (ec p).2≠0 then (false,(ec p).2) else (jE (ec p).1 t false t.size 0 (bQ (ec p).1 true (decide (t.size=0)) 0 (jb (ec p).1)),0)):=AE (by unfold fW;rw [if_neg h256])
  have h256':decide (256<(t.size:Int))=false:=by simp;omega
  go_enter Tryz.func209,Tryz.ntmps209
  go_wp2_with fail
  clear h256'
  refine (qT hp).mono ?_
  rintro e w1 ⟨⟨Al,cl,rfl,ho⟩,hb⟩
  by_cases he:(ec p).2=0
  ·have HPR:=AE (yo he)
   rw [if_neg (by simp [he])] at HX
   generalize ec p=r at *
   obtain ⟨l,e⟩:=r
   simp only at he ho HX HPR
   have hq:((e:Int) !=0)=false:=by rw [he];rfl
   have hlen:=HPR.out.len
   have hpos:=HPR.out.pos
   have HL:=AE (ho.rows (by omega))
   have HB1:=AE hb
   have hmk:=fun w=>ng l.length (by omega) w
   clear ho hb he
   go_wp2_with fail
   generalize hA:World.alloc _ _=w2
   obtain ⟨hb,hz⟩:=al2 hA
   have HN2:Hid (Ways (w1.heap.size+1) w1.heap.size l Al cl l.length w2 (jb l)):=AE (by
    have h0:bS (w1.alloc (.cells (cF (List.replicate l.length false)) 4)) w1.heap.size (cF (List.replicate l.length false)) 4:=heap_alloc_new w1 _
    have h1:=h0.later (au (w:=w1.alloc (.cells (cF (List.replicate l.length false)) 4)) (o:=.cells #[.slice Al l.length cl,.slice (some ⟨w1.heap.size,0,none⟩) l.length l.length,.bool false] 254) rfl)
    have h2:=heap_alloc_new (w1.alloc (.cells (cF (List.replicate l.length false)) 4)) (.cells #[.slice Al l.length cl,.slice (some ⟨w1.heap.size,0,none⟩) l.length l.length,.bool false] 254)
    rw [World.size_alloc] at h2
    exact hA▸⟨h2,h1,by simp [jb],by omega⟩)
   have HB2:=AE hb
   clear hA hz hb hmk
   refine (gM (B:=w1.heap.size) (Int.le_refl _) (by omega) HN2.out (HL.out.keep HB2.out (AG _)) (by omega) (AG _) HPR.out (AG _)).mono ?_
   rintro e w3 ⟨rfl,hx,hn⟩
   have hie:t.toList.isEmpty=decide (t.size=0):=by rw [bf,Bool.eq_iff_iff,AT,AT];exact tq t
   rw [hie] at hn
   have HN3:=AE hn
   have HB3:Hid (Below w1.heap.size w1 w3):=AE (HB2.out.trans (hx.1.mono (by omega)))
   generalize bQ l true (decide (t.size=0)) 0 (jb l)=st0 at *
   clear hx hn hie HN2 HB2
   have hz3:w1.heap.size+1<w3.heap.size:=HN3.out.wb.blk.lt
   go_wp2_with fail
   go_loopw [10,36] (fun v10 v36 wr=>∃(k W G ca:Nat) (st:List Bool × Bool),k≤t.size∧v10=.pointer (some ⟨W,0,none⟩)∧v36=.int .i64 k∧w1.heap.size≤W∧w1.heap.size≤G∧l.length≤ca∧Hid (jE l t false t.size 0 st0=jE l t false (t.size-k) k st)∧Hid (Ways W G l Al cl ca wr st)∧Hid (Below w1.heap.size w1 wr)) (fun _ v _=>t.size-(intOf v).toNat)
   case atStart=>exact ⟨0,_,_,_,st0,AH _,rfl,rfl,by omega,AG _,AG _,AE (by rw [Nat.sub_zero]),HN3,HB3⟩
   case round=>
    obtain ⟨k,W,G,ca,st,hk,rfl,rfl,hBW,hBG,hca,HE,HN,HBr⟩:=hrel
    have hWlt:=HN.out.wb.blk.lt
    have k_w:∀o,wr.cell? ⟨W,o,none⟩=(#[.slice Al l.length cl,.slice (some ⟨G,0,none⟩) l.length ca,.bool st.2]:Array Value)[o]?:=HN.out.wb.blk.cell
    by_cases hlt:k<t.size
    ·rcases Bool.eq_false_or_eq_true st.2 with hd | hd
     ·have HR:Hid (jE l t false t.size 0 st0=true):=AE (by rw [HE.out,tz hd])
      rw [hd] at k_w
      clear hd HE
      go_wp2_with fail
      go_ret2
      rw [HX.out,HR.out]
      exact ⟨rfl,aa HB1.out HBr.out⟩
     ·obtain ⟨n,hn⟩:∃n,t.size-k=n+1:=⟨t.size-k-1,by omega⟩
      obtain ⟨lb,hlb⟩:∃lb,decide (k+1=t.size)=lb:=⟨_,rfl⟩
      obtain ⟨c,hcb⟩:∃c,ch t k=c:=⟨_,rfl⟩
      have HE2:Hid (jE l t false t.size 0 st0=jE l t false (t.size-(k+1)) (k+1) (bQ l false lb 0 (gA l c lb st))):=AE (by
       rw [HE.out,hn,yz hd,hlb,hcb,show t.size-(k+1)=n by omega])
      have hc256:c<256:=by rw [←hcb];exact vd _ _
      have hix:=fun wx=>run_at hlt hcb wx
      have hql:((k:Int)==(t.size:Int)-1)=lb:=by
       rw [←hlb,Bool.eq_iff_iff]
       simp
       omega
      rw [hd] at k_w
      clear hd HE hn hlb hcb
      go_wp2_with fail
      refine (xB (B:=w1.heap.size) (c:=c) HN.out (HL.out.keep HBr.out (AG _)) hBW hBG HPR.out hc256 hca).mono ?_
      rintro e w4 ⟨W2,G2,ca2,rfl,hn2,hW2,hG2,hca2,hb4⟩
      have HN4:=AE hn2
      have HB4:=AE (aa HBr.out hb4)
      have hszr:=HBr.out.size
      clear hn2 hb4 k_w hix
      go_wp2_with fail
      refine (gM (B:=w1.heap.size) (Int.le_refl _) (by omega) HN4.out (HL.out.keep HB4.out (AG _)) (by omega) (by omega) HPR.out hca2).mono ?_
      rintro e w5 ⟨rfl,hx,hn⟩
      have HN5:=AE hn
      have HB5:Hid (Below w1.heap.size w1 w5):=AE (HB4.out.trans (hx.1.mono (by omega)))
      clear hx hn HN4 HB4 hql
      go_wp2_with fail
      go_roundw
      case rel=>exact ⟨k+1,W2,G2,ca2,_,by omega,rfl,by go_num,by omega,by omega,hca2,HE2,HN5,HB5⟩
      case measure=>simp [intOf];omega
    ·have HR:Hid (jE l t false t.size 0 st0=st.2):=AE (by rw [HE.out,show t.size-k=0 by omega];rfl)
     go_wp2_with fail
     go_ret2
     rw [HX.out,HR.out]
     exact ⟨rfl,aa HB1.out HBr.out⟩
  ·have hq:(((ec p).2:Int) !=0)=true:=by simpa using he
   rw [if_pos he] at HX
   have HB:=AE hb
   clear hb ho he
   go_wp2_with fail
   go_ret2
   rw [HX.out]
   exact ⟨rfl,HB.out⟩
theorem sj {w:World} {p t:ByteArray} (hp:p.size≤140737488351232) (ht:t.size≤140737488351232) :
 Calls Tryz.prog 200 #[.string p,.string t] w fun e w'=>e=.returned (.tuple #[.bool (fW p t false).1,.int .i64 (fW p t false).2])∧Below w.heap.size w w':=by
 go_enter Tryz.func200,Tryz.ntmps200
 go_wp2_with fail
 refine (wN hp ht).mono ?_
 rintro e w1 ⟨rfl,hb⟩
 have HB:=AE hb
 clear hb
 go_wp2_with fail
 go_ret2
 exact ⟨rfl,HB.out⟩
end Go.Proofs.YtjpndglegpcdnaaGreat
