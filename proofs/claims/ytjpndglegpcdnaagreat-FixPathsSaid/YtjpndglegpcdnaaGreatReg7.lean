/- regex.piece, row; the whole parser; Compile. -/
import Derived.Test.YtjpndglegpcdnaaGreatReg3
import Derived.Test.YtjpndglegpcdnaaGreatReg4
import Derived.Deep.Cut
import Derived.Deep.CutRange
import Derived.Deep.LoopGhost
import Derived.Test.YtjpndglegpcdnaaGreatTmAt
set_option linter.unusedVariables false
set_option linter.unusedSimpArgs false
set_option maxRecDepth 100000
set_option maxHeartbeats 8000000
namespace Go.Proofs.YtjpndglegpcdnaaGreat
open Go.ChangeShapes Go.WideShapes Go.ChangeAt Go.RowKit
def gZ (n:Nat) (s:ByteArray) (p:PS):List Ins × PS:=qi s n p
def rowF (n:Nat) (s:ByteArray) (p:PS):List Ins × PS:=jh s n p []
def dR (n:Nat) (s:ByteArray) (p:PS):List Ins × PS:=eG s n p
def fv (n:Nat) (s:ByteArray) (p:PS):List Ins × PS:=fw s n p
def PE (P:Nat) (s:ByteArray) (w w':World) (r:List Ins × PS) (e:Ending):Prop:=
 (∃A c,e=.returned (.slice A r.1.length c)∧am ff 266 w' w.heap.size 0 (.slice A r.1.length c) r.1)∧Exc P w w'∧Blk w' P (psA s r.2)
structure OkP (s:ByteArray) (p:PS):Prop where
 at_:p.at_≤s.size
 deep:p.deep≤20
def fq (F:FuncId) (f:ByteArray→PS→List Ins × PS) (s:ByteArray) (ok:PS→Prop):Prop:=
 ∀(w:World) (P:Nat) (p:PS),Blk w P (psA s p)→OkP s p→ok p→Calls Tryz.prog F #[.pointer (some ⟨P,0,none⟩)] w fun e w'=>PE P s w w' (f s p) e
theorem OkP.less {s:ByteArray} {d:Nat} {p q:PS} (h:OkP s p) (k:Less s d p q):OkP s q:=⟨k.at_ h.at_,by rw [k.deep];exact h.deep⟩
theorem jZ {s:ByteArray} {d:Nat} {p:PS} {r:List Ins × PS} (h:Made s d p r) (hs:s.size≤1000):r.1.length≤2000:=by
 have:=h.len
 have:=jA s p
 omega
theorem nr {w w':World} {base P:Nat} {v:Value} {xs:List Ins} (h:am ff 266 w base 0 v xs) (he:Exc P w w') (hP:P<base):am ff 266 w' base 0 v xs:=h.exc he hP
theorem ends_of {s:ByteArray} {p:PS} {c:Nat} (h:isP s p c=true):bz s p≠0:=by
 have:=kW h
 rw [ej] at this
 simpa using this
theorem oP {s:ByteArray} (hs:s.size≤1000) (n m:Nat) (hrow:fq 229 (rowF n) s (fun p=>bz s p≤m)) (hpat:fq 221 (gZ n) s (fun p=>bz s p<m)) :
 fq 221 (gZ (n+1)) s (fun p=>bz s p≤m):=by
 intro w P p hb hok hm
 have hlt:=hb.lt
 have HOK:=ym hok
 have HB:=ym hb
 have HROW:=ym hrow
 have HPAT:=ym hpat
 clear hb hok hrow hpat
 go_enter Tryz.func221,Tryz.ntmps221
 go_wp2_with fail
 refine (HROW.out w P p HB.out HOK.out hm).mono ?_
 rintro e w1 ⟨⟨A,c,rfl,ho⟩,he,hb⟩
 have HR:Hid (Less s 0 p (rowF n s p).2∧(rowF n s p).1.length+2*bz s (rowF n s p).2≤0+2*bz s p):=ym (xh s n p [])
 have hl1:(rowF n s p).1.length≤2000:=by have:=HR.out.2;have:=jA s p;omega
 have HX:Hid (gZ (n+1) s p=if isP s (rowF n s p).2 124=true then (gS (rowF n s p).1 (gZ n s (rowF n s p).2.step).1,(gZ n s (rowF n s p).2.step).2) else rowF n s p):=ym rfl
 generalize rowF n s p=r at *
 obtain ⟨l1,q⟩:=r
 simp only at ho hb hl1 HX
 have HO1:=ym ho
 have HE1:=ym he
 have HB1:=ym hb
 have HOK1:Hid (OkP s q):=ym (HOK.out.less HR.out.1)
 have hq:=HOK1.out.at_
 have hle:bz s q≤bz s p:=HR.out.1.le
 clear ho he hb HR
 go_wp2_with fail
 refine (cF (s:=s) (p:=q) (c:=124) HB1.out (by omega) (by omega)).mono ?_
 rintro e w2 ⟨rfl,hb⟩
 have hle2:=HE1.out.1.size
 have HB2:=ym (HB1.out.later hb)
 have HE2:=ym (HE1.out.then (Nat.le_of_lt hlt) hb)
 have HO2:=ym (HO1.out.later hb (yp _))
 have hlt2:P<w2.heap.size:=by have:=HE2.out.1.size;omega
 clear hb HB1 HO1 HE1
 rcases Bool.eq_false_or_eq_true (isP s q 124) with hi | hi
 ·have hst:=Less.byte hi
  have hrem:bz s q.step<m:=by have:=hst.lt (ends_of hi);omega
  have HOK3:Hid (OkP s q.step):=ym (HOK1.out.less hst)
  rw [hi,if_pos rfl] at HX
  rw [hi]
  clear hi hst
  have k_p:∀o,w2.cell? ⟨P,o,none⟩=(#[.string s,.int .i64 q.at_,.int .i64 q.deep,.int .i64 q.e]:Array Value)[o]?:=HB2.out.cell
  have f_p:=HB2.out.free
  go_wp2_with fail
  have HB3:=ym (stepped HB2.out)
  have HE3:=ym (HE2.out.set 1 (.int .i64 ((q.at_:Int)+1)))
  have HO3:=ym (HO2.out.far (c:=P) (i:=1) hlt (yp _) (.int .i64 ((q.at_:Int)+1)))
  generalize w2.setCell _ _=w3 at *
  clear k_p f_p HB2 HE2 HO2
  refine (HPAT.out w3 P q.step HB3.out HOK3.out hrem).mono ?_
  rintro e w4 ⟨⟨A2,c2,rfl,ho⟩,he,hb⟩
  have hl2:(gZ n s q.step).1.length≤2000:=jZ (iD s n q.step) hs
  generalize gZ n s q.step=r at *
  obtain ⟨l2,q2⟩:=r
  simp only at ho hl2 hb HX ⊢
  have hsz3:=HE3.out.1.size
  have HO4:=ym (nr HO3.out he hlt)
  have HS4:=ym ho
  have HB4:=ym hb
  have HE4:=ym (HE3.out.trans he)
  have hsz4:=he.1.size
  clear ho he hb HO3 HE3 HB3
  go_wp2_with fail
  refine (rP (B:=w4.heap.size) (HO4.out.rows (by omega)) (HS4.out.rows (by omega)) (yo _) (by omega) (by omega)).mono ?_
  rintro e w5 ⟨⟨A3,c3,rfl,ho⟩,hb⟩
  have HE5:=ym (HE4.out.then (Nat.le_of_lt hlt) hb)
  have HB5:=ym (HB4.out.later hb)
  have HO5:=ym (ho.low (b0:=w.heap.size) (by have:=HE4.out.1.size;omega))
  clear ho hb
  go_wp2_with fail
  go_ret
  rw [HX.out]
  exact ⟨⟨A3,c3,rfl,HO5.out⟩,HE5.out,HB5.out⟩
 ·rw [hi,if_neg (by simp)] at HX
  rw [hi]
  clear hi
  go_wp2_with fail
  go_ret
  rw [HX.out]
  exact ⟨⟨A,c,rfl,HO2.out⟩,HE2.out,HB2.out⟩
def ip (n:Nat) (s:ByteArray) (p:PS):List Ins × PS:=
 if p.deep=20 then ([],be p 4)
 else
  let q:=gZ n s ⟨p.at_,p.deep+1,p.e⟩
  let z:=aE s q.2
  let f:=if z.1≠41 then be z.2 3 else z.2
  (q.1,⟨f.at_,f.deep-1,f.e⟩)
theorem rW {s:ByteArray} (hs:s.size≤1000) (n m:Nat) (hpat:fq 221 (gZ n) s (fun p=>bz s p≤m)) :
 fq 238 (ip n) s (fun p=>bz s p≤m):=by
 intro w P p hb hok hm
 have hlt:=hb.lt
 have HOK:=ym hok
 have HB:=ym hb
 have HPAT:=ym hpat
 have hat:=hok.at_
 have hdp:=hok.deep
 clear hb hok hpat
 by_cases h20:p.deep=20
 ·have HX:Hid (ip n s p=([],be p 4)):=ym (by unfold ip;rw [if_pos h20])
  have k_p:∀o,w.cell? ⟨P,o,none⟩=(#[.string s,.int .i64 p.at_,.int .i64 p.deep,.int .i64 p.e]:Array Value)[o]?:=HB.out.cell
  have hq:((p.deep:Int)==20)=true:=by simp;omega
  clear h20
  go_enter Tryz.func238,Tryz.ntmps238
  go_wp2_with fail
  refine (dP (s:=s) (p:=p) (n:=4) HB.out).mono ?_
  rintro e w1 ⟨rfl,he,hb⟩
  have HE:=ym he
  have HB1:=ym hb
  clear he hb k_p
  go_wp2_with fail
  go_ret
  rw [HX.out]
  exact ⟨⟨none,0,rfl,am.nil _ _ _ _ _⟩,HE.out,HB1.out⟩
 ·have HX:Hid (ip n s p=((gZ n s ⟨p.at_,p.deep+1,p.e⟩).1,⟨(if (aE s (gZ n s ⟨p.at_,p.deep+1,p.e⟩).2).1≠41 then be (aE s (gZ n s ⟨p.at_,p.deep+1,p.e⟩).2).2 3 else (aE s (gZ n s ⟨p.at_,p.deep+1,p.e⟩).2).2).at_,(if (aE s (gZ n s ⟨p.at_,p.deep+1,p.e⟩).2).1≠41 then be (aE s (gZ n s ⟨p.at_,p.deep+1,p.e⟩).2).2 3 else (aE s (gZ n s ⟨p.at_,p.deep+1,p.e⟩).2).2).deep-1,(if (aE s (gZ n s ⟨p.at_,p.deep+1,p.e⟩).2).1≠41 then be (aE s (gZ n s ⟨p.at_,p.deep+1,p.e⟩).2).2 3 else (aE s (gZ n s ⟨p.at_,p.deep+1,p.e⟩).2).2).e⟩)):=ym (by unfold ip;rw [if_neg h20])
  have k_p:∀o,w.cell? ⟨P,o,none⟩=(#[.string s,.int .i64 p.at_,.int .i64 p.deep,.int .i64 p.e]:Array Value)[o]?:=HB.out.cell
  have f_p:=HB.out.free
  have hq:((p.deep:Int)==20)=false:=by simp;omega
  have hwd:wrap64 ((p.deep:Int)+1)=(p.deep:Int)+1:=jm (by omega) (by omega)
  have hdp2:p.deep<20:=by omega
  clear h20
  go_enter Tryz.func238,Tryz.ntmps238
  go_wp2_with fail
  have HB1:Hid (Blk (w.setCell ⟨P,2,none⟩ (.int .i64 ((p.deep:Int)+1))) P (psA s ⟨p.at_,p.deep+1,p.e⟩)):=ym (HB.out.set_ 2 _)
  have HE1:=ym ((Exc.refl P w).set 2 (.int .i64 ((p.deep:Int)+1)))
  generalize w.setCell _ _=w1 at *
  clear k_p f_p hq hwd
  refine (HPAT.out w1 P ⟨p.at_,p.deep+1,p.e⟩ HB1.out ⟨hat,hdp2⟩ hm).mono ?_
  rintro e w2 ⟨⟨A,c,rfl,ho⟩,he,hb⟩
  have HM:Hid (Made s 0 ⟨p.at_,p.deep+1,p.e⟩ (gZ n s ⟨p.at_,p.deep+1,p.e⟩)):=ym (iD s n _)
  generalize gZ n s ⟨p.at_,p.deep+1,p.e⟩=r at *
  obtain ⟨l,q⟩:=r
  simp only at ho hb HX
  have hdq:q.deep=p.deep+1:=HM.out.less.deep
  have hatq:q.at_≤s.size:=HM.out.less.at_ hat
  have HB2:=ym hb
  have HE2:=ym (HE1.out.trans he)
  have HO2:=ym (ho.low (b0:=w.heap.size) HE1.out.1.size)
  clear ho hb he HB1 HE1 HM
  go_wp2_with fail
  refine (eX (s:=s) (p:=q) HB2.out (by omega) (by omega)).mono ?_
  rintro e w3 ⟨rfl,he,hb⟩
  have hnl:=cM s q
  have hdz:(aE s q).2.deep=q.deep:=hnl.deep
  have HB3:=ym hb
  have HE3:=ym (HE2.out.trans he)
  have HO3:=ym (nr HO2.out he hlt)
  clear hb he HB2 HE2 HO2 hnl
  generalize aE s q=z at *
  obtain ⟨c1,z⟩:=z
  simp only at hdz HB3 HX
  by_cases h41:c1=41
  ·have hq:((c1:Int) !=41)=false:=by rw [h41];rfl
   rw [if_neg (by simp [h41])] at HX
   have hdz1:(z.deep:Int)-1=((z.deep-1:Nat):Int):=by omega
   have hwd:wrap64 (((z.deep-1:Nat):Int))=((z.deep-1:Nat):Int):=jm (by omega) (by omega)
   have k_p:∀o,w3.cell? ⟨P,o,none⟩=(#[.string s,.int .i64 z.at_,.int .i64 z.deep,.int .i64 z.e]:Array Value)[o]?:=HB3.out.cell
   have f_p:=HB3.out.free
   clear h41 hdq hdz
   go_wp2_with fail
   go_ret
   rw [HX.out]
   exact ⟨⟨A,c,rfl,HO3.out.far hlt (yp _) _⟩,HE3.out.set 2 _,HB3.out.set_ 2 _⟩
  ·have hq:((c1:Int) !=41)=true:=by simp;omega
   rw [if_pos h41] at HX
   clear h41
   go_wp2_with fail
   refine (dP (s:=s) (p:=z) (n:=3) HB3.out).mono ?_
   rintro e w4 ⟨rfl,he,hb⟩
   have HB4:=ym hb
   have HE4:=ym (HE3.out.trans he)
   have HO4:=ym (nr HO3.out he hlt)
   have hdz2:(be z 3).deep=z.deep:=kE _ _
   clear hb he HB3 HE3 HO3 hq
   generalize be z 3=y at *
   have hdz1:(y.deep:Int)-1=((y.deep-1:Nat):Int):=by omega
   have hwd:wrap64 (((y.deep-1:Nat):Int))=((y.deep-1:Nat):Int):=jm (by omega) (by omega)
   have k_p:∀o,w4.cell? ⟨P,o,none⟩=(#[.string s,.int .i64 y.at_,.int .i64 y.deep,.int .i64 y.e]:Array Value)[o]?:=HB4.out.cell
   have f_p:=HB4.out.free
   clear hdz2 hdz hdq
   go_wp2_with fail
   go_ret
   rw [HX.out]
   exact ⟨⟨A,c,rfl,HO4.out.far hlt (yp _) _⟩,HE4.out.set 2 _,HB4.out.set_ 2 _⟩
structure AS (P G:Nat) (s:ByteArray) (w0 w:World) (p:PS) (i:Ins):Prop where
 pb:Blk w P (psA s p)
 gb:Blk w G (inA i)
 ex:Exc P w0 w
 hP:P<w0.heap.size
 hG:w0.heap.size≤G
section
variable {P G:Nat} {s:ByteArray} {w0 w w':World} {p q:PS} {i j:Ins}
theorem AS.later (h:AS P G s w0 w p i) (hb:Below w.heap.size w w'):AS P G s w0 w' p i:=
 ⟨h.pb.later hb,h.gb.later hb,h.ex.then (Nat.le_of_lt h.hP) hb,h.hP,h.hG⟩
theorem AS.exP (h:AS P G s w0 w p i) (he:Exc P w w') (hp:Blk w' P (psA s q)):AS P G s w0 w' q i:=
 ⟨hp,he.blk (by have:=h.hP;have:=h.hG;omega) h.gb,h.ex.trans he,h.hP,h.hG⟩
theorem AS.exG (h:AS P G s w0 w p i) (he:Exc G w w') (hg:Blk w' G (inA j)):AS P G s w0 w' p j:=
 ⟨he.blk (by have:=h.hP;have:=h.hG;omega) h.pb,hg,h.ex.fresh he h.hP h.hG,h.hP,h.hG⟩
theorem AS.cellsG (h:AS P G s w0 w p i):∀o,w.cell? ⟨G,o,none⟩=(#[.int .i64 i.kind,.int .u64 i.a,.int .u64 i.b,.int .u64 i.c,.int .u64 i.d,.int .i64 i.x,.int .i64 i.y]:Array Value)[o]?:=h.gb.cell
theorem AS.cellsP (h:AS P G s w0 w p i):∀o,w.cell? ⟨P,o,none⟩=(#[.string s,.int .i64 p.at_,.int .i64 p.deep,.int .i64 p.e]:Array Value)[o]?:=h.pb.cell
theorem AS.ends (h:AS P G s w0 w p i):PE P s w0 (w.alloc (.cells #[.int .i64 i.kind,.int .u64 i.a,.int .u64 i.b,.int .u64 i.c,.int .u64 i.d,.int .i64 i.x,.int .i64 i.y] 266)) ([i],p) (.returned (.slice (some ⟨w.heap.size,0,none⟩) 1 1)):=by
 have hb:=ar (w:=w) (o:=.cells #[.int .i64 i.kind,.int .u64 i.a,.int .u64 i.b,.int .u64 i.c,.int .u64 i.d,.int .i64 i.x,.int .i64 i.y] 266) rfl
 exact ⟨⟨_,1,rfl,fI (w:=w) (i:=i) (o:=.cells #[.int .i64 i.kind,.int .u64 i.a,.int .u64 i.b,.int .u64 i.c,.int .u64 i.d,.int .i64 i.x,.int .i64 i.y] 266) rfl rfl h.ex.1.size⟩,(h.later hb).ex,h.pb.later hb⟩
theorem AS.put1 (h:AS P G s w0 w p i) (n:Nat) (v:Value) (hj:inA j=(inA i).setIfInBounds n v):AS P G s w0 (w.setCell ⟨G,n,none⟩ v) p j:=
 h.exG ((Exc.refl G w).set n v) (by rw [hj];exact h.gb.set_ n v)
end
theorem PE.size {P:Nat} {s:ByteArray} {w w':World} {r:List Ins × PS} {e:Ending} (h:PE P s w w' r e):w.heap.size≤w'.heap.size:=h.2.1.1.size
theorem OwnE.low {P:Nat} {s:ByteArray} {w0 w w':World} {r:List Ins × PS} {e:Ending} (h:PE P s w w' r e) (h0:Exc P w0 w):PE P s w0 w' r e:=by
 obtain ⟨⟨A,c,e1,ho⟩,he,hb⟩:=h
 exact ⟨⟨A,c,e1,ho.low h0.1.size⟩,h0.trans he,hb⟩
theorem tl (c:Nat) (hc:c<256):decide (0≤Lib.indexByte [41,42,43,63,124] ((c:Int).toNat.toUInt8))=kr c:=by
 have key:∀c:Fin 256,decide (0≤Lib.indexByte [41,42,43,63,124] (((c.val:Nat):Int).toNat.toUInt8))=kr c.val:=by decide +kernel
 exact key ⟨c,hc⟩
theorem atom_of {s:ByteArray} {n:Nat} {p q:PS} {c:Nat} (h:aE s p=(c,q)):fv (n+1) s p =
 if c=40∧q.e=0 then ip n s q
 else if c=91 then ([(dK s q).1],(dK s q).2)
 else if c=46 then ([anyI],q)
 else if c=94 then ([⟨4,0,0,0,0,0,0⟩],q)
 else if c=36 then ([⟨5,0,0,0,0,0,0⟩],q)
 else if c=92 then ([lI ch (aE s q).1],(aE s q).2)
 else if kr c then ([ch],be q 3)
 else ([lI ch c],q):=by
 unfold fv fw ip gZ
 rw [h]
theorem next_40 {s:ByteArray} {p q:PS} {c:Nat} (h:aE s p=(c,q)) (hc:c≠0):q.e=0:=by
 unfold aE at h
 split at h
 ·simp only [Prod.mk.injEq] at h;omega
 ·rename_i he
  simp only [Prod.mk.injEq] at h
  have:=qe (s:=s) (p:=p) (by simpa using he)
  rw [←h.2]
  exact this.1
theorem tk {s:ByteArray} (hs:s.size≤1000) (n m:Nat) (hgr:fq 238 (ip n) s (fun p=>bz s p<m)) :
 fq 236 (fv (n+1)) s (fun p=>bz s p≤m∧bz s p≠0):=by
 intro w P p hb hok hm
 have hlt:=hb.lt
 have hat:=hok.at_
 have HB0:=ym hb
 have HGR:=ym hgr
 have HOK:=ym hok
 obtain ⟨hm,hne⟩:=hm
 clear hb hok hgr
 go_enter Tryz.func236,Tryz.ntmps236
 go_wp2_with fail
 generalize hW:World.alloc _ _=w1
 obtain ⟨hb,hz⟩:=al1 hW
 have HC1:Hid (AS P w.heap.size s w w1 p ch):=ym ⟨HB0.out.later hb,n11 hW,Exc.of (Nat.le_of_lt hlt) hb,hlt,yo _⟩
 clear hW hz hb HB0
 generalize w.heap.size=G at *
 refine (eX (s:=s) (p:=p) HC1.out.pb (by omega) (by omega)).mono ?_
 rintro e w2 ⟨rfl,he,hb⟩
 have HC2:=ym (HC1.out.exP he hb)
 have hnl:=cM s p
 have hnt:=qg s p
 have hrem:bz s (aE s p).2<m:=by have:=hnl.lt hne;omega
 clear he hb HC1
 have HX:∀c q,aE s p=(c,q)→_:=fun c q h=>atom_of (n:=n) h
 generalize hN:aE s p=z at *
 obtain ⟨c,q⟩:=z
 have HXc:=ym (HX c q rfl)
 have h40:Hid (c≠0→q.e=0):=ym (next_40 hN)
 have HOK2:=ym (HOK.out.less hnl)
 simp only at HC2 hnt hrem HOK2
 have hat2:=HOK2.out.at_
 clear HX hN hnl
 have hcases:c=40∨c=91∨c=46∨c=94∨c=36∨c=92∨(c≠40∧c≠91∧c≠46∧c≠94∧c≠36∧c≠92):=by omega
 rcases hcases with rfl | rfl | rfl | rfl | rfl | rfl | ⟨h1,h2,h3,h4,h5,h6⟩
 ·have hq0:=h40.out (by omega)
  have HX2:Hid (fv (n+1) s p=ip n s q):=ym (by rw [HXc.out,if_pos ⟨rfl,hq0⟩])
  have k_p:=HC2.out.cellsP
  have hqe:((q.e:Int)==0)=true:=by rw [hq0];rfl
  clear hq0 HXc
  go_wp2_with fail
  refine (HGR.out w2 P q HC2.out.pb HOK2.out hrem).mono ?_
  rintro e w3 hpe
  have HPE:=ym (OwnE.low hpe HC2.out.ex)
  clear hpe k_p hqe
  obtain ⟨⟨A,c2,rfl,ho⟩,he,hb⟩:=HPE.out
  clear ho he hb
  go_wp2_with fail
  go_ret
  rw [HX2.out]
  exact HPE.out
 ·have HX2:Hid (fv (n+1) s p=([(dK s q).1],(dK s q).2)):=ym (by rw [HXc.out];simp)
  clear HXc
  go_wp2_with fail
  refine (tC (s:=s) (p:=q) HC2.out.pb (by omega) hat2).mono ?_
  rintro e w3 ⟨rfl,he,hb⟩
  have HC3:=ym (HC2.out.exP he hb)
  clear he hb HC2
  generalize dK s q=z at *
  obtain ⟨i,y⟩:=z
  simp only at HC3
  have k_g:∀o,w3.cell? ⟨G,o,none⟩=(#[.int .i64 1,.int .u64 0,.int .u64 0,.int .u64 0,.int .u64 0,.int .i64 0,.int .i64 0]:Array Value)[o]?:=HC3.out.gb.cell
  have f_g:=HC3.out.gb.free
  unfold jN
  go_wp2_with fail
  go_ret
  have h7:=((((((HC3.out.put1 (j:=⟨i.kind,0,0,0,0,0,0⟩) 0 (.int .i64 i.kind) rfl).put1 (j:=⟨i.kind,i.a,0,0,0,0,0⟩) 1 (.int .u64 i.a) rfl).put1 (j:=⟨i.kind,i.a,i.b,0,0,0,0⟩) 2 (.int .u64 i.b) rfl).put1 (j:=⟨i.kind,i.a,i.b,i.c,0,0,0⟩) 3 (.int .u64 i.c) rfl).put1 (j:=⟨i.kind,i.a,i.b,i.c,i.d,0,0⟩) 4 (.int .u64 i.d) rfl).put1 (j:=⟨i.kind,i.a,i.b,i.c,i.d,i.x,0⟩) 5 (.int .i64 i.x) rfl).put1 (j:=⟨i.kind,i.a,i.b,i.c,i.d,i.x,i.y⟩) 6 (.int .i64 i.y) rfl
  have h8:=h7.ends
  simp only [World.size_setCell] at h8
  rw [HX2.out]
  exact h8
 ·have HX2:Hid (fv (n+1) s p=([anyI],q)):=ym (by rw [HXc.out];simp)
  clear HXc
  have k_g:∀o,w2.cell? ⟨G,o,none⟩=(#[.int .i64 1,.int .u64 0,.int .u64 0,.int .u64 0,.int .u64 0,.int .i64 0,.int .i64 0]:Array Value)[o]?:=HC2.out.gb.cell
  have f_g:=HC2.out.gb.free
  go_wp2_with fail
  go_ret
  have h7:=(((HC2.out.put1 (j:=⟨1,18446744073709551615,0,0,0,0,0⟩) 1 (.int .u64 18446744073709551615) rfl).put1 (j:=⟨1,18446744073709551615,18446744073709551615,0,0,0,0⟩) 2 (.int .u64 18446744073709551615) rfl).put1 (j:=⟨1,18446744073709551615,18446744073709551615,18446744073709551615,0,0,0⟩) 3 (.int .u64 18446744073709551615) rfl).put1 (j:=anyI) 4 (.int .u64 18446744073709551615) rfl
  have h8:=h7.ends
  simp only [World.size_setCell] at h8
  rw [HX2.out]
  exact h8
 ·have HX2:Hid (fv (n+1) s p=([⟨4,0,0,0,0,0,0⟩],q)):=ym (by rw [HXc.out];simp)
  clear HXc
  have k_g:∀o,w2.cell? ⟨G,o,none⟩=(#[.int .i64 1,.int .u64 0,.int .u64 0,.int .u64 0,.int .u64 0,.int .i64 0,.int .i64 0]:Array Value)[o]?:=HC2.out.gb.cell
  have f_g:=HC2.out.gb.free
  go_wp2_with fail
  go_ret
  have h7:=HC2.out.put1 (j:=⟨4,0,0,0,0,0,0⟩) 0 (.int .i64 4) rfl
  have h8:=h7.ends
  simp only [World.size_setCell] at h8
  rw [HX2.out]
  exact h8
 ·have HX2:Hid (fv (n+1) s p=([⟨5,0,0,0,0,0,0⟩],q)):=ym (by rw [HXc.out];simp)
  clear HXc
  have k_g:∀o,w2.cell? ⟨G,o,none⟩=(#[.int .i64 1,.int .u64 0,.int .u64 0,.int .u64 0,.int .u64 0,.int .i64 0,.int .i64 0]:Array Value)[o]?:=HC2.out.gb.cell
  have f_g:=HC2.out.gb.free
  go_wp2_with fail
  go_ret
  have h7:=HC2.out.put1 (j:=⟨5,0,0,0,0,0,0⟩) 0 (.int .i64 5) rfl
  have h8:=h7.ends
  simp only [World.size_setCell] at h8
  rw [HX2.out]
  exact h8
 ·have HX2:Hid (fv (n+1) s p=([lI ch (aE s q).1],(aE s q).2)):=ym (by rw [HXc.out];simp)
  clear HXc
  go_wp2_with fail
  refine (eX (s:=s) (p:=q) HC2.out.pb (by omega) (by omega)).mono ?_
  rintro e w3 ⟨rfl,he,hb⟩
  have HC3:=ym (HC2.out.exP he hb)
  have hnt2:=qg s q
  clear he hb HC2
  generalize aE s q=z at *
  obtain ⟨d,y⟩:=z
  simp only at HC3 hnt2 HX2
  go_wp2_with fail
  refine (iX (c:=d) HC3.out.gb hnt2).mono ?_
  rintro e w4 ⟨rfl,he,hg⟩
  have HC4:=ym (HC3.out.exG he hg)
  clear he hg HC3
  generalize lI ch d=i at *
  have k_g:=HC4.out.cellsG
  go_wp2_with fail
  go_ret
  rw [HX2.out]
  exact HC4.out.ends
 ·have q1:((c:Int)==40)=false:=by simp;omega
  have q2:((c:Int)==91)=false:=by simp;omega
  have q3:((c:Int)==46)=false:=by simp;omega
  have q4:((c:Int)==94)=false:=by simp;omega
  have q5:((c:Int)==36)=false:=by simp;omega
  have q6:((c:Int)==92)=false:=by simp;omega
  have HX2:Hid (fv (n+1) s p=if kr c then ([ch],be q 3) else ([lI ch c],q)):=ym (by rw [HXc.out,if_neg (by omega),if_neg h2,if_neg h3,if_neg h4,if_neg h5,if_neg h6])
  have HBI:=ym (tl c hnt)
  clear HXc h1 h2 h3 h4 h5 h6
  go_wp2_with fail
  refine (Tryz.strings_IndexByte _ _ _).mono ?_
  rintro e w3 ⟨rfl,rfl⟩
  have HB2:Hid (decide (0≤Lib.indexByte (⟨#[41,42,43,63,124]⟩:ByteArray).data.toList (c:Int).toNat.toUInt8)=kr c):=HBI
  generalize Lib.indexByte (⟨#[41,42,43,63,124]⟩:ByteArray).data.toList (c:Int).toNat.toUInt8=ix at *
  clear HBI
  generalize kr c=bb at *
  cases bb
  ·have hix:decide (0≤ix)=false:=HB2.out
   have hix2:¬(0≤ix):=by simpa using hix
   rw [if_neg (by simp)] at HX2
   go_wp2_with fail
   refine (iX (c:=c) HC2.out.gb hnt).mono ?_
   rintro e w4 ⟨rfl,he,hg⟩
   have HC4:=ym (HC2.out.exG he hg)
   clear he hg
   generalize lI ch c=i at *
   have k_g:=HC4.out.cellsG
   go_wp2_with fail
   go_ret
   rw [HX2.out]
   exact HC4.out.ends
  ·have hix:decide (0≤ix)=true:=HB2.out
   have hix2:0≤ix:=by simpa using hix
   rw [if_pos rfl] at HX2
   go_wp2_with fail
   refine (dP (s:=s) (p:=q) (n:=3) HC2.out.pb).mono ?_
   rintro e w4 ⟨rfl,he,hb⟩
   have HC4:=ym (HC2.out.exP he hb)
   clear he hb
   generalize ch=i at *
   have k_g:=HC4.out.cellsG
   go_wp2_with fail
   go_ret
   rw [HX2.out]
   exact HC4.out.ends
theorem qc {B c L:Nat} {l:List Ins} {A:Option Addr} {k0:Int} {w:World} (hL:l.length=L) (hl:RL ff w B l A) (hB:B≤w.heap.size) (hn:L≤1000000) :
 Calls Tryz.prog 235 #[.slice A L c,.int .i64 k0] w fun e w'=>(∃A c,e=.returned (.slice A L c)∧am ff 266 w' w.heap.size 0 (.slice A L c) (aH l k0))∧Below w.heap.size w w':=by
 subst hL
 refine (lh (c:=c) (k0:=k0) hl hB hn).mono ?_
 rintro e w' ⟨⟨A,c,rfl,ho⟩,hb⟩
 rw [ah] at ho ⊢
 exact ⟨⟨A,c,rfl,ho⟩,hb⟩
theorem wZ {s:ByteArray} {n:Nat} {p q:PS} {l:List Ins} (h:fv n s p=(l,q)):dR (n+1) s p =
 if isP s q 42 then ([bu 1 (l.length+2)]++aH l 1++[iv 0],q.step)
 else if isP s q 43 then (l++[bu 0 (l.length+1)],q.step)
 else if isP s q 63 then ([bu 1 (l.length+1)]++aH l 1,q.step)
 else (l,q):=by
 unfold dR eG
 unfold fv at h
 rw [h]
structure PSt (P:Nat) (s:ByteArray) (w0 w:World) (p:PS) (l:List Ins) (v:Value):Prop where
 pb:Blk w P (psA s p)
 ex:Exc P w0 w
 own:am ff 266 w w0.heap.size 0 v l
 hP:P<w0.heap.size
theorem PSt.later {P:Nat} {s:ByteArray} {w0 w w':World} {p:PS} {l:List Ins} {v:Value} (h:PSt P s w0 w p l v) (hb:Below w.heap.size w w'):PSt P s w0 w' p l v:=
 ⟨h.pb.later hb,h.ex.then (Nat.le_of_lt h.hP) hb,h.own.later hb (yp _),h.hP⟩
theorem PSt.step {P:Nat} {s:ByteArray} {w0 w:World} {p:PS} {l:List Ins} {v:Value} (h:PSt P s w0 w p l v):PSt P s w0 (w.setCell ⟨P,1,none⟩ (.int .i64 ((p.at_:Int)+1))) p.step l v:=
 ⟨stepped h.pb,h.ex.set 1 _,h.own.far h.hP (yp _) _,h.hP⟩
theorem PSt.to {P:Nat} {s:ByteArray} {w0 w w':World} {p:PS} {l l':List Ins} {v v':Value} (h:PSt P s w0 w p l v) (hb:Below w0.heap.size w w') (ho:am ff 266 w' w0.heap.size 0 v' l'):PSt P s w0 w' p l' v':=
 ⟨h.pb.keep hb h.hP,h.ex.own hb (yo _) h.hP,ho,h.hP⟩
theorem PSt.cells {P:Nat} {s:ByteArray} {w0 w:World} {p:PS} {l:List Ins} {v:Value} (h:PSt P s w0 w p l v):∀o,w.cell? ⟨P,o,none⟩=(#[.string s,.int .i64 p.at_,.int .i64 p.deep,.int .i64 p.e]:Array Value)[o]?:=h.pb.cell
theorem PSt.pe {P:Nat} {s:ByteArray} {w0 w:World} {p:PS} {l:List Ins} {A:Option Addr} {n c:Nat} (h:PSt P s w0 w p l (.slice A n c)):PE P s w0 w (l,p) (.returned (.slice A n c)):=by
 obtain ⟨A',c',e⟩:=h.own.form
 simp only [yB] at e
 obtain ⟨rfl,rfl,rfl⟩:=e
 exact ⟨⟨_,_,rfl,h.own⟩,h.ex,h.pb⟩
theorem sy {s:ByteArray} (hs:s.size≤1000) (n m:Nat) (hn:1≤n) (hat:fq 236 (fv n) s (fun p=>bz s p≤m∧bz s p≠0)) :
 fq 234 (dR (n+1)) s (fun p=>bz s p≤m∧bz s p≠0):=by
 obtain ⟨i0,hi0,hz0,hz1,hz2⟩:=info_parts ow
 intro w P p hb hok hm
 have hlt:=hb.lt
 have HB:=ym hb
 have HAT:=ym hat
 have HOK:=ym hok
 have HM:=ym hm
 clear hb hok hat hm
 go_enter Tryz.func234,Tryz.ntmps234
 go_wp2_with fail
 refine (HAT.out w P p HB.out HOK.out HM.out).mono ?_
 rintro e w1 ⟨⟨A,c,rfl,ho⟩,he,hb⟩
 have hmd:Made s 1 p (fv n s p):=tj s n p HM.out.2 hn
 have hl:(fv n s p).1.length≤2000:=jZ hmd hs
 have hok2:=HOK.out.less hmd.less
 have HX:∀l q,fv n s p=(l,q)→_:=fun l q h=>wZ h
 generalize fv n s p=r at *
 obtain ⟨l,q⟩:=r
 have HXc:=ym (HX l q rfl)
 simp only at ho hb hl hok2
 have hq:=hok2.at_
 have HS1:=ym (PSt.mk hb he ho hlt)
 clear ho he hb HX hmd hok2 HB
 generalize hLL:l.length=L at *
 have HLL:=ym hLL
 clear hLL
 go_wp2_with fail
 refine (cF (s:=s) (p:=q) (c:=42) HS1.out.pb (by omega) (by omega)).mono ?_
 rintro e w2 ⟨rfl,hb⟩
 have HS2:=ym (HS1.out.later hb)
 clear hb HS1
 have hcases:isP s q 42=true∨isP s q 42=false∧isP s q 43=true∨isP s q 42=false∧isP s q 43=false∧isP s q 63=true∨isP s q 42=false∧isP s q 43=false∧isP s q 63=false:=by
  cases isP s q 42<;>cases isP s q 43<;>cases isP s q 63<;>simp
 rcases hcases with h1 | ⟨h1,h2⟩ | ⟨h1,h2,h3⟩ | ⟨h1,h2,h3⟩
 ·have HX2:Hid (dR (n+1) s p=([bu 1 (L+2)]++aH l 1++[iv 0],q.step)):=ym (by rw [HXc.out,h1];rfl)
  obtain ⟨hq1,_⟩:=ud h1
  rw [h1]
  clear HXc h1
  go_wp2_with fail
  generalize hW:World.alloc _ _=w3
  obtain ⟨hb,hz⟩:=al1 hW
  have HN3:=ym (fI (i:=bu 1 (L+2)) (base:=w.heap.size) hW rfl HS2.out.ex.1.size)
  have HS3:=ym (HS2.out.later hb)
  clear hW hz hb HS2
  refine (qc (B:=w3.heap.size) (c:=c) (k0:=1) HLL.out (HS3.out.own.rows (by rw [HLL.out];omega)) (yo _) (by omega)).mono ?_
  rintro e w4 ⟨⟨A3,c3,rfl,ho⟩,hb⟩
  have HN4:=ym (HN3.out.later hb (yp _))
  have HS4:=ym (HS3.out.later hb)
  have HM4:=ym ho.srcn
  have hle4:=HS4.out.ex.1.size
  clear ho hb HN3 HS3
  go_upto_region 6 with ((
   at_builtin
   refine aq (R:=ff) (e:=266) (base:=w.heap.size) (B:=0) (xs:=[bu 1 (L+2)]) (ys:=aH l 1) rfl (.tmp 16) (.tmp 18) 248 rfl (bytes:=56) Tryz.underlying248 hi0 hz0 hz1 hz2 rfl (show 0<7 by omega) cN rfl HN4.out rfl HM4.out ((ah l 1).trans HLL.out).symm (yp _) (by rw [ah,HLL.out];simp only [yE,List.length_nil];omega) (by omega) (hle4) ?_
   intro v w5 hown hb
   obtain ⟨A4,c4,rfl⟩:=hown.form' (show _=L+1 by rw [yv,ah,HLL.out];simp;omega)
   have HOW:=ym hown
   have HBW:=ym hb
   clear hown hb))
  have HS5:=ym (HS4.out.to HBW.out HOW.out)
  have HJ5:=ym (And.intro (HS5.out.own.later (ar (w:=w5) (o:=.cells #[.int .i64 3,.int .u64 0,.int .u64 0,.int .u64 0,.int .u64 0,.int .i64 0,.int .i64 0] 266) rfl) (yp _)) (am.src (xs:=[iv 0]) (fI (w:=w5) (i:=iv 0) (base:=w.heap.size) (o:=.cells #[.int .i64 3,.int .u64 0,.int .u64 0,.int .u64 0,.int .u64 0,.int .i64 0,.int .i64 0] 266) rfl rfl HS5.out.ex.1.size)))
  clear HOW HBW HS4 HN4 HM4
  go_wp2_with ((
   at_builtin
   refine aq (R:=ff) (e:=266) (base:=w.heap.size) (B:=0) (xs:=[bu 1 (L+2)]++aH l 1) (ys:=[iv 0]) rfl (.tmp 20) (.tmp 22) 248 rfl (bytes:=56) Tryz.underlying248 hi0 hz0 hz1 hz2 rfl (show 0<7 by omega) cN rfl HJ5.out.1 rfl HJ5.out.2 rfl (yp _) (by rw [yv,ah,HLL.out];simp only [yE,List.length_nil];omega) (by omega) ((by rw [World.size_alloc];have:=HS5.out.ex.1.size;omega)) ?_
   intro v w6 hown hb
   obtain ⟨A5,c5,rfl⟩:=hown.form' (show _=L+2 by rw [yv,yv,ah,HLL.out];simp;omega)
   have HOW:=ym hown
   have HBW:=ym hb
   clear hown hb
   have HS6:=ym ((HS5.out.later (ar (w:=w5) (o:=.cells #[.int .i64 3,.int .u64 0,.int .u64 0,.int .u64 0,.int .u64 0,.int .i64 0,.int .i64 0] 266) rfl)).to HBW.out HOW.out)
   have k_p:=HS6.out.cells
   have f_p:=HS6.out.pb.free))
  go_ret
  rw [HX2.out]
  exact HS6.out.step.pe
 ·have HX2:Hid (dR (n+1) s p=(l++[bu 0 (L+1)],q.step)):=ym (by rw [HXc.out,h1,h2];rfl)
  obtain ⟨hq1,_⟩:=ud h2
  rw [h1]
  clear HXc h1
  go_wp2_with fail
  refine (cF (s:=s) (p:=q) (c:=43) HS2.out.pb (by omega) (by omega)).mono ?_
  rintro e w3 ⟨rfl,hb⟩
  have HS3:=ym (HS2.out.later hb)
  clear hb HS2
  rw [h2]
  clear h2
  have HJ3:=ym (And.intro (HS3.out.own.later (ar (w:=w3) (o:=.cells #[.int .i64 2,.int .u64 0,.int .u64 0,.int .u64 0,.int .u64 0,.int .i64 0,.int .i64 ((L:Int)+1)] 266) rfl) (yp _)) (am.src (xs:=[bu 0 (L+1)]) (fI (w:=w3) (i:=bu 0 (L+1)) (base:=w.heap.size) (o:=.cells #[.int .i64 2,.int .u64 0,.int .u64 0,.int .u64 0,.int .u64 0,.int .i64 0,.int .i64 ((L:Int)+1)] 266) rfl rfl HS3.out.ex.1.size)))
  go_wp2_with ((
   at_builtin
   refine aq (R:=ff) (e:=266) (base:=w.heap.size) (B:=0) (xs:=l) (ys:=[bu 0 (L+1)]) rfl (.tmp 27) (.tmp 31) 248 rfl (bytes:=56) Tryz.underlying248 hi0 hz0 hz1 hz2 rfl (show 0<7 by omega) cN rfl HJ3.out.1 rfl HJ3.out.2 rfl (yp _) (by rw [HLL.out];simp only [yE,List.length_nil];omega) (by omega) ((by rw [World.size_alloc];have:=HS3.out.ex.1.size;omega)) ?_
   intro v w6 hown hb
   obtain ⟨A5,c5,rfl⟩:=hown.form' (show _=L+1 by rw [yv,HLL.out];rfl)
   have HOW:=ym hown
   have HBW:=ym hb
   clear hown hb
   have HS6:=ym ((HS3.out.later (ar (w:=w3) (o:=.cells #[.int .i64 2,.int .u64 0,.int .u64 0,.int .u64 0,.int .u64 0,.int .i64 0,.int .i64 ((L:Int)+1)] 266) rfl)).to HBW.out HOW.out)
   have k_p:=HS6.out.cells
   have f_p:=HS6.out.pb.free))
  go_ret
  rw [HX2.out]
  exact HS6.out.step.pe
 ·have HX2:Hid (dR (n+1) s p=([bu 1 (L+1)]++aH l 1,q.step)):=ym (by rw [HXc.out,h1,h2,h3];rfl)
  obtain ⟨hq1,_⟩:=ud h3
  rw [h1]
  clear HXc h1
  go_wp2_with fail
  refine (cF (s:=s) (p:=q) (c:=43) HS2.out.pb (by omega) (by omega)).mono ?_
  rintro e w3 ⟨rfl,hb⟩
  have HS3:=ym (HS2.out.later hb)
  clear hb HS2
  rw [h2]
  clear h2
  go_wp2_with fail
  refine (cF (s:=s) (p:=q) (c:=63) HS3.out.pb (by omega) (by omega)).mono ?_
  rintro e w4 ⟨rfl,hb⟩
  have HS4:=ym (HS3.out.later hb)
  clear hb HS3
  rw [h3]
  clear h3
  go_wp2_with fail
  generalize hW:World.alloc _ _=w5
  obtain ⟨hb,hz⟩:=al1 hW
  have HN5:=ym (fI (i:=bu 1 (L+1)) (base:=w.heap.size) hW rfl HS4.out.ex.1.size)
  have HS5:=ym (HS4.out.later hb)
  clear hW hz hb HS4
  refine (qc (B:=w5.heap.size) (c:=c) (k0:=1) HLL.out (HS5.out.own.rows (by rw [HLL.out];omega)) (yo _) (by omega)).mono ?_
  rintro e w6 ⟨⟨A3,c3,rfl,ho⟩,hb⟩
  have HN6:=ym (HN5.out.later hb (yp _))
  have HS6:=ym (HS5.out.later hb)
  have HM6:=ym ho.srcn
  have hle6:=HS6.out.ex.1.size
  clear ho hb HN5 HS5
  go_wp2_with ((
   at_builtin
   refine aq (R:=ff) (e:=266) (base:=w.heap.size) (B:=0) (xs:=[bu 1 (L+1)]) (ys:=aH l 1) rfl (.tmp 39) (.tmp 41) 248 rfl (bytes:=56) Tryz.underlying248 hi0 hz0 hz1 hz2 rfl (show 0<7 by omega) cN rfl HN6.out rfl HM6.out ((ah l 1).trans HLL.out).symm (yp _) (by rw [ah,HLL.out];simp only [yE,List.length_nil];omega) (by omega) (hle6) ?_
   intro v w7 hown hb
   obtain ⟨A4,c4,rfl⟩:=hown.form' (show _=L+1 by rw [yv,ah,HLL.out];simp;omega)
   have HOW:=ym hown
   have HBW:=ym hb
   clear hown hb
   have HS7:=ym (HS6.out.to HBW.out HOW.out)
   have k_p:=HS7.out.cells
   have f_p:=HS7.out.pb.free))
  go_ret
  rw [HX2.out]
  exact HS7.out.step.pe
 ·have HX2:Hid (dR (n+1) s p=(l,q)):=ym (by rw [HXc.out,h1,h2,h3];rfl)
  rw [h1]
  clear HXc h1
  go_wp2_with fail
  refine (cF (s:=s) (p:=q) (c:=43) HS2.out.pb (by omega) (by omega)).mono ?_
  rintro e w3 ⟨rfl,hb⟩
  have HS3:=ym (HS2.out.later hb)
  clear hb HS2
  rw [h2]
  clear h2
  go_wp2_with fail
  refine (cF (s:=s) (p:=q) (c:=63) HS3.out.pb (by omega) (by omega)).mono ?_
  rintro e w4 ⟨rfl,hb⟩
  have HS4:=ym (HS3.out.later hb)
  clear hb HS3
  rw [h3]
  clear h3
  go_wp2_with fail
  go_ret
  rw [HX2.out]
  exact HS4.out.pe
end Go.Proofs.YtjpndglegpcdnaaGreat
