/- rule.known. -/
import Derived.Test.YtjpndglegpcdnaaGreatFc4
import Derived.Test.YtjpndglegpcdnaaGreatFcIns
import Derived.Test.YtjpndglegpcdnaaGreatOwn
import Derived.Test.YtjpndglegpcdnaaGreatBS
set_option linter.unusedVariables false
set_option linter.unusedSimpArgs false
set_option maxRecDepth 100000
set_option maxHeartbeats 8000000
namespace Go.Proofs.YtjpndglegpcdnaaGreat
open Go.ChangeShapes Go.WideShapes Go.ChangeAt Go.RowKit
theorem orL2 (x y:Int):orL [x,y]=if x=0 then y else x:=by simp [orL];split<;>simp_all
theorem cmpL_by:Ord3 (fun a b:Fc=>dG (cH 3) a.pr.terms b.pr.terms):=(mS (eP 3)).by fun f:Fc=>f.pr.terms
theorem aT:Ord3 aS:=by
 have h:=Ord3.andThen (jT.by fun f:Fc=>bs f.pr.name) (Ord3.andThen (gi.by fun f:Fc=>(f.pr.terms.length:Int)) (Ord3.andThen cmpL_by (gi.by fun f:Fc=>f.o)))
 have e:aS=jk (fun a b:Fc=>dE (bs a.pr.name) (bs b.pr.name)) (jk (fun a b:Fc=>eA a.pr.terms.length b.pr.terms.length) (jk (fun a b:Fc=>dG (cH 3) a.pr.terms b.pr.terms) (fun a b:Fc=>eA a.o b.o))):=by
  funext a b
  simp only [aS,jk,orL]
  split<;>(try rfl)
  split<;>(try rfl)
  split<;>(try rfl)
  split<;>simp_all
 rw [e];exact h
theorem nC:∀{a b:List Tm},(∀x∈a,Two x)→(∀x∈b,Two x)→dG (cH 3) a b=0→a=b
 | [],[],_,_,_=>rfl
 | [],_::_,_,_,h=>by simp [dG] at h
 | _::_,[],_,_,h=>by simp [dG] at h
 | x::a,y::b,ha,hb,h=>by
   rw [dG] at h
   split at h
   ·rename_i h0
    rw [two_eq (ha x (by simp)) (hb y (by simp)) h0,nC (fun z hz=>ha z (by simp [hz])) (fun z hz=>hb z (by simp [hz])) h]
   ·rename_i h0;exact absurd h h0
theorem gh {a b:Fc} (ha:FcOk a) (hb:FcOk b):aS a b=0↔a=b:=by
 constructor
 ·intro h
  simp only [aS,orL] at h
  split at h
  ·rename_i h1
   split at h
   ·rename_i h2
    split at h
    ·rename_i h3
     split at h
     ·rename_i h4
      obtain ⟨⟨an,at_⟩,ao⟩:=a
      obtain ⟨⟨bn,bt⟩,bo⟩:=b
      have e1:an=bn:=mf (dM.1 h1)
      have e3:at_=bt:=nC (fun x hx=>(aJ (ha.fix x hx)).1) (fun x hx=>(aJ (hb.fix x hx)).1) h3
      have e4:ao=bo:=dL.1 h4
      rw [e1,e3,e4]
     ·exact absurd h ‹_›
    ·exact absurd h ‹_›
   ·exact absurd h ‹_›
  ·exact absurd h ‹_›
 ·rintro rfl;exact aT.self a
def aL (f:Fc):Bool:=decide (f.o≠0)&&(fp (bs f.pr.name)&&(decide (f.pr.terms.length≤8)&&f.pr.terms.all af))
def csF (fs:List Fc) (f:Fc) (i:Nat):Int:=match fs[i]? with | some x=>aS x f | none=>0
def ki (fs:List Fc) (f:Fc):Nat:=oT fs.length (csF fs f)
def gI (fs:List Fc) (f:Fc):Bool:=decide (ki fs f<fs.length)&&decide (csF fs f (ki fs f)=0)
def nN (fs:List Fc) (f:Fc):Bool:=aL f&&!gI fs f
def eO (fs:List Fc) (f:Fc):List Fc:=if nN fs f=true then du fs (ki fs f) f else fs
def bD (fs:List Fc):Prop:=fs.Pairwise (fun a b=>aS a b<0)
section
variable {fs:List Fc} {f x:Fc} {i j:Nat}
theorem jt (h:i<fs.length):csF fs f i=aS fs[i] f:=by unfold csF;rw [yy h]
theorem mV (hs:bD fs) (hij:i≤j) (hj:j<fs.length) (h:csF fs f j<0):csF fs f i<0:=by
 rcases Nat.lt_or_eq_of_le hij with h1 | rfl
 ·rw [jt (by omega)]
  rw [jt hj] at h
  exact aT.lt_le (List.pairwise_iff_getElem.1 hs i j (by omega) hj h1) (by omega)
 ·exact h
theorem ns:ki fs f≤fs.length:=uH _ _
theorem ln (h:i<ki fs f):aS (fs[i]'(yr h ns)) f<0:=by
 have:=lm h
 rwa [jt (yr h ns)] at this
theorem mB (hs:bD fs) (hi:i<fs.length) (h:ki fs f≤i):¬aS fs[i] f<0:=by
 intro h1
 have h2:csF fs f i<0:=by rw [jt hi];exact h1
 have h3:=mV hs h hi h2
 exact uF (Nat.lt_of_le_of_lt h hi) h3
theorem nf (hs:bD fs):gI fs f=true↔∃x∈fs,aS x f=0:=by
 unfold gI
 rw [yx,yC,yC]
 constructor
 ·rintro ⟨h1,h2⟩
  exact ⟨fs[ki fs f],List.getElem_mem h1,by rw [←jt h1];exact h2⟩
 ·rintro ⟨x,hx,h0⟩
  obtain ⟨i,hi,rfl⟩:=List.getElem_of_mem hx
  have hle:ki fs f≤i:=by
   rcases Nat.lt_or_ge i (ki fs f) with h | h
   ·have:=ln h;omega
   ·exact h
  have hlt:ki fs f<fs.length:=by omega
  refine ⟨hlt,?_⟩
  rw [jt hlt]
  have h1:=mB (f:=f) hs hlt (yo _)
  rcases Nat.lt_or_eq_of_le hle with h | h
  ·have h2:=aT.lt_le (List.pairwise_iff_getElem.1 hs _ i hlt hi h) (by omega:aS fs[i] f≤0)
   omega
  ·simp only [h];exact h0
theorem qV (hs:bD fs) (ho:∀x∈fs,FcOk x) (hf:FcOk f):gI fs f=true↔f∈fs:=by
 rw [nf hs]
 constructor
 ·rintro ⟨x,hx,h⟩
  rw [←(gh (ho x hx) hf).1 h];exact hx
 ·intro h;exact ⟨f,h,aT.self f⟩
theorem kj (h:aL f=true) (hs:f.pr.name.size≤140737488351232) (ho:U32 f.o):FcOk f:=by
 unfold aL at h
 simp only [yx,yC,List.all_eq_true] at h
 exact ⟨hs,ho,h.2.2.1,h.2.2.2⟩
theorem mG (hs:bD fs) (hn:gI fs f=false):bD (du fs (ki fs f) f):=by
 have hb:∀a∈fs.take (ki fs f),aS a f<0:=by
  intro a ha
  obtain ⟨i,hi,rfl⟩:=List.getElem_of_mem ha
  rw [yF] at hi
  rw [List.getElem_take]
  exact ln (by omega)
 have ha:∀a∈fs.drop (ki fs f),aS f a<0:=by
  intro a ha
  obtain ⟨i,hi,rfl⟩:=List.getElem_of_mem ha
  rw [List.length_drop] at hi
  rw [List.getElem_drop]
  have h1:=mB (f:=f) hs (show ki fs f+i<fs.length by omega) (Nat.le_add_right _ _)
  have h2:aS (fs[ki fs f+i]'(by omega)) f≠0:=fun h=>by
   have:=(nf (f:=f) hs).2 ⟨_,List.getElem_mem (show ki fs f+i<fs.length by omega),h⟩
   rw [hn] at this;cases this
  have h3:=aT.anti f (fs[ki fs f+i]'(by omega))
  omega
 unfold bD du
 rw [List.pairwise_append]
 refine ⟨hs.take,?_,fun a h1 b h2=>?_⟩
 ·rw [List.pairwise_cons]
  exact ⟨ha,hs.drop⟩
 ·rcases List.mem_cons.1 h2 with rfl | h2
  ·exact hb a h1
  ·exact aT.lt_le (hb a h1) (by have:=ha b h2;omega)
theorem pt (hs:bD fs):bD (eO fs f):=by
 unfold eO
 split
 ·rename_i h
  unfold nN at h
  exact mG hs (by simp only [yx,Bool.not_eq_true'] at h;exact h.2)
 ·exact hs
end
theorem re {α β:Type} (f:α→β) (L:List α) (p:Nat) (x:α):(du L p x).map f=du (L.map f) p (f x):=by simp [du,List.map_take,List.map_drop]
def StM (S:Nat) (v:Value) (k:Nat):Prop:=k=S∨v.ownBlock=some k
def StD (base:Nat) (v:Value) (k:Nat):Prop:=k<base∨v.ownBlock=some k
theorem StM.d {S base k:Nat} {v:Value} (h:StM S v k) (hS:S<base):StD base v k:=by
 rcases h with rfl | h
 ·exact .inl hS
 ·exact .inr h
structure StA (base d:Nat) (w:World) (S:Nat) (xs:List FV) (A:Option Addr) (c:Nat):Prop where
 hd:Blk w S #[.slice A xs.length c]
 lt:S<base
 bw:base≤w.heap.size
 row:am FvR 33 w base 0 (.slice A xs.length c) xs
 ok:∀x∈xs,FcOk x.f
 deep:∀x∈xs,fl (StD base (.slice A xs.length c)) w (fun w'=>(aC (d+1)).rd w' w'.heap.size x.f x.cs)
 sort:bD (xs.map FV.f)
section
variable {base d S c:Nat} {w w':World} {xs:List FV} {A:Option Addr} {M:Nat→Prop}
theorem StA.agree (h:StA base d w S xs A c) (ha:ak M w w') (hM:∀k,M k→k<w.heap.size→¬StM S (.slice A xs.length c) k) (hD:∀k,M k→k<w.heap.size→StD base (.slice A xs.length c) k):StA base d w' S xs A c:=
 ⟨ha.blk h.hd (fun hm=>hM S hm h.hd.lt (.inl rfl)),h.lt,yn h.bw ha.size,h.row.agree ha (fun k hk hm=>hM k hm (h.row.lt k hk).2 (.inr hk)),h.ok,fun x hx=>(h.deep x hx).next ha (fun k hk hm=>hD k hm hk) (fun k hk hm=>hm),h.sort⟩
theorem StA.later (h:StA base d w S xs A c) (hb:Below w.heap.size w w'):StA base d w' S xs A c:=h.agree (M:=fun _=>False) (ak.of_below hb) (fun _ h=>h.elim) (fun _ h=>h.elim)
theorem StA.rl (h:StA base d w S xs A c) (hn:xs.length≤1000000):RL (aC (d+1)) w w.heap.size (xs.map FV.f) A:=by
 obtain ⟨A3,c3,e3,h1,h2,r3⟩:=h.row.reads (yp _) (by show xs.length*(8*3)≤_;omega)
 simp only [yB] at e3
 obtain ⟨rfl,_,rfl⟩:=e3
 intro h0
 rw [yw] at h0
 obtain ⟨b,off,e,hb,hc⟩:=r3 h0
 refine ⟨b,off,e,hb,fun i hi=>?_⟩
 rw [yw] at hi
 obtain ⟨vs,hl,⟨x,hx,hr⟩,hv⟩:=hc i hi
 obtain rfl:vs=x.cs:=hr
 exact ⟨x.cs,hl,⟨x.f,by rw [List.getElem?_map,hx];rfl,(h.deep x (List.mem_of_getElem? hx)).here⟩,hv⟩
end
def xF (base d S:Nat) (w w':World) (xs:List FV) (A:Option Addr) (c:Nat) (f:Fc) (z:Ending):Prop:=
 ∃xs' A' c',z=.returned (.bool (nN (xs.map FV.f) f))∧xs'.map FV.f=eO (xs.map FV.f) f∧StA base d w' S xs' A' c'∧ak (StM S (.slice A xs.length c)) w w'∧bC w (.slice A xs.length c) (.slice A' xs'.length c')
theorem xF.no {base d S:Nat} {w w':World} {xs:List FV} {A:Option Addr} {c:Nat} {f:Fc} (h:StA base d w S xs A c) (hb:Below w.heap.size w w') (hn:nN (xs.map FV.f) f=false):xF base d S w w' xs A c f (.returned (.bool false)):=
 ⟨xs,A,c,by rw [hn],by unfold eO;rw [hn];rfl,h.later hb,ak.of_below hb,.inl rfl⟩
theorem iA {fs:List Fc} {f:Fc} (h:aL f=false):nN fs f=false:=by unfold nN;rw [h];rfl
theorem nI {d B:Nat} {w:World} (hB:B≤w.heap.size):bS Tryz.prog (TmR d) cS B w 46 #[] (fun x=>!af x):=by
 intro x vs w1 hb hr
 have HR:Hid (RTm w1 B d x vs):=ym hr
 obtain ⟨A,c,rfl,_⟩:=RTm.cells (show RTm w1 B d x vs from hr)
 have hB1:=yn hB hb.size
 clear hr hb
 show Calls Tryz.prog 46 #[.agg #[_,_,_,_]] w1 _
 go_enter Tryz.func46,Tryz.ntmps46
 go_wp2_with fail
 generalize hW:World.alloc _ _=w2
 obtain ⟨hb,hz⟩:=al1 hW
 have HB2:=ym hb
 clear hW hb hz
 refine (ai (d:=d) (vs:=[_,_,_,_]) (RTm.below HB2.out hB1 HR.out) (yn hB1 HB2.out.size)).mono ?_
 rintro e w3 ⟨rfl,hb⟩
 have HB3:=ym (ac HB2.out hb)
 clear hb
 go_wp2_with fail
 go_ret
 exact ⟨rfl,HB3.out⟩
theorem pd {base d B S c:Nat} {xs:List FV} {A:Option Addr} {f:Fc} {vf:List Value} {w:World} (hs:StA base d w S xs A c) (hf:(aC (d+1)).rd w B f vf) (hB:B≤w.heap.size) (hn:xs.length≤100000) :
 Calls Tryz.prog 24 #[.pointer (some ⟨S,0,none⟩),.agg vf.toArray] w fun z w'=>xF base d S w w' xs A c f z:=by
 obtain ⟨Af,cf,rfl,hsz,h1,h2,h3,hl,ho⟩:=bh hf
 have HS:=ym hs
 have HF:=ym hf
 have HL:=ym hl
 have HO:=ym ho
 have hSl:=hs.hd.lt
 clear hs hf hl ho
 go_enter Tryz.func24,Tryz.ntmps24
 go_upto_region 1 with fail
 generalize hW:World.alloc _ _=w1
 obtain ⟨hb,hz⟩:=al1 hW
 have HBA1:=ym (n11 hW)
 have HB1:=ym hb
 have hsz1:=hb.size
 clear hW hb
 have hB1:B≤w1.heap.size:=by omega
 have k_a:=HBA1.out.cell
 have l_a:=HBA1.out.lt
 have HSB:Hid (aL f=(decide (f.o≠0)&&(fp (bs f.pr.name)&&(decide (f.pr.terms.length≤8)&&f.pr.terms.all af)))):=ym rfl
 by_cases g1:f.o=0
 ·have hno:aL f=false:=by rw [HSB.out];simp [g1]
  have q1:(f.o==0)=true:=by simpa using g1
  have HNO:=ym hno
  clear g1 hno
  go_wp2_with fail
  go_ret
  exact xF.no HS.out HB1.out (iA HNO.out)
 have q1:(f.o==0)=false:=by simpa using g1
 have G1:=ym g1
 clear g1
 go_wp2_with fail
 refine (eU f.pr.name w1 (by unfold maxLen;omega)).mono ?_
 rintro e w2 ⟨rfl,rfl⟩
 by_cases g2:fp (bs f.pr.name)=true
 rotate_left
 ·have hno:aL f=false:=by rw [HSB.out];simp [g2]
  simp only [Bool.not_eq_true] at g2
  have HNO:=ym hno
  clear hno
  rw [g2]
  go_wp2_with fail
  go_ret
  exact xF.no HS.out HB1.out (iA HNO.out)
 have G2:=ym g2
 rw [g2]
 clear g2
 by_cases g3:f.pr.terms.length≤8
 rotate_left
 ·have hno:aL f=false:=by rw [HSB.out];simp [g3]
  have q3:decide ((f.pr.terms.length:Int) > 8)=true:=by simp;omega
  have q3':decide ((8:Int)<(f.pr.terms.length:Int))=true:=by simp;omega
  have HNO:=ym hno
  clear hno g3
  go_wp2_with fail
  go_ret
  exact xF.no HS.out HB1.out (iA HNO.out)
 have q3:decide ((f.pr.terms.length:Int) > 8)=false:=by simp;omega
 have q3':decide ((8:Int)<(f.pr.terms.length:Int))=false:=by simp;omega
 have hen:=ent Tryz.func46 (by kernel_rfl) rfl
 have HC:=ym (bl (d+1) 46 #[] (fun x=>!af x) f.pr.terms Af cf B w1 hen (HL.out.keep HB1.out hB) hB1 (by omega) (nI hB1))
 clear hen
 go_wp2_with fail
 refine HC.out.mono ?_
 rintro e w2 ⟨rfl,hb⟩
 have HB2:=ym (ac HB1.out hb)
 have HBA2:=ym (HBA1.out.later hb)
 have hsz2:=hb.size
 clear k_a l_a hb q3 q3'
 have k_a:=HBA2.out.cell
 have l_a:=HBA2.out.lt
 by_cases g4:f.pr.terms.all af=true
 rotate_left
 ·have hno:aL f=false:=by rw [HSB.out];simp [g4]
  have hany:(f.pr.terms.any fun x=>!af x)=true:=by
   rw [List.any_eq_true]
   simp only [Bool.not_eq_true,List.all_eq_false] at g4
   obtain ⟨x,hx,h⟩:=g4
   exact ⟨x,hx,by simp [h]⟩
  rw [hany]
  have HNO:=ym hno
  clear hno g4 hany
  go_wp2_with fail
  go_ret
  exact xF.no HS.out HB2.out (iA HNO.out)
 have hany:(f.pr.terms.any fun x=>!af x)=false:=by
  rw [List.any_eq_false]
  rw [List.all_eq_true] at g4
  intro x hx
  simp [g4 x hx]
 rw [hany]
 have HSY:Hid (aL f=true):=ym (by rw [HSB.out,G2.out,g4];simp [G1.out,g3])
 have HFO:=ym (kj HSY.out hsz HO.out)
 clear hany g4
 go_upto_region 3 with fail
 clear k_a l_a
 have HS2:=ym (HS.out.later HB2.out)
 have HRL:=ym (HS2.out.rl (by omega))
 have hlm:(xs.map FV.f).length=xs.length:=yw _
 have HLM:=ym hlm
 have HPN:Hid (ki (xs.map FV.f) f≤xs.length):=ym (by have:=ns (fs:=xs.map FV.f) (f:=f);omega)
 have HF2:=ym ((aC (d+1)).keep HB2.out hB HF.out)
 have hB2:B≤w2.heap.size:=by omega
 clear hlm
 have HBS:Hid (∀w9,Below w2.heap.size w2 w9→Calls Tryz.prog 34 #[.slice A xs.length c,.agg #[.string f.pr.name,.slice Af f.pr.terms.length cf,.int .u32 f.o],.func (.func 35) #[] #[]] w9 fun z w'=>z=.returned (.tuple #[.int .i64 (ki (xs.map FV.f) f),.bool (gI (xs.map FV.f) f)])∧Below w9.heap.size w9 w'):=ym (fun w9 hb9=>by
  have h:=kv (d:=d) (e:=d) (B:=w2.heap.size) (c:=c) (fs:=xs.map FV.f) (t:=f) (vt:=[_,_,_]) (A:=A) (w:=w9) (HRL.out.keep hb9 (yo _)) ((aC (d+1)).keep hb9 (yo _) ((aC (d+1)).wide hB2 HF2.out)) (fun x hx=>by
   obtain ⟨y,hy,rfl⟩:=List.mem_map.1 hx
   exact HS.out.ok y hy) (by omega) (by rw [HLM.out];omega) hb9.size (csF (xs.map FV.f) f) (fun i hi=>jt hi) (fun i j hij hj h=>mV HS.out.sort hij hj h)
  rw [HLM.out] at h
  refine h.mono fun z w' ⟨h1,h2⟩=>⟨?_,h2⟩
  rw [h1]
  unfold gI ki
  rw [HLM.out,Bool.decide_and])
 have q_s:=HS2.out.hd.regrown
 have q_a:=HBA2.out.regrown
 generalize hp:ki (xs.map FV.f) f=p at *
 generalize hq:gI (xs.map FV.f) f=q at *
 have HP:=ym hp
 have HQ:=ym hq
 clear hp hq
 refine wp_region_quiet_below (by kernel_rfl) (by kernel_rfl) ?_
 repeat (go_big_quiet_step ((go_at_call 34;exact Calls.regrown_of (HBS.out _ (below_regrown _ _ _)))))
 refine wpQuiet_nil ?_
 intro w3 hw_
 have hb:Below w2.heap.size w2 w3:=by obtain ⟨p_,rfl⟩:=hw_;exact below_regrown _ _ _
 clear hw_ q_s q_a
 have HBA3:=ym (HBA2.out.later hb)
 have HS3:=ym (HS2.out.later hb)
 have HB3:=ym (ac HB2.out hb)
 have hsz3:=hb.size
 have HF3:=ym ((aC (d+1)).keep hb hB2 HF2.out)
 clear hb
 cases q
 rotate_left
 ·have HNO:Hid (nN (xs.map FV.f) f=false):=ym (by unfold nN;rw [HQ.out];simp)
  go_wp2_with fail
  go_ret
  exact xF.no HS.out HB3.out HNO.out
 have hpn:=HPN.out
 go_upto_region 6 with fail
 have HSL:Hid (∀{w':World},Below w3.heap.size w3 w'→(w'.cell? ⟨S,0,none⟩=some (.slice A xs.length c)∧w'.cell? ⟨w.heap.size,0,none⟩=some (.string f.pr.name)∧w'.cell? ⟨w.heap.size,1,none⟩=some (.slice Af f.pr.terms.length cf)∧w'.cell? ⟨w.heap.size,2,none⟩=some (.int .u32 f.o))):=ym (fun hb=>have h:=(HBA3.out.later hb).cell;⟨(HS3.out.hd.later hb).cell 0,h 0,h 1,h 2⟩)
 refine bj (S:=fun w'=>w'.cell? ⟨S,0,none⟩=some (.slice A xs.length c)∧w'.cell? ⟨w.heap.size,0,none⟩=some (.string f.pr.name)∧w'.cell? ⟨w.heap.size,1,none⟩=some (.slice Af f.pr.terms.length cf)∧w'.cell? ⟨w.heap.size,2,none⟩=some (.int .u32 f.o)) 12 (by kernel_rfl) (by kernel_rfl) (by kernel_rfl) (by kernel_rfl) (HSL.out (yq _ _).drew) ?_
 refine av 0 ?_
 refine av 1 ?_
 refine av 2 ?_
 refine av 3 ?_
 refine av 4 ?_
 refine av 5 ?_
 refine av 6 ?_
 refine aF (rs:=[7]) (by kernel_rfl) rfl (by kernel_rfl) ?_
 refine ay.cons rfl (fun K hK=>?_) ay.nil
 go_simp
 refine (jw (d:=d) (B:=B) (f:=f) (vf:=[_,_,_]) ((aC (d+1)).keep (yq w3.heap.size w3).drew (by omega) HF3.out) HFO.out (by show B≤w3.heap.size;omega)).mono ?_
 rintro z w6 ⟨⟨A5,c5,rfl,how⟩,hb6⟩
 have HOW:Hid (bO w3.heap.size d w6 f A5 c5):=ym how
 have HB6:Hid (Below w3.heap.size w3 w6):=ym ((yq w3.heap.size w3).drew.trans hb6)
 have hsz6:=HB6.out.size
 unfold fcV
 clear how hb6
 refine hK.out _ _ (HSL.out HB6.out) ?_
 clear hK
 refine aF (rs:=[8]) (by kernel_rfl) rfl (by kernel_rfl) ?_
 refine ay.cons rfl (fun K hK=>?_) ay.nil
 go_simp
 generalize hW:World.alloc _ _=w8
 have HG8:Hid (bN w8 w6.heap.size #[.string f.pr.name,.slice A5 f.pr.terms.length c5,.int .u32 f.o] 33):=ym (hW▸heap_alloc_new w6 _)
 obtain ⟨hb8,hz8⟩:=al1 hW
 have HB8:Hid (Below w3.heap.size w3 w8):=ym (HB6.out.trans (hb8.mono hsz6))
 have hsz8:=hb8.size
 have HOW8:=ym (HOW.out.later hb8)
 have HS8:=ym (HS3.out.later HB8.out)
 have hgl:w6.heap.size<w8.heap.size:=by rw [hz8];omega
 clear hW hb8 hz8
 refine hK.out _ _ (HSL.out HB8.out) ?_
 clear hK
 refine aF (rs:=[9]) (by kernel_rfl) rfl (by kernel_rfl) ?_
 refine ay.cons rfl (fun K hK=>?_) ay.nil
 go_simp
 refine (ua (base:=base) (i:=p) (G:=w6.heap.size) (n:=xs.length) (c:=c) (A:=A) (xs:=xs) (y:=⟨f,A5,c5⟩) rfl HS8.out.row HS8.out.bw (by omega) rfl HG8.out (fun e=>by have:=(HS3.out.row.lt w6.heap.size e.symm).2;omega) hpn).mono ?_
 rintro z w9 ⟨A9,c9,rfl,hown,hg,hf⟩
 have HOWN:=ym hown
 have HG:=ym hg
 have HFV:=ym hf
 have hsz9:=hg.size
 have HA9:Hid (ak (StM S (.slice A xs.length c)) w8 w9):=ym ((ak.grown hg).mono fun k _ hk=>.inr hk.symm)
 have hSne:some S≠(Value.slice A xs.length c).ownBlock:=fun e=>by have h1:=(HS8.out.row.lt S e.symm).1;have h2:=HS8.out.lt;omega
 have HHD:=ym (HS8.out.hd.grown hg hSne)
 have HBA9:=ym ((HBA3.out.later HB8.out).grown hg (fun e=>by have h1:=(HS.out.row.lt w.heap.size e.symm).2;omega))
 have f_s:=HHD.out.free
 have k_s:=HHD.out.cell
 clear hown hg hf hSne
 refine hK.out _ _ (⟨HHD.out.cell 0,HBA9.out.cell 0,HBA9.out.cell 1,HBA9.out.cell 2⟩) ?_
 clear hK
 refine av 10 ?_
 refine av 11 ?_
 refine dZ (by kernel_rfl) (by kernel_rfl) rfl (fun K hK=>?_)
 go_simp
 refine hK.out _ _ ?_
 clear f_s k_s
 have HLP:Hid ((du xs p (⟨f,A5,c5⟩:FV)).length=xs.length+1):=ym (bF hpn)
 have HAD:Hid (nN (xs.map FV.f) f=true):=ym (by unfold nN;rw [HSY.out,HQ.out];rfl)
 go_wp2_with fail
 go_ret
 have HAF:Hid (ak (StM S (.slice A xs.length c)) w8 (w9.setCell ⟨S,0,none⟩ (.slice A9 (xs.length+1) c9))):=ym (HA9.out.set_ (fun _=>.inl rfl) 0 _)
 have HMM:Hid (∀k,k<w8.heap.size→StM S (.slice A9 (du xs p (⟨f,A5,c5⟩:FV)).length c9) k→StM S (.slice A xs.length c) k):=ym (fun k hk hm=>by
  rcases hm with hm | hm
  ·exact .inl hm
  ·right
   rw [HLP.out] at hm
   rcases HFV.out with h | ⟨k',h4,h5⟩
   ·rw [←h];exact hm
   ·rw [h4] at hm
    simp only [yz] at hm
    omega)
 have HMD:Hid (∀k,k<w8.heap.size→StD base (.slice A9 (du xs p (⟨f,A5,c5⟩:FV)).length c9) k→StD base (.slice A xs.length c) k):=ym (fun k hk hm=>by
  rcases hm with hm | hm
  ·exact .inl hm
  ·exact (HMM.out k hk (.inr hm)).d HS.out.lt)
 have HML:Hid (∀k,StD base (.slice A xs.length c) k→k<w3.heap.size):=ym (fun k hm=>by
  have hb:=HS.out.bw
  have hl:=HS.out.lt
  have hs2:=HB3.out.size
  rcases hm with hm | hm
  ·omega
  ·have:=(HS.out.row.lt k hm).2;omega)
 refine ⟨du xs p ⟨f,A5,c5⟩,A9,c9,ae HAD.out.symm,?_,⟨by rw [HLP.out];exact HHD.out.set_ 0 _,HS.out.lt,?_,by rw [HLP.out];exact HOWN.out.far HS.out.lt (yp _) _,fun x hx=>?_,fun x hx=>?_,?_⟩,?_,?_⟩
 ·unfold eO
  rw [if_pos HAD.out,re FV.f,HP.out]
 ·have h1:=HAF.out.size
  have h2:=HS8.out.bw
  omega
 ·rcases el.1 hx with rfl | hx
  ·exact HFO.out
  ·exact HS.out.ok x hx
 ·rcases el.1 hx with rfl | hx
  ·exact (HOW8.out.stab (M:=fun k=>k<w3.heap.size) HFO.out (fun k h1 h2=>by omega)).next HAF.out (fun k _ hm=>HML.out k (hm.d HS.out.lt)) (fun k hk hm=>HML.out k (HMD.out k hk hm))
  ·exact (HS8.out.deep x hx).next HAF.out (fun _ _ h=>h.d HS.out.lt) HMD.out
 ·rw [re FV.f,←HP.out]
  exact mG HS.out.sort HQ.out
 ·exact (((ak.of_below HB3.out).trans (N:=fun _=>False) (ak.of_below HB8.out) (fun _ _ h=>h.elim)).trans HA9.out (fun _ _ h=>h)).set_ (fun _=>.inl rfl) 0 _
 ·rw [HLP.out]
  rcases HFV.out with h | ⟨k,h4,h5⟩
  ·exact .inl h
  ·exact .inr ⟨k,h4,by omega⟩
def cm (ts:List Tm):List aW:=(ts.filter (fun t=>decide (t.kind=1))).map (fun t=>bs t.s)
def ax (ps:List Pr):List aW:=ps.flatMap (fun p=>cm p.terms)
theorem nD (ts us:List Tm):cm (ts++us)=cm ts++cm us:=by simp [cm]
theorem lX (ps qs:List Pr):ax (ps++qs)=ax ps++ax qs:=by simp [ax]
theorem lC (ts:List Tm) (j:Nat):(cm (ts.take j)).length≤(cm ts).length:=by
 have e:=nD (ts.take j) (ts.drop j)
 rw [List.take_append_drop] at e
 rw [e];simp
theorem pk (ps:List Pr) (k:Nat):(ax (ps.take k)).length≤(ax ps).length:=by
 have e:=lX (ps.take k) (ps.drop k)
 rw [List.take_append_drop] at e
 rw [e];simp
theorem pj {ps:List Pr} {k:Nat} {p:Pr} (h:ps[k]? = some p):ax (ps.take (k+1))=ax (ps.take k)++cm p.terms:=by
 obtain ⟨h1,h2⟩:=List.getElem?_eq_some_iff.1 h
 rw [List.take_succ_eq_append_getElem h1,h2];simp [ax]
theorem qz {ts:List Tm} {k:Nat} {t:Tm} (h:ts[k]? = some t):cm (ts.take (k+1))=cm (ts.take k)++(if t.kind=1 then [bs t.s] else []):=by
 obtain ⟨h1,h2⟩:=List.getElem?_eq_some_iff.1 h
 rw [List.take_succ_eq_append_getElem h1,h2]
 by_cases hk:t.kind=1<;>simp [cm,hk]
theorem tZ:(Tryz.prog.info? 9).map (fun i=>(i.zero,i.size,i.bytes))=some (some (.string ⟨#[]⟩),1,16):=by kernel_rfl
theorem jp.later {w w':World} {base:Nat} {v:Value} {L:List aW} (h:jp w base v L) (hb:Below w.heap.size w w'):jp w' base v L:=by
 refine ⟨h.1,?_⟩
 rcases h.2 with h2 | ⟨g,cap,cur,hv,hg,hh,r⟩
 ·exact .inl h2
 ·refine .inr ⟨g,cap,cur,hv,hg,?_,r⟩
  have hlt:g<w.heap.size:=by
   rcases Nat.lt_or_ge g w.heap.size with h' | h'
   ·exact h'
   ·rw [Array.getElem?_eq_none h'] at hh;cases hh
  rw [hb.block g hlt];exact hh
theorem jp.reads {w:World} {base:Nat} {v:Value} {L:List aW} (h:jp w base v L) (hl:∀l∈L,l.length≤140737488351232) (hn:L.length≤1000000):∃A c,v=.slice A L.length c∧L.length≤c∧RL cR w w.heap.size (L.map mkS) A:=by
 rcases h.2 with ⟨h1,h2⟩ | ⟨g,cap,cur,hv,hg,hh,h1,h2,h3,h4⟩
 ·refine ⟨none,0,by rw [h1,h2],by omega,?_⟩
  intro h0
  simp [h2] at h0
 ·refine ⟨_,cap,hv,h1,fun _=>⟨g,0,rfl,?_,fun i hi=>?_⟩⟩
  ·rcases Nat.lt_or_ge g w.heap.size with h' | h'
   ·exact h'
   ·rw [Array.getElem?_eq_none h'] at hh;cases hh
  ·have hi':i<L.length:=by simpa using hi
   refine ⟨[.string (mkS L[i])],rfl,⟨mkS L[i],by simp [hi'],rfl,?_⟩,fun j v hj=>?_⟩
   ·have:=hl L[i] (List.getElem_mem hi')
    show (mkS L[i]).size≤_
    rw [Lib.size_eq]
    simpa [mkS] using this
   ·match j,hj with
    | 0,hj=>
      have hj:Value.string (mkS L[i])=v:=by simpa using hj
      subst hj
      have hc:cur[i]? = some (encStr L[i]):=by
       have:(cur.toList.take (L.length*1))[i]? = (L.map encStr)[i]?:=by rw [h4]
       rw [List.getElem?_take,if_pos (by omega),List.getElem?_map,yy hi'] at this
       simpa using this
      show World.cell? w ⟨g,0+i*1+0,none⟩=_
      simp [World.cell?,hh,hc,encStr,mkS]
theorem lj (d:Nat) (ps:List Pr) (A:Option Addr) (c B:Nat) (w:World) (hl:RL (PrR d) w B ps A) (hB:B≤w.heap.size) (hn:ps.length≤140737488351232) (hcount:(ax ps).length≤1000000) :
 Calls Tryz.prog 90 #[.slice A ps.length c] w fun e w'=>∃v,e=.returned v∧jp w' w.heap.size v (ef (ax ps))∧Below w.heap.size w w':=by
 obtain ⟨i0,hi,hz0,hz1,hz2⟩:=info_parts tZ
 go_enter Tryz.func90,Tryz.ntmps90
 go_wp2_with fail
 go_loopw [3,10] (fun v i wr=>∃k:Nat,k≤ps.length∧i=.int .i64 k∧jp wr w.heap.size v (ax (ps.take k))∧Below w.heap.size w wr) (fun _ i _=>ps.length-(intOf i).toNat)
 case atStart=>exact ⟨0,yp _,rfl,World.ownsRow_nil _ _ _ _,yq _ _⟩
 case round=>
  obtain ⟨k,hk,rfl,hown,hbw⟩:=hrel
  by_cases hlt:k<ps.length
  ·obtain ⟨b,off,rfl,hb⟩:=hl.base hbw hB (by omega)
   obtain ⟨p,vs,hx,hlen,hcell,hr⟩:=hl.at0 hbw hB hlt
   obtain ⟨_,rfl,hs,A',c',rfl,hc1,hc2,hl'⟩:=hr
   have c0:wr.cell? ⟨b,off+k*2,none⟩=some (.string p.name):=hcell 0 _ rfl
   have c1:wr.cell? ⟨b,off+k*2+1,none⟩=some (.slice A' p.terms.length c'):=hcell 1 _ rfl
   simp only [TmR] at hc2
   have HX:=ym (pj hx)
   have HT:=ym (pk ps (k+1))
   clear hcell hlen hx
   go_wp2_with fail
   have hbw2:Below w.heap.size w (wr.alloc (.cells #[.string p.name,.slice A' p.terms.length c'] 26)):=hbw.alloc hbw.size _
   have hown2:jp (wr.alloc (.cells #[.string p.name,.slice A' p.terms.length c'] 26)) w.heap.size u3 (ax (ps.take k)):=hown.alloc _
   have hsz2:wr.heap.size<(wr.alloc (.cells #[.string p.name,.slice A' p.terms.length c'] 26)).heap.size:=by simp
   have hsz:=hbw.size
   clear hbw hown c0 c1 hl
   generalize (wr.alloc (.cells #[.string p.name,.slice A' p.terms.length c'] 26))=W at *
   go_loopw [3,17] (fun v i wr2=>∃j:Nat,j≤p.terms.length∧i=.int .i64 j∧jp wr2 w.heap.size v (ax (ps.take k)++cm (p.terms.take j))∧Below w.heap.size w wr2) (fun _ i _=>p.terms.length-(intOf i).toNat)
   case atStart=>exact ⟨0,yp _,rfl,by simpa [cm] using hown2,hbw2⟩
   case round=>
    obtain ⟨j,hj,rfl,hown3,hbw3⟩:=hrel
    by_cases hlt2:j<p.terms.length
    ·obtain ⟨b',off',rfl,hb'⟩:=hl'.base hbw3 hB (by omega)
     obtain ⟨x,vs,hx,hlen,hcell,hr⟩:=hl'.at0 hbw3 hB hlt2
     obtain ⟨Ax,cx,rfl,_⟩:=RTm.cells hr
     have c0:wr.cell? ⟨b',off'+j*4,none⟩=some (.int .i64 x.kind):=hcell 0 _ rfl
     have c1:wr.cell? ⟨b',off'+j*4+1,none⟩=some (.int .i64 x.n):=hcell 1 _ rfl
     have c2:wr.cell? ⟨b',off'+j*4+2,none⟩=some (.string x.s):=hcell 2 _ rfl
     have c3:wr.cell? ⟨b',off'+j*4+3,none⟩=some (.slice Ax x.l.length cx):=hcell 3 _ rfl
     have HX2:=ym (qz hx)
     have HT2:=ym (lC p.terms (j+1))
     have HO:=ym hown3
     have HG:=ym (fun g (hg:u3.ownBlock=some g)=>((HO.out.lt g hg).1:w.heap.size≤g))
     have HL:Hid ((ax (ps.take k)).length+(cm (p.terms.take j)).length≤1000000):=by
      have h1:=HT.out
      rw [HX.out,yv] at h1
      have h2:=lC p.terms j
      exact (by omega:(ax (ps.take k)).length+(cm (p.terms.take j)).length≤1000000)
     have hszr:=hbw3.size
     clear hcell hlen hx hr hown3
     by_cases hk1:(x.kind==1)=true
     ·have HK:=ym hk1
      go_wp2_with (at_builtin;refine wpList_append_own _ rfl (.tmp 24) (.tmp 27) 112 rfl w.heap.size 9 i0 (.string ⟨#[]⟩) 1 16 Tryz.underlying112 hi hz0 hz1 hz2 rfl (by decide) _ _ _ rfl (World.ownsRow.alloc (World.ownsRow.alloc HO.out _) _) ⟨wr.heap.size+1,0,none⟩ 1 1 [.string x.s] rfl rfl ?c1 ?c2 ?c3 ?c4 ?c5 ?_)
      case c1=>
       intro i u hi
       match i,hi with
       | 0,hi=>
         simp only [yD,yz] at hi
         subst hi
         simp [Addr.add]
      case c2=>intro u hu;simp at hu;subst hu;rfl
      case c3=>have:=HL.out;unfold maxLen;rw [yv];omega
      case c4=>have:=HL.out;rw [yv];omega
      case c5=>simp;omega
      intro v' w' hown' hgrow _
      have hnew:jp w' w.heap.size v' (ax (ps.take k)++cm (p.terms.take (j+1))):=by
       have:=HK.out
       rw [beq_iff_eq] at this
       rw [HX2.out,if_pos this]
       unfold jp
       simpa [oh,Nat.add_assoc] using hown'
      have hbelow:Below w.heap.size w w':=by
       refine Below.grown (w:=(wr.alloc _).alloc _) ((hbw3.alloc hszr _).alloc (by simp;omega) _) hgrow (by simp;omega) ?_
       intro g hg
       exact HG.out g hg
      clear hown' hgrow
      go_wp2
      go_roundw
      case rel=>exact ⟨j+1,by omega,by go_num,hnew,hbelow⟩
      case measure=>simp [intOf];omega
     ·have hk1:(x.kind==1)=false:=by simpa using hk1
      have HK:=ym hk1
      have hnew:jp (wr.alloc (.cells #[.int .i64 x.kind,.int .i64 x.n,.string x.s,.slice Ax x.l.length cx] 29)) w.heap.size u3 (ax (ps.take k)++cm (p.terms.take (j+1))):=by
       have:=HK.out
       rw [beq_eq_false_iff_ne] at this
       rw [HX2.out,if_neg this,List.append_nil]
       exact World.ownsRow.alloc HO.out _
      have HN:=ym hnew
      have HBel:=ym (fun o:Obj=>hbw3.alloc hszr o)
      clear hnew
      go_wp2_with fail
      go_roundw
      case rel=>exact ⟨j+1,by omega,by go_num,HN.out,HBel.out _⟩
      case measure=>simp [intOf];omega
    ·go_wp2_with fail
     go_roundw
     case rel=>exact ⟨k+1,by omega,by go_num,by
      rw [HX.out]
      rw [List.take_of_length_le (l:=p.terms) (by omega)] at hown3
      exact hown3,hbw3⟩
     case measure=>simp [intOf];omega
  ·have hown':jp wr w.heap.size u3 (ax ps):=by rwa [List.take_of_length_le (by omega)] at hown
   have HO:=ym hown'
   clear hown hown'
   go_wp2_with fail
   refine (pa _ w.heap.size _ _ HO.out hbw.size (by omega)).mono ?_
   rintro e w1 ⟨rfl,hs1,hb1⟩
   have HS:=ym hs1
   have HB1:=ym (hbw.trans hb1)
   clear hs1 hb1
   go_wp2_with fail
   refine (js _ w.heap.size _ _ HS.out (by rw [cG];omega)).mono ?_
   rintro e w2 ⟨v',rfl,hs2,hb2⟩
   have HS2:=ym hs2
   have HB2:=ym (HB1.out.trans hb2)
   clear hs2 hb2
   go_wp2_with fail
   go_ret
   exact ⟨_,rfl,HS2.out,HB2.out⟩
def iy (names others:List aW):Bool:=names.all (fun s=>decide (s∈others))
theorem oB (L:List aW) (A:Option Addr) (c B G:Nat) (w:World) (hl:RL cR w B (L.map mkS) A) (hB:B≤w.heap.size) (hn:L.length≤1000000) (hs:L.Pairwise (· < ·))
 (hG:w.cell? ⟨G,0,none⟩=some (.slice A L.length c)) :
 bS Tryz.prog cR yc B w 116 #[.pointer (some ⟨G,0,none⟩)] (fun s=>!decide (bs s∈L)):=by
 intro s vs w1 hb hr
 obtain ⟨rfl,hsz⟩:=hr
 have hGl:G<w.heap.size:=block_lt_of_cell hG
 have hG1:w1.cell? ⟨G,0,none⟩=some (.slice A L.length c):=(hb.cell (p:=⟨G,0,none⟩) hGl).trans hG
 have hGl1:G<w1.heap.size:=by have:=hb.size;omega
 have HL:=ym (hl.keep hb hB)
 have hB1:B≤w1.heap.size:=by have:=hb.size;omega
 clear hl hG
 show Calls Tryz.prog 116 #[.string s,.pointer (some ⟨G,0,none⟩)] w1 _
 go_enter Tryz.func116,Tryz.ntmps116
 go_wp2_with (go_at_call 117;refine (gQ L A c B s _ HL.out hB1 hn hs).mono ?_;rintro e w' ⟨rfl,rfl⟩)
 go_ret
 exact ⟨rfl,yq _ _⟩
theorem oC (M L:List aW) (A' A:Option Addr) (c' c B:Nat) (w:World) (hm:RL cR w B (M.map mkS) A') (hl:RL cR w B (L.map mkS) A) (hB:B≤w.heap.size) (hn':M.length≤1000000) (hn:L.length≤1000000) (hs:L.Pairwise (· < ·)) :
 Calls Tryz.prog 89 #[.slice A' M.length c',.slice A L.length c] w fun e w'=>e=.returned (.bool (iy M L))∧Below w.heap.size w w':=by
 have HB:=ym (fun o:Obj=>(yq w.heap.size w).alloc (yo _) o)
 have HM:=ym hm
 have HL:=ym hl
 clear hm hl
 go_enter Tryz.func89,Tryz.ntmps89
 go_wp2_with fail
 have h:=fm 116 #[.pointer (some ⟨w.heap.size,0,none⟩)] (fun s=>!decide (bs s∈L)) (M.map mkS) A' c' B (w.alloc (.cells #[.slice A L.length c] 112)) (ent Tryz.func116 (by kernel_rfl) rfl)
  (HM.out.keep (HB.out _) hB) (yn hB (HB.out _).size) (by simp;omega) (oB L A c B w.heap.size _ (HL.out.keep (HB.out _) hB) (yn hB (HB.out _).size) hn hs (by go_simp))
 rw [yw] at h
 refine h.mono ?_
 clear h
 rintro e w1 ⟨rfl,hb1⟩
 have hfin:=ym ((HB.out _).trans (hb1.mono (HB.out _).size))
 clear hb1
 go_wp2_with fail
 go_ret
 exact ⟨ae (by simp [iy,List.all_eq_not_any_not,List.any_map,Function.comp_def,jq]),hfin.out⟩
end Go.Proofs.YtjpndglegpcdnaaGreat
