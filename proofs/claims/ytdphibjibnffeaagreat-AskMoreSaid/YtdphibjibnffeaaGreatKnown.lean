/- rule.known. -/
import Derived.Test.YtdphibjibnffeaaGreatFc4
import Derived.Test.YtdphibjibnffeaaGreatFcIns
import Derived.Test.YtdphibjibnffeaaGreatOwn
import Derived.Test.YtdphibjibnffeaaGreatBind
set_option linter.unusedVariables false
set_option linter.unusedSimpArgs false
set_option maxRecDepth 100000
set_option maxHeartbeats 8000000
namespace Go.Proofs.YtdphibjibnffeaaGreat
open Go.ChangeShapes Go.WideShapes Go.ChangeAt Go.RowKit
theorem orL2 (x y:Int):orL [x,y]=if x=0 then y else x:=by simp [orL];split<;>simp_all
theorem cmpL_by:Ord3 (fun a b:Fc=>cF (aU 3) a.pr.terms b.pr.terms):=(mN (eV 3)).by fun f:Fc=>f.pr.terms
theorem im:Ord3 aW:=by
 have h:=Ord3.andThen (jS.by fun f:Fc=>bs f.pr.name) (Ord3.andThen (gu.by fun f:Fc=>(f.pr.terms.length:Int)) (Ord3.andThen cmpL_by (gu.by fun f:Fc=>f.o)))
 have e:aW=jp (fun a b:Fc=>cZ (bs a.pr.name) (bs b.pr.name)) (jp (fun a b:Fc=>cR a.pr.terms.length b.pr.terms.length) (jp (fun a b:Fc=>cF (aU 3) a.pr.terms b.pr.terms) (fun a b:Fc=>cR a.o b.o))):=by
  funext a b
  simp only [aW,jp,orL]
  split<;>(try rfl)
  split<;>(try rfl)
  split<;>(try rfl)
  split<;>simp_all
 rw [e];exact h
def cd (f:Fc):Bool:=decide (f.o≠0)&&(dW (bs f.pr.name)&&(decide (f.pr.terms.length≤8)&&f.pr.terms.all af))
def csF (fs:List Fc) (f:Fc) (i:Nat):Int:=match fs[i]? with | some x=>aW x f | none=>0
def jD (fs:List Fc) (f:Fc):Nat:=oL fs.length (csF fs f)
def sm (fs:List Fc) (f:Fc):Bool:=decide (jD fs f<fs.length)&&decide (csF fs f (jD fs f)=0)
def pg (fs:List Fc) (f:Fc):Bool:=cd f&&!sm fs f
def pl (fs:List Fc) (f:Fc):List Fc:=if pg fs f=true then cv fs (jD fs f) f else fs
def eC (fs:List Fc):Prop:=fs.Pairwise (fun a b=>aW a b<0)
section
variable {fs:List Fc} {f x:Fc} {i j:Nat}
theorem jx (h:i<fs.length):csF fs f i=aW fs[i] f:=by unfold csF;rw [List.getElem?_eq_getElem h]
theorem qU (hs:eC fs) (hij:i≤j) (hj:j<fs.length) (h:csF fs f j<0):csF fs f i<0:=by
 rcases Nat.lt_or_eq_of_le hij with h1 | rfl
 ·rw [jx (by omega)]
  rw [jx hj] at h
  exact im.lt_le (List.pairwise_iff_getElem.1 hs i j (by omega) hj h1) (by omega)
 ·exact h
theorem ll:jD fs f≤fs.length:=vu _ _
theorem lj (h:i<jD fs f):aW (fs[i]'(zb h ll)) f<0:=by
 have:=li h
 rwa [jx (zb h ll)] at this
theorem mq (hs:eC fs) (hi:i<fs.length) (h:jD fs f≤i):¬aW fs[i] f<0:=by
 intro h1
 have h2:csF fs f i<0:=by rw [jx hi];exact h1
 have h3:=qU hs h hi h2
 exact vq (Nat.lt_of_le_of_lt h hi) h3
theorem xg (hs:eC fs):sm fs f=true↔∃x∈fs,aW x f=0:=by
 unfold sm
 rw [Bool.and_eq_true,decide_eq_true_eq,decide_eq_true_eq]
 constructor
 ·rintro ⟨h1,h2⟩
  exact ⟨fs[jD fs f],List.getElem_mem h1,by rw [←jx h1];exact h2⟩
 ·rintro ⟨x,hx,h0⟩
  obtain ⟨i,hi,rfl⟩:=List.getElem_of_mem hx
  have hle:jD fs f≤i:=by
   rcases Nat.lt_or_ge i (jD fs f) with h | h
   ·have:=lj h;omega
   ·exact h
  have hlt:jD fs f<fs.length:=by omega
  refine ⟨hlt,?_⟩
  rw [jx hlt]
  have h1:=mq (f:=f) hs hlt (yY _)
  rcases Nat.lt_or_eq_of_le hle with h | h
  ·have h2:=im.lt_le (List.pairwise_iff_getElem.1 hs _ i hlt hi h) (by omega:aW fs[i] f≤0)
   omega
  ·simp only [h];exact h0
theorem ry (h:cd f=true) (hs:f.pr.name.size≤140737488351232) (ho:U32 f.o):FcOk f:=by
 unfold cd at h
 simp only [Bool.and_eq_true,decide_eq_true_eq,List.all_eq_true] at h
 exact ⟨hs,ho,h.2.2.1,h.2.2.2⟩
theorem my (hs:eC fs) (hn:sm fs f=false):eC (cv fs (jD fs f) f):=by
 have hb:∀a∈fs.take (jD fs f),aW a f<0:=by
  intro a ha
  obtain ⟨i,hi,rfl⟩:=List.getElem_of_mem ha
  rw [List.length_take] at hi
  rw [List.getElem_take]
  exact lj (by omega)
 have ha:∀a∈fs.drop (jD fs f),aW f a<0:=by
  intro a ha
  obtain ⟨i,hi,rfl⟩:=List.getElem_of_mem ha
  rw [List.length_drop] at hi
  rw [List.getElem_drop]
  have h1:=mq (f:=f) hs (show jD fs f+i<fs.length by omega) (Nat.le_add_right _ _)
  have h2:aW (fs[jD fs f+i]'(by omega)) f≠0:=fun h=>by
   have:=(xg (f:=f) hs).2 ⟨_,List.getElem_mem (show jD fs f+i<fs.length by omega),h⟩
   rw [hn] at this;cases this
  have h3:=im.anti f (fs[jD fs f+i]'(by omega))
  omega
 unfold eC cv
 rw [List.pairwise_append]
 refine ⟨hs.take,?_,fun a h1 b h2=>?_⟩
 ·rw [List.pairwise_cons]
  exact ⟨ha,hs.drop⟩
 ·rcases List.mem_cons.1 h2 with rfl | h2
  ·exact hb a h1
  ·exact im.lt_le (hb a h1) (by have:=ha b h2;omega)
end
theorem kc {α β:Type} (f:α→β) (L:List α) (p:Nat) (x:α):(cv L p x).map f=cv (L.map f) p (f x):=by simp [cv,List.map_take,List.map_drop]
def StM (S:Nat) (v:Value) (k:Nat):Prop:=k=S∨v.ownBlock=some k
def StD (base:Nat) (v:Value) (k:Nat):Prop:=k<base∨v.ownBlock=some k
theorem StM.d {S base k:Nat} {v:Value} (h:StM S v k) (hS:S<base):StD base v k:=by
 rcases h with rfl | h
 ·exact .inl hS
 ·exact .inr h
structure StA (base d:Nat) (w:World) (S:Nat) (xs:List FV) (A:Option Addr) (c:Nat):Prop where
 hd:Blk w S #[.slice A xs.length c]
 lt:S<base
 bw:base≤w.heap.size
 row:am FvR 33 w base 0 (.slice A xs.length c) xs
 ok:∀x∈xs,FcOk x.f
 deep:∀x∈xs,ie (StD base (.slice A xs.length c)) w (fun w'=>(ax (d+1)).rd w' w'.heap.size x.f x.cs)
 sort:eC (xs.map FV.f)
section
variable {base d S c:Nat} {w w':World} {xs:List FV} {A:Option Addr} {M:Nat→Prop}
theorem StA.agree (h:StA base d w S xs A c) (ha:aw M w w') (hM:∀k,M k→k<w.heap.size→¬StM S (.slice A xs.length c) k) (hD:∀k,M k→k<w.heap.size→StD base (.slice A xs.length c) k):StA base d w' S xs A c:=
 ⟨ha.blk h.hd (fun hm=>hM S hm h.hd.lt (.inl rfl)),h.lt,yX h.bw ha.size,h.row.agree ha (fun k hk hm=>hM k hm (h.row.lt k hk).2 (.inr hk)),h.ok,fun x hx=>(h.deep x hx).next ha (fun k hk hm=>hD k hm hk) (fun k hk hm=>hm),h.sort⟩
theorem StA.later (h:StA base d w S xs A c) (hb:Below w.heap.size w w'):StA base d w' S xs A c:=h.agree (M:=fun _=>False) (aw.of_below hb) (fun _ h=>h.elim) (fun _ h=>h.elim)
theorem StA.rl (h:StA base d w S xs A c) (hn:xs.length≤1000000):RL (ax (d+1)) w w.heap.size (xs.map FV.f) A:=by
 obtain ⟨A3,c3,e3,h1,h2,r3⟩:=h.row.reads (yZ _) (by show xs.length*(8*3)≤_;omega)
 simp only [Value.slice.injEq] at e3
 obtain ⟨rfl,_,rfl⟩:=e3
 intro h0
 rw [List.length_map] at h0
 obtain ⟨b,off,e,hb,hc⟩:=r3 h0
 refine ⟨b,off,e,hb,fun i hi=>?_⟩
 rw [List.length_map] at hi
 obtain ⟨vs,hl,⟨x,hx,hr⟩,hv⟩:=hc i hi
 obtain rfl:vs=x.cs:=hr
 exact ⟨x.cs,hl,⟨x.f,by rw [List.getElem?_map,hx];rfl,(h.deep x (List.mem_of_getElem? hx)).here⟩,hv⟩
end
def yf (base d S:Nat) (w w':World) (xs:List FV) (A:Option Addr) (c:Nat) (f:Fc) (z:Ending):Prop:=
 ∃xs' A' c',z=.returned (.bool (pg (xs.map FV.f) f))∧xs'.map FV.f=pl (xs.map FV.f) f∧StA base d w' S xs' A' c'∧aw (StM S (.slice A xs.length c)) w w'∧bl w (.slice A xs.length c) (.slice A' xs'.length c')
theorem yf.no {base d S:Nat} {w w':World} {xs:List FV} {A:Option Addr} {c:Nat} {f:Fc} (h:StA base d w S xs A c) (hb:Below w.heap.size w w') (hn:pg (xs.map FV.f) f=false):yf base d S w w' xs A c f (.returned (.bool false)):=
 ⟨xs,A,c,by rw [hn],by unfold pl;rw [hn];rfl,h.later hb,aw.of_below hb,.inl rfl⟩
theorem ga {fs:List Fc} {f:Fc} (h:cd f=false):pg fs f=false:=by unfold pg;rw [h];rfl
theorem nu {d B:Nat} {w:World} (hB:B≤w.heap.size):bP Tryz.prog (TmR d) cS B w 105 #[] (fun x=>!af x):=by
 intro x vs w1 hb hr
 have HR:Hid (RTm w1 B d x vs):=yW hr
 obtain ⟨A,c,rfl,_⟩:=RTm.cells (show RTm w1 B d x vs from hr)
 have hB1:=yX hB hb.size
 clear hr hb
 show Calls Tryz.prog 105 #[.agg #[_,_,_,_]] w1 _
 go_enter Tryz.func105,Tryz.ntmps105
 go_wp2_with fail
 generalize hW:World.alloc _ _=w2
 obtain ⟨hb,hz⟩:=al1 hW
 have HB2:=yW hb
 clear hW hb hz
 refine (aj (d:=d) (vs:=[_,_,_,_]) (RTm.below HB2.out hB1 HR.out) (yX hB1 HB2.out.size)).mono ?_
 rintro e w3 ⟨rfl,hb⟩
 have HB3:=yW (ab HB2.out hb)
 clear hb
 go_wp2_with fail
 go_ret
 exact ⟨rfl,HB3.out⟩
theorem vN {base d B S c:Nat} {xs:List FV} {A:Option Addr} {f:Fc} {vf:List Value} {w:World} (hs:StA base d w S xs A c) (hf:(ax (d+1)).rd w B f vf) (hB:B≤w.heap.size) (hn:xs.length≤100000) :
 Calls Tryz.prog 51 #[.pointer (some ⟨S,0,none⟩),.agg vf.toArray] w fun z w'=>yf base d S w w' xs A c f z:=by
 obtain ⟨Af,cf,rfl,hsz,h1,h2,h3,hl,ho⟩:=aI hf
 have HS:=yW hs
 have HF:=yW hf
 have HL:=yW hl
 have HO:=yW ho
 have hSl:=hs.hd.lt
 clear hs hf hl ho
 go_enter Tryz.func51,Tryz.ntmps51
 go_upto_region 1 with fail
 generalize hW:World.alloc _ _=w1
 obtain ⟨hb,hz⟩:=al1 hW
 have HBA1:=yW (n11 hW)
 have HB1:=yW hb
 have hsz1:=hb.size
 clear hW hb
 have hB1:B≤w1.heap.size:=by omega
 have k_a:=HBA1.out.cell
 have l_a:=HBA1.out.lt
 have HSB:Hid (cd f=(decide (f.o≠0)&&(dW (bs f.pr.name)&&(decide (f.pr.terms.length≤8)&&f.pr.terms.all af)))):=yW rfl
 by_cases g1:f.o=0
 ·have hno:cd f=false:=by rw [HSB.out];simp [g1]
  have q1:(f.o==0)=true:=by simpa using g1
  have HNO:=yW hno
  clear g1 hno
  go_wp2_with fail
  go_ret
  exact yf.no HS.out HB1.out (ga HNO.out)
 have q1:(f.o==0)=false:=by simpa using g1
 have G1:=yW g1
 clear g1
 go_wp2_with fail
 refine (fc f.pr.name w1 (by unfold maxLen;omega)).mono ?_
 rintro e w2 ⟨rfl,rfl⟩
 by_cases g2:dW (bs f.pr.name)=true
 rotate_left
 ·have hno:cd f=false:=by rw [HSB.out];simp [g2]
  simp only [Bool.not_eq_true] at g2
  have HNO:=yW hno
  clear hno
  rw [g2]
  go_wp2_with fail
  go_ret
  exact yf.no HS.out HB1.out (ga HNO.out)
 have G2:=yW g2
 rw [g2]
 clear g2
 by_cases g3:f.pr.terms.length≤8
 rotate_left
 ·have hno:cd f=false:=by rw [HSB.out];simp [g3]
  have q3:decide ((f.pr.terms.length:Int) > 8)=true:=by simp;omega
  have q3':decide ((8:Int)<(f.pr.terms.length:Int))=true:=by simp;omega
  have HNO:=yW hno
  clear hno g3
  go_wp2_with fail
  go_ret
  exact yf.no HS.out HB1.out (ga HNO.out)
 have q3:decide ((f.pr.terms.length:Int) > 8)=false:=by simp;omega
 have q3':decide ((8:Int)<(f.pr.terms.length:Int))=false:=by simp;omega
 have hen:=ent Tryz.func105 (by kernel_rfl) rfl
 have HC:=yW (bi (d+1) 105 #[] (fun x=>!af x) f.pr.terms Af cf B w1 hen (HL.out.keep HB1.out hB) hB1 (by omega) (nu hB1))
 clear hen
 go_wp2_with fail
 refine HC.out.mono ?_
 rintro e w2 ⟨rfl,hb⟩
 have HB2:=yW (ab HB1.out hb)
 have HBA2:=yW (HBA1.out.later hb)
 have hsz2:=hb.size
 clear k_a l_a hb q3 q3'
 have k_a:=HBA2.out.cell
 have l_a:=HBA2.out.lt
 by_cases g4:f.pr.terms.all af=true
 rotate_left
 ·have hno:cd f=false:=by rw [HSB.out];simp [g4]
  have hany:(f.pr.terms.any fun x=>!af x)=true:=by
   rw [List.any_eq_true]
   simp only [Bool.not_eq_true,List.all_eq_false] at g4
   obtain ⟨x,hx,h⟩:=g4
   exact ⟨x,hx,by simp [h]⟩
  rw [hany]
  have HNO:=yW hno
  clear hno g4 hany
  go_wp2_with fail
  go_ret
  exact yf.no HS.out HB2.out (ga HNO.out)
 have hany:(f.pr.terms.any fun x=>!af x)=false:=by
  rw [List.any_eq_false]
  rw [List.all_eq_true] at g4
  intro x hx
  simp [g4 x hx]
 rw [hany]
 have HSY:Hid (cd f=true):=yW (by rw [HSB.out,G2.out,g4];simp [G1.out,g3])
 have HFO:=yW (ry HSY.out hsz HO.out)
 clear hany g4
 go_upto_region 3 with fail
 clear k_a l_a
 have HS2:=yW (HS.out.later HB2.out)
 have HRL:=yW (HS2.out.rl (by omega))
 have hlm:(xs.map FV.f).length=xs.length:=List.length_map _
 have HLM:=yW hlm
 have HPN:Hid (jD (xs.map FV.f) f≤xs.length):=yW (by have:=ll (fs:=xs.map FV.f) (f:=f);omega)
 have HF2:=yW ((ax (d+1)).keep HB2.out hB HF.out)
 have hB2:B≤w2.heap.size:=by omega
 clear hlm
 have HBS:Hid (∀w9,Below w2.heap.size w2 w9→Calls Tryz.prog 94 #[.slice A xs.length c,.agg #[.string f.pr.name,.slice Af f.pr.terms.length cf,.int .u32 f.o],.func (.func 95) #[] #[]] w9 fun z w'=>z=.returned (.tuple #[.int .i64 (jD (xs.map FV.f) f),.bool (sm (xs.map FV.f) f)])∧Below w9.heap.size w9 w'):=yW (fun w9 hb9=>by
  have h:=pE (d:=d) (e:=d) (B:=w2.heap.size) (c:=c) (fs:=xs.map FV.f) (t:=f) (vt:=[_,_,_]) (A:=A) (w:=w9) (HRL.out.keep hb9 (yY _)) ((ax (d+1)).keep hb9 (yY _) ((ax (d+1)).wide hB2 HF2.out)) (fun x hx=>by
   obtain ⟨y,hy,rfl⟩:=List.mem_map.1 hx
   exact HS.out.ok y hy) (by omega) (by rw [HLM.out];omega) hb9.size (csF (xs.map FV.f) f) (fun i hi=>jx hi) (fun i j hij hj h=>qU HS.out.sort hij hj h)
  rw [HLM.out] at h
  refine h.mono fun z w' ⟨h1,h2⟩=>⟨?_,h2⟩
  rw [h1]
  unfold sm jD
  rw [HLM.out,Bool.decide_and])
 have q_s:=HS2.out.hd.regrown
 have q_a:=HBA2.out.regrown
 generalize hp:jD (xs.map FV.f) f=p at *
 generalize hq:sm (xs.map FV.f) f=q at *
 have HP:=yW hp
 have HQ:=yW hq
 clear hp hq
 refine wp_region_quiet_below (by kernel_rfl) (by kernel_rfl) ?_
 repeat (go_big_quiet_step ((go_at_call 94;exact Calls.regrown_of (HBS.out _ (below_regrown _ _ _)))))
 refine wpQuiet_nil ?_
 intro w3 hw_
 have hb:Below w2.heap.size w2 w3:=by obtain ⟨p_,rfl⟩:=hw_;exact below_regrown _ _ _
 clear hw_ q_s q_a
 have HBA3:=yW (HBA2.out.later hb)
 have HS3:=yW (HS2.out.later hb)
 have HB3:=yW (ab HB2.out hb)
 have hsz3:=hb.size
 have HF3:=yW ((ax (d+1)).keep hb hB2 HF2.out)
 clear hb
 cases q
 rotate_left
 ·have HNO:Hid (pg (xs.map FV.f) f=false):=yW (by unfold pg;rw [HQ.out];simp)
  go_wp2_with fail
  go_ret
  exact yf.no HS.out HB3.out HNO.out
 have hpn:=HPN.out
 go_upto_region 6 with fail
 have HSL:Hid (∀{w':World},Below w3.heap.size w3 w'→(w'.cell? ⟨S,0,none⟩=some (.slice A xs.length c)∧w'.cell? ⟨w.heap.size,0,none⟩=some (.string f.pr.name)∧w'.cell? ⟨w.heap.size,1,none⟩=some (.slice Af f.pr.terms.length cf)∧w'.cell? ⟨w.heap.size,2,none⟩=some (.int .u32 f.o))):=yW (fun hb=>have h:=(HBA3.out.later hb).cell;⟨(HS3.out.hd.later hb).cell 0,h 0,h 1,h 2⟩)
 refine ci (S:=fun w'=>w'.cell? ⟨S,0,none⟩=some (.slice A xs.length c)∧w'.cell? ⟨w.heap.size,0,none⟩=some (.string f.pr.name)∧w'.cell? ⟨w.heap.size,1,none⟩=some (.slice Af f.pr.terms.length cf)∧w'.cell? ⟨w.heap.size,2,none⟩=some (.int .u32 f.o)) 12 (by kernel_rfl) (by kernel_rfl) (by kernel_rfl) (by kernel_rfl) (HSL.out (za _ _).drew) ?_
 refine al (i:=0) (v:=?v1_) rfl (by kernel_rfl) (by kernel_rfl) (by kernel_rfl) (by kernel_rfl) ?hq1_ ?hw1_ ?hy1_ ?rest1_
 case hq1_=>exact fun _ _ _ h=>h
 case hw1_=>rfl
 case hy1_=>(intro w' hS';(try dsimp only at hS');go_simp;(try with_reducible rfl))
 refine al (i:=1) (v:=?v2_) rfl (by kernel_rfl) (by kernel_rfl) (by kernel_rfl) (by kernel_rfl) ?hq2_ ?hw2_ ?hy2_ ?rest2_
 case hq2_=>exact fun _ _ _ h=>h
 case hw2_=>rfl
 case hy2_=>(intro w' hS';(try dsimp only at hS');go_simp;(try with_reducible rfl))
 refine al (i:=2) (v:=?v3_) rfl (by kernel_rfl) (by kernel_rfl) (by kernel_rfl) (by kernel_rfl) ?hq3_ ?hw3_ ?hy3_ ?rest3_
 case hq3_=>exact fun _ _ _ h=>h
 case hw3_=>rfl
 case hy3_=>(intro w' hS';(try dsimp only at hS');go_simp;(try with_reducible rfl))
 refine al (i:=3) (v:=?v4_) rfl (by kernel_rfl) (by kernel_rfl) (by kernel_rfl) (by kernel_rfl) ?hq4_ ?hw4_ ?hy4_ ?rest4_
 case hq4_=>exact fun _ _ _ h=>h
 case hw4_=>rfl
 case hy4_=>(intro w' hS';(try dsimp only at hS');go_simp;(try with_reducible rfl))
 refine al (i:=4) (v:=?v5_) rfl (by kernel_rfl) (by kernel_rfl) (by kernel_rfl) (by kernel_rfl) ?hq5_ ?hw5_ ?hy5_ ?rest5_
 case hq5_=>exact fun _ _ _ h=>h
 case hw5_=>rfl
 case hy5_=>(intro w' hS';(try dsimp only at hS');go_simp;(try with_reducible rfl))
 refine al (i:=5) (v:=?v6_) rfl (by kernel_rfl) (by kernel_rfl) (by kernel_rfl) (by kernel_rfl) ?hq6_ ?hw6_ ?hy6_ ?rest6_
 case hq6_=>exact fun _ _ _ h=>h
 case hw6_=>rfl
 case hy6_=>(intro w' hS';(try dsimp only at hS');go_simp;(try with_reducible rfl))
 refine al (i:=6) (v:=?v7_) rfl (by kernel_rfl) (by kernel_rfl) (by kernel_rfl) (by kernel_rfl) ?hq7_ ?hw7_ ?hy7_ ?rest7_
 case hq7_=>exact fun _ _ _ h=>h
 case hw7_=>rfl
 case hy7_=>(intro w' hS';(try dsimp only at hS');go_simp;(try with_reducible rfl))
 refine aY (rs:=[7]) (by kernel_rfl) rfl (by kernel_rfl) ?_
 refine aL.cons rfl (fun K hK=>?_) aL.nil
 go_simp
 refine (jA (d:=d) (B:=B) (f:=f) (vf:=[_,_,_]) ((ax (d+1)).keep (za w3.heap.size w3).drew (by omega) HF3.out) HFO.out (by show B≤w3.heap.size;omega)).mono ?_
 rintro z w6 ⟨⟨A5,c5,rfl,how⟩,hb6⟩
 have HOW:Hid (bX w3.heap.size d w6 f A5 c5):=yW how
 have HB6:Hid (Below w3.heap.size w3 w6):=yW ((za w3.heap.size w3).drew.trans hb6)
 have hsz6:=HB6.out.size
 unfold fcV
 clear how hb6
 refine hK.out _ _ (HSL.out HB6.out) ?_
 clear hK
 refine aY (rs:=[8]) (by kernel_rfl) rfl (by kernel_rfl) ?_
 refine aL.cons rfl (fun K hK=>?_) aL.nil
 go_simp
 generalize hW:World.alloc _ _=w8
 have HG8:Hid (bV w8 w6.heap.size #[.string f.pr.name,.slice A5 f.pr.terms.length c5,.int .u32 f.o] 33):=yW (hW▸heap_alloc_new w6 _)
 obtain ⟨hb8,hz8⟩:=al1 hW
 have HB8:Hid (Below w3.heap.size w3 w8):=yW (HB6.out.trans (hb8.mono hsz6))
 have hsz8:=hb8.size
 have HOW8:=yW (HOW.out.later hb8)
 have HS8:=yW (HS3.out.later HB8.out)
 have hgl:w6.heap.size<w8.heap.size:=by rw [hz8];omega
 clear hW hb8 hz8
 refine hK.out _ _ (HSL.out HB8.out) ?_
 clear hK
 refine aY (rs:=[9]) (by kernel_rfl) rfl (by kernel_rfl) ?_
 refine aL.cons rfl (fun K hK=>?_) aL.nil
 go_simp
 refine (uG (base:=base) (i:=p) (G:=w6.heap.size) (n:=xs.length) (c:=c) (A:=A) (xs:=xs) (y:=⟨f,A5,c5⟩) rfl HS8.out.row HS8.out.bw (by omega) rfl HG8.out (fun e=>by have:=(HS3.out.row.lt w6.heap.size e.symm).2;omega) hpn).mono ?_
 rintro z w9 ⟨A9,c9,rfl,hown,hg,hf⟩
 have HOWN:=yW hown
 have HG:=yW hg
 have HFV:=yW hf
 have hsz9:=hg.size
 have HA9:Hid (aw (StM S (.slice A xs.length c)) w8 w9):=yW ((aw.grown hg).mono fun k _ hk=>.inr hk.symm)
 have hSne:some S≠(Value.slice A xs.length c).ownBlock:=fun e=>by have h1:=(HS8.out.row.lt S e.symm).1;have h2:=HS8.out.lt;omega
 have HHD:=yW (HS8.out.hd.grown hg hSne)
 have HBA9:=yW ((HBA3.out.later HB8.out).grown hg (fun e=>by have h1:=(HS.out.row.lt w.heap.size e.symm).2;omega))
 have f_s:=HHD.out.free
 have k_s:=HHD.out.cell
 clear hown hg hf hSne
 refine hK.out _ _ (⟨HHD.out.cell 0,HBA9.out.cell 0,HBA9.out.cell 1,HBA9.out.cell 2⟩) ?_
 clear hK
 refine al (i:=10) (v:=?v8_) rfl (by kernel_rfl) (by kernel_rfl) (by kernel_rfl) (by kernel_rfl) ?hq8_ ?hw8_ ?hy8_ ?rest8_
 case hq8_=>exact fun _ _ _ h=>h
 case hw8_=>rfl
 case hy8_=>(intro w' hS';(try dsimp only at hS');go_simp;(try with_reducible rfl))
 refine al (i:=11) (v:=?v9_) rfl (by kernel_rfl) (by kernel_rfl) (by kernel_rfl) (by kernel_rfl) ?hq9_ ?hw9_ ?hy9_ ?rest9_
 case hq9_=>exact fun _ _ _ h=>h
 case hw9_=>rfl
 case hy9_=>(intro w' hS';(try dsimp only at hS');go_simp;(try with_reducible rfl))
 refine gg (by kernel_rfl) (by kernel_rfl) rfl (fun K hK=>?_)
 go_simp
 refine hK.out _ _ ?_
 clear f_s k_s
 have HLP:Hid ((cv xs p (⟨f,A5,c5⟩:FV)).length=xs.length+1):=yW (bB hpn)
 have HAD:Hid (pg (xs.map FV.f) f=true):=yW (by unfold pg;rw [HSY.out,HQ.out];rfl)
 go_wp2_with fail
 go_ret
 have HAF:Hid (aw (StM S (.slice A xs.length c)) w8 (w9.setCell ⟨S,0,none⟩ (.slice A9 (xs.length+1) c9))):=yW (HA9.out.set_ (fun _=>.inl rfl) 0 _)
 have HMM:Hid (∀k,k<w8.heap.size→StM S (.slice A9 (cv xs p (⟨f,A5,c5⟩:FV)).length c9) k→StM S (.slice A xs.length c) k):=yW (fun k hk hm=>by
  rcases hm with hm | hm
  ·exact .inl hm
  ·right
   rw [HLP.out] at hm
   rcases HFV.out with h | ⟨k',h4,h5⟩
   ·rw [←h];exact hm
   ·rw [h4] at hm
    simp only [Option.some.injEq] at hm
    omega)
 have HMD:Hid (∀k,k<w8.heap.size→StD base (.slice A9 (cv xs p (⟨f,A5,c5⟩:FV)).length c9) k→StD base (.slice A xs.length c) k):=yW (fun k hk hm=>by
  rcases hm with hm | hm
  ·exact .inl hm
  ·exact (HMM.out k hk (.inr hm)).d HS.out.lt)
 have HML:Hid (∀k,StD base (.slice A xs.length c) k→k<w3.heap.size):=yW (fun k hm=>by
  have hb:=HS.out.bw
  have hl:=HS.out.lt
  have hs2:=HB3.out.size
  rcases hm with hm | hm
  ·omega
  ·have:=(HS.out.row.lt k hm).2;omega)
 refine ⟨cv xs p ⟨f,A5,c5⟩,A9,c9,ac HAD.out.symm,?_,⟨by rw [HLP.out];exact HHD.out.set_ 0 _,HS.out.lt,?_,by rw [HLP.out];exact HOWN.out.far HS.out.lt (yZ _) _,fun x hx=>?_,fun x hx=>?_,?_⟩,?_,?_⟩
 ·unfold pl
  rw [if_pos HAD.out,kc FV.f,HP.out]
 ·have h1:=HAF.out.size
  have h2:=HS8.out.bw
  omega
 ·rcases eu.1 hx with rfl | hx
  ·exact HFO.out
  ·exact HS.out.ok x hx
 ·rcases eu.1 hx with rfl | hx
  ·exact (HOW8.out.stab (M:=fun k=>k<w3.heap.size) HFO.out (fun k h1 h2=>by omega)).next HAF.out (fun k _ hm=>HML.out k (hm.d HS.out.lt)) (fun k hk hm=>HML.out k (HMD.out k hk hm))
  ·exact (HS8.out.deep x hx).next HAF.out (fun _ _ h=>h.d HS.out.lt) HMD.out
 ·rw [kc FV.f,←HP.out]
  exact my HS.out.sort HQ.out
 ·exact (((aw.of_below HB3.out).trans (N:=fun _=>False) (aw.of_below HB8.out) (fun _ _ h=>h.elim)).trans HA9.out (fun _ _ h=>h)).set_ (fun _=>.inl rfl) 0 _
 ·rw [HLP.out]
  rcases HFV.out with h | ⟨k,h4,h5⟩
  ·exact .inl h
  ·exact .inr ⟨k,h4,by omega⟩
def ch (ts:List Tm):List aS:=(ts.filter (fun t=>decide (t.kind=1))).map (fun t=>bs t.s)
def ay (ps:List Pr):List aS:=ps.flatMap (fun p=>ch p.terms)
theorem nj (ts us:List Tm):ch (ts++us)=ch ts++ch us:=by simp [ch]
theorem lS (ps qs:List Pr):ay (ps++qs)=ay ps++ay qs:=by simp [ay]
theorem ly (ts:List Tm) (j:Nat):(ch (ts.take j)).length≤(ch ts).length:=by
 have e:=nj (ts.take j) (ts.drop j)
 rw [List.take_append_drop] at e
 rw [e];simp
theorem pd (ps:List Pr) (k:Nat):(ay (ps.take k)).length≤(ay ps).length:=by
 have e:=lS (ps.take k) (ps.drop k)
 rw [List.take_append_drop] at e
 rw [e];simp
theorem pc {ps:List Pr} {k:Nat} {p:Pr} (h:ps[k]? = some p):ay (ps.take (k+1))=ay (ps.take k)++ch p.terms:=by
 obtain ⟨h1,h2⟩:=List.getElem?_eq_some_iff.1 h
 rw [List.take_succ_eq_append_getElem h1,h2];simp [ay]
theorem qI {ts:List Tm} {k:Nat} {t:Tm} (h:ts[k]? = some t):ch (ts.take (k+1))=ch (ts.take k)++(if t.kind=1 then [bs t.s] else []):=by
 obtain ⟨h1,h2⟩:=List.getElem?_eq_some_iff.1 h
 rw [List.take_succ_eq_append_getElem h1,h2]
 by_cases hk:t.kind=1<;>simp [ch,hk]
theorem uF:(Tryz.prog.info? 9).map (fun i=>(i.zero,i.size,i.bytes))=some (some (.string ⟨#[]⟩),1,16):=by kernel_rfl
theorem jt.later {w w':World} {base:Nat} {v:Value} {L:List aS} (h:jt w base v L) (hb:Below w.heap.size w w'):jt w' base v L:=by
 refine ⟨h.1,?_⟩
 rcases h.2 with h2 | ⟨g,cap,cur,hv,hg,hh,r⟩
 ·exact .inl h2
 ·refine .inr ⟨g,cap,cur,hv,hg,?_,r⟩
  have hlt:g<w.heap.size:=by
   rcases Nat.lt_or_ge g w.heap.size with h' | h'
   ·exact h'
   ·rw [Array.getElem?_eq_none h'] at hh;cases hh
  rw [hb.block g hlt];exact hh
theorem jt.reads {w:World} {base:Nat} {v:Value} {L:List aS} (h:jt w base v L) (hl:∀l∈L,l.length≤140737488351232) (hn:L.length≤1000000):∃A c,v=.slice A L.length c∧L.length≤c∧RL cX w w.heap.size (L.map mkS) A:=by
 rcases h.2 with ⟨h1,h2⟩ | ⟨g,cap,cur,hv,hg,hh,h1,h2,h3,h4⟩
 ·refine ⟨none,0,by rw [h1,h2],by omega,?_⟩
  intro h0
  simp [h2] at h0
 ·refine ⟨_,cap,hv,h1,fun _=>⟨g,0,rfl,?_,fun i hi=>?_⟩⟩
  ·rcases Nat.lt_or_ge g w.heap.size with h' | h'
   ·exact h'
   ·rw [Array.getElem?_eq_none h'] at hh;cases hh
  ·have hi':i<L.length:=by simpa using hi
   refine ⟨[.string (mkS L[i])],rfl,⟨mkS L[i],by simp [hi'],rfl,?_⟩,fun j v hj=>?_⟩
   ·have:=hl L[i] (List.getElem_mem hi')
    show (mkS L[i]).size≤_
    rw [Lib.size_eq]
    simpa [mkS] using this
   ·match j,hj with
    | 0,hj=>
      have hj:Value.string (mkS L[i])=v:=by simpa using hj
      subst hj
      have hc:cur[i]? = some (encStr L[i]):=by
       have:(cur.toList.take (L.length*1))[i]? = (L.map encStr)[i]?:=by rw [h4]
       rw [List.getElem?_take,if_pos (by omega),List.getElem?_map,List.getElem?_eq_getElem hi'] at this
       simpa using this
      show World.cell? w ⟨g,0+i*1+0,none⟩=_
      simp [World.cell?,hh,hc,encStr,mkS]
theorem lf (d:Nat) (ps:List Pr) (A:Option Addr) (c B:Nat) (w:World) (hl:RL (PrR d) w B ps A) (hB:B≤w.heap.size) (hn:ps.length≤140737488351232) (hcount:(ay ps).length≤1000000) :
 Calls Tryz.prog 113 #[.slice A ps.length c] w fun e w'=>∃v,e=.returned v∧jt w' w.heap.size v (eR (ay ps))∧Below w.heap.size w w':=by
 obtain ⟨i0,hi,hz0,hz1,hz2⟩:=info_parts uF
 go_enter Tryz.func113,Tryz.ntmps113
 go_wp2_with fail
 go_loopw [3,10] (fun v i wr=>∃k:Nat,k≤ps.length∧i=.int .i64 k∧jt wr w.heap.size v (ay (ps.take k))∧Below w.heap.size w wr) (fun _ i _=>ps.length-(intOf i).toNat)
 case atStart=>exact ⟨0,yZ _,rfl,World.ownsRow_nil _ _ _ _,za _ _⟩
 case round=>
  obtain ⟨k,hk,rfl,hown,hbw⟩:=hrel
  by_cases hlt:k<ps.length
  ·obtain ⟨b,off,rfl,hb⟩:=hl.base hbw hB (by omega)
   obtain ⟨p,vs,hx,hlen,hcell,hr⟩:=hl.at0 hbw hB hlt
   obtain ⟨_,rfl,hs,A',c',rfl,hc1,hc2,hl'⟩:=hr
   have c0:wr.cell? ⟨b,off+k*2,none⟩=some (.string p.name):=hcell 0 _ rfl
   have c1:wr.cell? ⟨b,off+k*2+1,none⟩=some (.slice A' p.terms.length c'):=hcell 1 _ rfl
   simp only [TmR] at hc2
   have HX:=yW (pc hx)
   have HT:=yW (pd ps (k+1))
   clear hcell hlen hx
   go_wp2_with fail
   have hbw2:Below w.heap.size w (wr.alloc (.cells #[.string p.name,.slice A' p.terms.length c'] 25)):=hbw.alloc hbw.size _
   have hown2:jt (wr.alloc (.cells #[.string p.name,.slice A' p.terms.length c'] 25)) w.heap.size u3 (ay (ps.take k)):=hown.alloc _
   have hsz2:wr.heap.size<(wr.alloc (.cells #[.string p.name,.slice A' p.terms.length c'] 25)).heap.size:=by simp
   have hsz:=hbw.size
   clear hbw hown c0 c1 hl
   generalize (wr.alloc (.cells #[.string p.name,.slice A' p.terms.length c'] 25))=W at *
   go_loopw [3,17] (fun v i wr2=>∃j:Nat,j≤p.terms.length∧i=.int .i64 j∧jt wr2 w.heap.size v (ay (ps.take k)++ch (p.terms.take j))∧Below w.heap.size w wr2) (fun _ i _=>p.terms.length-(intOf i).toNat)
   case atStart=>exact ⟨0,yZ _,rfl,by simpa [ch] using hown2,hbw2⟩
   case round=>
    obtain ⟨j,hj,rfl,hown3,hbw3⟩:=hrel
    by_cases hlt2:j<p.terms.length
    ·obtain ⟨b',off',rfl,hb'⟩:=hl'.base hbw3 hB (by omega)
     obtain ⟨x,vs,hx,hlen,hcell,hr⟩:=hl'.at0 hbw3 hB hlt2
     obtain ⟨Ax,cx,rfl,_⟩:=RTm.cells hr
     have c0:wr.cell? ⟨b',off'+j*4,none⟩=some (.int .i64 x.kind):=hcell 0 _ rfl
     have c1:wr.cell? ⟨b',off'+j*4+1,none⟩=some (.int .i64 x.n):=hcell 1 _ rfl
     have c2:wr.cell? ⟨b',off'+j*4+2,none⟩=some (.string x.s):=hcell 2 _ rfl
     have c3:wr.cell? ⟨b',off'+j*4+3,none⟩=some (.slice Ax x.l.length cx):=hcell 3 _ rfl
     have HX2:=yW (qI hx)
     have HT2:=yW (ly p.terms (j+1))
     have HO:=yW hown3
     have HG:=yW (fun g (hg:u3.ownBlock=some g)=>((HO.out.lt g hg).1:w.heap.size≤g))
     have HL:Hid ((ay (ps.take k)).length+(ch (p.terms.take j)).length≤1000000):=by
      have h1:=HT.out
      rw [HX.out,List.length_append] at h1
      have h2:=ly p.terms j
      exact (by omega:(ay (ps.take k)).length+(ch (p.terms.take j)).length≤1000000)
     have hszr:=hbw3.size
     clear hcell hlen hx hr hown3
     by_cases hk1:(x.kind==1)=true
     ·have HK:=yW hk1
      go_wp2_with (at_builtin;refine wpList_append_own _ rfl (.tmp 24) (.tmp 27) 44 rfl w.heap.size 9 i0 (.string ⟨#[]⟩) 1 16 Tryz.underlying44 hi hz0 hz1 hz2 rfl (by decide) _ _ _ rfl (World.ownsRow.alloc (World.ownsRow.alloc HO.out _) _) ⟨wr.heap.size+1,0,none⟩ 1 1 [.string x.s] rfl rfl ?c1 ?c2 ?c3 ?c4 ?c5 ?_)
      case c1=>
       intro i u hi
       match i,hi with
       | 0,hi=>
         simp only [List.getElem?_cons_zero,Option.some.injEq] at hi
         subst hi
         simp [Addr.add]
      case c2=>intro u hu;simp at hu;subst hu;rfl
      case c3=>have:=HL.out;unfold maxLen;rw [List.length_append];omega
      case c4=>have:=HL.out;rw [List.length_append];omega
      case c5=>simp;omega
      intro v' w' hown' hgrow _
      have hnew:jt w' w.heap.size v' (ay (ps.take k)++ch (p.terms.take (j+1))):=by
       have:=HK.out
       rw [beq_iff_eq] at this
       rw [HX2.out,if_pos this]
       unfold jt
       simpa [nQ,Nat.add_assoc] using hown'
      have hbelow:Below w.heap.size w w':=by
       refine Below.grown (w:=(wr.alloc _).alloc _) ((hbw3.alloc hszr _).alloc (by simp;omega) _) hgrow (by simp;omega) ?_
       intro g hg
       exact HG.out g hg
      clear hown' hgrow
      go_wp2
      go_roundw
      case rel=>exact ⟨j+1,by omega,by go_num,hnew,hbelow⟩
      case measure=>simp [intOf];omega
     ·have hk1:(x.kind==1)=false:=by simpa using hk1
      have HK:=yW hk1
      have hnew:jt (wr.alloc (.cells #[.int .i64 x.kind,.int .i64 x.n,.string x.s,.slice Ax x.l.length cx] 79)) w.heap.size u3 (ay (ps.take k)++ch (p.terms.take (j+1))):=by
       have:=HK.out
       rw [beq_eq_false_iff_ne] at this
       rw [HX2.out,if_neg this,List.append_nil]
       exact World.ownsRow.alloc HO.out _
      have HN:=yW hnew
      have HBel:=yW (fun o:Obj=>hbw3.alloc hszr o)
      clear hnew
      go_wp2_with fail
      go_roundw
      case rel=>exact ⟨j+1,by omega,by go_num,HN.out,HBel.out _⟩
      case measure=>simp [intOf];omega
    ·go_wp2_with fail
     go_roundw
     case rel=>exact ⟨k+1,by omega,by go_num,by
      rw [HX.out]
      rw [List.take_of_length_le (l:=p.terms) (by omega)] at hown3
      exact hown3,hbw3⟩
     case measure=>simp [intOf];omega
  ·have hown':jt wr w.heap.size u3 (ay ps):=by rwa [List.take_of_length_le (by omega)] at hown
   have HO:=yW hown'
   clear hown hown'
   go_wp2_with fail
   refine (oY _ w.heap.size _ _ HO.out hbw.size (by omega)).mono ?_
   rintro e w1 ⟨rfl,hs1,hb1⟩
   have HS:=yW hs1
   have HB1:=yW (hbw.trans hb1)
   clear hs1 hb1
   go_wp2_with fail
   refine (jw _ w.heap.size _ _ HS.out (by rw [cE];omega)).mono ?_
   rintro e w2 ⟨v',rfl,hs2,hb2⟩
   have HS2:=yW hs2
   have HB2:=yW (HB1.out.trans hb2)
   clear hs2 hb2
   go_wp2_with fail
   go_ret
   exact ⟨_,rfl,HS2.out,HB2.out⟩
def kU (names others:List aS):Bool:=names.all (fun s=>decide (s∈others))
theorem ot (L:List aS) (A:Option Addr) (c B G:Nat) (w:World) (hl:RL cX w B (L.map mkS) A) (hB:B≤w.heap.size) (hn:L.length≤1000000) (hs:L.Pairwise (· < ·))
 (hG:w.cell? ⟨G,0,none⟩=some (.slice A L.length c)) :
 bP Tryz.prog cX yO B w 166 #[.pointer (some ⟨G,0,none⟩)] (fun s=>!decide (bs s∈L)):=by
 intro s vs w1 hb hr
 obtain ⟨rfl,hsz⟩:=hr
 have hGl:G<w.heap.size:=block_lt_of_cell hG
 have hG1:w1.cell? ⟨G,0,none⟩=some (.slice A L.length c):=(hb.cell (p:=⟨G,0,none⟩) hGl).trans hG
 have hGl1:G<w1.heap.size:=by have:=hb.size;omega
 have HL:=yW (hl.keep hb hB)
 have hB1:B≤w1.heap.size:=by have:=hb.size;omega
 clear hl hG
 show Calls Tryz.prog 166 #[.string s,.pointer (some ⟨G,0,none⟩)] w1 _
 go_enter Tryz.func166,Tryz.ntmps166
 go_wp2_with (go_at_call 167;refine (gT L A c B s _ HL.out hB1 hn hs).mono ?_;rintro e w' ⟨rfl,rfl⟩)
 go_ret
 exact ⟨rfl,za _ _⟩
theorem ou (M L:List aS) (A' A:Option Addr) (c' c B:Nat) (w:World) (hm:RL cX w B (M.map mkS) A') (hl:RL cX w B (L.map mkS) A) (hB:B≤w.heap.size) (hn':M.length≤1000000) (hn:L.length≤1000000) (hs:L.Pairwise (· < ·)) :
 Calls Tryz.prog 112 #[.slice A' M.length c',.slice A L.length c] w fun e w'=>e=.returned (.bool (kU M L))∧Below w.heap.size w w':=by
 have HB:=yW (fun o:Obj=>(za w.heap.size w).alloc (yY _) o)
 have HM:=yW hm
 have HL:=yW hl
 clear hm hl
 go_enter Tryz.func112,Tryz.ntmps112
 go_wp2_with fail
 have h:=fu 166 #[.pointer (some ⟨w.heap.size,0,none⟩)] (fun s=>!decide (bs s∈L)) (M.map mkS) A' c' B (w.alloc (.cells #[.slice A L.length c] 44)) (ent Tryz.func166 (by kernel_rfl) rfl)
  (HM.out.keep (HB.out _) hB) (yX hB (HB.out _).size) (by simp;omega) (ot L A c B w.heap.size _ (HL.out.keep (HB.out _) hB) (yX hB (HB.out _).size) hn hs (by go_simp))
 rw [List.length_map] at h
 refine h.mono ?_
 clear h
 rintro e w1 ⟨rfl,hb1⟩
 have hfin:=yW ((HB.out _).trans (hb1.mono (HB.out _).size))
 clear hb1
 go_wp2_with fail
 go_ret
 exact ⟨ac (by simp [kU,List.all_eq_not_any_not,List.any_map,Function.comp_def,ju]),hfin.out⟩
end Go.Proofs.YtdphibjibnffeaaGreat
