/- The document's own answers on terms (viaticumref6): May, maySet, Fixed, Same, as the program's. -/
import Derived.Test.YtjpndglegpcdnaaGreatFxAwL
import Derived.Test.YtjpndglegpcdnaaGreatRead2
import Derived.Test.YtjpndglegpcdnaaGreatFc1
import Derived.Test.YtjpndglegpcdnaaGreatHeldA
import Derived.Deep.CutRange
import Derived.Test.YtjpndglegpcdnaaGreatSingle
set_option linter.unusedVariables false
set_option linter.unusedSimpArgs false
set_option maxRecDepth 100000
set_option maxHeartbeats 8000000
namespace Go.Proofs.YtjpndglegpcdnaaGreat
open Go.ChangeShapes Go.WideShapes Go.ChangeAt Go.RowKit
/-! Facts compared by looking. -/
def eqTm (x y:Tm):Bool:=decide (x.kind=y.kind)&&(decide (x.n=y.n)&&(decide (x.s=y.s)&&(x.l.isEmpty&&y.l.isEmpty)))
theorem eqTm_of:∀{x y:Tm},eqTm x y=true→x=y
 | ⟨k,n,s,l⟩,⟨k',n',s',l'⟩,h=>by
   simp only [eqTm,zC,zH,List.isEmpty_iff] at h
   obtain ⟨rfl,rfl,rfl,rfl,rfl⟩:=h
   rfl
def eqTs:List Tm→List Tm→Bool
 | [],[]=>true
 | x::xs,y::ys=>eqTm x y&&eqTs xs ys
 | _,_=>false
theorem uM:∀{x y:List Tm},eqTs x y=true→x=y
 | [],[],_=>rfl
 | x::xs,y::ys,h=>by
   simp only [eqTs,zC] at h
   rw [eqTm_of h.1,uM h.2]
 | [],_::_,h=>by cases h
 | _::_,[],h=>by cases h
def eqFc (f g:Fc):Bool:=decide (f.pr.name=g.pr.name)&&(eqTs f.pr.terms g.pr.terms&&decide (f.o=g.o))
theorem eqFc_of:∀{f g:Fc},eqFc f g=true→f=g
 | ⟨⟨n,t⟩,o⟩,⟨⟨n',t'⟩,o'⟩,h=>by
   simp only [eqFc,zC,zH] at h
   obtain ⟨rfl,h2,rfl⟩:=h
   rw [uM h2]
def zp:List Fc→List Fc→Bool
 | [],[]=>true
 | x::xs,y::ys=>eqFc x y&&zp xs ys
 | _,_=>false
theorem nx:∀{x y:List Fc},zp x y=true→x=y
 | [],[],_=>rfl
 | x::xs,y::ys,h=>by
   simp only [zp,zC] at h
   rw [eqFc_of h.1,nx h.2]
 | [],_::_,h=>by cases h
 | _::_,[],h=>by cases h
def nV:List Fc→Bool
 | []=>true
 | x::xs=>xs.all (fun y=>decide (aD x y<0))&&nV xs
theorem mW:∀{x:List Fc},nV x=true→bB x
 | [],_=>List.Pairwise.nil
 | x::xs,h=>by
   simp only [nV,zC] at h
   exact List.pairwise_cons.2 ⟨fun y hy=>of_decide_eq_true (List.all_eq_true.1 h.1 y hy),mW h.2⟩
def tG (fs:List Fc) (rs:List OwD) (X gs:List Fc):Bool:=rs.all (okR fs)&&(zp (rs.flatMap fun o=>(rawR fs o).filter fun f=>!eK fs f) X&&(nV X&&zp (X.foldl eJ fs) gs))
theorem kr {fs X gs:List Fc} {rs:List OwD} (h0:rs.all ii=true) (h:tG fs rs X gs=true):ay fs rs=(X,0)∧X.foldl eJ fs=gs:=by
 simp only [tG,zC] at h
 exact ⟨kq h0 h.1 (nx h.2.1) (mW h.2.2.1),nx h.2.2.2⟩
def ogF (s:ByteArray) (m n o:Int):Fc:=⟨pwQ s (pwN m) (pwN n),o⟩
def ogW (a b o:Nat):Int:=orO (orO (cX a) (cX b)) (cX o)
def ogL (a b:Nat):List Fc:=[ogF pwE 1 2 (cX a),ogF pwE 2 3 (cX b)]
def ogR (t:Int) (o:Nat):List OwD:=[⟨rY,o,t⟩,⟨rZ,o,t⟩]
def og1 (a b o:Nat):List Fc:=ogL a b++[ogF pwP 1 2 (orO (cX a) (cX o)),ogF pwP 2 3 (orO (cX b) (cX o))]
def og2 (a b o:Nat):List Fc:=ogL a b++[ogF pwP 1 2 (orO (cX a) (cX o)),ogF pwP 1 3 (ogW a b o),ogF pwP 2 3 (orO (cX b) (cX o))]
def ogB (a b o:Nat):Bool:=zp (stL (ogL a b)) (ogL a b)&&((ogL a b).all aC&&(tG (ogL a b) (ogR (ogW a b o) o) [ogF pwP 1 2 (orO (cX a) (cX o)),ogF pwP 2 3 (orO (cX b) (cX o))] (og1 a b o) &&
 (tG (og1 a b o) (ogR (ogW a b o) o) [ogF pwP 1 3 (ogW a b o)] (og2 a b o)&&(tG (og2 a b o) (ogR (ogW a b o) o) [] (og2 a b o)&&(tG (ogL a b) (ogR 16384 o) [] (ogL a b) &&
 (eK (og2 a b o) (ogF pwP 1 3 (ogW a b o))&&eK (og2 a b o) (ogF pwP 1 2 (orO (cX a) (cX o)))))))))
theorem og_all:((List.range 8).all fun a=>(List.range 8).all fun b=>(List.range 8).all fun o=>ogB a b o)=true:=by kernel_rfl
theorem yW {t:Int} {o:Nat} (h:o<8):(ogR t o).all ii=true:=by
 simp only [ogR,List.all_cons,List.all_nil,ii,vW,vX]
 have h1:decide ((0:Int)≤(o:Int))=true:=decide_eq_true (by omega)
 have h2:decide ((o:Int)<8)=true:=decide_eq_true (by omega)
 rw [h1,h2]
 rfl
theorem og_run {a b o:Nat} (ha:a<8) (hb:b<8) (ho:o<8):jl (ogL a b) (ogR (ogW a b o) o) 50 10=(some (og2 a b o),2,0)∧jl (ogL a b) (ogR 16384 o) 50 10=(some (ogL a b),0,0) ∧
 stL (ogL a b)=ogL a b∧eK (og2 a b o) (ogF pwP 1 3 (ogW a b o))=true∧eK (og2 a b o) (ogF pwP 1 2 (orO (cX a) (cX o)))=true:=by
 have h:=List.all_eq_true.1 (List.all_eq_true.1 (List.all_eq_true.1 og_all a (List.mem_range.2 ha)) b (List.mem_range.2 hb)) o (List.mem_range.2 ho)
 simp only [ogB,zC] at h
 obtain ⟨h1,h2,h3,h4,h5,h6,h7,h8⟩:=h
 have e0:=nx h1
 have hw:=yW (t:=ogW a b o) ho
 have hu:=yW (t:=16384) ho
 obtain ⟨k3,g3⟩:=kr hw h3
 obtain ⟨k4,g4⟩:=kr hw h4
 obtain ⟨k5,_⟩:=kr hw h5
 obtain ⟨k6,_⟩:=kr hu h6
 refine ⟨?_,?_,e0,h7,h8⟩
 ·unfold jl
  rw [if_pos (by kernel_rfl),if_pos (by rw [h2,hw];rfl),e0,if_neg (by simp [ogL]),nC (n:=100) (k':=1) k3 (by simp) (by decide) (by simp [ogL]) g3 rfl,nC (n:=99) (k':=2) k4 (by simp) (by decide) (by simp [og1,ogL]) g4 rfl,nB (n:=98) k5]
 ·unfold jl
  rw [if_pos (by kernel_rfl),if_pos (by rw [h2,hu];rfl),e0,if_neg (by simp [ogL]),nB (n:=100) k6]
theorem ik (b:Bool) (w:World) :
 Calls Tryz.prog 139 #[.bool b] w fun e w'=>e=.returned (.int .i64 (if b then -1 else 1))∧w=w':=by
 cases b
 all_goals
  go_enter Tryz.func139,Tryz.ntmps139
  go_wp2_with fail
  go_ret
  exact ⟨rfl,rfl⟩
theorem cO (c:Int) (w:World) (h0:0≤c) (h1:c≤255) :
 Calls Tryz.prog 104 #[.int .u8 c] w fun e w'=>e=.returned (.bool (fe c))∧w=w':=by
 have hc:(97≤c∧c≤122)∨(65≤c∧c≤90)∨(c<65)∨(90<c∧c<97)∨122<c:=by omega
 rcases hc with h | h | h | h | h
 all_goals
  go_enter Tryz.func104,Tryz.ntmps104
  go_wp2_with fail
  go_ret
  refine ⟨ac ?_,rfl⟩
  rw [Bool.eq_iff_iff,ig]
  simp
  try omega
theorem pF (c:Int) (w:World) (h0:0≤c) (h1:c≤255) :
 Calls Tryz.prog 105 #[.int .u8 c] w fun e w'=>e=.returned (.bool (de 1 c))∧w=w':=by
 by_cases hl:fe c=true
 ·go_enter Tryz.func105,Tryz.ntmps105
  go_wp2_with fail
  refine (cO c w h0 h1).mono ?_
  rintro e w1 ⟨rfl,rfl⟩
  rw [hl]
  go_wp2_with fail
  go_ret
  exact ⟨ac (by simp [de,hl]),rfl⟩
 ·simp only [Bool.not_eq_true] at hl
  have hc:(48≤c∧c≤57)∨c=95∨c=58∨c<48∨(58<c∧c<95)∨95<c:=by omega
  rcases hc with h | rfl | rfl | h | h | h
  all_goals
   go_enter Tryz.func105,Tryz.ntmps105
   go_wp2_with fail
   refine (cO _ w h0 h1).mono ?_
   rintro e w1 ⟨rfl,rfl⟩
   rw [hl]
   go_wp2_with fail
   go_ret
   refine ⟨ac ?_,rfl⟩
   rw [Bool.eq_iff_iff,dR]
   have hl2:=hl
   rw [Bool.eq_false_iff,ne_eq,ig] at hl2
   simp
   try omega
theorem iK {s:ByteArray} (h:¬(((∀i,(h:i<s.size)→de i s[i].toNat=true)∧1≤s.size∧s.size≤32)∧Lib.hasPrefix (bs s) (bs tV)=false)):false=dO (bs s):=by
 rw [eq_comm,Bool.eq_false_iff,ne_eq,ee]
 exact h
theorem nR (s:ByteArray) (w:World) (hs:s.size≤maxLen) (t1:¬(1≤s.size∧s.size≤32)) :
 Calls Tryz.prog 86 #[.string s] w fun e w'=>e=.returned (.bool (dO (bs s)))∧w=w':=by
 unfold maxLen at hs
 go_enter Tryz.func86,Tryz.ntmps86
 go_wp2_with fail
 all_goals
  go_ret
  exact ⟨ac (iK (by omega)),rfl⟩
theorem hexQ {s:ByteArray} (h:4≤s.size):((s.extract 0 4).toList==[104,101,120,58])=Lib.hasPrefix (bs s) (bs tV):=by
 rw [←Lib.hasPrefix_of_take,←Lib.size_eq,←Lib.size_eq]
 have e:tV.toList=[104,101,120,58]:=by rw [ByteArray.toList_eq];rfl
 have h4:tV.size=4:=rfl
 rw [←e,dv,Bool.eq_iff_iff]
 simp [h4,h,Lib.extract_data]
theorem hexN {s:ByteArray} (h:s.size<4):Lib.hasPrefix (bs s) (bs tV)=false:=by
 rw [←Lib.hasPrefix_of_take,←Lib.size_eq,←Lib.size_eq]
 have h4:tV.size=4:=rfl
 simp [h4]
 omega
theorem ej (s:ByteArray) (w:World) (hs:s.size≤maxLen) :
 Calls Tryz.prog 86 #[.string s] w fun e w'=>e=.returned (.bool (dO (bs s)))∧w=w':=by
 by_cases t1:1≤s.size∧s.size≤32
 rotate_left
 ·exact nR s w hs t1
 unfold maxLen at hs
 have hb:(s[0].toNat:Int)≤255:=by have:=s[0].toNat_lt;omega
 by_cases hl:fe s[0].toNat=true
 rotate_left
 ·simp only [Bool.not_eq_true] at hl
  go_enter Tryz.func86,Tryz.ntmps86
  go_wp2_with fail
  refine (cO _ w (by omega) (by omega)).mono ?_
  rintro e w1 ⟨rfl,rfl⟩
  rw [hl]
  go_wp2_with fail
  go_ret
  refine ⟨ac (iK fun h=>?_),rfl⟩
  have:=h.1.1 0 (by omega)
  rw [de,hl] at this
  simp at this
 have HL0:=zu hl
 have key:(4≤s.size∧((s.extract 0 4).toList==[104,101,120,58])=true)∨(Lib.hasPrefix (bs s) (bs tV)=false∧4≤s.size∧((s.extract 0 4).toList==[104,101,120,58])=false)∨(Lib.hasPrefix (bs s) (bs tV)=false∧s.size<4):=by
  by_cases t4:4≤s.size
  ·cases hx:((s.extract 0 4).toList==[104,101,120,58])
   ·exact .inr (.inl ⟨by rw [←hexQ t4,hx],t4,rfl⟩)
   ·exact .inl ⟨t4,rfl⟩
  ·exact .inr (.inr ⟨hexN (by omega),by omega⟩)
 rcases key with ⟨t4,hx⟩ | hk
 ·have HX:=zu hx
  go_enter Tryz.func86,Tryz.ntmps86
  go_wp2_with fail
  refine (cO _ w (by omega) (by omega)).mono ?_
  rintro e w1 ⟨rfl,rfl⟩
  rw [hl]
  go_wp2_with fail
  go_ret
  refine ⟨ac (iK fun h=>?_),rfl⟩
  have h2:=h.2
  rw [←hexQ t4,HX.out] at h2
  cases h2
 have HP:=zu (show Lib.hasPrefix (bs s) (bs tV)=false by rcases hk with h | h<;>exact h.1)
 have hk':(4≤s.size∧((s.extract 0 4).toList==[104,101,120,58])=false)∨s.size<4:=by rcases hk with h | h<;>simp [h.2]
 clear hk
 rcases hk' with ⟨t4,hx⟩ | t4
 all_goals
  go_enter Tryz.func86,Tryz.ntmps86
  go_wp2_with fail
  refine (cO _ w (by omega) (by omega)).mono ?_
  rintro e w1 ⟨rfl,rfl⟩
  rw [hl]
  go_wp2_with fail
  go_loop [30] (fun i=>∃k:Nat,k≤s.size∧i=.int .i64 k∧(∀i,(h:i<k)→(h':i<s.size)→de i s[i].toNat=true)) (fun i=>s.size-(intOf i).toNat)
  case atStart=>exact ⟨0,zx _,rfl,fun i h=>by omega⟩
  case round=>
   obtain ⟨k,hk,rfl,hall⟩:=hrel
   have HA:=zu hall
   clear hall
   by_cases hlt:k<s.size
   ·have hbk:(s[k].toNat:Int)≤255:=by have:=s[k].toNat_lt;omega
    have HN:Hid (de 1 s[k].toNat=true→de k s[k].toNat=true):=by
     intro h1
     rcases Nat.eq_zero_or_pos k with rfl | hk0
     ·simp [de,HL0.out]
     ·rw [dR] at h1 ⊢
      rcases h1 with h1 | h1
      ·exact .inl h1
      ·exact .inr ⟨by omega,h1.2⟩
    have HM:Hid (de 1 s[k].toNat=false→¬de k s[k].toNat=true):=by
     intro h1
     rw [Bool.eq_false_iff,ne_eq,dR] at h1
     rw [dR]
     intro h2
     apply h1
     rcases h2 with h2 | h2
     ·exact .inl h2
     ·exact .inr ⟨by omega,h2.2⟩
    go_wp2_with fail
    refine (pF _ w (by omega) (by omega)).mono ?_
    rintro e w1 ⟨rfl,rfl⟩
    by_cases hn:de 1 s[k].toNat=true
    ·have HN2:=zu (HN.out hn)
     rw [hn]
     go_wp2_with fail
     go_round
     case rel=>exact ⟨k+1,by omega,by go_num,fun i h h'=>by
      rcases Nat.lt_or_ge i k with h1 | h1
      ·exact HA.out i h1 h'
      ·obtain rfl:i=k:=by omega
       exact HN2.out⟩
     case measure=>simp [intOf];omega
    ·simp only [Bool.not_eq_true] at hn
     have HN2:=zu (HM.out hn)
     rw [hn]
     go_wp2_with fail
     go_ret
     exact ⟨ac (iK fun h=>HN2.out (h.1.1 k hlt)),rfl⟩
   ·go_wp2_with fail
    go_ret
    refine ⟨ac ?_,rfl⟩
    show true=_
    rw [eq_comm,ee]
    exact ⟨⟨fun i hi=>HA.out i (by omega) hi,by omega,by omega⟩,HP.out⟩
theorem nq {x y:Int} (h:x≠y):cU x y=if x<y then -1 else 1:=by
 unfold cU
 split
 ·rfl
 ·rw [if_pos (by omega)]
theorem dW (x:Int):cU x x=0:=by
 unfold cU
 rw [if_neg (by omega),if_neg (by omega)]
theorem qq {x y:List UInt8} (h:x≠y):dg x y=if x<y then -1 else 1:=by
 unfold dg
 split
 ·rfl
 ·rename_i h1
  rw [if_pos]
  rcases List.le_iff_lt_or_eq.1 (List.not_lt.1 h1) with h2 | h2
  ·exact h2
  ·exact absurd h2.symm h
theorem oE (x:List UInt8):dg x x=0:=by
 unfold dg
 rw [if_neg (List.lt_irrefl _),if_neg (List.lt_irrefl _)]
theorem qr {dp:Nat} {a b:Tm} (h:im a b≠0):aV dp a b=im a b:=by
 cases dp with
 | zero=>rfl
 | succ d=>unfold aV;rw [if_neg h]
theorem uF {dp:Nat} {a b:Tm} (h:a.kind≠b.kind):aV dp a b=if a.kind<b.kind then -1 else 1:=by
 have h1:cU a.kind b.kind≠0:=by rw [nq h];split<;>omega
 have h2:im a b=cU a.kind b.kind:=by unfold im or3;rw [if_neg h1]
 rw [qr (by rw [h2];exact h1),h2,nq h]
theorem cmpT_n {dp:Nat} {a b:Tm} (hk:a.kind=b.kind) (h:a.n≠b.n):aV dp a b=if a.n<b.n then -1 else 1:=by
 have h1:cU a.n b.n≠0:=by rw [nq h];split<;>omega
 have h2:im a b=cU a.n b.n:=by unfold im or3;rw [hk,dW,if_pos rfl,if_neg h1]
 rw [qr (by rw [h2];exact h1),h2,nq h]
theorem cmpT_s {dp:Nat} {a b:Tm} (hk:a.kind=b.kind) (hn:a.n=b.n) (h:bs a.s≠bs b.s):aV dp a b=if bs a.s<bs b.s then -1 else 1:=by
 have h1:dg (bs a.s) (bs b.s)≠0:=by rw [qq h];split<;>omega
 have h2:im a b=dg (bs a.s) (bs b.s):=by unfold im or3;rw [hk,dW,if_pos rfl,hn,dW,if_pos rfl]
 rw [qr (by rw [h2];exact h1),h2,qq h]
theorem uz {a b:Tm} (hk:a.kind=b.kind) (hn:a.n=b.n) (h:bs a.s=bs b.s):im a b=0:=by
 unfold im or3
 rw [hk,dW,if_pos rfl,hn,dW,if_pos rfl,h,oE]
theorem dz {m n:Int} (h:m=n):Ending.returned (.int .i64 m)=.returned (.int .i64 n):=by rw [h]
theorem iU (dp:Nat) (hdp:dp≤3)
 (ih:∀dp',dp=dp'+1→∀(d B:Nat) (a b:Tm) (va vb:List Value) (w:World),RTm w B d a va→RTm w B d b vb→B≤w.heap.size →
  Calls Tryz.prog 106 #[.agg va.toArray,.agg vb.toArray,.int .i64 (dp':Int)] w fun e w'=>e=.returned (.int .i64 (aV dp' a b))∧Below w.heap.size w w')
 (d B:Nat) (a b:Tm) (va vb:List Value) (w:World) (ha:RTm w B d a va) (hb:RTm w B d b vb) (hB:B≤w.heap.size) :
 Calls Tryz.prog 106 #[.agg va.toArray,.agg vb.toArray,.int .i64 (dp:Int)] w fun e w'=>e=.returned (.int .i64 (aV dp a b))∧Below w.heap.size w w':=by
 obtain ⟨Aa,ca,rfl,a1,a2,a3,a4,a5,hla⟩:=RTm.cells ha
 obtain ⟨Ab,cb,rfl,b1,b2,b3,b4,b5,hlb⟩:=RTm.cells hb
 have IH:=zu ih
 have HLA:=zu hla
 have HLB:=zu hlb
 have HW:=zu (((zy w.heap.size w).alloc (zw _) (.cells #[.int .i64 a.kind,.int .i64 a.n,.string a.s,.slice Aa a.l.length ca] 29)).alloc (by simp) (.cells #[.int .i64 b.kind,.int .i64 b.n,.string b.s,.slice Ab b.l.length cb] 29))
 clear ih ha hb hla hlb
 by_cases k1:a.kind=b.kind
 rotate_left
 ·have K1:=zu k1
  have k1':(a.kind==b.kind)=false:=by simpa using k1
  clear k1
  go_enter Tryz.func106,Tryz.ntmps106
  go_wp2_with fail
  refine (ik _ _).mono ?_
  rintro e w1 ⟨rfl,rfl⟩
  go_wp2_with fail
  all_goals
   go_ret
   exact ⟨dz (by rw [uF K1.out];first | rw [if_pos (by assumption)] | rw [if_neg (by omega)]),HW.out⟩
 by_cases k2:a.n=b.n
 rotate_left
 ·have K1:=zu k1
  have K2:=zu k2
  have k1':(a.kind==b.kind)=true:=by simpa using k1
  have k2':(a.n==b.n)=false:=by simpa using k2
  clear k1 k2
  go_enter Tryz.func106,Tryz.ntmps106
  go_wp2_with fail
  refine (ik _ _).mono ?_
  rintro e w1 ⟨rfl,rfl⟩
  go_wp2_with fail
  all_goals
   go_ret
   exact ⟨dz (by rw [cmpT_n K1.out K2.out];first | rw [if_pos (by assumption)] | rw [if_neg (by omega)]),HW.out⟩
 by_cases k3:bs a.s=bs b.s
 rotate_left
 ·have K1:=zu k1
  have K2:=zu k2
  have K3:=zu k3
  have k1':(a.kind==b.kind)=true:=by simpa using k1
  have k2':(a.n==b.n)=true:=by simpa using k2
  have k3':(a.s.toList==b.s.toList)=false:=by rw [dv];simpa using k3
  clear k1 k2 k3
  go_enter Tryz.func106,Tryz.ntmps106
  go_wp2_with fail
  refine (ik _ _).mono ?_
  rintro e w1 ⟨rfl,rfl⟩
  go_wp2_with fail
  all_goals
   go_ret
   exact ⟨dz (by rw [cmpT_s K1.out K2.out K3.out];first | rw [if_pos ((iJ _ _).1 (by assumption))] | rw [if_neg (fun h=>absurd ((iJ _ _).2 h) (by assumption))]),HW.out⟩
 have K0:=zu (uz k1 k2 k3)
 have k1':(a.kind==b.kind)=true:=by simpa using k1
 have k2':(a.n==b.n)=true:=by simpa using k2
 have k3':(a.s.toList==b.s.toList)=true:=by rw [dv];simpa using k3
 clear k1 k2 k3
 rcases dp with _ | dp
 ·go_enter Tryz.func106,Tryz.ntmps106
  go_wp2_with fail
  go_ret
  exact ⟨dz K0.out.symm,HW.out⟩
 ·have hd1:(((dp+1:Nat):Int)==0)=false:=by simp;omega
  have HC:=zu (show aV (dp+1) a b=bM (aV dp) a.l b.l by unfold aV;rw [if_pos K0.out])
  clear HW
  go_enter Tryz.func106,Tryz.ntmps106
  go_wp2_with fail
  generalize hW:World.alloc _ _=W
  obtain ⟨hb,hz⟩:=al2 hW
  have ba:=n21 hW
  have bb:=n22 hW
  have HB:=zu hb
  have HZ:w.heap.size<W.heap.size:=by omega
  have HB1:B≤W.heap.size:=by omega
  clear hW hb hz
  go_loopw [52] (fun i wr=>∃k:Nat,k≤a.l.length∧i=.int .i64 k∧Below W.heap.size W wr∧Hid (bM (aV dp) a.l b.l=bM (aV dp) (a.l.drop k) (b.l.drop k))) (fun i _=>a.l.length-(intOf i).toNat)
  case atStart=>exact ⟨0,zx _,rfl,zy _ _,rfl⟩
  case round=>
   obtain ⟨k,hk,rfl,hbw,HE⟩:=hrel
   have ca:=(ba.later hbw).cell
   have cb:=(bb.later hbw).cell
   have la:=(ba.later hbw).lt
   have lb:=(bb.later hbw).lt
   have hfin:=zu (aa HB.out hbw)
   by_cases hlt:k<a.l.length
   ·have hla:=HLA.out.below HB.out hB
    have hlb:=HLB.out.below HB.out hB
    obtain ⟨oa,ofa,rfl,hoa⟩:=hla.base hbw HB1 (by omega)
    obtain ⟨x,Ax,cx,hx,c0,c1,c2,c3,hr⟩:=hla.at_ hbw HB1 hlt
    by_cases hlt2:k<b.l.length
    ·obtain ⟨ob,ofb,rfl,hob⟩:=hlb.base hbw HB1 (by omega)
     obtain ⟨y,Ay,cy,hy,e0,e1,e2,e3,hr'⟩:=hlb.at_ hbw HB1 hlt2
     have HL:=zu (And.intro hla hlb)
     have HR:=zu (And.intro hr hr')
     have HXY:=zu (And.intro hx hy)
     clear hla hlb hr hr' hx hy
     have hz:aV dp x y=0∨aV dp x y≠0:=by omega
     have HE2:Hid (bM (aV dp) a.l b.l=if aV dp x y=0 then bM (aV dp) (a.l.drop (k+1)) (b.l.drop (k+1)) else aV dp x y):=by
      obtain ⟨h1,h2⟩:=List.getElem?_eq_some_iff.1 HXY.out.1
      obtain ⟨h3,h4⟩:=List.getElem?_eq_some_iff.1 HXY.out.2
      have:=HE.out
      rw [List.drop_eq_getElem_cons h1,List.drop_eq_getElem_cons h3,h2,h4] at this
      exact this
     have hszr:=hbw.size
     have HZ2:=zu hz
     clear hz HE
     go_wp2_with fail
     generalize hW2:World.alloc _ _=W2
     obtain ⟨hb2,hz2⟩:=al1 hW2
     have q0:=(n11 hW2).regrown
     have q1:=((bb.later hbw).later hb2).regrown
     have q5:=cell_regrown ((hb2.cell (p:=⟨ob,ofb+k*4,none⟩) hob).trans e0)
     have q6:=cell_regrown ((hb2.cell (p:=⟨ob,ofb+k*4+1,none⟩) hob).trans e1)
     have q7:=cell_regrown ((hb2.cell (p:=⟨ob,ofb+k*4+2,none⟩) hob).trans e2)
     have q8:=cell_regrown ((hb2.cell (p:=⟨ob,ofb+k*4+3,none⟩) hob).trans e3)
     have HB2:=zu hb2
     have hB2:B≤W2.heap.size:=by omega
     have hwrap:IntKind.i64.wrap (((dp+1:Nat):Int)-1)=(dp:Int):=by
      rw [show (((dp+1:Nat):Int)-1)=(dp:Int) by omega]
      exact IntWalk.i64_in _ (by omega)
     clear hW2 hz2 hb2 ca cb la lb c0 c1 c2 c3 e0 e1 e2 e3
     refine wp_region_quiet_below (by kernel_rfl) (by kernel_rfl) ?_
     repeat (go_big_quiet_step ((go_at_call 106;exact Calls.regrown_of (IH.out dp rfl (d-1) B x y [_,_,_,_] [_,_,_,_] _ ((HR.out.1.below HB2.out (by omega)).below (below_regrown _ _ _) hB2) ((HR.out.2.below HB2.out (by omega)).below (below_regrown _ _ _) hB2) (zv hB2 (below_regrown _ _ _).size)))))
     refine wpQuiet_nil ?_
     intro w3 hw3
     have hb3:Below W2.heap.size W2 w3:=by obtain ⟨p,rfl⟩:=hw3;exact below_regrown _ _ _
     clear hw3 q0 q1 q5 q6 q7 q8
     have HB3:=zu (aa hbw (aa HB2.out hb3))
     have hfin3:=zu (aa HB.out HB3.out)
     clear hb3
     rcases HZ2.out with hz | hz
     ·have hz1:(aV dp x y !=0)=false:=by simpa using hz
      have HZ3:=zu hz
      clear hz
      go_wp2_with fail
      go_roundw
      case rel=>exact ⟨k+1,by omega,by go_num,HB3.out,by rw [HE2.out,if_pos HZ3.out];exact zu rfl⟩
      case measure=>simp [intOf];omega
     ·have hz1:(aV dp x y !=0)=true:=by simpa using hz
      have HZ3:=zu hz
      clear hz
      go_wp2_with fail
      go_ret
      exact ⟨dz (by rw [HC.out,HE2.out,if_neg HZ3.out]),hfin3.out⟩
    ·have HE2:Hid (bM (aV dp) a.l b.l=1):=by
      obtain ⟨h1,h2⟩:=List.getElem?_eq_some_iff.1 hx
      have:=HE.out
      rw [List.drop_eq_getElem_cons h1,List.drop_eq_nil_iff.2 (show b.l.length≤k by omega)] at this
      exact this
     have hfin2:=zu (fun o:Obj=>HB.out.trans ((hbw.alloc hbw.size o).mono HB.out.size))
     clear hx HE
     go_wp2_with fail
     go_ret
     exact ⟨dz (by rw [HC.out,HE2.out]),hfin2.out _⟩
   ·have hz:a.l.drop k=[]:=List.drop_eq_nil_iff.2 (by omega)
    have HE2:=HE.out
    rw [hz] at HE2
    have HE3:=zu HE2
    clear HE HE2 hz
    by_cases hlt2:a.l.length<b.l.length
    ·go_wp2_with fail
     go_ret
     obtain rfl:k=a.l.length:=by omega
     exact ⟨dz (by rw [HC.out,HE3.out,List.drop_eq_getElem_cons hlt2];rfl),hfin.out⟩
    ·go_wp2_with fail
     go_ret
     obtain rfl:k=a.l.length:=by omega
     exact ⟨dz (by rw [HC.out,HE3.out,List.drop_eq_nil_iff.2 (by omega)];rfl),hfin.out⟩
theorem ms (dp:Nat):dp≤3→∀(d B:Nat) (a b:Tm) (va vb:List Value) (w:World),RTm w B d a va→RTm w B d b vb→B≤w.heap.size →
 Calls Tryz.prog 106 #[.agg va.toArray,.agg vb.toArray,.int .i64 (dp:Int)] w fun e w'=>e=.returned (.int .i64 (aV dp a b))∧Below w.heap.size w w':=by
 induction dp with
 | zero=>intro _ d B a b va vb w ha hb hB;exact iU 0 (by omega) (fun dp' h=>by omega) d B a b va vb w ha hb hB
 | succ dp ih=>intro h d B a b va vb w ha hb hB;exact iU (dp+1) h (fun dp' h'=>by obtain rfl:dp=dp':=(by omega);exact ih (by omega)) d B a b va vb w ha hb hB
theorem gU {d B:Nat} {a b:Tm} {va vb:List Value} {w:World} (ha:RTm w B d a va) (hb:RTm w B d b vb) (hB:B≤w.heap.size) :
 Calls Tryz.prog 87 #[.agg va.toArray,.agg vb.toArray] w fun e w'=>e=.returned (.int .i64 (aV 3 a b))∧Below w.heap.size w w':=by
 have HA:=zu (And.intro ha hb)
 obtain ⟨Aa,ca,rfl,a1,a2,a3,a4,a5,hla⟩:=RTm.cells ha
 obtain ⟨Ab,cb,rfl,b1,b2,b3,b4,b5,hlb⟩:=RTm.cells hb
 clear ha hb hla hlb
 go_enter Tryz.func87,Tryz.ntmps87
 go_wp2_with fail
 generalize hW:World.alloc _ _=W
 obtain ⟨hb,hz⟩:=al2 hW
 clear hW
 refine (ms 3 (zw _) d B a b [_,_,_,_] [_,_,_,_] W (HA.out.1.below hb hB) (HA.out.2.below hb hB) (by omega)).mono ?_
 rintro e w1 ⟨rfl,hb1⟩
 have hfin:=zu (aa hb hb1)
 clear hb hb1 hz
 go_wp2_with fail
 go_ret
 exact ⟨rfl,hfin.out⟩
theorem cG (b:Bool) (w:World):Calls Tryz.prog 62 #[.bool b] w fun z w'=>z=.returned (.int .i64 (if b=true then -1 else 1))∧w=w':=by
 cases b
 all_goals
  go_enter Tryz.func62,Tryz.ntmps62
  go_wp2_with fail
  go_ret
  exact ⟨rfl,rfl⟩
theorem cmpL_at {f:Tm→Tm→Int} {xs ys:List Tm} {k:Nat} {x y:Tm} (hx:xs[k]? = some x) (hy:ys[k]? = some y):bM f (xs.drop k) (ys.drop k)=if f x y=0 then bM f (xs.drop (k+1)) (ys.drop (k+1)) else f x y:=by
 obtain ⟨h1,rfl⟩:=List.getElem?_eq_some_iff.1 hx
 obtain ⟨h2,rfl⟩:=List.getElem?_eq_some_iff.1 hy
 rw [List.drop_eq_getElem_cons h1,List.drop_eq_getElem_cons h2,bM]
theorem uD {f:Tm→Tm→Int} {xs ys:List Tm} {k:Nat} (h1:k<xs.length) (h2:ys.length≤k):bM f (xs.drop k) (ys.drop k)=1:=by
 rw [List.drop_eq_getElem_cons h1,List.drop_eq_nil_iff.2 h2,bM]
theorem uC {f:Tm→Tm→Int} {xs ys:List Tm} {k:Nat} (h1:xs.length≤k) (h2:k<ys.length):bM f (xs.drop k) (ys.drop k)=-1:=by
 rw [List.drop_eq_getElem_cons h2,List.drop_eq_nil_iff.2 h1,bM]
theorem xp {f:Tm→Tm→Int} {xs ys:List Tm} {k:Nat} (h1:xs.length≤k) (h2:ys.length≤k):bM f (xs.drop k) (ys.drop k)=0:=by
 rw [List.drop_eq_nil_iff.2 h1,List.drop_eq_nil_iff.2 h2,bM]
theorem pD {d B c c':Nat} {xs ys:List Tm} {A A':Option Addr} {w:World} (hA:jd w B d xs A) (hA':jd w B d ys A') (hB:B≤w.heap.size) (hn:xs.length*40≤140737488351232) (hn':ys.length*40≤140737488351232) :
 Calls Tryz.prog 63 #[.slice A xs.length c,.slice A' ys.length c'] w fun z w'=>z=.returned (.int .i64 (bM (aV 3) xs ys))∧Below w.heap.size w w':=by
 have HA:=zu hA
 have HA':=zu hA'
 clear hA hA'
 go_enter Tryz.func63,Tryz.ntmps63
 go_wp2_with fail
 go_loopw [10] (fun u wr=>∃k:Nat,k≤xs.length∧u=.int .i64 k∧Hid (Below w.heap.size w wr)∧Hid (bM (aV 3) xs ys=bM (aV 3) (xs.drop k) (ys.drop k))) (fun u _=>xs.length-(intOf u).toNat)
 case atStart=>exact ⟨0,zx _,rfl,zu (zy _ _),zu rfl⟩
 case round=>
  obtain ⟨k,hk,rfl,HW,HE⟩:=hrel
  have hszr:=HW.out.size
  have hK0:(0:Int)≤(k:Int):=Int.natCast_nonneg _
  by_cases hlt:k<xs.length
  ·obtain ⟨b,off,x,Ax,cx,rfl,hb,hx,c0,c1,c2,c3,hr⟩:=HA.out.elem HW.out hB hlt
   have HX:=zu hr
   have HXX:=zu hx
   have hK1:(k:Int)<(xs.length:Int):=by omega
   clear hr hx
   go_upto_region 4 with fail
   generalize hWW:World.alloc _ _=w1
   obtain ⟨hb1,hz⟩:=al1 hWW
   have HA1:=zu (n11 hWW)
   have HW1:=zu hb1
   have hsz1:=hb1.size
   clear hWW hb1 hz c0 c1 c2 c3
   have k_x:=HA1.out.cell
   have l_x:=HA1.out.lt
   by_cases hlt2:k<ys.length
   ·obtain ⟨bq,oq,y,Ay,cy,rfl,hbq,hy,c0,c1,c2,c3,hr⟩:=HA'.out.elem (HW.out.trans (HW1.out.mono hszr)) hB hlt2
    have HY:=zu hr
    have HE2:Hid (bM (aV 3) xs ys=if aV 3 x y=0 then bM (aV 3) (xs.drop (k+1)) (ys.drop (k+1)) else aV 3 x y):=zu (HE.out.trans (cmpL_at HXX.out hy))
    have hK2:(k:Int)<(ys.length:Int):=by omega
    have hK3:¬((ys.length:Int)≤(k:Int)):=by omega
    clear hr hy
    go_upto_region 6 with fail
    have HSL:Hid (∀{w':World},Below w1.heap.size w1 w'→(w'.cell? ⟨wr.heap.size,0,none⟩=some (.int .i64 x.kind)∧w'.cell? ⟨wr.heap.size,1,none⟩=some (.int .i64 x.n)∧w'.cell? ⟨wr.heap.size,2,none⟩=some (.string x.s)∧w'.cell? ⟨wr.heap.size,3,none⟩=some (.slice Ax x.l.length cx)∧w'.cell? ⟨bq,oq+k*4,none⟩=some (.int .i64 y.kind)∧w'.cell? ⟨bq,oq+k*4+1,none⟩=some (.int .i64 y.n)∧w'.cell? ⟨bq,oq+k*4+2,none⟩=some (.string y.s)∧w'.cell? ⟨bq,oq+k*4+3,none⟩=some (.slice Ay y.l.length cy))):=zu (fun hb=>⟨(hb.cell l_x).trans (k_x 0),(hb.cell l_x).trans (k_x 1),(hb.cell l_x).trans (k_x 2),(hb.cell l_x).trans (k_x 3),(hb.cell hbq).trans c0,(hb.cell hbq).trans c1,(hb.cell hbq).trans c2,(hb.cell hbq).trans c3⟩)
    clear c0 c1 c2 c3 k_x
    refine aL (fun w'=>w'.cell? ⟨wr.heap.size,0,none⟩=some (.int .i64 x.kind)∧w'.cell? ⟨wr.heap.size,1,none⟩=some (.int .i64 x.n)∧w'.cell? ⟨wr.heap.size,2,none⟩=some (.string x.s)∧w'.cell? ⟨wr.heap.size,3,none⟩=some (.slice Ax x.l.length cx)∧w'.cell? ⟨bq,oq+k*4,none⟩=some (.int .i64 y.kind)∧w'.cell? ⟨bq,oq+k*4+1,none⟩=some (.int .i64 y.n)∧w'.cell? ⟨bq,oq+k*4+2,none⟩=some (.string y.s)∧w'.cell? ⟨bq,oq+k*4+3,none⟩=some (.slice Ay y.l.length cy)) (by kernel_rfl) (HSL.out (zy _ _).drew) ?_
    refine ab 0 ?_
    refine ab 1 ?_
    refine ab 2 ?_
    refine ab 3 ?_
    refine ab 4 ?_
    generalize hD:World.drew w1=w2
    have HU:Hid (Below w1.heap.size w1 w2):=zu (hD▸(zy w1.heap.size w1).drew)
    clear hD
    refine av (rs:=[5]) (by kernel_rfl) rfl ?_
    refine aj.cons rfl (fun K hK=>?_) aj.nil
    go_simp
    refine (gU (d:=d) (B:=B) (a:=x) (b:=y) (va:=[_,_,_,_]) (vb:=[_,_,_,_]) (HX.out.below (HW1.out.trans (HU.out.mono hsz1)) (by omega)) (HY.out.below HU.out (by omega)) (zv (by omega) HU.out.size)).mono ?_
    rintro z w3 ⟨rfl,hb3⟩
    have HU3:Hid (Below w1.heap.size w1 w3):=zu (HU.out.trans (hb3.mono HU.out.size))
    clear hb3
    refine hK.out _ _ (HSL.out HU3.out) ?_
    clear hK
    refine ab 6 ?_
    refine bN (by kernel_rfl) ?_
    have HW3:Hid (Below w.heap.size w w3):=zu (HW.out.trans ((HW1.out.trans (HU3.out.mono hsz1)).mono hszr))
    generalize aV 3 x y=n at *
    by_cases hn0:n=0
    ·subst hn0
     have HE3:Hid (bM (aV 3) xs ys=bM (aV 3) (xs.drop (k+1)) (ys.drop (k+1))):=zu (HE2.out.trans (if_pos rfl))
     go_wp2_with fail
     go_roundw
     case rel=>exact ⟨k+1,hlt,by go_num,HW3,HE3⟩
     case measure=>simp [intOf];omega
    ·have hn1:(n !=0)=true:=by simpa using hn0
     have HE3:Hid (bM (aV 3) xs ys=n):=zu (HE2.out.trans (if_neg hn0))
     clear HE2
     go_wp2_with fail
     go_ret
     exact ⟨au HE3.out.symm,HW3.out⟩
   ·have hK2':ys.length≤k:=by omega
    have hK2:(ys.length:Int)≤(k:Int):=by omega
    have HE3:Hid (bM (aV 3) xs ys=1):=zu (HE.out.trans (uD hlt hK2'))
    go_wp2_with fail
    go_ret
    exact ⟨au HE3.out.symm,HW.out.trans (HW1.out.mono hszr)⟩
  ·have hgd:decide ((k:Int)<(xs.length:Int))=false:=by simp;omega
   have hkx:k=xs.length:=by omega
   by_cases hll:(xs.length:Int)<(ys.length:Int)
   ·have HE3:Hid (bM (aV 3) xs ys=-1):=zu (HE.out.trans (uC (by omega) (by omega)))
    clear hkx
    go_wp2_with fail
    all_goals
     go_ret
     exact ⟨au HE3.out.symm,HW.out⟩
   ·have HE3:Hid (bM (aV 3) xs ys=0):=zu (HE.out.trans (xp (by omega) (by omega)))
    clear hkx
    go_wp2_with fail
    all_goals
     go_ret
     exact ⟨au HE3.out.symm,HW.out⟩
section
variable {a b:Fc}
theorem uN (h:(a.pr.name.toList==b.pr.name.toList)=false):(if Op.bytesLess a.pr.name.toList b.pr.name.toList=true then -1 else 1)=aD a b:=by
 rw [dv,decide_eq_false_iff_not] at h
 unfold aD
 have h1:=qq h
 have h2:dg (bs a.pr.name) (bs b.pr.name)≠0:=by rw [h1];split<;>omega
 simp only [orL]
 rw [if_neg h2,h1]
 by_cases h3:bs a.pr.name<bs b.pr.name
 ·rw [if_pos ((iJ _ _).2 h3),if_pos h3]
 ·rw [if_neg (by rw [iJ];exact h3),if_neg h3]
theorem uO (h:(a.pr.name.toList==b.pr.name.toList)=true):aD a b=orL [cU a.pr.terms.length b.pr.terms.length,bM (aV 3) a.pr.terms b.pr.terms,cU a.o b.o]:=by
 rw [dv,zH] at h
 unfold aD
 rw [orL,h,oE,if_pos rfl]
theorem yS {x y:Int} (h:x≠y):(if decide (x<y)=true then -1 else 1)=cU x y:=by
 unfold cU
 by_cases h1:x<y
 ·simp [h1]
 ·have h2:y<x:=by omega
  simp [h1,h2]
theorem yP (h:(a.pr.name.toList==b.pr.name.toList)=true) (hn:(a.pr.terms.length:Int)≠b.pr.terms.length):(if decide ((a.pr.terms.length:Int)<b.pr.terms.length)=true then -1 else 1)=aD a b:=by
 have h1:¬cU (a.pr.terms.length:Int) b.pr.terms.length=0:=fun e=>hn (dX.1 e)
 rw [uO h,orL,if_neg h1,yS hn]
theorem fc_tms (h:(a.pr.name.toList==b.pr.name.toList)=true) (hn:a.pr.terms.length=b.pr.terms.length):aD a b=orL [bM (aV 3) a.pr.terms b.pr.terms,cU a.o b.o]:=by
 rw [uO h,orL,hn,dW,if_pos rfl]
theorem yQ (ho:a.o≠b.o) (h:aD a b=orL [0,cU a.o b.o]):(if decide (a.o<b.o)=true then -1 else 1)=aD a b:=by
 have h1:¬cU a.o b.o=0:=fun e=>ho (dX.1 e)
 rw [h,orL,if_pos rfl,orL,if_neg h1,yS ho]
end
theorem lI {d B:Nat} {a b:Fc} {va vb:List Value} {w:World} (hna:a.pr.terms.length*40≤140737488351232) (ha:(ax (d+1)).rd w B a va) (hb:(ax (d+1)).rd w B b vb) (hB:B≤w.heap.size) :
 Calls Tryz.prog 42 #[.agg va.toArray,.agg vb.toArray] w fun z w'=>z=.returned (.int .i64 (aD a b))∧Below w.heap.size w w':=by
 obtain ⟨A,c,rfl,hs,h1,h2,h3,hl,ho⟩:=aF ha
 obtain ⟨A',c',rfl,hs',h1',h2',h3',hl',ho'⟩:=aF hb
 have HL:=zu hl
 have HL':=zu hl'
 clear hl hl'
 go_enter Tryz.func42,Tryz.ntmps42
 go_upto_region 1 with fail
 generalize hWW:World.alloc _ _=w1
 obtain ⟨hb1,hz⟩:=al2 hWW
 have HA1:=zu (n21 hWW)
 have HA2:=zu (n22 hWW)
 have HB1:=zu hb1
 clear hWW hb1 hz
 have k_a:=HA1.out.cell
 have l_a:=HA1.out.lt
 have k_b:=HA2.out.cell
 have l_b:=HA2.out.lt
 go_region
 all_goals
  generalize hWW:World.alloc _ _=w2
  obtain ⟨hb2,hz2⟩:=al2 hWW
  have HP1:=zu (n21 hWW)
  have HP2:=zu (n22 hWW)
  generalize hD:World.drew w2=w3
  have HB3:Hid (Below w1.heap.size w1 w3):=zu (hD▸hb2.drew)
  have HD3:Hid (Below w2.heap.size w2 w3):=zu (hD▸(zy _ _).drew)
  have HQ1:=zu (HP1.out.later HD3.out)
  have HQ2:=zu (HP2.out.later HD3.out)
  have HA3:=zu (HA1.out.later HB3.out)
  have HA4:=zu (HA2.out.later HB3.out)
  clear hWW hb2 hz2 hD HP1 HP2 HD3 k_a l_a k_b l_b
  have k_p:=HQ1.out.cell
  have l_p:=HQ1.out.lt
  have k_q:=HQ2.out.cell
  have l_q:=HQ2.out.lt
  by_cases hnm:(a.pr.name.toList==b.pr.name.toList)=true
  ·by_cases hln:a.pr.terms.length=b.pr.terms.length
   ·have hln':((a.pr.terms.length:Int) !=(b.pr.terms.length:Int))=false:=by simp [hln]
    have hni:((a.pr.terms.length:Int)=(b.pr.terms.length:Int)):=by omega
    have HFC:=zu (fc_tms hnm hln)
    have HLN:=zu hln
    clear hln
    go_wp2_with fail
    refine (pD (d:=d+1) (B:=B) (HL.out.keep (HB1.out.trans (HB3.out.mono HB1.out.size)) hB) (HL'.out.keep (HB1.out.trans (HB3.out.mono HB1.out.size)) hB) (zv hB (zv HB1.out.size HB3.out.size)) hna (by have:=HLN.out;omega)).mono ?_
    rintro z w9 ⟨rfl,hb9⟩
    have HE9:Hid (Below w.heap.size w w9):=zu (HB1.out.trans ((HB3.out.trans (hb9.mono HB3.out.size)).mono HB1.out.size))
    have HA5:=zu (HA3.out.later hb9)
    have HA6:=zu (HA4.out.later hb9)
    clear hb9 k_p l_p k_q l_q
    have k_p:=HA5.out.cell
    have l_p:=HA5.out.lt
    have k_q:=HA6.out.cell
    have l_q:=HA6.out.lt
    generalize bM (aV 3) a.pr.terms b.pr.terms=n at *
    by_cases hn0:n=0
    ·subst hn0
     by_cases hoo:a.o=b.o
     ·have HV:Hid (aD a b=0):=zu (by rw [HFC.out,hoo];simp [orL,dW])
      go_wp2_with fail
      all_goals
       go_ret
       exact ⟨au HV.out.symm,HE9.out⟩
     ·by_cases hd:a.o<b.o
      ·have HV:Hid (aD a b=-1):=zu (by rw [←yQ hoo HFC.out];simp [hd])
       go_wp2_with fail
       refine (cG _ _).mono ?_
       rintro e w4 ⟨rfl,rfl⟩
       go_wp2_with fail
       all_goals
        go_ret
        exact ⟨au HV.out.symm,HE9.out⟩
      ·have HV:Hid (aD a b=1):=zu (by rw [←yQ hoo HFC.out];simp [hd])
       go_wp2_with fail
       refine (cG _ _).mono ?_
       rintro e w4 ⟨rfl,rfl⟩
       go_wp2_with fail
       all_goals
        go_ret
        exact ⟨au HV.out.symm,HE9.out⟩
    ·have hn1:(n !=0)=true:=by simpa using hn0
     have HV:Hid (aD a b=n):=zu (by rw [HFC.out,orL,if_neg hn0])
     go_wp2_with fail
     all_goals
      go_ret
      exact ⟨au HV.out.symm,HE9.out⟩
   ·by_cases hd:(a.pr.terms.length:Int)<(b.pr.terms.length:Int)
    ·have HV:Hid (aD a b=-1):=zu (by rw [←yP hnm (by omega)];simp [hd])
     go_wp2_with fail
     refine (cG _ _).mono ?_
     rintro e w4 ⟨rfl,rfl⟩
     go_wp2_with fail
     all_goals
      go_ret
      exact ⟨au HV.out.symm,HB1.out.trans (HB3.out.mono HB1.out.size)⟩
    ·have HV:Hid (aD a b=1):=zu (by rw [←yP hnm (by omega)];simp [hd])
     go_wp2_with fail
     refine (cG _ _).mono ?_
     rintro e w4 ⟨rfl,rfl⟩
     go_wp2_with fail
     all_goals
      go_ret
      exact ⟨au HV.out.symm,HB1.out.trans (HB3.out.mono HB1.out.size)⟩
  ·have hnm':(a.pr.name.toList==b.pr.name.toList)=false:=by rw [Bool.not_eq_true] at hnm;exact hnm
   by_cases hd:Op.bytesLess a.pr.name.toList b.pr.name.toList=true
   ·have HV:Hid (aD a b=-1):=zu (by rw [←uN hnm'];simp [hd])
    go_wp2_with fail
    refine (cG _ _).mono ?_
    rintro e w4 ⟨rfl,rfl⟩
    go_wp2_with fail
    all_goals
     go_ret
     exact ⟨au HV.out.symm,HB1.out.trans (HB3.out.mono HB1.out.size)⟩
   ·have HV:Hid (aD a b=1):=zu (by rw [←uN hnm'];simp [hd])
    go_wp2_with fail
    refine (cG _ _).mono ?_
    rintro e w4 ⟨rfl,rfl⟩
    go_wp2_with fail
    all_goals
     go_ret
     exact ⟨au HV.out.symm,HB1.out.trans (HB3.out.mono HB1.out.size)⟩
def za (t:Tm):Bool:=decide (t.n=0)&&decide (t.s.size=0)&&cP t.l
theorem tB {l:List Tm} {k:Nat} (hlt:k<l.length) (hn:eS l k=false):cP l=false:=by
 rw [Bool.eq_false_iff,cP]
 intro h
 rw [zC,List.all_eq_true] at h
 have:=h.1 k (by simpa using hlt)
 rw [hn] at this
 cases this
theorem rc {l:List Tm} (h:16<l.length):cP l=false:=by
 rw [cP,decide_eq_false (by omega),Bool.and_false]
theorem vE (d:Nat) (hM:∀(t:Tm) (vs:List Value) (B:Nat) (w:World),RTm w B d t vs→B≤w.heap.size →
 Calls Tryz.prog 103 #[.agg vs.toArray] w fun e w'=>e=.returned (.bool (fy t))∧Below w.heap.size w w')
 (t:Tm) (vs:List Value) (B:Nat) (w:World) (ht:RTm w B (d+1) t vs) (hB:B≤w.heap.size) :
 Calls Tryz.prog 138 #[.agg vs.toArray] w fun e w'=>e=.returned (.bool (za t))∧Below w.heap.size w w':=by
 have HM:=zu hM
 clear hM
 obtain ⟨A,c,rfl,hc1,hc2,hs,_,_,hl⟩:=ht.cells
 obtain ⟨kind,n,s,l⟩:=t
 dsimp only at hc1 hc2 hs hl
 have hbel:∀o:Obj,Below w.heap.size w (w.alloc o):=fun o=>(zy _ _).alloc (zw _) _
 have HB:=zu hbel
 have HL:=zu hl
 clear hbel ht hl
 by_cases t1:n=0
 rotate_left
 ·have u1:(n !=0)=true:=by simpa using t1
  have T1:=zu t1
  clear t1
  go_enter Tryz.func138,Tryz.ntmps138
  go_wp2_with fail
  go_ret
  exact ⟨ac (by simp [za,T1.out]),HB.out _⟩
 have u1:(n !=0)=false:=by simpa using t1
 have T1:=zu t1
 clear t1
 by_cases t2:s.size=0
 rotate_left
 ·have u2:s.toList.isEmpty=false:=by rw [be];simpa using t2
  have T2:=zu t2
  clear t2
  go_enter Tryz.func138,Tryz.ntmps138
  go_wp2_with fail
  go_ret
  exact ⟨ac (by simp [za,T2.out]),HB.out _⟩
 have u2:s.toList.isEmpty=true:=by rw [be];simpa using t2
 have T2:=zu t2
 clear t2
 by_cases t3:16<l.length
 ·go_enter Tryz.func138,Tryz.ntmps138
  go_wp2_with fail
  go_ret
  exact ⟨ac (by simp [za,rc t3]),HB.out _⟩
 go_enter Tryz.func138,Tryz.ntmps138
 go_wp2_with fail
 generalize hW:World.alloc _ _=W
 obtain ⟨hb,hz⟩:=al1 hW
 have bt:=n11 hW
 have HB1:=zu hb
 have hB1:B≤W.heap.size:=by omega
 clear hW hz hb HB
 go_loopw [22] (fun i wr=>∃k:Nat,k≤l.length∧i=.int .i64 k∧Below W.heap.size W wr∧∀i,i<k→eS l i=true) (fun i _=>l.length-(intOf i).toNat)
 case atStart=>exact ⟨0,zx _,rfl,zy _ _,fun i h=>absurd h (by omega)⟩
 case round=>
  obtain ⟨k,hk,rfl,hbw,hall⟩:=hrel
  have HA:=zu hall
  clear hall
  have ct:=(bt.later hbw).cell
  have lt:=(bt.later hbw).lt
  by_cases hlt:k<l.length
  ·have hl:=HL.out.below HB1.out hB
   obtain ⟨b,off,rfl,hb⟩:=hl.base hbw hB1 (by omega)
   obtain ⟨x,Ax,cx,hx,c0,c1,c2,c3,hr⟩:=hl.at_ hbw hB1 hlt
   obtain ⟨y,Ay,cy,hy,f0,f1,f2,f3,hr0⟩:=hl.at_ (k:=0) hbw hB1 (by omega)
   obtain ⟨z,Az,cz,hz,g0,g1,g2,g3,hrz⟩:=hl.at_ (k:=k-1) hbw hB1 (by omega)
   have HR:=zu (mV hx hy hz)
   have HK0:=zu (show k=0→x=y from fun h=>by subst h;rw [hx] at hy;simpa using hy)
   have HBw:=zu hbw
   simp only [Nat.zero_mul,Nat.add_zero] at f0 f1 f2 f3
   clear hx hy hz f1 f2 f3 hl
   go_wp2_with fail
   generalize hW2:World.alloc _ _=W2
   obtain ⟨hb2,hz2⟩:=al1 hW2
   have q0:=(n11 hW2).regrown
   have q1:=((bt.later hbw).later hb2).regrown
   have q4:=cell_regrown ((hb2.cell (p:=⟨b,off,none⟩) hb).trans f0)
   have q5:=cell_regrown ((hb2.cell (p:=⟨b,off+(k-1)*4,none⟩) hb).trans g0)
   have q6:=cell_regrown ((hb2.cell (p:=⟨b,off+(k-1)*4+1,none⟩) hb).trans g1)
   have q7:=cell_regrown ((hb2.cell (p:=⟨b,off+(k-1)*4+2,none⟩) hb).trans g2)
   have q8:=cell_regrown ((hb2.cell (p:=⟨b,off+(k-1)*4+3,none⟩) hb).trans g3)
   have hBW:B≤W2.heap.size:=by have:=hbw.size;omega
   have hrx:=zu (hr.below hb2 (by have:=hbw.size;omega))
   have hrz':=zu (hrz.below hb2 (by have:=hbw.size;omega))
   have HB2:=zu hb2
   have hl0:0<l.length:=by omega
   clear hW2 hz2 hb2 ct lt c0 c1 c2 c3 f0 g0 g1 g2 g3 hr hrz hr0
   have hcases:(x.kind==1)=true∨((x.kind==1)=false∧(x.kind==7)=true)∨((x.kind==1)=false∧(x.kind==7)=false∧fy x=false) ∨
    ((x.kind==1)=false∧(x.kind==7)=false∧fy x=true∧decide (0<k)=false) ∨
    ((x.kind==1)=false∧(x.kind==7)=false∧fy x=true∧0<k∧(x.kind !=y.kind)=true) ∨
    ((x.kind==1)=false∧(x.kind==7)=false∧fy x=true∧0<k∧(x.kind !=y.kind)=false∧decide (0≤aV 3 z x)=true) ∨
    ((x.kind==1)=false∧(x.kind==7)=false∧fy x=true∧0<k∧(x.kind !=y.kind)=false∧decide (0≤aV 3 z x)=false):=by
    cases (x.kind==1)<;>cases (x.kind==7)<;>cases fy x<;>cases (x.kind !=y.kind)<;>cases decide (0≤aV 3 z x)<;>rcases Nat.eq_zero_or_pos k with h | h<;>simp [h]
   rcases hcases with h1 | ⟨h1,h7⟩ | ⟨h1,h7,hm⟩ | ⟨h1,h7,hm,hk0⟩ | ⟨h1,h7,hm,hk0,hy⟩ | ⟨h1,h7,hm,hk0,hy,hc⟩ | ⟨h1,h7,hm,hk0,hy,hc⟩
   all_goals
    refine wp_region_quiet_below (by kernel_rfl) (by kernel_rfl) ?_
    repeat (go_big_quiet_step ((first
     | (go_at_call 103;exact Calls.regrown_of (HM.out x [_,_,_,_] B _ (hrx.out.below (below_regrown _ _ _) hBW) (zv hBW (below_regrown _ _ _).size)))
     | (go_at_call 87;exact Calls.regrown_of (gU (d:=d) (B:=B) (a:=z) (b:=x) (va:=[_,_,_,_]) (vb:=[_,_,_,_]) (hrz'.out.below (below_regrown _ _ _) hBW) (hrx.out.below (below_regrown _ _ _) hBW) (zv hBW (below_regrown _ _ _).size))))))
    refine wpQuiet_nil ?_
    intro w3 hw3
    have hb3:Below W2.heap.size W2 w3:=by obtain ⟨p,rfl⟩:=hw3;exact below_regrown _ _ _
    clear hw3 q0 q1 q4 q5 q6 q7 q8
    have HB3:=zu (aa HBw.out (aa HB2.out hb3))
    have hfin:=zu (aa HB1.out HB3.out)
    clear hb3
    go_wp2_with fail
    try simp only [beq_iff_eq,bne_iff_ne,beq_eq_false_iff_ne,bne_eq_false_iff_eq,zH,decide_eq_false_iff_not] at h1
    try simp only [beq_iff_eq,bne_iff_ne,beq_eq_false_iff_ne,bne_eq_false_iff_eq,zH,decide_eq_false_iff_not] at h7
    try simp only [beq_iff_eq,bne_iff_ne,beq_eq_false_iff_ne,bne_eq_false_iff_eq,zH,decide_eq_false_iff_not] at hk0
    try simp only [beq_iff_eq,bne_iff_ne,beq_eq_false_iff_ne,bne_eq_false_iff_eq,zH,decide_eq_false_iff_not] at hy
    try simp only [beq_iff_eq,bne_iff_ne,beq_eq_false_iff_ne,bne_eq_false_iff_eq,zH,decide_eq_false_iff_not] at hc
    first
     | (have hn:eS l k=false:=by
         rw [Bool.eq_false_iff]
         intro h
         have h2:=HR.out.1 h
         rw [af] at h2
         simp only [zC,zH] at h2
         first
          | exact h2.1.1.1.1 h1
          | exact h2.1.1.2 h7
          | (rw [hm] at h2;exact absurd h2.1.1.1.2 (by decide))
          | exact hy h2.1.2
          | (have:=h2.2 hk0;omega)
        go_ret
        exact ⟨ac (by simp [za,tB hlt hn]),hfin.out⟩)
     | (have hn:eS l k=true:=HR.out.2 (by
         rw [af,hm]
         refine ⟨⟨⟨by simpa using h1,h7⟩,?_⟩,fun h=>?_⟩
         ·first
           | exact hy
           | rw [HK0.out (by omega)]
         ·omega)
        go_roundw
        case rel=>exact ⟨k+1,by omega,by go_num,HB3.out,fun i hi=>by
         rcases Nat.lt_or_ge i k with h1 | h1
         ·exact HA.out i h1
         ·obtain rfl:i=k:=by omega
          exact hn⟩
        case measure=>simp [intOf];omega)
  ·have hfin:=zu (aa HB1.out hbw)
   go_wp2_with fail
   go_ret
   refine ⟨ac ?_,hfin.out⟩
   obtain rfl:k=l.length:=by omega
   have:(List.range l.length).all (eS l)=true:=by simpa using HA.out
   rw [za]
   simp only [T1.out,T2.out,decide_true,Bool.true_and]
   rw [cP,this,decide_eq_true (by omega)]
   rfl
end Go.Proofs.YtjpndglegpcdnaaGreat
