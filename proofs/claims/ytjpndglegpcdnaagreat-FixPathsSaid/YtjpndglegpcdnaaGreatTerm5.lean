/- term.May, term.Fixed. -/
import Derived.Test.YtjpndglegpcdnaaGreatData
import Derived.WalkLawsBesides
import Derived.BigQuiet
import Derived.Lib.Hide
import Derived.Lib.Strings
import Derived.StillTailTactics
import Derived.Lib.QuietBelow
set_option linter.unusedVariables false
set_option linter.unusedSimpArgs false
set_option maxRecDepth 100000
set_option maxHeartbeats 8000000
namespace Go.Proofs.YtjpndglegpcdnaaGreat
open Go.ChangeShapes Go.WideShapes Go.ChangeAt Go.RowKit
theorem ym {p:Prop}(h:p):Go.RowKit.Hid p:=Lib.hid h
theorem yn {a b c:Nat}(h:a≤b)(k:b≤c):a≤c:=Nat.le_trans h k
theorem yo(a:Nat):a≤a:=Nat.le_refl a
theorem yp(a:Nat):0≤a:=Nat.zero_le a
theorem yq(B:Nat)(w:World):Below B w w:=Below.refl B w
theorem yz {α:Type _}(a b:α):(some a=some b)=(a=b):=Option.some.injEq a b
theorem yC {p:Prop}[Decidable p]:(decide p=true)=p:=decide_eq_true_eq
theorem ae {a b:Bool} (h:a=b):Ending.returned (.bool a)=.returned (.bool b):=by rw [h]
theorem az {k:IntKind} {a b:Int} (h:a=b):Ending.returned (.int k a)=.returned (.int k b):=by rw [h]
def jd (c:Int):Bool:=(decide (97≤c)&&decide (c≤122))||(decide (65≤c)&&decide (c≤90))
theorem si (c:Int) (w:World) (h0:0≤c) (h1:c≤255) :
 Calls Tryz.prog 65 #[.int .u8 c] w fun e w'=>e=.returned (.bool (jd c))∧w=w':=by
 go_enter Tryz.func65,Tryz.ntmps65
 go_wp2
 all_goals go_ret
 all_goals refine ⟨ae ?_,rfl⟩
 all_goals (rw [Bool.eq_iff_iff];simp [jd];try omega)
def eA (x y:Int):Int:=if x<y then -1 else if y<x then 1 else 0
theorem dF (x y:Int) (w:World) :
 Calls Tryz.prog 29 #[.int .i64 x,.int .i64 y] w fun e w'=>e=.returned (.int .i64 (eA x y))∧w=w':=by
 go_enter Tryz.func29,Tryz.ntmps29
 go_wp2
 all_goals go_ret
 all_goals refine ⟨az ?_,rfl⟩
 all_goals (simp [eA];try omega)
theorem ei (x y:Int) (w:World) :
 Calls Tryz.prog 94 #[.int .i64 x,.int .i64 y] w fun e w'=>e=.returned (.int .i64 (eA x y))∧w=w':=by
 go_enter Tryz.func94,Tryz.ntmps94
 go_wp2
 all_goals go_ret
 all_goals refine ⟨az ?_,rfl⟩
 all_goals (simp [eA];try omega)
abbrev bs (s:ByteArray):List UInt8:=s.data.toList
def dE (x y:List UInt8):Int:=if x<y then -1 else if y<x then 1 else 0
theorem dj:∀(x y:List UInt8),Op.bytesLess x y=decide (x<y)
 | [],[]=>by simp [Op.bytesLess]
 | _::_,[]=>by simp [Op.bytesLess]
 | [],_::_=>by simp [Op.bytesLess]
 | a::x,b::y=>by
   rw [Op.bytesLess,dj x y]
   simp only [List.cons_lt_cons_iff]
   by_cases h1:a<b<;>by_cases h2:a=b<;>by_cases h3:x<y<;>simp [h1,h2,h3]
theorem wH (x y:ByteArray):(Op.bytesLess x.toList y.toList=true)↔bs x<bs y:=by
 rw [dj,ByteArray.toList_eq,ByteArray.toList_eq];simp
theorem wI (x y:ByteArray):(Op.bytesLess x.toList y.toList=false)↔¬bs x<bs y:=by
 rw [dj,ByteArray.toList_eq,ByteArray.toList_eq];simp
theorem iI (x y:ByteArray):(x.toList==y.toList)=decide (bs x=bs y):=by
 rw [ByteArray.toList_eq,ByteArray.toList_eq,Bool.eq_iff_iff];simp
theorem cW (x y:ByteArray) (w:World) :
 Calls Tryz.prog 28 #[.string x,.string y] w fun e w'=>e=.returned (.int .i64 (dE (bs x) (bs y)))∧w=w':=by
 go_enter Tryz.func28,Tryz.ntmps28
 go_wp2
 all_goals go_ret
 all_goals refine ⟨az ?_,rfl⟩
 all_goals (simp only [wH,wI,iI,Bool.not_eq_true',Bool.not_eq_false',decide_eq_false_iff_not,yC] at *;unfold dE)
 ·rw [if_pos ‹_›]
 ·have h1:¬bs x<bs y:=‹_›
  have h2:¬bs x=bs y:=‹_›
  rw [if_neg h1,if_pos]
  rcases List.le_iff_lt_or_eq.1 (List.not_lt.1 h1) with h | h
  ·exact h
  ·exact absurd h.symm h2
 ·have h2:bs x=bs y:=‹_›
  rw [h2,if_neg (List.lt_irrefl _),if_neg (List.lt_irrefl _)]
theorem ng (s p:ByteArray) (w:World) (hs:s.size≤maxLen) (hp:p.size≤maxLen) :
 Calls Tryz.prog 66 #[.string s,.string p] w fun e w'=>e=.returned (.bool (Lib.hasPrefix (bs s) (bs p)))∧w=w':=by
 go_enter Tryz.func66,Tryz.ntmps66
 go_wp2
 all_goals go_ret
 all_goals refine ⟨ae ?_,rfl⟩
 all_goals rw [←Lib.hasPrefix_of_take,←Lib.size_eq,←Lib.size_eq]
 ·have h:p.size≤s.size:=‹_›
  rw [iI,Bool.eq_iff_iff]
  simp [h,Lib.extract_data]
 ·have h:¬p.size≤s.size:=‹_›
  simp [h]
def li (i:Nat) (c:Int):Bool:=jd c||(decide (i≠0)&&(decide (c=95)||decide (c=58)||(decide (48≤c)&&decide (c≤57))))
theorem pY (c:Int):jd c=true↔(97≤c∧c≤122)∨(65≤c∧c≤90):=by simp [jd]
theorem my (i:Nat) (c:Int):li i c=true↔((97≤c∧c≤122)∨(65≤c∧c≤90))∨(i≠0∧((c=95∨c=58)∨(48≤c∧c≤57))):=by simp [li,jd]
def hexB:ByteArray:=⟨#[104,101,120,58]⟩
def fp (l:List UInt8):Bool:=decide (∀i,(h:i<l.length)→li i l[i].toNat=true)&&decide (1≤l.length)&&decide (l.length≤32)&&!Lib.hasPrefix l (bs hexB)
theorem ie (s:ByteArray):(bs s).length=s.size:=(Lib.size_eq s).symm
theorem fQ (s:ByteArray):fp (bs s)=true↔((∀i,(h:i<s.size)→li i s[i].toNat=true)∧1≤s.size∧s.size≤32)∧Lib.hasPrefix (bs s) (bs hexB)=false:=by
 simp only [fp,yx,yC,ie,Bool.not_eq_true',and_assoc]
 exact Iff.rfl
theorem eU (s:ByteArray) (w:World) (hs:s.size≤maxLen) :
 Calls Tryz.prog 44 #[.string s] w fun e w'=>e=.returned (.bool (fp (bs s)))∧w=w':=by
 unfold maxLen at hs
 go_enter Tryz.func44,Tryz.ntmps44
 go_wp2_with fail
 go_loop [7] (fun i=>∃k:Nat,k≤s.size∧i=.int .i64 k∧(∀i,(h:i<k)→(h':i<s.size)→li i s[i].toNat=true)) (fun i=>s.size-(intOf i).toNat)
 case atStart=>exact ⟨0,yp _,rfl,fun i h=>by omega⟩
 case round=>
  obtain ⟨k,hk,rfl,hall⟩:=hrel
  have HA:=ym hall
  clear hall
  by_cases hlt:k<s.size
  ·have hb:(s[k].toNat:Int)≤255:=by have:=s[k].toNat_lt;omega
   go_wp2_with (go_at_call 65;refine (si _ _ (by omega) (by omega)).mono ?_;rintro e w' ⟨rfl,rfl⟩)
   all_goals simp only [pY,bne_iff_ne,beq_iff_eq,beq_eq_false_iff_ne,bne_eq_false_iff_eq,ne_eq] at *
   all_goals first
    | (have hn:li k s[k].toNat=true:=by (rw [my];omega)
       go_round
       case rel=>exact ⟨k+1,by omega,by go_num,fun i h h'=>by
        rcases Nat.lt_or_ge i k with h1 | h1
        ·exact HA.out i h1 h'
        ·obtain rfl:i=k:=by omega
         exact hn⟩
       case measure=>simp [intOf];omega)
    | (have hn:¬li k s[k].toNat=true:=by (rw [my];omega)
       go_ret
       refine ⟨ae ?_,rfl⟩
       show false=_
       rw [eq_comm,Bool.eq_false_iff,ne_eq,fQ]
       exact fun h=>hn (h.1.1 k hlt))
  ·go_wp2_with (go_at_call 66;refine (ng _ _ _ (by unfold maxLen;omega) (by decide)).mono ?_;rintro e w' ⟨rfl,rfl⟩)
   all_goals go_ret
   all_goals refine ⟨ae ?_,rfl⟩
   ·show (!Lib.hasPrefix (bs s) (bs hexB))=_
    rw [Bool.eq_iff_iff,fQ,Bool.not_eq_true']
    exact ⟨fun h=>⟨⟨fun i hi=>HA.out i (by omega) hi,by omega,by omega⟩,h⟩,fun h=>h.2⟩
   ·show false=_
    rw [eq_comm,Bool.eq_false_iff,ne_eq,fQ]
    omega
   ·show false=_
    rw [eq_comm,Bool.eq_false_iff,ne_eq,fQ]
    omega
def dG (f:Tm→Tm→Int):List Tm→List Tm→Int
 | [],[]=>0
 | [],_::_=>-1
 | _::_,[]=>1
 | x::xs,y::ys=>if f x y=0 then dG f xs ys else f x y
def or3 (x y z:Int):Int:=if x=0 then if y=0 then z else y else x
def mg (a b:Tm):Int:=or3 (eA a.kind b.kind) (eA a.n b.n) (dE (bs a.s) (bs b.s))
def cH:Nat→Tm→Tm→Int
 | 0,a,b=>mg a b
 | d+1,a,b=>if mg a b=0 then dG (cH d) a.l b.l else mg a b
theorem RTm.cells {w:World} {B d:Nat} {t:Tm} {vs:List Value} (h:RTm w B d t vs):∃A c,vs=[.int .i64 t.kind,.int .i64 t.n,.string t.s,.slice A t.l.length c]∧t.l.length≤c∧(t.l.length*40≤140737488351232∧c≤9223372036854775807)∧t.s.size≤140737488351232∧I64 t.kind∧I64 t.n∧jJ w B (d-1) t.l A:=by
 match d,h with
 | d+1,⟨A,c,h⟩=>exact ⟨A,c,h⟩
theorem jJ.elem {w wr:World} {B d k:Nat} {ts:List Tm} {A:Option Addr} (h:jJ w B d ts A) (hbw:Below w.heap.size w wr) (hB:B≤w.heap.size) (hk:k<ts.length) :
 ∃b off x Ax cx,A=some ⟨b,off,none⟩∧b<wr.heap.size∧ts[k]? = some x∧wr.cell? ⟨b,off+k*4,none⟩=some (.int .i64 x.kind)∧wr.cell? ⟨b,off+k*4+1,none⟩=some (.int .i64 x.n) ∧
  wr.cell? ⟨b,off+k*4+2,none⟩=some (.string x.s)∧wr.cell? ⟨b,off+k*4+3,none⟩=some (.slice Ax x.l.length cx) ∧
  RTm wr B d x [.int .i64 x.kind,.int .i64 x.n,.string x.s,.slice Ax x.l.length cx]:=by
 obtain ⟨b,off,rfl,hb,hc⟩:=h (by omega)
 obtain ⟨vs,hl,⟨x,hx,hr⟩,hcell⟩:=hc k hk
 obtain ⟨Ax,cx,rfl,_⟩:=hr.cells
 have hlt:b<w.heap.size:=by omega
 have hsz:=hbw.size
 exact ⟨b,off,x,Ax,cx,rfl,by omega,hx,(hbw.cell (p:=⟨b,off+k*4,none⟩) hlt).trans (hcell 0 _ rfl),(hbw.cell (p:=⟨b,off+k*4+1,none⟩) hlt).trans (hcell 1 _ rfl),
  (hbw.cell (p:=⟨b,off+k*4+2,none⟩) hlt).trans (hcell 2 _ rfl),(hbw.cell (p:=⟨b,off+k*4+3,none⟩) hlt).trans (hcell 3 _ rfl),hr.below hbw hB⟩
theorem jJ.base {w wr:World} {B d:Nat} {ts:List Tm} {A:Option Addr} (h:jJ w B d ts A) (hbw:Below w.heap.size w wr) (hB:B≤w.heap.size) (hk:0<ts.length) :
 ∃b off,A=some ⟨b,off,none⟩∧b<wr.heap.size:=by
 obtain ⟨b,off,rfl,hb,_⟩:=h hk
 exact ⟨b,off,rfl,by have:=hbw.size;omega⟩
theorem jJ.at_ {w wr:World} {B d k b off:Nat} {ts:List Tm} (h:jJ w B d ts (some ⟨b,off,none⟩)) (hbw:Below w.heap.size w wr) (hB:B≤w.heap.size) (hk:k<ts.length) :
 ∃x Ax cx,ts[k]? = some x∧wr.cell? ⟨b,off+k*4,none⟩=some (.int .i64 x.kind)∧wr.cell? ⟨b,off+k*4+1,none⟩=some (.int .i64 x.n) ∧
  wr.cell? ⟨b,off+k*4+2,none⟩=some (.string x.s)∧wr.cell? ⟨b,off+k*4+3,none⟩=some (.slice Ax x.l.length cx) ∧
  RTm wr B d x [.int .i64 x.kind,.int .i64 x.n,.string x.s,.slice Ax x.l.length cx]:=by
 obtain ⟨b',off',x,Ax,cx,e,hb,h⟩:=h.elem hbw hB hk
 simp only [yz,Addr.mk.injEq,and_true] at e
 obtain ⟨rfl,rfl⟩:=e
 exact ⟨x,Ax,cx,h⟩
theorem dO (F:FuncId) (cap:Array Value) (f:Tm→Tm→Int) (d e:Nat) (xs ys:List Tm) (A A':Option Addr) (c c' B:Nat) (w:World)
 (hF:∀args (w:World),(callFunc F args).run Tryz.prog w=.ok (.enter F args) w)
 (hA:jJ w B d xs A) (hA':jJ w B e ys A') (hB:B≤w.heap.size) (hn:xs.length*40≤140737488351232) (hn':ys.length*40≤140737488351232)
 (hf:∀(x y:Tm) (vs ws:List Value) (w1:World),Below w.heap.size w w1→RTm w1 B d x vs→RTm w1 B e y ws →
  Calls Tryz.prog F (#[.agg vs.toArray,.agg ws.toArray]++cap) w1 fun e w'=>e=.returned (.int .i64 (f x y))∧Below w1.heap.size w1 w') :
 Calls Tryz.prog 54 #[.slice A xs.length c,.slice A' ys.length c',.func (.func F) #[] cap] w fun e w'=>e=.returned (.int .i64 (dG f xs ys))∧Below w.heap.size w w':=by
 have HF:=ym hf
 clear hf
 go_enter Tryz.func54,Tryz.ntmps54
 go_wp2_with fail
 go_loopw [13] (fun i wr=>∃k:Nat,k≤xs.length∧i=.int .i64 k∧Below w.heap.size w wr∧dG f xs ys=dG f (xs.drop k) (ys.drop k)) (fun i _=>xs.length-(intOf i).toNat)
 case atStart=>exact ⟨0,yp _,rfl,yq _ _,rfl⟩
 case round=>
  obtain ⟨k,hk,rfl,hbw,heq⟩:=hrel
  have HE:=ym heq
  clear heq
  by_cases hlt:k<xs.length
  ·obtain ⟨b,off,x,Ax,cx,rfl,hb,hx,c0,c1,c2,c3,hr⟩:=hA.elem hbw hB hlt
   by_cases hlt2:k<ys.length
   ·obtain ⟨b',off',y,Ay,cy,rfl,hb',hy,e0,e1,e2,e3,hr'⟩:=hA'.elem hbw hB hlt2
    have hsz:=hbw.size
    have hbw2:∀o o':Obj,Below w.heap.size w ((wr.alloc o).alloc o'):=fun o o'=>(hbw.alloc hsz _).alloc (by simp;omega) _
    have hbr2:∀o o':Obj,Below wr.heap.size wr ((wr.alloc o).alloc o'):=fun o o'=>((yq _ _).alloc (yo _) _).alloc (by simp) _
    have HB:=ym hbw2
    have HR:=ym hbr2
    have hx':xs.drop k=x::xs.drop (k+1):=by
     obtain ⟨h1,h2⟩:=List.getElem?_eq_some_iff.1 hx
     rw [←h2];exact List.drop_eq_getElem_cons h1
    have hy':ys.drop k=y::ys.drop (k+1):=by
     obtain ⟨h1,h2⟩:=List.getElem?_eq_some_iff.1 hy
     rw [←h2];exact List.drop_eq_getElem_cons h1
    have HE2:Hid (dG f xs ys=if f x y=0 then dG f (xs.drop (k+1)) (ys.drop (k+1)) else f x y):=by
     have:=HE.out
     rw [hx',hy'] at this
     exact this
    clear hbw2 hbr2 hx' hy' HE
    go_wp2_with fail
    refine (HF.out x y [_,_,_,_] [_,_,_,_] _ (HB.out _ _) (hr.below (HR.out _ _) (by omega)) (hr'.below (HR.out _ _) (by omega))).mono ?_
    rintro e w1 ⟨rfl,hb1⟩
    have hbw1:=ym ((HB.out _ _).trans (hb1.mono (by simp;omega)))
    clear hb1
    by_cases hz:(f x y !=0)=true
    ·go_wp2_with fail
     go_ret
     exact ⟨az (by rw [HE2.out,if_neg (by simpa using hz)]),hbw1.out⟩
    ·have hz':(f x y !=0)=false:=by simpa using hz
     go_wp2_with fail
     go_roundw
     case rel=>exact ⟨k+1,by omega,by go_num,hbw1.out,by rw [HE2.out,if_pos (by simpa using hz')]⟩
     case measure=>simp [intOf];omega
   ·have hz:ys.drop k=[]:=List.drop_eq_nil_iff.2 (by omega)
    have HE2:Hid (dG f xs ys=1):=by
     have:=HE.out
     obtain ⟨h1,h2⟩:=List.getElem?_eq_some_iff.1 hx
     rw [List.drop_eq_getElem_cons h1,hz] at this
     exact this
    have hbw2:=ym (fun o:Obj=>hbw.alloc hbw.size o)
    clear HE hz
    go_wp2_with fail
    go_ret
    exact ⟨az HE2.out.symm,hbw2.out _⟩
  ·have hz:xs.drop k=[]:=List.drop_eq_nil_iff.2 (by omega)
   have HE2:=HE.out
   rw [hz] at HE2
   have HE3:=ym HE2
   clear HE HE2 hz
   by_cases hlt2:xs.length<ys.length
   ·go_wp2_with fail
    go_ret
    obtain rfl:k=xs.length:=by omega
    exact ⟨az (by rw [HE3.out,List.drop_eq_getElem_cons hlt2];rfl),hbw⟩
   ·go_wp2_with fail
    go_ret
    obtain rfl:k=xs.length:=by omega
    exact ⟨az (by rw [HE3.out,List.drop_eq_nil_iff.2 (by omega)];rfl),hbw⟩
def OrRel (x y z:Int) (i:Value):Prop:=i=.int .i64 0∨(i=.int .i64 1∧x=0)∨(i=.int .i64 2∧x=0∧y=0)∨(i=.int .i64 3∧x=0∧y=0∧z=0)
theorem iC (x y z:Int) (b:Nat) (w:World) (h0:w.cell? ⟨b,0,none⟩=some (.int .i64 x)) (h1:w.cell? ⟨b,1,none⟩=some (.int .i64 y)) (h2:w.cell? ⟨b,2,none⟩=some (.int .i64 z)) :
 Calls Tryz.prog 27 #[.slice (some ⟨b,0,none⟩) 3 3] w fun e w'=>e=.returned (.int .i64 (or3 x y z))∧w=w':=by
 go_enter Tryz.func27,Tryz.ntmps27
 go_wp2_with fail
 go_loop [8] (fun i=>OrRel x y z i) (fun i=>3-(intOf i).toNat)
 case atStart=>exact .inl rfl
 case round=>
  rcases hrel with rfl | ⟨rfl,hx⟩ | ⟨rfl,hx,hy⟩ | ⟨rfl,hx,hy,hz⟩
  ·by_cases h:(x !=0)=true
   ·go_wp2_with fail
    go_ret
    exact ⟨az (by rw [or3,if_neg (by simpa using h)]),rfl⟩
   ·have h:(x !=0)=false:=by simpa using h
    go_wp2_with fail
    go_round
    case rel=>exact .inr (.inl ⟨rfl,by simpa using h⟩)
    case measure=>simp [intOf]
  ·have HX:=ym hx
   clear hx
   by_cases h:(y !=0)=true
   ·go_wp2_with fail
    go_ret
    exact ⟨az (by rw [or3,if_pos HX.out,if_neg (by simpa using h)]),rfl⟩
   ·have h:(y !=0)=false:=by simpa using h
    go_wp2_with fail
    go_round
    case rel=>exact .inr (.inr (.inl ⟨rfl,HX.out,by simpa using h⟩))
    case measure=>simp [intOf]
  ·have HX:=ym hx
   have HY:=ym hy
   clear hx hy
   by_cases h:(z !=0)=true
   ·go_wp2_with fail
    go_ret
    exact ⟨az (by rw [or3,if_pos HX.out,if_pos HY.out]),rfl⟩
   ·have h:(z !=0)=false:=by simpa using h
    go_wp2_with fail
    go_round
    case rel=>exact .inr (.inr (.inr ⟨rfl,HX.out,HY.out,by simpa using h⟩))
    case measure=>simp [intOf]
  ·have HX:=ym hx
   have HY:=ym hy
   have HZ:=ym hz
   clear hx hy hz
   go_wp2_with fail
   go_ret
   exact ⟨az (by rw [or3,if_pos HX.out,if_pos HY.out,HZ.out]),rfl⟩
theorem jL {P:Program} {f:FuncId} {args:Array Value} {w:World} {v:Ending} (h:Calls P f args w fun e w'=>e=v∧w=w'):Calls P f args w fun e w'=>e=v∧w'=w:=
 h.mono fun _ _ h=>⟨h.1,h.2.symm⟩
theorem bi {P:Program} {id:Nat} {Q:Exit→Act→World→Prop} {a:Act} {w:World} {l:List Oper} (n:Nat) (hm:P.follows .mixedOrders=true) (hB:Region.lexTailB .any l.toArray n=true)
 (h:wpStill P l.toArray w.drew (fun a'=>wpList P l.toArray Q (l.drop n) a' w.drew) (l.take n) a):(Code.region id l.toArray true).wp P Q a w:=
 wp_region_still_tail n hm hB h
theorem tq (w:World) (o1 o2 o3 o4:Obj):Below w.heap.size w ((((w.alloc o1).alloc o2).alloc o3).alloc o4).drew:=
 ((((((yq _ _).alloc (yo _) _).alloc (by simp) _).alloc (by simp;omega) _).alloc (by simp;omega) _)).drew
theorem qL:∀args (w:World),(callFunc 95 args).run Tryz.prog w=.ok (.enter 95 args) w:=ent Tryz.func95 (by kernel_rfl) rfl
theorem mT (d:Nat) (hd:d≤100) (ih:∀(da db:Nat) (a b:Tm) (vs ws:List Value) (B:Nat) (w:World),RTm w B da a vs→RTm w B db b ws→B≤w.heap.size →
 Calls Tryz.prog 73 #[.agg vs.toArray,.agg ws.toArray,.int .i64 d] w fun e w'=>e=.returned (.int .i64 (cH d a b))∧Below w.heap.size w w')
 (da db:Nat) (a b:Tm) (vs ws:List Value) (G B:Nat) (w:World) (hG:w.cell? ⟨G,0,none⟩=some (.int .i64 (d+1))) (ha:RTm w B da a vs) (hb:RTm w B db b ws) (hB:B≤w.heap.size) :
 Calls Tryz.prog 95 #[.agg vs.toArray,.agg ws.toArray,.pointer (some ⟨G,0,none⟩)] w fun e w'=>e=.returned (.int .i64 (cH d a b))∧Below w.heap.size w w':=by
 have HI:=ym ih
 clear ih
 obtain ⟨A,c,rfl,_⟩:=ha.cells
 obtain ⟨A',c',rfl,_⟩:=hb.cells
 have hGl:G<w.heap.size:=block_lt_of_cell hG
 go_enter Tryz.func95,Tryz.ntmps95
 have hbel:Below w.heap.size w ((w.alloc (.cells #[.int .i64 a.kind,.int .i64 a.n,.string a.s,.slice A a.l.length c] 29)).alloc (.cells #[.int .i64 b.kind,.int .i64 b.n,.string b.s,.slice A' b.l.length c'] 29)):=
  ((yq _ _).alloc (yo _) _).alloc (by simp) _
 have HB:=ym hbel
 clear hbel
 go_wp2_with fail
 refine (HI.out da db a b [_,_,_,_] [_,_,_,_] B _ (ha.below HB.out hB) (hb.below HB.out hB) (yn hB HB.out.size)).mono ?_
 rintro e w1 ⟨rfl,hb1⟩
 have hfin:=ym (HB.out.trans (hb1.mono HB.out.size))
 clear hb1
 go_wp2_with fail
 go_ret
 exact ⟨rfl,hfin.out⟩
theorem nY (d:Nat) (hd:d≤100):∀(da db:Nat) (a b:Tm) (vs ws:List Value) (B:Nat) (w:World),RTm w B da a vs→RTm w B db b ws→B≤w.heap.size →
 Calls Tryz.prog 73 #[.agg vs.toArray,.agg ws.toArray,.int .i64 d] w fun e w'=>e=.returned (.int .i64 (cH d a b))∧Below w.heap.size w w':=by
 induction d with
 | zero=>
   intro da db a b vs ws B w ha hb hB
   obtain ⟨A,c,rfl,_⟩:=ha.cells
   obtain ⟨A',c',rfl,_⟩:=hb.cells
   show Calls _ _ #[_,_,.int .i64 0] _ _
   go_enter Tryz.func73,Tryz.ntmps73
   go_wp2_with fail
   refine bi 15 (by kernel_rfl) (by kernel_rfl) ?_
   simp only [List.take_succ_cons,List.take_zero,List.drop_succ_cons,List.drop_zero]
   repeat still_step
   still_call (jL (dF _ _ _))
   repeat still_step
   still_call (jL (ei _ _ _))
   repeat still_step
   still_call (jL (cW _ _ _))
   refine wpStill_nil ?_
   go_wp2_with fail
   refine (iC (eA a.kind b.kind) (eA a.n b.n) (dE (bs a.s) (bs b.s)) _ _ (by go_simp) (by go_simp) (by go_simp)).mono ?_
   rintro e w' ⟨rfl,rfl⟩
   by_cases hz:(mg a b !=0)=true
   all_goals (unfold mg at hz;try rw [Bool.not_eq_true] at hz)
   all_goals
    go_wp2_with fail
    go_ret
    exact ⟨rfl,tq _ _ _ _ _⟩
 | succ d ih=>
   intro da db a b vs ws B w ha hb hB
   obtain ⟨A,c,rfl,_⟩:=ha.cells
   obtain ⟨A',c',rfl,_⟩:=hb.cells
   go_enter Tryz.func73,Tryz.ntmps73
   go_wp2_with fail
   refine bi 15 (by kernel_rfl) (by kernel_rfl) ?_
   simp only [List.take_succ_cons,List.take_zero,List.drop_succ_cons,List.drop_zero]
   repeat still_step
   still_call (jL (dF _ _ _))
   repeat still_step
   still_call (jL (ei _ _ _))
   repeat still_step
   still_call (jL (cW _ _ _))
   refine wpStill_nil ?_
   go_wp2_with fail
   refine (iC (eA a.kind b.kind) (eA a.n b.n) (dE (bs a.s) (bs b.s)) _ _ (by go_simp) (by go_simp) (by go_simp)).mono ?_
   rintro e w' ⟨rfl,rfl⟩
   have hd0:(((d+1:Nat):Int)==0)=false:=by simp;omega
   by_cases hz:(mg a b !=0)=true
   all_goals (have HZ:=ym hz;unfold mg at hz;try rw [Bool.not_eq_true] at hz)
   ·go_wp2_with fail
    go_ret
    exact ⟨az (by rw [cH,if_neg (by simpa using HZ.out)];rfl),tq _ _ _ _ _⟩
   ·go_wp2_with fail
    obtain ⟨_,_,e1,a1,a2,a3,a4,a5,hA⟩:=ha.cells
    obtain ⟨rfl,rfl⟩:_∧_:=by simpa using e1
    obtain ⟨_,_,e2,b1,b2,b3,b4,b5,hB'⟩:=hb.cells
    obtain ⟨rfl,rfl⟩:_∧_:=by simpa using e2
    have hbel:=tq w (.cells #[.int .i64 a.kind,.int .i64 a.n,.string a.s,.slice A a.l.length c] 29) (.cells #[.int .i64 b.kind,.int .i64 b.n,.string b.s,.slice A' b.l.length c'] 29)
     (.cells #[.int .i64 (d+1)] 3) (.cells #[.int .i64 (eA a.kind b.kind),.int .i64 (eA a.n b.n),.int .i64 (dE (bs a.s) (bs b.s))] 3)
    refine (dO 95 _ (cH d) (da-1) (db-1) a.l b.l A A' c c' B _ qL (hA.below hbel hB) (hB'.below hbel hB) (yn hB hbel.size) (by omega) (by omega) ?_).mono ?_
    ·intro x y vs ws w1 hb1 hx hy
     refine (mT d (by omega) (fun da db a b vs ws B w h1 h2 h3=>ih (by omega) da db a b vs ws B w h1 h2 h3) _ _ x y vs ws _ B w1 ((hb1.cell (by simp)).trans (by go_simp)) hx hy (yn hB (yn hbel.size hb1.size)))
    ·rintro e w1 ⟨rfl,hb1⟩
     have hfin:=hbel.trans (hb1.mono hbel.size)
     clear hb1 hbel
     go_wp2_with fail
     go_ret
     exact ⟨az (by rw [cH,if_pos (by simpa using HZ.out)]),hfin⟩
theorem cX (da db:Nat) (a b:Tm) (vs ws:List Value) (B:Nat) (w:World) (ha:RTm w B da a vs) (hb:RTm w B db b ws) (hB:B≤w.heap.size) :
 Calls Tryz.prog 55 #[.agg vs.toArray,.agg ws.toArray] w fun e w'=>e=.returned (.int .i64 (cH 3 a b))∧Below w.heap.size w w':=by
 obtain ⟨A,c,rfl,_⟩:=ha.cells
 obtain ⟨A',c',rfl,_⟩:=hb.cells
 have hbel:Below w.heap.size w ((w.alloc (.cells #[.int .i64 a.kind,.int .i64 a.n,.string a.s,.slice A a.l.length c] 29)).alloc (.cells #[.int .i64 b.kind,.int .i64 b.n,.string b.s,.slice A' b.l.length c'] 29)):=
  ((yq _ _).alloc (yo _) _).alloc (by simp) _
 have HB:=ym hbel
 clear hbel
 go_enter Tryz.func55,Tryz.ntmps55
 go_wp2_with fail
 refine (nY 3 (by omega) da db a b [_,_,_,_] [_,_,_,_] B _ (ha.below HB.out hB) (hb.below HB.out hB) (yn hB HB.out.size)).mono ?_
 rintro e w1 ⟨rfl,hb1⟩
 have hfin:=ym (HB.out.trans (hb1.mono HB.out.size))
 clear hb1
 go_wp2_with fail
 go_ret
 exact ⟨rfl,hfin.out⟩
def ew (t:Tm):Bool:=
 decide (t.l.length=0) &&
 ((decide (t.kind=1)&&decide (t.n=0)&&fp (bs t.s)) ||
  (decide (t.kind=2)&&decide (t.s.size=0)) ||
  ((decide (t.kind=3)||decide (t.kind=5))&&decide (t.n=0)&&decide (t.s.size≤256)) ||
  (decide (t.kind=4)&&decide (t.s.size=0)&&decide (0≤t.n)&&decide (t.n≤253402300799)) ||
  (decide (t.kind=6)&&decide (t.s.size=0)&&(decide (t.n=0)||decide (t.n=1))))
def jC (l:List Tm) (i:Nat):Bool:=
 match l[i]?,l[0]?,l[i-1]? with
 | some x,some y,some z=>ew x&&decide (x.kind≠1)&&decide (x.kind=y.kind)&&(decide (i=0)||decide (cH 3 z x<0))
 | _,_,_=>false
def fT (l:List Tm):Bool:=(List.range l.length).all (jC l)&&decide (l.length≤16)
def kc (t:Tm):Bool:=if t.kind=7 then decide (t.n=0)&&decide (t.s.size=0)&&fT t.l else ew t
def af (t:Tm):Bool:=decide (t.kind≠1)&&kc t
theorem qR (d:Nat) (hM:∀(t:Tm) (vs:List Value) (B:Nat) (w:World),RTm w B d t vs→B≤w.heap.size →
 Calls Tryz.prog 68 #[.agg vs.toArray] w fun e w'=>e=.returned (.bool (kc t))∧Below w.heap.size w w')
 (t:Tm) (vs:List Value) (B:Nat) (w:World) (ht:RTm w B d t vs) (hB:B≤w.heap.size) :
 Calls Tryz.prog 47 #[.agg vs.toArray] w fun e w'=>e=.returned (.bool (af t))∧Below w.heap.size w w':=by
 have HM:=ym hM
 clear hM
 obtain ⟨A,c,rfl,_⟩:=ht.cells
 have hbel:Below w.heap.size w (w.alloc (.cells #[.int .i64 t.kind,.int .i64 t.n,.string t.s,.slice A t.l.length c] 29)):=(yq _ _).alloc (yo _) _
 have HB:=ym hbel
 clear hbel
 by_cases hk:(t.kind !=1)=true
 ·have hk':=ym hk
  go_enter Tryz.func47,Tryz.ntmps47
  go_wp2_with fail
  refine (HM.out t [_,_,_,_] B _ (ht.below HB.out hB) (yn hB HB.out.size)).mono ?_
  rintro e w1 ⟨rfl,hb1⟩
  have hfin:=ym (HB.out.trans (hb1.mono HB.out.size))
  clear hb1
  go_wp2_with fail
  go_ret
  exact ⟨ae (by simp [af,(by simpa using hk'.out:t.kind≠1)]),hfin.out⟩
 ·have hk:(t.kind !=1)=false:=by simpa using hk
  have hk':=ym hk
  go_enter Tryz.func47,Tryz.ntmps47
  go_wp2_with fail
  go_ret
  exact ⟨ae (by simp [af,(by simpa using hk'.out:t.kind=1)]),HB.out⟩
theorem sF {l:List Tm} {i:Nat} {x y z:Tm} (h1:l[i]? = some x) (h2:l[0]? = some y) (h3:l[i-1]? = some z) :
 jC l i=true↔((af x=true∧x.kind≠7)∧x.kind=y.kind)∧(0<i→cH 3 z x<0):=by
 unfold jC
 rw [h1,h2,h3]
 simp only [yx,Bool.or_eq_true,yC,af,kc]
 by_cases hk:x.kind=7
 ·constructor
  ·intro h
   have:=h.1.1.1
   simp [ew,hk] at this
  ·intro h;exact absurd hk h.1.1.2
 ·rw [if_neg hk]
  constructor
  ·rintro ⟨⟨⟨a,b⟩,c⟩,d⟩
   exact ⟨⟨⟨⟨b,a⟩,hk⟩,c⟩,fun h=>d.resolve_left (by omega)⟩
  ·rintro ⟨⟨⟨⟨a,b⟩,c⟩,d⟩,e⟩
   refine ⟨⟨⟨b,a⟩,d⟩,?_⟩
   by_cases h:i=0
   ·exact .inl h
   ·exact .inr (e (by omega))
theorem uR (d:Nat) (hF:∀(t:Tm) (vs:List Value) (B:Nat) (w:World),RTm w B d t vs→B≤w.heap.size →
 Calls Tryz.prog 47 #[.agg vs.toArray] w fun e w'=>e=.returned (.bool (af t))∧Below w.heap.size w w')
 (l:List Tm) (A:Option Addr) (c B:Nat) (w:World) (hl:jJ w B d l A) (hB:B≤w.heap.size) (hn:l.length*40≤140737488351232) :
 Calls Tryz.prog 92 #[.slice A l.length c] w fun e w'=>e=.returned (.bool (fT l))∧Below w.heap.size w w':=by
 have HF:=ym hF
 clear hF
 go_enter Tryz.func92,Tryz.ntmps92
 go_wp2_with fail
 go_loopw [7] (fun i wr=>∃k:Nat,k≤l.length∧i=.int .i64 k∧Below w.heap.size w wr∧∀i,i<k→jC l i=true) (fun i _=>l.length-(intOf i).toNat)
 case atStart=>exact ⟨0,yp _,rfl,yq _ _,fun i h=>absurd h (by omega)⟩
 case round=>
  obtain ⟨k,hk,rfl,hbw,hall⟩:=hrel
  have HA:=ym hall
  clear hall
  by_cases hlt:k<l.length
  ·obtain ⟨b,off,rfl,hb⟩:=hl.base hbw hB (by omega)
   obtain ⟨x,Ax,cx,hx,c0,c1,c2,c3,hr⟩:=hl.at_ hbw hB hlt
   obtain ⟨y,Ay,cy,hy,f0,f1,f2,f3,hr0⟩:=hl.at_ (k:=0) hbw hB (by omega)
   obtain ⟨z,Az,cz,hz,g0,g1,g2,g3,hrz⟩:=hl.at_ (k:=k-1) hbw hB (by omega)
   have HR:=ym (sF hx hy hz)
   simp only [Nat.zero_mul,Nat.add_zero] at f0 f1 f2 f3
   clear hx hy hz f1 f2 f3
   have hW:Below wr.heap.size wr (wr.alloc (.cells #[.int .i64 x.kind,.int .i64 x.n,.string x.s,.slice Ax x.l.length cx] 29)):=(yq _ _).alloc (yo _) _
   have x0:(wr.alloc (.cells #[.int .i64 x.kind,.int .i64 x.n,.string x.s,.slice Ax x.l.length cx] 29)).cell? ⟨wr.heap.size,0,none⟩=some (.int .i64 x.kind):=by go_simp
   have x1:(wr.alloc (.cells #[.int .i64 x.kind,.int .i64 x.n,.string x.s,.slice Ax x.l.length cx] 29)).cell? ⟨wr.heap.size,1,none⟩=some (.int .i64 x.n):=by go_simp
   have x2:(wr.alloc (.cells #[.int .i64 x.kind,.int .i64 x.n,.string x.s,.slice Ax x.l.length cx] 29)).cell? ⟨wr.heap.size,2,none⟩=some (.string x.s):=by go_simp
   have x3:(wr.alloc (.cells #[.int .i64 x.kind,.int .i64 x.n,.string x.s,.slice Ax x.l.length cx] 29)).cell? ⟨wr.heap.size,3,none⟩=some (.slice Ax x.l.length cx):=by go_simp
   have hS:(wr.alloc (.cells #[.int .i64 x.kind,.int .i64 x.n,.string x.s,.slice Ax x.l.length cx] 29)).heap.size=wr.heap.size+1:=by simp
   have HW:=ym hW
   have HS:=ym hS
   clear hW hS
   go_wp2_with fail
   generalize (wr.alloc (.cells #[.int .i64 x.kind,.int .i64 x.n,.string x.s,.slice Ax x.l.length cx] 29))=W0 at *
   have q0:=cell_regrown x0
   have q1:=cell_regrown x1
   have q2:=cell_regrown x2
   have q3:=cell_regrown x3
   have q4:=cell_regrown ((HW.out.cell (p:=⟨b,off,none⟩) hb).trans f0)
   have q5:=cell_regrown ((HW.out.cell (p:=⟨b,off+(k-1)*4,none⟩) hb).trans g0)
   have q6:=cell_regrown ((HW.out.cell (p:=⟨b,off+(k-1)*4+1,none⟩) hb).trans g1)
   have q7:=cell_regrown ((HW.out.cell (p:=⟨b,off+(k-1)*4+2,none⟩) hb).trans g2)
   have q8:=cell_regrown ((HW.out.cell (p:=⟨b,off+(k-1)*4+3,none⟩) hb).trans g3)
   clear x0 x1 x2 x3 f0 g0 g1 g2 g3 c0 c1 c2 c3
   have hrx:=hr.below HW.out (by have:=hbw.size;omega)
   have hrz:=hrz.below HW.out (by have:=hbw.size;omega)
   have hBW:B≤W0.heap.size:=by have:=hbw.size;have:=HS.out;omega
   have hl0:0<l.length:=by omega
   have hcases:af x=false∨(af x=true∧(x.kind==7)=true)∨(af x=true∧(x.kind==7)=false∧(x.kind !=y.kind)=true) ∨
    (af x=true∧(x.kind==7)=false∧(x.kind !=y.kind)=false∧decide (0<k)=false) ∨
    (af x=true∧(x.kind==7)=false∧(x.kind !=y.kind)=false∧0<k∧decide (0≤cH 3 z x)=true) ∨
    (af x=true∧(x.kind==7)=false∧(x.kind !=y.kind)=false∧0<k∧decide (0≤cH 3 z x)=false):=by
    cases af x<;>cases (x.kind==7)<;>cases (x.kind !=y.kind)<;>cases decide (0≤cH 3 z x)<;>rcases Nat.eq_zero_or_pos k with h | h<;>simp [h]
   rcases hcases with hf | ⟨hf,h7⟩ | ⟨hf,h7,hy⟩ | ⟨hf,h7,hy,hk0⟩ | ⟨hf,h7,hy,hk0,hc⟩ | ⟨hf,h7,hy,hk0,hc⟩
   all_goals
    refine wp_region_quiet_below (by kernel_rfl) (by kernel_rfl) ?_
    repeat (go_big_quiet_step ((first
     | (go_at_call 47;exact Calls.regrown_of (HF.out x [_,_,_,_] B _ (hrx.below (below_regrown _ _ _) hBW) (yn hBW (below_regrown _ _ _).size)))
     | (go_at_call 55;exact Calls.regrown_of (cX d d z x [_,_,_,_] [_,_,_,_] B _ (hrz.below (below_regrown _ _ _) hBW) (hrx.below (below_regrown _ _ _) hBW) (yn hBW (below_regrown _ _ _).size))))))
    refine wpQuiet_nil ?_
    intro w1 hw1
    have hb1:Below W0.heap.size W0 w1:=by obtain ⟨p,rfl⟩:=hw1;exact below_regrown _ _ _
    clear hw1
    go_wp2_with fail
    have hfin:Below w.heap.size w w1:=(hbw.trans (HW.out.mono hbw.size)).trans (hb1.mono (by have:=hbw.size;have:=HS.out;omega))
    try simp only [beq_iff_eq,bne_iff_ne,beq_eq_false_iff_ne,bne_eq_false_iff_eq,yC,decide_eq_false_iff_not] at *
    first
     | (have hn:jC l k=false:=by
         rw [Bool.eq_false_iff]
         intro h
         have:=HR.out.1 h
         simp_all
         try omega
        go_ret
        refine ⟨ae ?_,hfin⟩
        show false=_
        rw [eq_comm,Bool.eq_false_iff,fT]
        intro h
        rw [yx,List.all_eq_true] at h
        have:=h.1 k (by simpa using hlt)
        rw [hn] at this
        cases this)
     | (have hn:jC l k=true:=HR.out.2 (by
         refine ⟨⟨⟨hf,h7⟩,hy⟩,fun h=>?_⟩
         omega)
        go_roundw
        case rel=>exact ⟨k+1,by omega,by go_num,hfin,fun i hi=>by
         rcases Nat.lt_or_ge i k with h1 | h1
         ·exact HA.out i h1
         ·obtain rfl:i=k:=by omega
          exact hn⟩
        case measure=>simp [intOf];omega)
  ·go_wp2_with fail
   go_ret
   refine ⟨ae ?_,hbw⟩
   obtain rfl:k=l.length:=by omega
   show decide ((l.length:Int)≤16)=_
   have:(List.range l.length).all (jC l)=true:=by simpa using HA.out
   rw [fT,this,Bool.true_and,Bool.eq_iff_iff]
   simp
   omega
theorem sN (s:ByteArray):s.toList=[]↔s.size=0:=by
 rw [ByteArray.toList_eq,Lib.size_eq]
 exact ⟨fun h=>by rw [h];rfl,fun h=>List.eq_nil_of_length_eq_zero h⟩
theorem sg (k:Nat):((k:Int)≤256)=(k≤256):=by rw [eq_iff_iff];omega
theorem er (s:ByteArray):s.toList=[]↔s=ByteArray.empty:=by rw [sN];simp
theorem bV (s:ByteArray):s.toList.isEmpty=decide (s=ByteArray.empty):=by
 rw [Bool.eq_iff_iff,List.isEmpty_iff,er];simp
theorem may_of (d:Nat) (hR:∀(l:List Tm) (A:Option Addr) (c B:Nat) (w:World),jJ w B d l A→B≤w.heap.size→l.length*40≤140737488351232 →
 Calls Tryz.prog 92 #[.slice A l.length c] w fun e w'=>e=.returned (.bool (fT l))∧Below w.heap.size w w')
 (t:Tm) (vs:List Value) (B:Nat) (w:World) (ht:RTm w B (d+1) t vs) (hB:B≤w.heap.size) :
 Calls Tryz.prog 68 #[.agg vs.toArray] w fun e w'=>e=.returned (.bool (kc t))∧Below w.heap.size w w':=by
 have HR:=ym hR
 clear hR
 obtain ⟨A,c,rfl,hc1,hc2,hs,_,_,hl⟩:=ht.cells
 obtain ⟨kind,n,s,l⟩:=t
 dsimp only at hc1 hc2 hs hl
 have hbel:∀o:Obj,Below w.heap.size w (w.alloc o):=fun o=>(yq _ _).alloc (yo _) _
 have HB:=ym hbel
 have HL:=ym hl
 clear hbel ht hl
 have hcases:kind=1∨kind=2∨kind=3∨kind=4∨kind=5∨kind=6∨kind=7∨((kind==1)=false∧(kind==2)=false∧(kind==3)=false∧(kind==4)=false∧(kind==5)=false∧(kind==6)=false∧(kind==7)=false∧(kind !=7)=true):=by
  simp only [beq_eq_false_iff_ne,bne_iff_ne];omega
 rcases hcases with rfl | rfl | rfl | rfl | rfl | rfl | rfl | ⟨k1,k2,k3,k4,k5,k6,k7,k8⟩
 all_goals
  go_enter Tryz.func68,Tryz.ntmps68
  go_wp2_with (first
   | (go_at_call 44;refine (eU _ _ (by unfold maxLen;omega)).mono ?_;rintro e w' ⟨rfl,rfl⟩)
   | (go_at_call 92;refine (HR.out l A c B _ (HL.out.below (HB.out _) hB) (yn hB (HB.out _).size) (by omega)).mono ?_;rintro e w1 ⟨rfl,hb1⟩))
  all_goals go_ret
  all_goals first
   | refine ⟨ae ?_,HB.out _⟩
   | refine ⟨ae ?_,(HB.out _).trans (hb1.mono (HB.out _).size)⟩
  all_goals
   clear HR HL HB
   try simp only [er,bV,Nat.not_lt,Nat.le_zero_eq,List.length_pos_iff,ne_eq,Classical.not_not,beq_eq_false_iff_ne] at *
   simp [kc,ew,sg, *]
   try first
    | omega
    | (rw [Bool.eq_iff_iff];simp;omega)
theorem uv (d:Nat):∀(t:Tm) (vs:List Value) (B:Nat) (w:World),RTm w B d t vs→B≤w.heap.size →
 Calls Tryz.prog 68 #[.agg vs.toArray] w fun e w'=>e=.returned (.bool (kc t))∧Below w.heap.size w w':=by
 induction d with
 | zero=>intro t vs B w h;exact h.elim
 | succ d ih=>exact fun t vs B w=>may_of d (fun l A c B w h1 h2 h3=>uR d (qR d ih) l A c B w h1 h2 h3) t vs B w
theorem uw {d:Nat} {t:Tm} {vs:List Value} {B:Nat} {w:World} (h:RTm w B d t vs) (hB:B≤w.heap.size) :
 Calls Tryz.prog 68 #[.agg vs.toArray] w fun e w'=>e=.returned (.bool (kc t))∧Below w.heap.size w w':=uv d t vs B w h hB
theorem ai {d:Nat} {t:Tm} {vs:List Value} {B:Nat} {w:World} (h:RTm w B d t vs) (hB:B≤w.heap.size) :
 Calls Tryz.prog 47 #[.agg vs.toArray] w fun e w'=>e=.returned (.bool (af t))∧Below w.heap.size w w':=qR d (uv d) t vs B w h hB
end Go.Proofs.YtjpndglegpcdnaaGreat
