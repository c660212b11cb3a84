/- Readers of predicates, operations, expressions, scopes, rules, checks, policies, blocks. -/
import Derived.Test.YtjpndglegpcdnaaGreatData
import Derived.WalkLawsBesides
import Derived.BigQuiet
import Derived.Lib.Hide
import Derived.Lib.Strings
import Derived.StillTailTactics
import Derived.Lib.QuietBelow
set_option linter.unusedVariables false
set_option linter.unusedSimpArgs false
set_option maxRecDepth 100000
set_option maxHeartbeats 8000000
namespace Go.Proofs.YtjpndglegpcdnaaGreat
open Go.ChangeShapes Go.WideShapes Go.ChangeAt Go.RowKit
theorem AE {p:Prop}(h:p):Go.RowKit.Hid p:=Lib.hid h
theorem AF {a b c:Nat}(h:a≤b)(k:b≤c):a≤c:=Nat.le_trans h k
theorem AG(a:Nat):a≤a:=Nat.le_refl a
theorem AH(a:Nat):0≤a:=Nat.zero_le a
theorem AI(B:Nat)(w:World):Below B w w:=Below.refl B w
theorem AP {α:Type _}(a b:α):(some a=some b)=(a=b):=Option.some.injEq a b
theorem AT {p:Prop}[Decidable p]:(decide p=true)=p:=decide_eq_true_eq
theorem ac {a b:Bool} (h:a=b):Ending.returned (.bool a)=.returned (.bool b):=by rw [h]
theorem av {k:IntKind} {a b:Int} (h:a=b):Ending.returned (.int k a)=.returned (.int k b):=by rw [h]
def fi (c:Int):Bool:=(decide (97≤c)&&decide (c≤122))||(decide (65≤c)&&decide (c≤90))
theorem tK (c:Int) (w:World) (h0:0≤c) (h1:c≤255) :
 Calls Tryz.prog 65 #[.int .u8 c] w fun e w'=>e=.returned (.bool (fi c))∧w=w':=by
 go_enter Tryz.func65,Tryz.ntmps65
 go_wp2
 all_goals go_ret
 all_goals refine ⟨ac ?_,rfl⟩
 all_goals (rw [Bool.eq_iff_iff];simp [fi];try omega)
def cW (x y:Int):Int:=if x<y then -1 else if y<x then 1 else 0
theorem dS (x y:Int) (w:World) :
 Calls Tryz.prog 29 #[.int .i64 x,.int .i64 y] w fun e w'=>e=.returned (.int .i64 (cW x y))∧w=w':=by
 go_enter Tryz.func29,Tryz.ntmps29
 go_wp2
 all_goals go_ret
 all_goals refine ⟨av ?_,rfl⟩
 all_goals (simp [cW];try omega)
theorem eD (x y:Int) (w:World) :
 Calls Tryz.prog 94 #[.int .i64 x,.int .i64 y] w fun e w'=>e=.returned (.int .i64 (cW x y))∧w=w':=by
 go_enter Tryz.func94,Tryz.ntmps94
 go_wp2
 all_goals go_ret
 all_goals refine ⟨av ?_,rfl⟩
 all_goals (simp [cW];try omega)
abbrev bs (s:ByteArray):List UInt8:=s.data.toList
def dh (x y:List UInt8):Int:=if x<y then -1 else if y<x then 1 else 0
theorem dx:∀(x y:List UInt8),Op.bytesLess x y=decide (x<y)
 | [],[]=>by simp [Op.bytesLess]
 | _::_,[]=>by simp [Op.bytesLess]
 | [],_::_=>by simp [Op.bytesLess]
 | a::x,b::y=>by
   rw [Op.bytesLess,dx x y]
   simp only [List.cons_lt_cons_iff]
   by_cases h1:a<b<;>by_cases h2:a=b<;>by_cases h3:x<y<;>simp [h1,h2,h3]
theorem iZ (x y:ByteArray):(Op.bytesLess x.toList y.toList=true)↔bs x<bs y:=by
 rw [dx,ByteArray.toList_eq,ByteArray.toList_eq];simp
theorem yJ (x y:ByteArray):(Op.bytesLess x.toList y.toList=false)↔¬bs x<bs y:=by
 rw [dx,ByteArray.toList_eq,ByteArray.toList_eq];simp
theorem dw (x y:ByteArray):(x.toList==y.toList)=decide (bs x=bs y):=by
 rw [ByteArray.toList_eq,ByteArray.toList_eq,Bool.eq_iff_iff];simp
theorem di (x y:ByteArray) (w:World) :
 Calls Tryz.prog 28 #[.string x,.string y] w fun e w'=>e=.returned (.int .i64 (dh (bs x) (bs y)))∧w=w':=by
 go_enter Tryz.func28,Tryz.ntmps28
 go_wp2
 all_goals go_ret
 all_goals refine ⟨av ?_,rfl⟩
 all_goals (simp only [iZ,yJ,dw,Bool.not_eq_true',Bool.not_eq_false',decide_eq_false_iff_not,AT] at *;unfold dh)
 ·rw [if_pos ‹_›]
 ·have h1:¬bs x<bs y:=‹_›
  have h2:¬bs x=bs y:=‹_›
  rw [if_neg h1,if_pos]
  rcases List.le_iff_lt_or_eq.1 (List.not_lt.1 h1) with h | h
  ·exact h
  ·exact absurd h.symm h2
 ·have h2:bs x=bs y:=‹_›
  rw [h2,if_neg (List.lt_irrefl _),if_neg (List.lt_irrefl _)]
theorem nV (s p:ByteArray) (w:World) (hs:s.size≤maxLen) (hp:p.size≤maxLen) :
 Calls Tryz.prog 66 #[.string s,.string p] w fun e w'=>e=.returned (.bool (Lib.hasPrefix (bs s) (bs p)))∧w=w':=by
 go_enter Tryz.func66,Tryz.ntmps66
 go_wp2
 all_goals go_ret
 all_goals refine ⟨ac ?_,rfl⟩
 all_goals rw [←Lib.hasPrefix_of_take,←Lib.size_eq,←Lib.size_eq]
 ·have h:p.size≤s.size:=‹_›
  rw [dw,Bool.eq_iff_iff]
  simp [h,Lib.extract_data]
 ·have h:¬p.size≤s.size:=‹_›
  simp [h]
def df (i:Nat) (c:Int):Bool:=fi c||(decide (i≠0)&&(decide (c=95)||decide (c=58)||(decide (48≤c)&&decide (c≤57))))
theorem iy (c:Int):fi c=true↔(97≤c∧c≤122)∨(65≤c∧c≤90):=by simp [fi]
theorem dV (i:Nat) (c:Int):df i c=true↔((97≤c∧c≤122)∨(65≤c∧c≤90))∨(i≠0∧((c=95∨c=58)∨(48≤c∧c≤57))):=by simp [df,fi]
def uE:ByteArray:=⟨#[104,101,120,58]⟩
def dQ (l:List UInt8):Bool:=decide (∀i,(h:i<l.length)→df i l[i].toNat=true)&&decide (1≤l.length)&&decide (l.length≤32)&&!Lib.hasPrefix l (bs uE)
theorem iK (s:ByteArray):(bs s).length=s.size:=(Lib.size_eq s).symm
theorem ei (s:ByteArray):dQ (bs s)=true↔((∀i,(h:i<s.size)→df i s[i].toNat=true)∧1≤s.size∧s.size≤32)∧Lib.hasPrefix (bs s) (bs uE)=false:=by
 simp only [dQ,AN,AT,iK,Bool.not_eq_true',and_assoc]
 exact Iff.rfl
theorem fl (s:ByteArray) (w:World) (hs:s.size≤maxLen) :
 Calls Tryz.prog 44 #[.string s] w fun e w'=>e=.returned (.bool (dQ (bs s)))∧w=w':=by
 unfold maxLen at hs
 go_enter Tryz.func44,Tryz.ntmps44
 go_wp2_with fail
 go_loop [7] (fun i=>∃k:Nat,k≤s.size∧i=.int .i64 k∧(∀i,(h:i<k)→(h':i<s.size)→df i s[i].toNat=true)) (fun i=>s.size-(intOf i).toNat)
 case atStart=>exact ⟨0,AH _,rfl,fun i h=>by omega⟩
 case round=>
  obtain ⟨k,hk,rfl,hall⟩:=hrel
  have HA:=AE hall
  clear hall
  by_cases hlt:k<s.size
  ·have hb:(s[k].toNat:Int)≤255:=by have:=s[k].toNat_lt;omega
   go_wp2_with (go_at_call 65;refine (tK _ _ (by omega) (by omega)).mono ?_;rintro e w' ⟨rfl,rfl⟩)
   all_goals simp only [iy,bne_iff_ne,beq_iff_eq,beq_eq_false_iff_ne,bne_eq_false_iff_eq,ne_eq] at *
   all_goals first
    | (have hn:df k s[k].toNat=true:=by (rw [dV];omega)
       go_round
       case rel=>exact ⟨k+1,by omega,by go_num,fun i h h'=>by
        rcases Nat.lt_or_ge i k with h1 | h1
        ·exact HA.out i h1 h'
        ·obtain rfl:i=k:=by omega
         exact hn⟩
       case measure=>simp [intOf];omega)
    | (have hn:¬df k s[k].toNat=true:=by (rw [dV];omega)
       go_ret
       refine ⟨ac ?_,rfl⟩
       show false=_
       rw [eq_comm,Bool.eq_false_iff,ne_eq,ei]
       exact fun h=>hn (h.1.1 k hlt))
  ·go_wp2_with (go_at_call 66;refine (nV _ _ _ (by unfold maxLen;omega) (by decide)).mono ?_;rintro e w' ⟨rfl,rfl⟩)
   all_goals go_ret
   all_goals refine ⟨ac ?_,rfl⟩
   ·show (!Lib.hasPrefix (bs s) (bs uE))=_
    rw [Bool.eq_iff_iff,ei,Bool.not_eq_true']
    exact ⟨fun h=>⟨⟨fun i hi=>HA.out i (by omega) hi,by omega,by omega⟩,h⟩,fun h=>h.2⟩
   ·show false=_
    rw [eq_comm,Bool.eq_false_iff,ne_eq,ei]
    omega
   ·show false=_
    rw [eq_comm,Bool.eq_false_iff,ne_eq,ei]
    omega
def bM (f:Tm→Tm→Int):List Tm→List Tm→Int
 | [],[]=>0
 | [],_::_=>-1
 | _::_,[]=>1
 | x::xs,y::ys=>if f x y=0 then bM f xs ys else f x y
def or3 (x y z:Int):Int:=if x=0 then if y=0 then z else y else x
def iE (a b:Tm):Int:=or3 (cW a.kind b.kind) (cW a.n b.n) (dh (bs a.s) (bs b.s))
def aV:Nat→Tm→Tm→Int
 | 0,a,b=>iE a b
 | d+1,a,b=>if iE a b=0 then bM (aV d) a.l b.l else iE a b
theorem RTm.cells {w:World} {B d:Nat} {t:Tm} {vs:List Value} (h:RTm w B d t vs):∃A c,vs=[.int .i64 t.kind,.int .i64 t.n,.string t.s,.slice A t.l.length c]∧t.l.length≤c∧(t.l.length*40≤140737488351232∧c≤9223372036854775807)∧t.s.size≤140737488351232∧I64 t.kind∧I64 t.n∧jt w B (d-1) t.l A:=by
 match d,h with
 | d+1,⟨A,c,h⟩=>exact ⟨A,c,h⟩
theorem jt.elem {w wr:World} {B d k:Nat} {ts:List Tm} {A:Option Addr} (h:jt w B d ts A) (hbw:Below w.heap.size w wr) (hB:B≤w.heap.size) (hk:k<ts.length) :
 ∃b off x Ax cx,A=some ⟨b,off,none⟩∧b<wr.heap.size∧ts[k]? = some x∧wr.cell? ⟨b,off+k*4,none⟩=some (.int .i64 x.kind)∧wr.cell? ⟨b,off+k*4+1,none⟩=some (.int .i64 x.n) ∧
  wr.cell? ⟨b,off+k*4+2,none⟩=some (.string x.s)∧wr.cell? ⟨b,off+k*4+3,none⟩=some (.slice Ax x.l.length cx) ∧
  RTm wr B d x [.int .i64 x.kind,.int .i64 x.n,.string x.s,.slice Ax x.l.length cx]:=by
 obtain ⟨b,off,rfl,hb,hc⟩:=h (by omega)
 obtain ⟨vs,hl,⟨x,hx,hr⟩,hcell⟩:=hc k hk
 obtain ⟨Ax,cx,rfl,_⟩:=hr.cells
 have hlt:b<w.heap.size:=by omega
 have hsz:=hbw.size
 exact ⟨b,off,x,Ax,cx,rfl,by omega,hx,(hbw.cell (p:=⟨b,off+k*4,none⟩) hlt).trans (hcell 0 _ rfl),(hbw.cell (p:=⟨b,off+k*4+1,none⟩) hlt).trans (hcell 1 _ rfl),
  (hbw.cell (p:=⟨b,off+k*4+2,none⟩) hlt).trans (hcell 2 _ rfl),(hbw.cell (p:=⟨b,off+k*4+3,none⟩) hlt).trans (hcell 3 _ rfl),hr.below hbw hB⟩
theorem jt.base {w wr:World} {B d:Nat} {ts:List Tm} {A:Option Addr} (h:jt w B d ts A) (hbw:Below w.heap.size w wr) (hB:B≤w.heap.size) (hk:0<ts.length) :
 ∃b off,A=some ⟨b,off,none⟩∧b<wr.heap.size:=by
 obtain ⟨b,off,rfl,hb,_⟩:=h hk
 exact ⟨b,off,rfl,by have:=hbw.size;omega⟩
theorem jt.at_ {w wr:World} {B d k b off:Nat} {ts:List Tm} (h:jt w B d ts (some ⟨b,off,none⟩)) (hbw:Below w.heap.size w wr) (hB:B≤w.heap.size) (hk:k<ts.length) :
 ∃x Ax cx,ts[k]? = some x∧wr.cell? ⟨b,off+k*4,none⟩=some (.int .i64 x.kind)∧wr.cell? ⟨b,off+k*4+1,none⟩=some (.int .i64 x.n) ∧
  wr.cell? ⟨b,off+k*4+2,none⟩=some (.string x.s)∧wr.cell? ⟨b,off+k*4+3,none⟩=some (.slice Ax x.l.length cx) ∧
  RTm wr B d x [.int .i64 x.kind,.int .i64 x.n,.string x.s,.slice Ax x.l.length cx]:=by
 obtain ⟨b',off',x,Ax,cx,e,hb,h⟩:=h.elem hbw hB hk
 simp only [AP,Addr.mk.injEq,and_true] at e
 obtain ⟨rfl,rfl⟩:=e
 exact ⟨x,Ax,cx,h⟩
theorem ed (F:FuncId) (cap:Array Value) (f:Tm→Tm→Int) (d e:Nat) (xs ys:List Tm) (A A':Option Addr) (c c' B:Nat) (w:World)
 (hF:∀args (w:World),(callFunc F args).run Tryz.prog w=.ok (.enter F args) w)
 (hA:jt w B d xs A) (hA':jt w B e ys A') (hB:B≤w.heap.size) (hn:xs.length*40≤140737488351232) (hn':ys.length*40≤140737488351232)
 (hf:∀(x y:Tm) (vs ws:List Value) (w1:World),Below w.heap.size w w1→RTm w1 B d x vs→RTm w1 B e y ws →
  Calls Tryz.prog F (#[.agg vs.toArray,.agg ws.toArray]++cap) w1 fun e w'=>e=.returned (.int .i64 (f x y))∧Below w1.heap.size w1 w') :
 Calls Tryz.prog 54 #[.slice A xs.length c,.slice A' ys.length c',.func (.func F) #[] cap] w fun e w'=>e=.returned (.int .i64 (bM f xs ys))∧Below w.heap.size w w':=by
 have HF:=AE hf
 clear hf
 go_enter Tryz.func54,Tryz.ntmps54
 go_wp2_with fail
 go_loopw [13] (fun i wr=>∃k:Nat,k≤xs.length∧i=.int .i64 k∧Below w.heap.size w wr∧bM f xs ys=bM f (xs.drop k) (ys.drop k)) (fun i _=>xs.length-(intOf i).toNat)
 case atStart=>exact ⟨0,AH _,rfl,AI _ _,rfl⟩
 case round=>
  obtain ⟨k,hk,rfl,hbw,heq⟩:=hrel
  have HE:=AE heq
  clear heq
  by_cases hlt:k<xs.length
  ·obtain ⟨b,off,x,Ax,cx,rfl,hb,hx,c0,c1,c2,c3,hr⟩:=hA.elem hbw hB hlt
   by_cases hlt2:k<ys.length
   ·obtain ⟨b',off',y,Ay,cy,rfl,hb',hy,e0,e1,e2,e3,hr'⟩:=hA'.elem hbw hB hlt2
    have hsz:=hbw.size
    have hbw2:∀o o':Obj,Below w.heap.size w ((wr.alloc o).alloc o'):=fun o o'=>(hbw.alloc hsz _).alloc (by simp;omega) _
    have hbr2:∀o o':Obj,Below wr.heap.size wr ((wr.alloc o).alloc o'):=fun o o'=>((AI _ _).alloc (AG _) _).alloc (by simp) _
    have HB:=AE hbw2
    have HR:=AE hbr2
    have hx':xs.drop k=x::xs.drop (k+1):=by
     obtain ⟨h1,h2⟩:=List.getElem?_eq_some_iff.1 hx
     rw [←h2];exact List.drop_eq_getElem_cons h1
    have hy':ys.drop k=y::ys.drop (k+1):=by
     obtain ⟨h1,h2⟩:=List.getElem?_eq_some_iff.1 hy
     rw [←h2];exact List.drop_eq_getElem_cons h1
    have HE2:Hid (bM f xs ys=if f x y=0 then bM f (xs.drop (k+1)) (ys.drop (k+1)) else f x y):=by
     have:=HE.out
     rw [hx',hy'] at this
     exact this
    clear hbw2 hbr2 hx' hy' HE
    go_wp2_with fail
    refine (HF.out x y [_,_,_,_] [_,_,_,_] _ (HB.out _ _) (hr.below (HR.out _ _) (by omega)) (hr'.below (HR.out _ _) (by omega))).mono ?_
    rintro e w1 ⟨rfl,hb1⟩
    have hbw1:=AE ((HB.out _ _).trans (hb1.mono (by simp;omega)))
    clear hb1
    by_cases hz:(f x y !=0)=true
    ·go_wp2_with fail
     go_ret
     exact ⟨av (by rw [HE2.out,if_neg (by simpa using hz)]),hbw1.out⟩
    ·have hz':(f x y !=0)=false:=by simpa using hz
     go_wp2_with fail
     go_roundw
     case rel=>exact ⟨k+1,by omega,by go_num,hbw1.out,by rw [HE2.out,if_pos (by simpa using hz')]⟩
     case measure=>simp [intOf];omega
   ·have hz:ys.drop k=[]:=List.drop_eq_nil_iff.2 (by omega)
    have HE2:Hid (bM f xs ys=1):=by
     have:=HE.out
     obtain ⟨h1,h2⟩:=List.getElem?_eq_some_iff.1 hx
     rw [List.drop_eq_getElem_cons h1,hz] at this
     exact this
    have hbw2:=AE (fun o:Obj=>hbw.alloc hbw.size o)
    clear HE hz
    go_wp2_with fail
    go_ret
    exact ⟨av HE2.out.symm,hbw2.out _⟩
  ·have hz:xs.drop k=[]:=List.drop_eq_nil_iff.2 (by omega)
   have HE2:=HE.out
   rw [hz] at HE2
   have HE3:=AE HE2
   clear HE HE2 hz
   by_cases hlt2:xs.length<ys.length
   ·go_wp2_with fail
    go_ret
    obtain rfl:k=xs.length:=by omega
    exact ⟨av (by rw [HE3.out,List.drop_eq_getElem_cons hlt2];rfl),hbw⟩
   ·go_wp2_with fail
    go_ret
    obtain rfl:k=xs.length:=by omega
    exact ⟨av (by rw [HE3.out,List.drop_eq_nil_iff.2 (by omega)];rfl),hbw⟩
def OrRel (x y z:Int) (i:Value):Prop:=i=.int .i64 0∨(i=.int .i64 1∧x=0)∨(i=.int .i64 2∧x=0∧y=0)∨(i=.int .i64 3∧x=0∧y=0∧z=0)
theorem je (x y z:Int) (b:Nat) (w:World) (h0:w.cell? ⟨b,0,none⟩=some (.int .i64 x)) (h1:w.cell? ⟨b,1,none⟩=some (.int .i64 y)) (h2:w.cell? ⟨b,2,none⟩=some (.int .i64 z)) :
 Calls Tryz.prog 27 #[.slice (some ⟨b,0,none⟩) 3 3] w fun e w'=>e=.returned (.int .i64 (or3 x y z))∧w=w':=by
 go_enter Tryz.func27,Tryz.ntmps27
 go_wp2_with fail
 go_loop [8] (fun i=>OrRel x y z i) (fun i=>3-(intOf i).toNat)
 case atStart=>exact .inl rfl
 case round=>
  rcases hrel with rfl | ⟨rfl,hx⟩ | ⟨rfl,hx,hy⟩ | ⟨rfl,hx,hy,hz⟩
  ·by_cases h:(x !=0)=true
   ·go_wp2_with fail
    go_ret
    exact ⟨av (by rw [or3,if_neg (by simpa using h)]),rfl⟩
   ·have h:(x !=0)=false:=by simpa using h
    go_wp2_with fail
    go_round
    case rel=>exact .inr (.inl ⟨rfl,by simpa using h⟩)
    case measure=>simp [intOf]
  ·have HX:=AE hx
   clear hx
   by_cases h:(y !=0)=true
   ·go_wp2_with fail
    go_ret
    exact ⟨av (by rw [or3,if_pos HX.out,if_neg (by simpa using h)]),rfl⟩
   ·have h:(y !=0)=false:=by simpa using h
    go_wp2_with fail
    go_round
    case rel=>exact .inr (.inr (.inl ⟨rfl,HX.out,by simpa using h⟩))
    case measure=>simp [intOf]
  ·have HX:=AE hx
   have HY:=AE hy
   clear hx hy
   by_cases h:(z !=0)=true
   ·go_wp2_with fail
    go_ret
    exact ⟨av (by rw [or3,if_pos HX.out,if_pos HY.out]),rfl⟩
   ·have h:(z !=0)=false:=by simpa using h
    go_wp2_with fail
    go_round
    case rel=>exact .inr (.inr (.inr ⟨rfl,HX.out,HY.out,by simpa using h⟩))
    case measure=>simp [intOf]
  ·have HX:=AE hx
   have HY:=AE hy
   have HZ:=AE hz
   clear hx hy hz
   go_wp2_with fail
   go_ret
   exact ⟨av (by rw [or3,if_pos HX.out,if_pos HY.out,HZ.out]),rfl⟩
theorem kw {P:Program} {f:FuncId} {args:Array Value} {w:World} {v:Ending} (h:Calls P f args w fun e w'=>e=v∧w=w'):Calls P f args w fun e w'=>e=v∧w'=w:=
 h.mono fun _ _ h=>⟨h.1,h.2.symm⟩
theorem bp {P:Program} {id:Nat} {Q:Exit→Act→World→Prop} {a:Act} {w:World} {l:List Oper} (n:Nat) (hm:P.follows .mixedOrders=true) (hB:Region.lexTailB .any l.toArray n=true)
 (h:wpStill P l.toArray w.drew (fun a'=>wpList P l.toArray Q (l.drop n) a' w.drew) (l.take n) a):(Code.region id l.toArray true).wp P Q a w:=
 wp_region_still_tail n hm hB h
theorem uW (w:World) (o1 o2 o3 o4:Obj):Below w.heap.size w ((((w.alloc o1).alloc o2).alloc o3).alloc o4).drew:=
 ((((((AI _ _).alloc (AG _) _).alloc (by simp) _).alloc (by simp;omega) _).alloc (by simp;omega) _)).drew
theorem sf:∀args (w:World),(callFunc 95 args).run Tryz.prog w=.ok (.enter 95 args) w:=ent Tryz.func95 (by kernel_rfl) rfl
theorem nL (d:Nat) (hd:d≤100) (ih:∀(da db:Nat) (a b:Tm) (vs ws:List Value) (B:Nat) (w:World),RTm w B da a vs→RTm w B db b ws→B≤w.heap.size →
 Calls Tryz.prog 73 #[.agg vs.toArray,.agg ws.toArray,.int .i64 d] w fun e w'=>e=.returned (.int .i64 (aV d a b))∧Below w.heap.size w w')
 (da db:Nat) (a b:Tm) (vs ws:List Value) (G B:Nat) (w:World) (hG:w.cell? ⟨G,0,none⟩=some (.int .i64 (d+1))) (ha:RTm w B da a vs) (hb:RTm w B db b ws) (hB:B≤w.heap.size) :
 Calls Tryz.prog 95 #[.agg vs.toArray,.agg ws.toArray,.pointer (some ⟨G,0,none⟩)] w fun e w'=>e=.returned (.int .i64 (aV d a b))∧Below w.heap.size w w':=by
 have HI:=AE ih
 clear ih
 obtain ⟨A,c,rfl,_⟩:=ha.cells
 obtain ⟨A',c',rfl,_⟩:=hb.cells
 have hGl:G<w.heap.size:=block_lt_of_cell hG
 go_enter Tryz.func95,Tryz.ntmps95
 have hbel:Below w.heap.size w ((w.alloc (.cells #[.int .i64 a.kind,.int .i64 a.n,.string a.s,.slice A a.l.length c] 29)).alloc (.cells #[.int .i64 b.kind,.int .i64 b.n,.string b.s,.slice A' b.l.length c'] 29)):=
  ((AI _ _).alloc (AG _) _).alloc (by simp) _
 have HB:=AE hbel
 clear hbel
 go_wp2_with fail
 refine (HI.out da db a b [_,_,_,_] [_,_,_,_] B _ (ha.below HB.out hB) (hb.below HB.out hB) (AF hB HB.out.size)).mono ?_
 rintro e w1 ⟨rfl,hb1⟩
 have hfin:=AE (HB.out.trans (hb1.mono HB.out.size))
 clear hb1
 go_wp2_with fail
 go_ret
 exact ⟨rfl,hfin.out⟩
theorem pa (d:Nat) (hd:d≤100):∀(da db:Nat) (a b:Tm) (vs ws:List Value) (B:Nat) (w:World),RTm w B da a vs→RTm w B db b ws→B≤w.heap.size →
 Calls Tryz.prog 73 #[.agg vs.toArray,.agg ws.toArray,.int .i64 d] w fun e w'=>e=.returned (.int .i64 (aV d a b))∧Below w.heap.size w w':=by
 induction d with
 | zero=>
   intro da db a b vs ws B w ha hb hB
   obtain ⟨A,c,rfl,_⟩:=ha.cells
   obtain ⟨A',c',rfl,_⟩:=hb.cells
   show Calls _ _ #[_,_,.int .i64 0] _ _
   go_enter Tryz.func73,Tryz.ntmps73
   go_wp2_with fail
   refine bp 15 (by kernel_rfl) (by kernel_rfl) ?_
   simp only [List.take_succ_cons,List.take_zero,List.drop_succ_cons,List.drop_zero]
   repeat still_step
   still_call (kw (dS _ _ _))
   repeat still_step
   still_call (kw (eD _ _ _))
   repeat still_step
   still_call (kw (di _ _ _))
   refine wpStill_nil ?_
   go_wp2_with fail
   refine (je (cW a.kind b.kind) (cW a.n b.n) (dh (bs a.s) (bs b.s)) _ _ (by go_simp) (by go_simp) (by go_simp)).mono ?_
   rintro e w' ⟨rfl,rfl⟩
   by_cases hz:(iE a b !=0)=true
   all_goals (unfold iE at hz;try rw [Bool.not_eq_true] at hz)
   all_goals
    go_wp2_with fail
    go_ret
    exact ⟨rfl,uW _ _ _ _ _⟩
 | succ d ih=>
   intro da db a b vs ws B w ha hb hB
   obtain ⟨A,c,rfl,_⟩:=ha.cells
   obtain ⟨A',c',rfl,_⟩:=hb.cells
   go_enter Tryz.func73,Tryz.ntmps73
   go_wp2_with fail
   refine bp 15 (by kernel_rfl) (by kernel_rfl) ?_
   simp only [List.take_succ_cons,List.take_zero,List.drop_succ_cons,List.drop_zero]
   repeat still_step
   still_call (kw (dS _ _ _))
   repeat still_step
   still_call (kw (eD _ _ _))
   repeat still_step
   still_call (kw (di _ _ _))
   refine wpStill_nil ?_
   go_wp2_with fail
   refine (je (cW a.kind b.kind) (cW a.n b.n) (dh (bs a.s) (bs b.s)) _ _ (by go_simp) (by go_simp) (by go_simp)).mono ?_
   rintro e w' ⟨rfl,rfl⟩
   have hd0:(((d+1:Nat):Int)==0)=false:=by simp;omega
   by_cases hz:(iE a b !=0)=true
   all_goals (have HZ:=AE hz;unfold iE at hz;try rw [Bool.not_eq_true] at hz)
   ·go_wp2_with fail
    go_ret
    exact ⟨av (by rw [aV,if_neg (by simpa using HZ.out)];rfl),uW _ _ _ _ _⟩
   ·go_wp2_with fail
    obtain ⟨_,_,e1,a1,a2,a3,a4,a5,hA⟩:=ha.cells
    obtain ⟨rfl,rfl⟩:_∧_:=by simpa using e1
    obtain ⟨_,_,e2,b1,b2,b3,b4,b5,hB'⟩:=hb.cells
    obtain ⟨rfl,rfl⟩:_∧_:=by simpa using e2
    have hbel:=uW w (.cells #[.int .i64 a.kind,.int .i64 a.n,.string a.s,.slice A a.l.length c] 29) (.cells #[.int .i64 b.kind,.int .i64 b.n,.string b.s,.slice A' b.l.length c'] 29)
     (.cells #[.int .i64 (d+1)] 3) (.cells #[.int .i64 (cW a.kind b.kind),.int .i64 (cW a.n b.n),.int .i64 (dh (bs a.s) (bs b.s))] 3)
    refine (ed 95 _ (aV d) (da-1) (db-1) a.l b.l A A' c c' B _ sf (hA.below hbel hB) (hB'.below hbel hB) (AF hB hbel.size) (by omega) (by omega) ?_).mono ?_
    ·intro x y vs ws w1 hb1 hx hy
     refine (nL d (by omega) (fun da db a b vs ws B w h1 h2 h3=>ih (by omega) da db a b vs ws B w h1 h2 h3) _ _ x y vs ws _ B w1 ((hb1.cell (by simp)).trans (by go_simp)) hx hy (AF hB (AF hbel.size hb1.size)))
    ·rintro e w1 ⟨rfl,hb1⟩
     have hfin:=hbel.trans (hb1.mono hbel.size)
     clear hb1 hbel
     go_wp2_with fail
     go_ret
     exact ⟨av (by rw [aV,if_pos (by simpa using HZ.out)]),hfin⟩
theorem dj (da db:Nat) (a b:Tm) (vs ws:List Value) (B:Nat) (w:World) (ha:RTm w B da a vs) (hb:RTm w B db b ws) (hB:B≤w.heap.size) :
 Calls Tryz.prog 55 #[.agg vs.toArray,.agg ws.toArray] w fun e w'=>e=.returned (.int .i64 (aV 3 a b))∧Below w.heap.size w w':=by
 obtain ⟨A,c,rfl,_⟩:=ha.cells
 obtain ⟨A',c',rfl,_⟩:=hb.cells
 have hbel:Below w.heap.size w ((w.alloc (.cells #[.int .i64 a.kind,.int .i64 a.n,.string a.s,.slice A a.l.length c] 29)).alloc (.cells #[.int .i64 b.kind,.int .i64 b.n,.string b.s,.slice A' b.l.length c'] 29)):=
  ((AI _ _).alloc (AG _) _).alloc (by simp) _
 have HB:=AE hbel
 clear hbel
 go_enter Tryz.func55,Tryz.ntmps55
 go_wp2_with fail
 refine (pa 3 (by omega) da db a b [_,_,_,_] [_,_,_,_] B _ (ha.below HB.out hB) (hb.below HB.out hB) (AF hB HB.out.size)).mono ?_
 rintro e w1 ⟨rfl,hb1⟩
 have hfin:=AE (HB.out.trans (hb1.mono HB.out.size))
 clear hb1
 go_wp2_with fail
 go_ret
 exact ⟨rfl,hfin.out⟩
def ef (t:Tm):Bool:=
 decide (t.l.length=0) &&
 ((decide (t.kind=1)&&decide (t.n=0)&&dQ (bs t.s)) ||
  (decide (t.kind=2)&&decide (t.s.size=0)) ||
  ((decide (t.kind=3)||decide (t.kind=5))&&decide (t.n=0)&&decide (t.s.size≤256)) ||
  (decide (t.kind=4)&&decide (t.s.size=0)&&decide (0≤t.n)&&decide (t.n≤253402300799)) ||
  (decide (t.kind=6)&&decide (t.s.size=0)&&(decide (t.n=0)||decide (t.n=1))))
def eV (l:List Tm) (i:Nat):Bool:=
 match l[i]?,l[0]?,l[i-1]? with
 | some x,some y,some z=>ef x&&decide (x.kind≠1)&&decide (x.kind=y.kind)&&(decide (i=0)||decide (aV 3 z x<0))
 | _,_,_=>false
def cR (l:List Tm):Bool:=(List.range l.length).all (eV l)&&decide (l.length≤16)
def fD (t:Tm):Bool:=if t.kind=7 then decide (t.n=0)&&decide (t.s.size=0)&&cR t.l else ef t
def af (t:Tm):Bool:=decide (t.kind≠1)&&fD t
theorem sm (d:Nat) (hM:∀(t:Tm) (vs:List Value) (B:Nat) (w:World),RTm w B d t vs→B≤w.heap.size →
 Calls Tryz.prog 68 #[.agg vs.toArray] w fun e w'=>e=.returned (.bool (fD t))∧Below w.heap.size w w')
 (t:Tm) (vs:List Value) (B:Nat) (w:World) (ht:RTm w B d t vs) (hB:B≤w.heap.size) :
 Calls Tryz.prog 47 #[.agg vs.toArray] w fun e w'=>e=.returned (.bool (af t))∧Below w.heap.size w w':=by
 have HM:=AE hM
 clear hM
 obtain ⟨A,c,rfl,_⟩:=ht.cells
 have hbel:Below w.heap.size w (w.alloc (.cells #[.int .i64 t.kind,.int .i64 t.n,.string t.s,.slice A t.l.length c] 29)):=(AI _ _).alloc (AG _) _
 have HB:=AE hbel
 clear hbel
 by_cases hk:(t.kind !=1)=true
 ·have hk':=AE hk
  go_enter Tryz.func47,Tryz.ntmps47
  go_wp2_with fail
  refine (HM.out t [_,_,_,_] B _ (ht.below HB.out hB) (AF hB HB.out.size)).mono ?_
  rintro e w1 ⟨rfl,hb1⟩
  have hfin:=AE (HB.out.trans (hb1.mono HB.out.size))
  clear hb1
  go_wp2_with fail
  go_ret
  exact ⟨ac (by simp [af,(by simpa using hk'.out:t.kind≠1)]),hfin.out⟩
 ·have hk:(t.kind !=1)=false:=by simpa using hk
  have hk':=AE hk
  go_enter Tryz.func47,Tryz.ntmps47
  go_wp2_with fail
  go_ret
  exact ⟨ac (by simp [af,(by simpa using hk'.out:t.kind=1)]),HB.out⟩
theorem nw {l:List Tm} {i:Nat} {x y z:Tm} (h1:l[i]? = some x) (h2:l[0]? = some y) (h3:l[i-1]? = some z) :
 eV l i=true↔((af x=true∧x.kind≠7)∧x.kind=y.kind)∧(0<i→aV 3 z x<0):=by
 unfold eV
 rw [h1,h2,h3]
 simp only [AN,Bool.or_eq_true,AT,af,fD]
 by_cases hk:x.kind=7
 ·constructor
  ·intro h
   have:=h.1.1.1
   simp [ef,hk] at this
  ·intro h;exact absurd hk h.1.1.2
 ·rw [if_neg hk]
  constructor
  ·rintro ⟨⟨⟨a,b⟩,c⟩,d⟩
   exact ⟨⟨⟨⟨b,a⟩,hk⟩,c⟩,fun h=>d.resolve_left (by omega)⟩
  ·rintro ⟨⟨⟨⟨a,b⟩,c⟩,d⟩,e⟩
   refine ⟨⟨⟨b,a⟩,d⟩,?_⟩
   by_cases h:i=0
   ·exact .inl h
   ·exact .inr (e (by omega))
theorem xi (d:Nat) (hF:∀(t:Tm) (vs:List Value) (B:Nat) (w:World),RTm w B d t vs→B≤w.heap.size →
 Calls Tryz.prog 47 #[.agg vs.toArray] w fun e w'=>e=.returned (.bool (af t))∧Below w.heap.size w w')
 (l:List Tm) (A:Option Addr) (c B:Nat) (w:World) (hl:jt w B d l A) (hB:B≤w.heap.size) (hn:l.length*40≤140737488351232) :
 Calls Tryz.prog 92 #[.slice A l.length c] w fun e w'=>e=.returned (.bool (cR l))∧Below w.heap.size w w':=by
 have HF:=AE hF
 clear hF
 go_enter Tryz.func92,Tryz.ntmps92
 go_wp2_with fail
 go_loopw [7] (fun i wr=>∃k:Nat,k≤l.length∧i=.int .i64 k∧Below w.heap.size w wr∧∀i,i<k→eV l i=true) (fun i _=>l.length-(intOf i).toNat)
 case atStart=>exact ⟨0,AH _,rfl,AI _ _,fun i h=>absurd h (by omega)⟩
 case round=>
  obtain ⟨k,hk,rfl,hbw,hall⟩:=hrel
  have HA:=AE hall
  clear hall
  by_cases hlt:k<l.length
  ·obtain ⟨b,off,rfl,hb⟩:=hl.base hbw hB (by omega)
   obtain ⟨x,Ax,cx,hx,c0,c1,c2,c3,hr⟩:=hl.at_ hbw hB hlt
   obtain ⟨y,Ay,cy,hy,f0,f1,f2,f3,hr0⟩:=hl.at_ (k:=0) hbw hB (by omega)
   obtain ⟨z,Az,cz,hz,g0,g1,g2,g3,hrz⟩:=hl.at_ (k:=k-1) hbw hB (by omega)
   have HR:=AE (nw hx hy hz)
   simp only [Nat.zero_mul,Nat.add_zero] at f0 f1 f2 f3
   clear hx hy hz f1 f2 f3
   have hW:Below wr.heap.size wr (wr.alloc (.cells #[.int .i64 x.kind,.int .i64 x.n,.string x.s,.slice Ax x.l.length cx] 29)):=(AI _ _).alloc (AG _) _
   have x0:(wr.alloc (.cells #[.int .i64 x.kind,.int .i64 x.n,.string x.s,.slice Ax x.l.length cx] 29)).cell? ⟨wr.heap.size,0,none⟩=some (.int .i64 x.kind):=by go_simp
   have x1:(wr.alloc (.cells #[.int .i64 x.kind,.int .i64 x.n,.string x.s,.slice Ax x.l.length cx] 29)).cell? ⟨wr.heap.size,1,none⟩=some (.int .i64 x.n):=by go_simp
   have x2:(wr.alloc (.cells #[.int .i64 x.kind,.int .i64 x.n,.string x.s,.slice Ax x.l.length cx] 29)).cell? ⟨wr.heap.size,2,none⟩=some (.string x.s):=by go_simp
   have x3:(wr.alloc (.cells #[.int .i64 x.kind,.int .i64 x.n,.string x.s,.slice Ax x.l.length cx] 29)).cell? ⟨wr.heap.size,3,none⟩=some (.slice Ax x.l.length cx):=by go_simp
   have hS:(wr.alloc (.cells #[.int .i64 x.kind,.int .i64 x.n,.string x.s,.slice Ax x.l.length cx] 29)).heap.size=wr.heap.size+1:=by simp
   have HW:=AE hW
   have HS:=AE hS
   clear hW hS
   go_wp2_with fail
   generalize (wr.alloc (.cells #[.int .i64 x.kind,.int .i64 x.n,.string x.s,.slice Ax x.l.length cx] 29))=W0 at *
   have q0:=cell_regrown x0
   have q1:=cell_regrown x1
   have q2:=cell_regrown x2
   have q3:=cell_regrown x3
   have q4:=cell_regrown ((HW.out.cell (p:=⟨b,off,none⟩) hb).trans f0)
   have q5:=cell_regrown ((HW.out.cell (p:=⟨b,off+(k-1)*4,none⟩) hb).trans g0)
   have q6:=cell_regrown ((HW.out.cell (p:=⟨b,off+(k-1)*4+1,none⟩) hb).trans g1)
   have q7:=cell_regrown ((HW.out.cell (p:=⟨b,off+(k-1)*4+2,none⟩) hb).trans g2)
   have q8:=cell_regrown ((HW.out.cell (p:=⟨b,off+(k-1)*4+3,none⟩) hb).trans g3)
   clear x0 x1 x2 x3 f0 g0 g1 g2 g3 c0 c1 c2 c3
   have hrx:=hr.below HW.out (by have:=hbw.size;omega)
   have hrz:=hrz.below HW.out (by have:=hbw.size;omega)
   have hBW:B≤W0.heap.size:=by have:=hbw.size;have:=HS.out;omega
   have hl0:0<l.length:=by omega
   have hcases:af x=false∨(af x=true∧(x.kind==7)=true)∨(af x=true∧(x.kind==7)=false∧(x.kind !=y.kind)=true) ∨
    (af x=true∧(x.kind==7)=false∧(x.kind !=y.kind)=false∧decide (0<k)=false) ∨
    (af x=true∧(x.kind==7)=false∧(x.kind !=y.kind)=false∧0<k∧decide (0≤aV 3 z x)=true) ∨
    (af x=true∧(x.kind==7)=false∧(x.kind !=y.kind)=false∧0<k∧decide (0≤aV 3 z x)=false):=by
    cases af x<;>cases (x.kind==7)<;>cases (x.kind !=y.kind)<;>cases decide (0≤aV 3 z x)<;>rcases Nat.eq_zero_or_pos k with h | h<;>simp [h]
   rcases hcases with hf | ⟨hf,h7⟩ | ⟨hf,h7,hy⟩ | ⟨hf,h7,hy,hk0⟩ | ⟨hf,h7,hy,hk0,hc⟩ | ⟨hf,h7,hy,hk0,hc⟩
   all_goals
    refine wp_region_quiet_below (by kernel_rfl) (by kernel_rfl) ?_
    repeat (go_big_quiet_step ((first
     | (go_at_call 47;exact Calls.regrown_of (HF.out x [_,_,_,_] B _ (hrx.below (below_regrown _ _ _) hBW) (AF hBW (below_regrown _ _ _).size)))
     | (go_at_call 55;exact Calls.regrown_of (dj d d z x [_,_,_,_] [_,_,_,_] B _ (hrz.below (below_regrown _ _ _) hBW) (hrx.below (below_regrown _ _ _) hBW) (AF hBW (below_regrown _ _ _).size))))))
    refine wpQuiet_nil ?_
    intro w1 hw1
    have hb1:Below W0.heap.size W0 w1:=by obtain ⟨p,rfl⟩:=hw1;exact below_regrown _ _ _
    clear hw1
    go_wp2_with fail
    have hfin:Below w.heap.size w w1:=(hbw.trans (HW.out.mono hbw.size)).trans (hb1.mono (by have:=hbw.size;have:=HS.out;omega))
    try simp only [beq_iff_eq,bne_iff_ne,beq_eq_false_iff_ne,bne_eq_false_iff_eq,AT,decide_eq_false_iff_not] at *
    first
     | (have hn:eV l k=false:=by
         rw [Bool.eq_false_iff]
         intro h
         have:=HR.out.1 h
         simp_all
         try omega
        go_ret
        refine ⟨ac ?_,hfin⟩
        show false=_
        rw [eq_comm,Bool.eq_false_iff,cR]
        intro h
        rw [AN,List.all_eq_true] at h
        have:=h.1 k (by simpa using hlt)
        rw [hn] at this
        cases this)
     | (have hn:eV l k=true:=HR.out.2 (by
         refine ⟨⟨⟨hf,h7⟩,hy⟩,fun h=>?_⟩
         omega)
        go_roundw
        case rel=>exact ⟨k+1,by omega,by go_num,hfin,fun i hi=>by
         rcases Nat.lt_or_ge i k with h1 | h1
         ·exact HA.out i h1
         ·obtain rfl:i=k:=by omega
          exact hn⟩
        case measure=>simp [intOf];omega)
  ·go_wp2_with fail
   go_ret
   refine ⟨ac ?_,hbw⟩
   obtain rfl:k=l.length:=by omega
   show decide ((l.length:Int)≤16)=_
   have:(List.range l.length).all (eV l)=true:=by simpa using HA.out
   rw [cR,this,Bool.true_and,Bool.eq_iff_iff]
   simp
   omega
theorem uu (s:ByteArray):s.toList=[]↔s.size=0:=by
 rw [ByteArray.toList_eq,Lib.size_eq]
 exact ⟨fun h=>by rw [h];rfl,fun h=>List.eq_nil_of_length_eq_zero h⟩
theorem mZ (k:Nat):((k:Int)≤256)=(k≤256):=by rw [eq_iff_iff];omega
theorem dE (s:ByteArray):s.toList=[]↔s=ByteArray.empty:=by rw [uu];simp
theorem bf (s:ByteArray):s.toList.isEmpty=decide (s=ByteArray.empty):=by
 rw [Bool.eq_iff_iff,List.isEmpty_iff,dE];simp
theorem may_of (d:Nat) (hR:∀(l:List Tm) (A:Option Addr) (c B:Nat) (w:World),jt w B d l A→B≤w.heap.size→l.length*40≤140737488351232 →
 Calls Tryz.prog 92 #[.slice A l.length c] w fun e w'=>e=.returned (.bool (cR l))∧Below w.heap.size w w')
 (t:Tm) (vs:List Value) (B:Nat) (w:World) (ht:RTm w B (d+1) t vs) (hB:B≤w.heap.size) :
 Calls Tryz.prog 68 #[.agg vs.toArray] w fun e w'=>e=.returned (.bool (fD t))∧Below w.heap.size w w':=by
 have HR:=AE hR
 clear hR
 obtain ⟨A,c,rfl,hc1,hc2,hs,_,_,hl⟩:=ht.cells
 obtain ⟨kind,n,s,l⟩:=t
 dsimp only at hc1 hc2 hs hl
 have hbel:∀o:Obj,Below w.heap.size w (w.alloc o):=fun o=>(AI _ _).alloc (AG _) _
 have HB:=AE hbel
 have HL:=AE hl
 clear hbel ht hl
 have hcases:kind=1∨kind=2∨kind=3∨kind=4∨kind=5∨kind=6∨kind=7∨((kind==1)=false∧(kind==2)=false∧(kind==3)=false∧(kind==4)=false∧(kind==5)=false∧(kind==6)=false∧(kind==7)=false∧(kind !=7)=true):=by
  simp only [beq_eq_false_iff_ne,bne_iff_ne];omega
 rcases hcases with rfl | rfl | rfl | rfl | rfl | rfl | rfl | ⟨k1,k2,k3,k4,k5,k6,k7,k8⟩
 all_goals
  go_enter Tryz.func68,Tryz.ntmps68
  go_wp2_with (first
   | (go_at_call 44;refine (fl _ _ (by unfold maxLen;omega)).mono ?_;rintro e w' ⟨rfl,rfl⟩)
   | (go_at_call 92;refine (HR.out l A c B _ (HL.out.below (HB.out _) hB) (AF hB (HB.out _).size) (by omega)).mono ?_;rintro e w1 ⟨rfl,hb1⟩))
  all_goals go_ret
  all_goals first
   | refine ⟨ac ?_,HB.out _⟩
   | refine ⟨ac ?_,(HB.out _).trans (hb1.mono (HB.out _).size)⟩
  all_goals
   clear HR HL HB
   try simp only [dE,bf,Nat.not_lt,Nat.le_zero_eq,List.length_pos_iff,ne_eq,Classical.not_not,beq_eq_false_iff_ne] at *
   simp [fD,ef,mZ, *]
   try first
    | omega
    | (rw [Bool.eq_iff_iff];simp;omega)
theorem wK (d:Nat):∀(t:Tm) (vs:List Value) (B:Nat) (w:World),RTm w B d t vs→B≤w.heap.size →
 Calls Tryz.prog 68 #[.agg vs.toArray] w fun e w'=>e=.returned (.bool (fD t))∧Below w.heap.size w w':=by
 induction d with
 | zero=>intro t vs B w h;exact h.elim
 | succ d ih=>exact fun t vs B w=>may_of d (fun l A c B w h1 h2 h3=>xi d (sm d ih) l A c B w h1 h2 h3) t vs B w
theorem wL {d:Nat} {t:Tm} {vs:List Value} {B:Nat} {w:World} (h:RTm w B d t vs) (hB:B≤w.heap.size) :
 Calls Tryz.prog 68 #[.agg vs.toArray] w fun e w'=>e=.returned (.bool (fD t))∧Below w.heap.size w w':=wK d t vs B w h hB
theorem aj {d:Nat} {t:Tm} {vs:List Value} {B:Nat} {w:World} (h:RTm w B d t vs) (hB:B≤w.heap.size) :
 Calls Tryz.prog 47 #[.agg vs.toArray] w fun e w'=>e=.returned (.bool (af t))∧Below w.heap.size w w':=sm d (wK d) t vs B w h hB
structure Reader (α:Type) where
 k:Nat
 rd:World→Nat→α→List Value→Prop
 keep:∀{w w':World} {B C:Nat} {x:α} {vs:List Value},Below C w w'→B≤C→rd w B x vs→rd w' B x vs
 wide:∀{w:World} {B B':Nat} {x:α} {vs:List Value},B≤B'→rd w B x vs→rd w B' x vs
 len:∀{w:World} {B:Nat} {x:α} {vs:List Value},rd w B x vs→vs.length=k
def RL {α:Type} (R:Reader α) (w:World) (B:Nat) (xs:List α) (A:Option Addr):Prop:=eL w B R.k A xs.length (fun i vs=>∃x,xs[i]? = some x∧R.rd w B x vs)
section
variable {α:Type} {R:Reader α} {w wr w':World} {B B' C:Nat} {xs:List α} {A:Option Addr}
theorem RL.keep (h:RL R w B xs A) (hw:Below C w w') (hB:B≤C):RL R w' B xs A:=
 (eL.below h hw hB).mono fun _ _ _ ⟨x,hx,hr⟩=>⟨x,hx,R.keep hw hB hr⟩
theorem RL.wide (h:RL R w B xs A) (hB:B≤B'):RL R w B' xs A:=
 (eL.more h hB).mono fun _ _ _ ⟨x,hx,hr⟩=>⟨x,hx,R.wide hB hr⟩
theorem RL.base (h:RL R w B xs A) (hbw:Below w.heap.size w wr) (hB:B≤w.heap.size) (hk:0<xs.length):∃b off,A=some ⟨b,off,none⟩∧b<wr.heap.size:=by
 obtain ⟨b,off,rfl,hb,_⟩:=h hk
 exact ⟨b,off,rfl,by have:=hbw.size;omega⟩
theorem RL.at_ {b off k:Nat} (h:RL R w B xs (some ⟨b,off,none⟩)) (hbw:Below w.heap.size w wr) (hB:B≤w.heap.size) (hk:k<xs.length) :
 ∃x vs,xs[k]? = some x∧vs.length=R.k∧(∀j v,vs[j]? = some v→wr.cell? ⟨b,off+k*R.k+j,none⟩=some v)∧R.rd wr B x vs:=by
 obtain ⟨b',off',e,hb,hc⟩:=h (by omega)
 simp only [AP,Addr.mk.injEq,and_true] at e
 obtain ⟨rfl,rfl⟩:=e
 obtain ⟨vs,hl,⟨x,hx,hr⟩,hcell⟩:=hc k hk
 have hlt:b<w.heap.size:=by omega
 exact ⟨x,vs,hx,hl,fun j v hv=>(hbw.cell (p:=⟨b,off+k*R.k+j,none⟩) hlt).trans (hcell j v hv),R.keep hbw hB hr⟩
end
section
variable {α:Type} {R:Reader α} {w wr:World} {B:Nat} {xs:List α}
theorem RL.at0 {b off k:Nat} (h:RL R w B xs (some ⟨b,off,none⟩)) (hbw:Below w.heap.size w wr) (hB:B≤w.heap.size) (hk:k<xs.length) :
 ∃x vs,xs[k]? = some x∧vs.length=R.k∧(∀j v,vs[j]? = some v→wr.cell? ⟨b,off+k*R.k+j,none⟩=some v)∧R.rd w B x vs:=by
 obtain ⟨b',off',e,hb,hc⟩:=h (by omega)
 simp only [AP,Addr.mk.injEq,and_true] at e
 obtain ⟨rfl,rfl⟩:=e
 obtain ⟨vs,hl,⟨x,hx,hr⟩,hcell⟩:=hc k hk
 have hlt:b<w.heap.size:=by omega
 exact ⟨x,vs,hx,hl,fun j v hv=>(hbw.cell (p:=⟨b,off+k*R.k+j,none⟩) hlt).trans (hcell j v hv),hr⟩
end
def TmR (d:Nat):Reader Tm where
 k:=4
 rd:=fun w B t vs=>RTm w B d t vs
 keep:=fun hw hB h=>RTm.below hw hB h
 wide:=fun hB h=>RTm.more hB h
 len:=fun h=>by obtain ⟨_,_,rfl,_⟩:=RTm.cells h;rfl
theorem jt.rl {w:World} {B d:Nat} {ts:List Tm} {A:Option Addr} (h:jt w B d ts A):RL (TmR d) w B ts A:=h
theorem jy {W w1:World} (hb:Below W.heap.size W w1):∀b o,b<W.heap.size→w1.cell? ⟨b,o,none⟩=W.cell? ⟨b,o,none⟩:=fun b o h=>hb.cell (p:=⟨b,o,none⟩) h
def vW {α:Type} (p:α→Bool) (xs:List α):Int:=if xs.findIdx p<xs.length then (xs.findIdx p:Int) else -1
theorem gc {α:Type} {p:α→Bool} {xs:List α} (h:∀i (hi:i<xs.length),p xs[i]=false):vW p xs=-1:=by
 unfold vW
 rw [if_neg]
 rw [List.findIdx_lt_length]
 rintro ⟨x,hx,hp⟩
 obtain ⟨i,hi,rfl⟩:=List.getElem_of_mem hx
 rw [h i hi] at hp
 cases hp
theorem gd {α:Type} {p:α→Bool} {xs:List α} {k:Nat} (hk:k<xs.length) (hp:p xs[k]=true) (h:∀i (hi:i<k),p (xs[i]'(by omega))=false):vW p xs=k:=by
 have e:xs.findIdx p=k:=(List.findIdx_eq hk).2 ⟨hp,fun j hj=>h j hj⟩
 unfold vW
 rw [e,if_pos hk]
theorem iU {α:Type} (p:α→Bool) (xs:List α):decide (0≤vW p xs)=xs.any p:=by
 rw [Bool.eq_iff_iff,AT,List.any_eq_true]
 unfold vW
 by_cases h:xs.findIdx p<xs.length
 ·rw [if_pos h]
  have:=List.findIdx_lt_length.1 h
  simp only [this,iff_true]
  omega
 ·rw [if_neg h]
  rw [List.findIdx_lt_length] at h
  simp only [h,iff_false]
  omega
def bW (P:Program) {α:Type} (R:Reader α) (val:List Value→Value) (B:Nat) (w:World) (F:FuncId) (cap:Array Value) (p:α→Bool):Prop:=
 ∀(x:α) (vs:List Value) (w1:World),Below w.heap.size w w1→R.rd w1 B x vs→Calls P F (#[val vs]++cap) w1 fun e w'=>e=.returned (.bool (p x))∧Below w1.heap.size w1 w'
theorem bW.later {P:Program} {α:Type} {R:Reader α} {val:List Value→Value} {B:Nat} {w w':World} {F:FuncId} {cap:Array Value} {p:α→Bool} (h:bW P R val B w F cap p) (hb:Below w.heap.size w w'):bW P R val B w' F cap p:=
 fun x vs w1 h1 hr=>h x vs w1 (hb.trans (h1.mono hb.size)) hr
def cY (vs:List Value):Value:=.agg vs.toArray
def Aj (vs:List Value):Value:=vs.getD 0 undef
theorem jJ (d:Nat) (F:FuncId) (cap:Array Value) (p:Tm→Bool) (xs:List Tm) (A:Option Addr) (c B:Nat) (w:World)
 (hF:∀args (w:World),(callFunc F args).run Tryz.prog w=.ok (.enter F args) w) (hl:RL (TmR d) w B xs A) (hB:B≤w.heap.size) (hn:xs.length≤140737488351232)
 (ht:bW Tryz.prog (TmR d) cY B w F cap p) :
 Calls Tryz.prog 67 #[.slice A xs.length c,.func (.func F) #[] cap] w fun e w'=>e=.returned (.int .i64 (vW p xs))∧Below w.heap.size w w':=by
 have HT:=AE ht
 clear ht
 have hRk:(TmR d).k=4:=rfl
 go_enter Tryz.func67,Tryz.ntmps67
 go_wp2_with fail
 go_loopw [8] (fun i wr=>∃k:Nat,k≤xs.length∧i=.int .i64 k∧Below w.heap.size w wr∧∀i (hi:i<xs.length),i<k→p xs[i]=false) (fun i _=>xs.length-(intOf i).toNat)
 case atStart=>exact ⟨0,AH _,rfl,AI _ _,fun i hi h=>absurd h (by omega)⟩
 case round=>
  obtain ⟨k,hk,rfl,hbw,hall⟩:=hrel
  have HA:=AE hall
  clear hall
  by_cases hlt:k<xs.length
  ·obtain ⟨b,off,rfl,hb⟩:=hl.base hbw hB (by omega)
   obtain ⟨x,vs,hx,hlen,hcell,hr⟩:=hl.at_ hbw hB hlt
   rw [hRk] at hlen hcell
   obtain ⟨v0,v1,v2,v3,rfl⟩:∃v0 v1 v2 v3,vs=[v0,v1,v2,v3]:=by
    match vs,hlen with
    | [v0,v1,v2,v3],_=>exact ⟨_,_,_,_,rfl⟩
   have c0:wr.cell? ⟨b,off+k*4,none⟩=some v0:=hcell 0 _ rfl
   have c1:wr.cell? ⟨b,off+k*4+1,none⟩=some v1:=hcell 1 _ rfl
   have c2:wr.cell? ⟨b,off+k*4+2,none⟩=some v2:=hcell 2 _ rfl
   have c3:wr.cell? ⟨b,off+k*4+3,none⟩=some v3:=hcell 3 _ rfl
   have hsz:=hbw.size
   have HX:=AE hx
   clear hcell hlen hx
   go_wp2_with fail
   refine (HT.out x [v0,v1,v2,v3] _ hbw hr).mono ?_
   rintro e w1 ⟨rfl,hb1⟩
   have hbw1:=AE (hbw.trans (hb1.mono hsz))
   clear hb1
   have hxe:xs[k]=x:=(List.getElem?_eq_some_iff.1 HX.out).2
   have HXE:=AE hxe
   clear hxe
   by_cases hp:p x=true
   ·go_wp2_with fail
    go_ret
    exact ⟨av (gd hlt (by rw [HXE.out];exact hp) (fun i hi=>HA.out i (by omega) hi)).symm,hbw1.out⟩
   ·have hp:p x=false:=by simpa using hp
    go_wp2_with fail
    go_roundw
    case rel=>exact ⟨k+1,by omega,by go_num,hbw1.out,fun i hi h=>by
     rcases Nat.lt_or_ge i k with h1 | h1
     ·exact HA.out i hi h1
     ·obtain rfl:i=k:=by omega
      rw [HXE.out];exact hp⟩
    case measure=>simp [intOf];omega
  ·go_wp2_with fail
   go_ret
   exact ⟨av (gc (fun i hi=>HA.out i hi (by omega))).symm,hbw⟩
theorem bA (d:Nat) (F:FuncId) (cap:Array Value) (p:Tm→Bool) (xs:List Tm) (A:Option Addr) (c B:Nat) (w:World)
 (hF:∀args (w:World),(callFunc F args).run Tryz.prog w=.ok (.enter F args) w) (hl:RL (TmR d) w B xs A) (hB:B≤w.heap.size) (hn:xs.length≤140737488351232)
 (ht:bW Tryz.prog (TmR d) cY B w F cap p) :
 Calls Tryz.prog 45 #[.slice A xs.length c,.func (.func F) #[] cap] w fun e w'=>e=.returned (.bool (xs.any p))∧Below w.heap.size w w':=by
 have HT:=AE ht
 clear ht
 go_enter Tryz.func45,Tryz.ntmps45
 go_wp2_with (go_at_call 67;refine (jJ d F cap p xs A c B w hF hl hB hn HT.out).mono ?_;rintro e w1 ⟨rfl,hb1⟩)
 go_ret
 exact ⟨ac (iU p xs),hb1⟩
theorem mF (d:Nat) (M:FuncId) (p:Tm→Bool) (B G:Nat) (w:World) (hM:∀args (w:World),(callFunc M args).run Tryz.prog w=.ok (.enter M args) w)
 (hB:B≤w.heap.size) (hG:w.cell? ⟨G,0,none⟩=some (.func (.func M) #[] #[])) (ht:bW Tryz.prog (TmR d) cY B w M #[] p) :
 bW Tryz.prog (TmR d) cY B w 137 #[.pointer (some ⟨G,0,none⟩)] (fun x=>!p x):=by
 intro x vs w1 hb hr
 have hlen:vs.length=4:=(TmR d).len hr
 obtain ⟨v0,v1,v2,v3,rfl⟩:∃v0 v1 v2 v3,vs=[v0,v1,v2,v3]:=by
  match vs,hlen with
  | [v0,v1,v2,v3],_=>exact ⟨_,_,_,_,rfl⟩
 have hGl:G<w.heap.size:=block_lt_of_cell hG
 have hG1:w1.cell? ⟨G,0,none⟩=some (.func (.func M) #[] #[]):=(hb.cell (p:=⟨G,0,none⟩) hGl).trans hG
 have hGl1:G<w1.heap.size:=by have:=hb.size;omega
 have HB:=AE (fun o:Obj=>(AI w1.heap.size w1).alloc (AG _) o)
 have HT:=AE ht
 have HR:=AE hr
 have hBw:B≤w1.heap.size:=by have:=hb.size;omega
 clear ht hr
 show Calls Tryz.prog 137 #[.agg #[v0,v1,v2,v3],.pointer (some ⟨G,0,none⟩)] w1 _
 go_enter Tryz.func137,Tryz.ntmps137
 go_wp2_with fail
 refine (HT.out x [v0,v1,v2,v3] _ (hb.trans ((HB.out _).mono hb.size)) ((TmR d).keep (HB.out _) hBw HR.out)).mono ?_
 rintro e w2 ⟨rfl,hb2⟩
 have hfin:=AE ((HB.out _).trans (hb2.mono (HB.out _).size))
 clear hb2
 go_wp2_with fail
 go_ret
 exact ⟨rfl,hfin.out⟩
theorem qZ (d:Nat) (M:FuncId) (p:Tm→Bool) (most:Int) (xs:List Tm) (A:Option Addr) (c B:Nat) (w:World) (hM:∀args (w:World),(callFunc M args).run Tryz.prog w=.ok (.enter M args) w)
 (hl:RL (TmR d) w B xs A) (hB:B≤w.heap.size) (hn:xs.length≤140737488351232) (ht:bW Tryz.prog (TmR d) cY B w M #[] p) :
 Calls Tryz.prog 101 #[.slice A xs.length c,.int .i64 most,.func (.func M) #[] #[]] w fun e w'=>e=.returned (.bool (decide ((xs.length:Int)≤most)&&xs.all p))∧Below w.heap.size w w':=by
 have HB:=AE (fun o:Obj=>(AI w.heap.size w).alloc (AG _) o)
 have HT:=AE ht
 have HL:=AE hl
 clear ht hl
 by_cases hm:(xs.length:Int)≤most
 ·go_enter Tryz.func101,Tryz.ntmps101
  go_wp2_with fail
  refine (bA d 137 _ _ xs A c B _ (ent Tryz.func137 (by kernel_rfl) rfl) (HL.out.keep (HB.out _) hB) (AF hB (HB.out _).size) hn
   (mF d M p B w.heap.size _ hM (AF hB (HB.out _).size) (by go_simp) (HT.out.later (HB.out _)))).mono ?_
  rintro e w1 ⟨rfl,hb1⟩
  have hfin:=AE ((HB.out _).trans (hb1.mono (HB.out _).size))
  clear hb1
  go_wp2_with fail
  go_ret
  exact ⟨ac (by simp [hm,List.all_eq_not_any_not]),hfin.out⟩
 ·have hm':decide ((xs.length:Int)≤most)=false:=by simpa using hm
  go_enter Tryz.func101,Tryz.ntmps101
  go_wp2_with fail
  go_ret
  exact ⟨ac (by simp [hm]),HB.out _⟩
structure Pr where
 name:ByteArray
 terms:List Tm
structure OpD where
 kind:Int
 term:Tm
 code:Int
 skip:Int
structure Sc where
 kind:Int
 key:ByteArray
structure Ru where
 head:Pr
 body:List Pr
 exprs:List (List OpD)
 scopes:List Sc
def RSl {α:Type} (R:Reader α) (w:World) (B:Nat) (xs:List α) (v:Value):Prop:=∃A c,v=.slice A xs.length c∧xs.length≤c∧(xs.length*(8*R.k)≤140737488351232∧c≤9223372036854775807)∧RL R w B xs A
section
variable {α:Type} {R:Reader α} {w w':World} {B B' C:Nat} {xs:List α} {v:Value}
theorem RSl.keep (h:RSl R w B xs v) (hw:Below C w w') (hB:B≤C):RSl R w' B xs v:=by
 obtain ⟨A,c,rfl,h1,h2,h3⟩:=h
 exact ⟨A,c,rfl,h1,h2,h3.keep hw hB⟩
theorem RSl.wide (h:RSl R w B xs v) (hB:B≤B'):RSl R w B' xs v:=by
 obtain ⟨A,c,rfl,h1,h2,h3⟩:=h
 exact ⟨A,c,rfl,h1,h2,h3.wide hB⟩
end
def cX:Reader ByteArray where
 k:=1
 rd:=fun _ _ s vs=>vs=[.string s]∧s.size≤140737488351232
 keep:=fun _ _ h=>h
 wide:=fun _ h=>h
 len:=fun h=>by rw [h.1];rfl
def PrR (d:Nat):Reader Pr where
 k:=2
 rd:=fun w B p vs=>∃v,vs=[.string p.name,v]∧p.name.size≤140737488351232∧RSl (TmR d) w B p.terms v
 keep:=fun hw hB ⟨v,e,h1,h2⟩=>⟨v,e,h1,h2.keep hw hB⟩
 wide:=fun hB ⟨v,e,h1,h2⟩=>⟨v,e,h1,h2.wide hB⟩
 len:=fun ⟨_,e,_⟩=>by rw [e];rfl
def OpR (d:Nat):Reader OpD where
 k:=7
 rd:=fun w B o vs=>∃ts,vs=.int .i64 o.kind::(ts++[.int .i64 o.code,.int .i64 o.skip])∧I64 o.kind∧I64 o.code∧I64 o.skip∧RTm w B d o.term ts
 keep:=fun hw hB ⟨ts,e,h1,h2,h3,h⟩=>⟨ts,e,h1,h2,h3,RTm.below hw hB h⟩
 wide:=fun hB ⟨ts,e,h1,h2,h3,h⟩=>⟨ts,e,h1,h2,h3,RTm.more hB h⟩
 len:=fun ⟨ts,e,_,_,_,h⟩=>by
  obtain ⟨_,_,rfl,_⟩:=RTm.cells h
  rw [e];rfl
def ExR (d:Nat):Reader (List OpD) where
 k:=1
 rd:=fun w B e vs=>∃v,vs=[v]∧RSl (OpR d) w B e v
 keep:=fun hw hB ⟨v,e,h⟩=>⟨v,e,h.keep hw hB⟩
 wide:=fun hB ⟨v,e,h⟩=>⟨v,e,h.wide hB⟩
 len:=fun ⟨_,e,_⟩=>by rw [e];rfl
def ScR:Reader Sc where
 k:=2
 rd:=fun _ _ s vs=>vs=[.int .i64 s.kind,.string s.key]∧I64 s.kind∧s.key.size≤140737488351232
 keep:=fun _ _ h=>h
 wide:=fun _ h=>h
 len:=fun h=>by rw [h.1];rfl
def RuR (d:Nat):Reader Ru where
 k:=5
 rd:=fun w B r vs=>∃v0 v1 v2 v3,vs=[.string r.head.name,v0,v1,v2,v3]∧r.head.name.size≤140737488351232∧RSl (TmR d) w B r.head.terms v0∧RSl (PrR d) w B r.body v1∧RSl (ExR d) w B r.exprs v2∧RSl ScR w B r.scopes v3
 keep:=fun hw hB ⟨a,b,c,d,e,h,h0,h1,h2,h3⟩=>⟨a,b,c,d,e,h,h0.keep hw hB,h1.keep hw hB,h2.keep hw hB,h3.keep hw hB⟩
 wide:=fun hB ⟨a,b,c,d,e,h,h0,h1,h2,h3⟩=>⟨a,b,c,d,e,h,h0.wide hB,h1.wide hB,h2.wide hB,h3.wide hB⟩
 len:=fun ⟨_,_,_,_,e,_⟩=>by rw [e];rfl
end Go.Proofs.YtjpndglegpcdnaaGreat
