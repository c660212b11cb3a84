/- ask.Check, Policies. Printed by mk_ask2.py. -/
import Derived.Test.YtdphibjibnffeaaGreatRule2
import Derived.Test.YtdphibjibnffeaaGreatRule4
import Derived.Test.YtdphibjibnffeaaGreatOwn
import Derived.Test.YtdphibjibnffeaaGreatAsk
set_option linter.unusedVariables false
set_option linter.unusedSimpArgs false
set_option maxRecDepth 100000
set_option maxHeartbeats 8000000
namespace Go.Proofs.YtdphibjibnffeaaGreat
open Go.ChangeShapes Go.WideShapes Go.ChangeAt Go.RowKit
def qV (i:Nat):Int:=((2 ^ i:Nat):Int)
def jk (key:ByteArray):List ByteArray→Nat→Int→Int
 | [],_,n=>n
 | k::ks,i,n=>if 8≤i then n else jk key ks (i+1) (if (k.toList==key.toList)=true then orO n (qV i) else n)
def dq (own:Int) (keys:List ByteArray) (s:Sc) (n:Int):Int:=
 if s.kind=1 then orO n 1
 else if s.kind=2∧1≤own∧own<8 then orO n (qV own.toNat-1)
 else if s.kind=3∧s.key.size≠0 then jk s.key keys 0 n
 else n
def ofR (own:Int) (keys:List ByteArray):List Sc→Int→Int
 | [],n=>n
 | s::ss,n=>ofR own keys ss (dq own keys s n)
def aM (rule block:List Sc) (own:Int) (keys:List ByteArray):Int:=
 orO (if 0≤own∧own<8 then orO (if 0<rule.length then ofR own keys rule 0 else if 0<block.length then ofR own keys block 0 else 1) (qV own.toNat) else (if 0<rule.length then ofR own keys rule 0 else if 0<block.length then ofR own keys block 0 else 1)) (qV 15)
theorem bX (i:Nat) (hi:i<16) (w:World):Calls Tryz.prog 136 #[.int .i64 i] w fun z w'=>z=.returned (.int .u32 (qV i))∧w=w':=by
 have h0:(0:Int)≤(i:Int):=Int.natCast_nonneg _
 go_enter Tryz.func136,Tryz.ntmps136
 go_wp2_with fail
 go_ret
 refine ⟨ak ?_,rfl⟩
 unfold qV
 have h1:(2:Nat) ^ i≤2 ^ 15:=Nat.pow_le_pow_right (by omega) (by omega)
 have h2:((2 ^ i:Nat):Int)=(2:Int) ^ i:=by simp
 rw [h2]
 have h3:(2:Int) ^ i≤32768:=by rw [←h2];omega
 have h4:(0:Int)≤(2:Int) ^ i:=by rw [←h2];exact Int.natCast_nonneg _
 exact Int.emod_eq_of_lt h4 (by omega)
theorem vd {key:ByteArray} {ks:List ByteArray} {i:Nat} {n:Int} (h:8≤i∨ks=[]):jk key ks i n=n:=by
 cases ks with
 | nil=>rfl
 | cons k ks=>rw [jk,if_pos (h.resolve_right (by simp))]
theorem sA {key:ByteArray} {ks:List ByteArray} {i:Nat} {n:Int} (h:i<8) (hi:i<ks.length):jk key (ks.drop i) i n=jk key (ks.drop (i+1)) (i+1) (if (ks[i].toList==key.toList)=true then orO n (qV i) else n):=by
 rw [List.drop_eq_getElem_cons hi,jk,if_neg (by omega)]
theorem xM {own:Int} {keys:List ByteArray} {l:List Sc} {k:Nat} {s:Sc} {n:Int} (h:l[k]? = some s):ofR own keys (l.drop k) n=ofR own keys (l.drop (k+1)) (dq own keys s n):=by
 obtain ⟨hk,rfl⟩:=List.getElem?_eq_some_iff.1 h
 rw [List.drop_eq_getElem_cons hk,ofR]
theorem yN {B c ck:Nat} {l:List Sc} {A Ak:Option Addr} {keys:List ByteArray} {own:Int} {w:World} (hl:RL ScR w B l A) (hk:RL cr w B keys Ak) (ho:I64 own) (hB:B≤w.heap.size) (hn:l.length≤140737488351232) (hkn:keys.length≤140737488351232) :
 Calls Tryz.prog 137 #[.slice A l.length c,.int .i64 own,.slice Ak keys.length ck] w fun z w'=>z=.returned (.int .u32 (ofR own keys l 0))∧Below w.heap.size w w':=by
 have HL:=zl hl
 have HK:=zl hk
 have HOW:=zl ho
 clear hl hk ho
 go_enter Tryz.func137,Tryz.ntmps137
 go_wp2_with fail
 go_loopw [7,13] (fun u i wr=>∃(k:Nat) (n:Int),k≤l.length∧i=.int .i64 k∧u=.int .u32 n∧Hid (ofR own keys l 0=ofR own keys (l.drop k) n)∧Hid (Below w.heap.size w wr)) (fun _ i _=>l.length-(intOf i).toNat)
 case atStart=>exact ⟨0,0,zo _,rfl,rfl,zl rfl,zl (zp _ _)⟩
 case round=>
  obtain ⟨k,n,hk,rfl,rfl,HE,HW⟩:=hrel
  have hszr:=HW.out.size
  by_cases hlt:k<l.length
  ·obtain ⟨b,off,rfl,hob⟩:=HL.out.base HW.out hB (by omega)
   obtain ⟨x,vs,hx,hlen,hcell,hr⟩:=HL.out.at_ HW.out hB hlt
   obtain ⟨rfl,hi1,hi2⟩:=hr
   have c0:wr.cell? ⟨b,off+k*2,none⟩=some (.int .i64 x.kind):=hcell 0 _ rfl
   have c1:wr.cell? ⟨b,off+k*2+1,none⟩=some (.string x.key):=hcell 1 _ rfl
   have HE2:Hid (ofR own keys l 0=ofR own keys (l.drop (k+1)) (dq own keys x n)):=zl (HE.out.trans (xM hx))
   clear hx hcell hlen hi1
   go_upto_region 5 with fail
   generalize hW2:World.alloc _ _=w2
   obtain ⟨hb2,hz2⟩:=al1 hW2
   have HS2:=zl (n11 hW2)
   have HB2:=zl (ab HW.out hb2)
   have hsz2:=hb2.size
   clear hW2 hb2 hz2 c0 c1
   have k_s:=HS2.out.cell
   have l_s:=HS2.out.lt
   by_cases h1:x.kind=1
   ·have HV:Hid (dq own keys x n=orO n 1):=zl (by unfold dq;rw [if_pos h1])
    have hk1:(x.kind==1)=true:=by simpa using h1
    clear h1
    go_wp2_with fail
    refine (bX 0 (by omega) _).mono ?_
    rintro z w3 ⟨rfl,rfl⟩
    go_wp2_with fail
    go_roundw
    case rel=>exact ⟨k+1,_,by omega,by go_num,rfl,zl (HE2.out.trans (by rw [HV.out];rfl)),HB2⟩
    case measure=>simp [intOf];omega
   ·have hk1:(x.kind==1)=false:=by simpa using h1
    by_cases h2:x.kind=2
    ·have hk2:(x.kind==2)=true:=by simpa using h2
     by_cases ho1:1≤own
     ·by_cases ho2:own<8
      ·obtain ⟨o,rfl⟩:∃o:Nat,own=o:=⟨own.toNat,by omega⟩
       have HV:Hid (dq o keys x n=orO n (qV o-1)):=zl (by unfold dq;rw [if_neg h1,if_pos ⟨h2,ho1,ho2⟩];simp)
       have hwb:IntKind.u32.wrap (qV o-1)=qV o-1:=by
        have h5:(2:Nat) ^ o≤2 ^ 15:=Nat.pow_le_pow_right (by omega) (by omega)
        have h6:0<(2:Nat) ^ o:=Nat.pow_pos (by omega)
        unfold qV
        rw [IntKind.wrap_u32']
        omega
       clear h1 h2
       go_wp2_with fail
       refine (bX o (by omega) _).mono ?_
       rintro z w3 ⟨rfl,rfl⟩
       go_wp2_with fail
       go_roundw
       case rel=>exact ⟨k+1,_,by omega,by go_num,rfl,zl (HE2.out.trans (by rw [HV.out];rfl)),HB2⟩
       case measure=>simp [intOf];omega
      ·have HV:Hid (dq own keys x n=n):=zl (by unfold dq;rw [if_neg h1,if_neg (by omega),if_neg (by omega)])
       have hk3:(x.kind==3)=false:=by rw [h2];rfl
       clear h1 h2
       go_wp2_with fail
       go_roundw
       case rel=>exact ⟨k+1,_,by omega,by go_num,rfl,zl (HE2.out.trans (by rw [HV.out])),HB2⟩
       case measure=>simp [intOf];omega
     ·have HV:Hid (dq own keys x n=n):=zl (by unfold dq;rw [if_neg h1,if_neg (by omega),if_neg (by omega)])
      have hk3:(x.kind==3)=false:=by rw [h2];rfl
      clear h1 h2
      go_wp2_with fail
      go_roundw
      case rel=>exact ⟨k+1,_,by omega,by go_num,rfl,zl (HE2.out.trans (by rw [HV.out])),HB2⟩
      case measure=>simp [intOf];omega
    ·have hk2:(x.kind==2)=false:=by simpa using h2
     by_cases h3:x.kind=3
     ·have hk3:(x.kind==3)=true:=by simpa using h3
      by_cases hke:x.key.size=0
      ·have HV:Hid (dq own keys x n=n):=zl (by unfold dq;rw [if_neg h1,if_neg (by omega),if_neg (by omega)])
       have hem:x.key.toList.isEmpty=true:=by rw [ByteArray.toList_eq];exact List.isEmpty_iff.2 (List.eq_nil_of_length_eq_zero (by simpa using hke))
       clear h1 h2 h3
       go_wp2_with fail
       go_roundw
       case rel=>exact ⟨k+1,_,by omega,by go_num,rfl,zl (HE2.out.trans (by rw [HV.out])),HB2⟩
       case measure=>simp [intOf];omega
      ·have HV:Hid (dq own keys x n=jk x.key keys 0 n):=zl (by unfold dq;rw [if_neg h1,if_neg (by omega),if_pos ⟨h3,hke⟩])
       have hem:x.key.toList.isEmpty=false:=by
        rw [ByteArray.toList_eq,List.isEmpty_eq_false_iff]
        intro e
        exact hke (by have:=congrArg List.length e;simpa using this)
       clear h1 h2 h3
       obtain ⟨mm,hmm⟩:∃mm,mm=min keys.length 8:=⟨_,rfl⟩
       have hmi:min (keys.length:Int) 8=(mm:Int):=by omega
       have hm1:mm≤keys.length:=by omega
       have hm2:mm≤8:=by omega
       have HMM:Hid (mm=8∨mm=keys.length):=zl (by omega)
       clear hmm
       go_upto_region 11 with fail
       clear k_s
       generalize wr=wo at *
       go_loopw [7,53] (fun u i wr=>∃(j:Nat) (n2:Int),j≤mm∧i=.int .i64 j∧u=.int .u32 n2∧Hid (jk x.key keys 0 n=jk x.key (keys.drop j) j n2)∧Hid (Below w2.heap.size w2 wr)) (fun _ i _=>mm-(intOf i).toNat)
       case atStart=>exact ⟨0,n,zo _,rfl,rfl,zl rfl,zl (zp _ _)⟩
       case round=>
        obtain ⟨j,n2,hj,rfl,rfl,HJ,HWJ⟩:=hrel
        have hszj:=HWJ.out.size
        have HB3:=zl (ab HB2.out HWJ.out)
        by_cases hjl:j<mm
        ·have hjk:j<keys.length:=by omega
         obtain ⟨b2,off2,rfl,hob2⟩:=HK.out.base HB3.out hB (by omega)
         obtain ⟨y,vs2,hy,_,hcell2,hr2⟩:=HK.out.at_ HB3.out hB hjk
         obtain ⟨rfl,hy2⟩:=hr2
         have d0:wr.cell? ⟨b2,off2+j*1,none⟩=some (.string y):=hcell2 0 _ rfl
         rw [Nat.mul_one] at d0
         have HJ2:Hid (jk x.key keys 0 n=jk x.key (keys.drop (j+1)) (j+1) (if (y.toList==x.key.toList)=true then orO n2 (qV j) else n2)):=zl (by
          rw [HJ.out,sA (by omega) hjk,(List.getElem?_eq_some_iff.1 hy).2])
         have hI0:(0:Int)≤(j:Int):=Int.natCast_nonneg _
         have hI1:(j:Int)<(keys.length:Int):=by omega
         have q_s:=(HS2.out.later HWJ.out).regrown
         have q0:=cell_regrown d0
         clear hcell2 hy d0
         by_cases heq:(y.toList==x.key.toList)=true
         ·have HJ3:=zl (HJ2.out.trans (by rw [if_pos heq]))
          clear HJ2
          go_upto_region 13 with fail
          refine wp_region_quiet_below (by kernel_rfl) (by kernel_rfl) ?_
          repeat (go_big_quiet_step (fail))
          refine wpQuiet_nil ?_
          intro w4 hw_
          have hb:Below wr.heap.size wr w4:=by obtain ⟨p_,rfl⟩:=hw_;exact below_regrown _ _ _
          have HB4:=zl (ab HWJ.out hb)
          clear hw_ hb q_s q0
          go_wp2_with fail
          refine (bX j (by omega) _).mono ?_
          rintro z w5 ⟨rfl,rfl⟩
          go_wp2_with fail
          go_roundw
          case rel=>exact ⟨j+1,_,by omega,by go_num,rfl,HJ3,HB4⟩
          case measure=>simp [intOf];omega
         ·have HJ3:=zl (HJ2.out.trans (by rw [if_neg heq]))
          have heq':(y.toList==x.key.toList)=false:=by simpa using heq
          clear HJ2
          go_upto_region 13 with fail
          refine wp_region_quiet_below (by kernel_rfl) (by kernel_rfl) ?_
          repeat (go_big_quiet_step (fail))
          refine wpQuiet_nil ?_
          intro w4 hw_
          have hb:Below wr.heap.size wr w4:=by obtain ⟨p_,rfl⟩:=hw_;exact below_regrown _ _ _
          have HB4:=zl (ab HWJ.out hb)
          clear hw_ hb q_s q0
          go_wp2_with fail
          go_roundw
          case rel=>exact ⟨j+1,_,by omega,by go_num,rfl,HJ3,HB4⟩
          case measure=>simp [intOf];omega
        ·have HVK:Hid (jk x.key keys 0 n=n2):=zl (by
          rw [HJ.out]
          exact vd (by
           rcases HMM.out with h | h
           ·exact .inl (by omega)
           ·exact .inr (List.drop_eq_nil_iff.2 (by omega))))
         go_wp2_with fail
         go_roundw
         case rel=>exact ⟨k+1,_,by omega,by go_num,rfl,zl (HE2.out.trans (by rw [HV.out,HVK.out])),HB3⟩
         case measure=>simp [intOf];omega
     ·have HV:Hid (dq own keys x n=n):=zl (by unfold dq;rw [if_neg h1,if_neg (by omega),if_neg (by omega)])
      have hk3:(x.kind==3)=false:=by simpa using h3
      clear h1 h2 h3
      go_wp2_with fail
      go_roundw
      case rel=>exact ⟨k+1,_,by omega,by go_num,rfl,zl (HE2.out.trans (by rw [HV.out])),HB2⟩
      case measure=>simp [intOf];omega
  ·have HV:Hid (ofR own keys l 0=n):=zl (by rw [HE.out,List.drop_eq_nil_iff.2 (by omega)];rfl)
   go_wp2_with fail
   go_ret
   exact ⟨ak HV.out.symm,HW.out⟩
theorem lz {B c c2 ck:Nat} {l l2:List Sc} {A A2 Ak:Option Addr} {keys:List ByteArray} {own:Int} {w:World} (hl:RL ScR w B l A) (hl2:RL ScR w B l2 A2) (hk:RL cr w B keys Ak) (ho:I64 own) (hB:B≤w.heap.size) (hn:l.length≤140737488351232) (hn2:l2.length≤140737488351232) (hkn:keys.length≤140737488351232) :
 Calls Tryz.prog 79 #[.slice A l.length c,.slice A2 l2.length c2,.int .i64 own,.slice Ak keys.length ck] w fun z w'=>z=.returned (.int .u32 (aM l l2 own keys))∧Below w.heap.size w w':=by
 have HL:=zl (yN (c:=c) (ck:=ck) hl hk ho hB hn hkn)
 have HL2:=zl (yN (c:=c2) (ck:=ck) hl2 hk ho hB hn2 hkn)
 clear hl hl2 hk
 have HT:Hid (aM l l2 own keys=orO (if 0≤own∧own<8 then orO (if 0<l.length then ofR own keys l 0 else if 0<l2.length then ofR own keys l2 0 else 1) (qV own.toNat) else (if 0<l.length then ofR own keys l 0 else if 0<l2.length then ofR own keys l2 0 else 1)) (qV 15)):=zl rfl
 go_enter Tryz.func79,Tryz.ntmps79
 go_wp2_with fail
 refine (bX 0 (by omega) _).mono ?_
 rintro z w1 ⟨rfl,rfl⟩
 by_cases hl0:0<l.length
 ·have hl0':(0:Int)<(l.length:Int):=by omega
  rw [if_pos hl0] at HT
  go_wp2_with fail
  refine HL.out.mono ?_
  rintro z w2 ⟨rfl,hb2⟩
  have HB2:=zl hb2
  generalize ofR own keys l 0=n at *
  clear hb2 hl0 HL HL2
  by_cases ho1:0≤own
  ·by_cases ho2:own<8
   ·obtain ⟨o,rfl⟩:∃o:Nat,own=o:=⟨own.toNat,by omega⟩
    rw [if_pos ⟨ho1,ho2⟩,Int.toNat_natCast] at HT
    go_wp2_with fail
    refine (bX o (by omega) _).mono ?_
    rintro z w3 ⟨rfl,rfl⟩
    go_wp2_with fail
    refine (bX 15 (by omega) _).mono ?_
    rintro z w3 ⟨rfl,rfl⟩
    go_wp2_with fail
    go_ret
    exact ⟨ak HT.out.symm,HB2.out⟩
   ·rw [if_neg (by omega)] at HT
    go_wp2_with fail
    refine (bX 15 (by omega) _).mono ?_
    rintro z w3 ⟨rfl,rfl⟩
    go_wp2_with fail
    go_ret
    exact ⟨ak HT.out.symm,HB2.out⟩
  ·rw [if_neg (by omega)] at HT
   go_wp2_with fail
   refine (bX 15 (by omega) _).mono ?_
   rintro z w3 ⟨rfl,rfl⟩
   go_wp2_with fail
   go_ret
   exact ⟨ak HT.out.symm,HB2.out⟩
 ·have hl0':¬(0:Int)<(l.length:Int):=by omega
  rw [if_neg hl0] at HT
  by_cases hl1:0<l2.length
  ·have hl1':(0:Int)<(l2.length:Int):=by omega
   rw [if_pos hl1] at HT
   go_wp2_with fail
   refine HL2.out.mono ?_
   rintro z w2 ⟨rfl,hb2⟩
   have HB2:=zl hb2
   generalize ofR own keys l2 0=n at *
   clear hb2 hl0 HL HL2
   by_cases ho1:0≤own
   ·by_cases ho2:own<8
    ·obtain ⟨o,rfl⟩:∃o:Nat,own=o:=⟨own.toNat,by omega⟩
     rw [if_pos ⟨ho1,ho2⟩,Int.toNat_natCast] at HT
     go_wp2_with fail
     refine (bX o (by omega) _).mono ?_
     rintro z w3 ⟨rfl,rfl⟩
     go_wp2_with fail
     refine (bX 15 (by omega) _).mono ?_
     rintro z w3 ⟨rfl,rfl⟩
     go_wp2_with fail
     go_ret
     exact ⟨ak HT.out.symm,HB2.out⟩
    ·rw [if_neg (by omega)] at HT
     go_wp2_with fail
     refine (bX 15 (by omega) _).mono ?_
     rintro z w3 ⟨rfl,rfl⟩
     go_wp2_with fail
     go_ret
     exact ⟨ak HT.out.symm,HB2.out⟩
   ·rw [if_neg (by omega)] at HT
    go_wp2_with fail
    refine (bX 15 (by omega) _).mono ?_
    rintro z w3 ⟨rfl,rfl⟩
    go_wp2_with fail
    go_ret
    exact ⟨ak HT.out.symm,HB2.out⟩
  ·have hl1':¬(0:Int)<(l2.length:Int):=by omega
   rw [if_neg hl1] at HT
   have HB2:Hid (Below w.heap.size w w):=zl (zp _ _)
   clear hl0 HL HL2
   by_cases ho1:0≤own
   ·by_cases ho2:own<8
    ·obtain ⟨o,rfl⟩:∃o:Nat,own=o:=⟨own.toNat,by omega⟩
     rw [if_pos ⟨ho1,ho2⟩,Int.toNat_natCast] at HT
     go_wp2_with fail
     refine (bX o (by omega) _).mono ?_
     rintro z w3 ⟨rfl,rfl⟩
     go_wp2_with fail
     refine (bX 15 (by omega) _).mono ?_
     rintro z w3 ⟨rfl,rfl⟩
     go_wp2_with fail
     go_ret
     exact ⟨ak HT.out.symm,HB2.out⟩
    ·rw [if_neg (by omega)] at HT
     go_wp2_with fail
     refine (bX 15 (by omega) _).mono ?_
     rintro z w3 ⟨rfl,rfl⟩
     go_wp2_with fail
     go_ret
     exact ⟨ak HT.out.symm,HB2.out⟩
   ·rw [if_neg (by omega)] at HT
    go_wp2_with fail
    refine (bX 15 (by omega) _).mono ?_
    rintro z w3 ⟨rfl,rfl⟩
    go_wp2_with fail
    go_ret
    exact ⟨ak HT.out.symm,HB2.out⟩
def dS (l:List Ru):Bool:=decide (1≤l.length)&&(decide ((l.length:Int)≤8)&&l.all ay)
def bM (c:Ck):Bool:=dS c.queries
theorem lV {d B:Nat} {w:World} (hB:B≤w.heap.size):bz Tryz.prog (RuR d) bP B w 54 #[] ay:=fun x vs w1 hb hr=>by
 obtain ⟨_,_,_,_,rfl,_⟩:=id hr
 exact eq (d:=d) (B:=B) (vs:=[_,_,_,_,_]) hr (by have:=hb.size;omega)
theorem ls (d:Nat) (l:List Ru) (A:Option Addr) (c B:Nat) (w:World) (hl:RL (RuR d) w B l A) (hB:B≤w.heap.size) (hn:l.length≤140737488351232) :
 Calls Tryz.prog 135 #[.slice A l.length c] w fun e w'=>e=.returned (.bool (dS l))∧Below w.heap.size w w':=by
 by_cases h1:1≤l.length
 ·have u1:(l.length:Int)≥1:=by omega
  go_enter Tryz.func135,Tryz.ntmps135
  go_wp2_with fail
  refine (pW d 54 ay 8 l A c B w (ent Tryz.func54 (by kernel_rfl) rfl) hl hB (by omega) (lV hB)).mono ?_
  rintro e w1 ⟨rfl,hb1⟩
  have HM:=zl (show dS l=(decide ((l.length:Int)≤8)&&l.all ay) by rw [dS,decide_eq_true h1,Bool.true_and])
  have HB1:=zl hb1
  obtain ⟨bb,hbb⟩:∃bb,bb=(decide ((l.length:Int)≤8)&&l.all ay):=⟨_,rfl⟩
  have HBB:=zl hbb
  rw [←hbb]
  clear hb1 hbb
  go_wp2_with fail
  go_ret
  exact ⟨ac (by rw [HM.out,HBB.out]),HB1.out⟩
 ·have u1:¬(l.length:Int)≥1:=by omega
  go_enter Tryz.func135,Tryz.ntmps135
  go_wp2_with fail
  go_ret
  exact ⟨ac (by rw [dS,decide_eq_false h1];rfl),zp _ _⟩
theorem oz {d B:Nat} {x:Ck} {vs:List Value} {w:World} (hx:(CkR d).rd w B x vs) (hB:B≤w.heap.size) :
 Calls Tryz.prog 78 #[.agg vs.toArray] w fun e w'=>e=.returned (.bool (bM x))∧Below w.heap.size w w':=by
 obtain ⟨_,rfl,A,c,rfl,h1,h2,hl⟩:=hx
 simp only [RuR] at h2
 have HL:=zl hl
 clear hl
 go_enter Tryz.func78,Tryz.ntmps78
 go_wp2_with fail
 generalize hW:World.alloc _ _=w1
 obtain ⟨hb,hz⟩:=al1 hW
 clear hW
 refine (ls d x.queries A c B w1 (HL.out.keep hb hB) (by omega) (by omega)).mono ?_
 rintro e w2 ⟨rfl,hb2⟩
 have HB:=zl (ab hb hb2)
 clear hb hb2 hz
 go_wp2_with fail
 go_ret
 exact ⟨rfl,HB.out⟩
theorem nd {d B:Nat} {x:Ck} {vs:List Value} {w:World} (hx:(CkR d).rd w B x vs) (hB:B≤w.heap.size) :
 Calls Tryz.prog 85 #[.agg vs.toArray] w fun e w'=>e=.returned (.bool (bM x))∧Below w.heap.size w w':=by
 obtain ⟨_,rfl,A,c,rfl,h1,h2,hl⟩:=hx
 simp only [RuR] at h2
 have HL:=zl hl
 clear hl
 go_enter Tryz.func85,Tryz.ntmps85
 go_wp2_with fail
 generalize hW:World.alloc _ _=w1
 obtain ⟨hb,hz⟩:=al1 hW
 clear hW
 refine (ls d x.queries A c B w1 (HL.out.keep hb hB) (by omega) (by omega)).mono ?_
 rintro e w2 ⟨rfl,hb2⟩
 have HB:=zl (ab hb hb2)
 clear hb hb2 hz
 go_wp2_with fail
 go_ret
 exact ⟨rfl,HB.out⟩
def eG (fs:List Fc) (all:Bool) (tr:Int) (q:Ru):Bool × Int:=if all=true then dE fs tr q else ga fs tr q
def uh (fs:List Fc) (all:Bool) (block:List Sc) (own:Int) (keys:List ByteArray):List Ru→Bool × Int
 | []=>(false,0)
 | q::qs=>if (eG fs all (aM q.scopes block own keys) q).1=true∨(eG fs all (aM q.scopes block own keys) q).2≠0 then eG fs all (aM q.scopes block own keys) q else uh fs all block own keys qs
def be (fs:List Fc) (block:List Sc) (own:Int) (keys:List ByteArray) (c:Ck):Bool × Int:=if bM c=true then uh fs c.all block own keys c.queries else (false,1)
theorem nJ {fs:List Fc} {all:Bool} {block:List Sc} {own:Int} {keys:List ByteArray} {l:List Ru} {k:Nat} {q:Ru} (h:l[k]? = some q):uh fs all block own keys (l.drop k)=if (eG fs all (aM q.scopes block own keys) q).1=true∨(eG fs all (aM q.scopes block own keys) q).2≠0 then eG fs all (aM q.scopes block own keys) q else uh fs all block own keys (l.drop (k+1)):=by
 obtain ⟨hk,rfl⟩:=List.getElem?_eq_some_iff.1 h
 rw [List.drop_eq_getElem_cons hk,uh]
theorem ug {d baseS B S cs cb ck:Nat} {c:Ck} {vc:List Value} {w:World} {fs:List FV} {As Ab Ak:Option Addr} {blk:List Sc} {own m:Int} {keys:List ByteArray} (hc:(CkR (d+1)).rd w B c vc) (hbl:RL ScR w B blk Ab) (hks:RL cr w B keys Ak) (ho:I64 own) (hbn:blk.length≤140737488351232) (hkn:keys.length≤140737488351232) (hB:B≤w.heap.size) (hS:StA baseS d w S fs As cs) (hfew:fs.length≤100000) (hm:w.cell? ⟨0,0,none⟩=some (.int .i64 m)) (hp:0<w.heap.size) :
 Calls Tryz.prog 29 #[.agg vc.toArray,.pointer (some ⟨S,0,none⟩),.slice Ab blk.length cb,.int .i64 own,.slice Ak keys.length ck] w fun z w'=>z=.returned (.tuple #[.bool (be (fs.map FV.f) blk own keys c).1,.int .i64 (be (fs.map FV.f) blk own keys c).2])∧Below w.heap.size w w':=by
 have HC:=zl hc
 have HBL:=zl hbl
 have HKS:=zl hks
 have HOW:=zl ho
 have HS:=zl hS
 have HM:=zl hm
 obtain ⟨_,rfl,Aq,cq,rfl,hq1,hq2,hql⟩:=hc
 simp only [RuR] at hq2
 have HQL:=zl hql
 clear hbl hks ho hS hm hql
 go_enter Tryz.func29,Tryz.ntmps29
 go_upto_region 1 with fail
 generalize hW:World.alloc _ _=w1
 obtain ⟨hb1,hz⟩:=al1 hW
 have HK1:=zl (n11 hW)
 have HB1:=zl hb1
 have hsz1:=hb1.size
 clear hW hb1 hz
 have k_r:=HK1.out.cell
 have l_r:=HK1.out.lt
 go_wp2_with fail
 refine (oz (d:=d+1) (B:=B) (x:=c) (vs:=[_,_]) ((CkR (d+1)).keep HB1.out hB HC.out) (zm hB hsz1)).mono ?_
 rintro z w2 ⟨rfl,hb2⟩
 have HK2:=zl (HK1.out.later hb2)
 have HB2:=zl (ab HB1.out hb2)
 have hsz2:=HB2.out.size
 clear hb2 k_r l_r
 have k_r:=HK2.out.cell
 have l_r:=HK2.out.lt
 by_cases hq:bM c=true
 rotate_left
 ·have HV:Hid (be (fs.map FV.f) blk own keys c=(false,1)):=zl (by unfold be;rw [if_neg hq])
  simp only [Bool.not_eq_true] at hq
  rw [hq]
  go_wp2_with fail
  go_ret2
  exact ⟨by rw [HV.out];rfl,HB2.out⟩
 have HV0:Hid (be (fs.map FV.f) blk own keys c=uh (fs.map FV.f) c.all blk own keys c.queries):=zl (by unfold be;rw [if_pos hq])
 rw [hq]
 clear hq
 obtain ⟨ca,cqs⟩:=c
 simp only at *
 cases ca
 ·go_upto_region 7 with fail
  clear k_r l_r
  go_loopw [25] (fun i wr=>∃k:Nat,k≤cqs.length∧i=.int .i64 k∧Hid (be (fs.map FV.f) blk own keys ⟨false,cqs⟩=uh (fs.map FV.f) false blk own keys (cqs.drop k))∧Hid (Below w2.heap.size w2 wr)) (fun i _=>cqs.length-(intOf i).toNat)
  case atStart=>exact ⟨0,zo _,rfl,HV0,zl (zp _ _)⟩
  case round=>
   obtain ⟨k,hk,rfl,HE,HW⟩:=hrel
   have hszr:=HW.out.size
   have HBr:=zl (ab HB2.out HW.out)
   have hBr:B≤wr.heap.size:=zm hB HBr.out.size
   by_cases hlt:k<cqs.length
   ·obtain ⟨b,off,rfl,hob⟩:=(HQL.out.keep HBr.out hB).base (zp _ _) hBr (by omega)
    obtain ⟨q,vs,hx,hlen,hcell,hr⟩:=(HQL.out.keep HBr.out hB).at_ (zp _ _) hBr hlt
    have HQ:=zl hr
    obtain ⟨_,_,_,_,rfl,_,⟨A0,c0,rfl,_⟩,⟨A1,c1,rfl,_⟩,⟨A2,c2,rfl,_⟩,⟨A3,c3,rfl,g1,g2,gl⟩⟩:=hr
    have HSC:=zl gl
    have HSN:Hid (q.scopes.length≤140737488351232):=zl (by have:=g2.1;simp only [ScR] at this;omega)
    have p0:wr.cell? ⟨b,off+k*5,none⟩=some (.string q.head.name):=hcell 0 _ rfl
    have p1:wr.cell? ⟨b,off+k*5+1,none⟩=some (.slice A0 q.head.terms.length c0):=hcell 1 _ rfl
    have p2:wr.cell? ⟨b,off+k*5+2,none⟩=some (.slice A1 q.body.length c1):=hcell 2 _ rfl
    have p3:wr.cell? ⟨b,off+k*5+3,none⟩=some (.slice A2 q.exprs.length c2):=hcell 3 _ rfl
    have p4:wr.cell? ⟨b,off+k*5+4,none⟩=some (.slice A3 q.scopes.length c3):=hcell 4 _ rfl
    have HE1:=zl (HE.out.trans (nJ hx))
    clear hcell hlen hx gl g1 g2
    go_upto_region 9 with fail
    generalize hW:World.alloc _ _=w3
    obtain ⟨hb3,hz3⟩:=al1 hW
    have HK3:=zl (n11 hW)
    have HB3:=zl (ab HBr.out hb3)
    have HX3:=zl (ab HW.out hb3)
    have HTW:Hid (Below wr.heap.size wr w3):=zl hb3
    have hsz3:=hb3.size
    clear hW hb3 hz3 p0 p1 p2 p3 p4
    have HCT:Hid (∀W:World,Below w3.heap.size w3 W→Calls Tryz.prog 79 #[.slice A3 q.scopes.length c3,.slice Ab blk.length cb,.int .i64 own,.slice Ak keys.length ck] W fun z w'=>z=.returned (.int .u32 (aM q.scopes blk own keys))∧Below W.heap.size W w'):=zl (fun W hW=>by
     have hwW:=ab HB3.out hW
     exact lz (B:=wr.heap.size) ((HSC.out.keep (Below.trans (B:=wr.heap.size) HTW.out (hW.mono hsz3)) hBr).wide hBr) ((HBL.out.keep hwW hB).wide hBr) ((HKS.out.keep hwW hB).wide hBr) HOW.out (zm hsz3 hW.size) HSN.out hbn hkn)
    have HCQ:Hid (∀W:World,Below w3.heap.size w3 W→Calls Tryz.prog 27 #[.agg #[.string q.head.name,.slice A0 q.head.terms.length c0,.slice A1 q.body.length c1,.slice A2 q.exprs.length c2,.slice A3 q.scopes.length c3],.pointer (some ⟨S,0,none⟩),.int .u32 (aM q.scopes blk own keys)] W fun z w'=>z=.returned (.tuple #[.bool (eG (fs.map FV.f) false (aM q.scopes blk own keys) q).1,.int .i64 (eG (fs.map FV.f) false (aM q.scopes blk own keys) q).2])∧Below W.heap.size W w'):=zl (fun W hW=>by
     have hwW:=ab HB3.out hW
     exact oV (d:=d) (B:=wr.heap.size) (r:=q) (vr:=[_,_,_,_,_]) ((RuR (d+1)).keep (Below.trans (B:=wr.heap.size) HTW.out (hW.mono hsz3)) (zn _) ((RuR (d+1)).wide hBr HQ.out)) (zm hsz3 hW.size) (HS.out.later hwW) hfew ((hwW.cell (p:=⟨0,0,none⟩) hp).trans HM.out) (zq hp hwW.size))
    generalize eG (fs.map FV.f) false (aM q.scopes blk own keys) q=h at *
    generalize aM q.scopes blk own keys=tr at *
    have q_k:=HK3.out.regrown
    refine wp_region_quiet_below (by kernel_rfl) (by kernel_rfl) ?_
    repeat (go_big_quiet_step ((first
     | (go_at_call 79;exact Calls.regrown_of (HCT.out _ (below_regrown _ _ _)))
     | (go_at_call 27;exact Calls.regrown_of (HCQ.out _ (below_regrown _ _ _))))))
    refine wpQuiet_nil ?_
    intro w4 hw_
    have hb:Below w3.heap.size w3 w4:=by obtain ⟨p_,rfl⟩:=hw_;exact below_regrown _ _ _
    clear hw_ q_k
    have HB4:=zl (ab HB3.out hb)
    have HX4:=zl (ab HX3.out hb)
    clear hb
    obtain ⟨h1,h2⟩:=h
    by_cases hh:h1=true
    ·have HV:Hid (be (fs.map FV.f) blk own keys ⟨false,cqs⟩=(h1,h2)):=zl (HE1.out.trans (if_pos (.inl hh)))
     subst hh
     go_wp2_with fail
     go_ret2
     exact ⟨by rw [HV.out];rfl,HB4.out⟩
    ·by_cases hh2:h2=0
     ·have HE2:Hid (be (fs.map FV.f) blk own keys ⟨false,cqs⟩=uh (fs.map FV.f) false blk own keys (cqs.drop (k+1))):=zl (HE1.out.trans (if_neg (by intro hc;rcases hc with hc | hc;exact hh hc;exact hc hh2)))
      simp only [Bool.not_eq_true] at hh
      subst hh
      have hh3:(h2 !=0)=false:=by simpa using hh2
      clear hh2
      go_wp2_with fail
      go_roundw
      case rel=>exact ⟨k+1,by omega,by go_num,HE2,HX4⟩
      case measure=>simp [intOf];omega
     ·have HV:Hid (be (fs.map FV.f) blk own keys ⟨false,cqs⟩=(h1,h2)):=zl (HE1.out.trans (if_pos (.inr hh2)))
      simp only [Bool.not_eq_true] at hh
      subst hh
      have hh3:(h2 !=0)=true:=by simpa using hh2
      clear hh2
      go_wp2_with fail
      go_ret2
      exact ⟨by rw [HV.out];rfl,HB4.out⟩
   ·have HV:Hid (be (fs.map FV.f) blk own keys ⟨false,cqs⟩=(false,0)):=zl (by rw [HE.out,List.drop_eq_nil_iff.2 (by omega)];rfl)
    go_wp2_with fail
    go_ret2
    exact ⟨by rw [HV.out];rfl,HBr.out⟩
 ·go_upto_region 7 with fail
  clear k_r l_r
  go_loopw [25] (fun i wr=>∃k:Nat,k≤cqs.length∧i=.int .i64 k∧Hid (be (fs.map FV.f) blk own keys ⟨true,cqs⟩=uh (fs.map FV.f) true blk own keys (cqs.drop k))∧Hid (Below w2.heap.size w2 wr)) (fun i _=>cqs.length-(intOf i).toNat)
  case atStart=>exact ⟨0,zo _,rfl,HV0,zl (zp _ _)⟩
  case round=>
   obtain ⟨k,hk,rfl,HE,HW⟩:=hrel
   have hszr:=HW.out.size
   have HBr:=zl (ab HB2.out HW.out)
   have hBr:B≤wr.heap.size:=zm hB HBr.out.size
   by_cases hlt:k<cqs.length
   ·obtain ⟨b,off,rfl,hob⟩:=(HQL.out.keep HBr.out hB).base (zp _ _) hBr (by omega)
    obtain ⟨q,vs,hx,hlen,hcell,hr⟩:=(HQL.out.keep HBr.out hB).at_ (zp _ _) hBr hlt
    have HQ:=zl hr
    obtain ⟨_,_,_,_,rfl,_,⟨A0,c0,rfl,_⟩,⟨A1,c1,rfl,_⟩,⟨A2,c2,rfl,_⟩,⟨A3,c3,rfl,g1,g2,gl⟩⟩:=hr
    have HSC:=zl gl
    have HSN:Hid (q.scopes.length≤140737488351232):=zl (by have:=g2.1;simp only [ScR] at this;omega)
    have p0:wr.cell? ⟨b,off+k*5,none⟩=some (.string q.head.name):=hcell 0 _ rfl
    have p1:wr.cell? ⟨b,off+k*5+1,none⟩=some (.slice A0 q.head.terms.length c0):=hcell 1 _ rfl
    have p2:wr.cell? ⟨b,off+k*5+2,none⟩=some (.slice A1 q.body.length c1):=hcell 2 _ rfl
    have p3:wr.cell? ⟨b,off+k*5+3,none⟩=some (.slice A2 q.exprs.length c2):=hcell 3 _ rfl
    have p4:wr.cell? ⟨b,off+k*5+4,none⟩=some (.slice A3 q.scopes.length c3):=hcell 4 _ rfl
    have HE1:=zl (HE.out.trans (nJ hx))
    clear hcell hlen hx gl g1 g2
    go_upto_region 9 with fail
    generalize hW:World.alloc _ _=w3
    obtain ⟨hb3,hz3⟩:=al1 hW
    have HK3:=zl (n11 hW)
    have HB3:=zl (ab HBr.out hb3)
    have HX3:=zl (ab HW.out hb3)
    have HTW:Hid (Below wr.heap.size wr w3):=zl hb3
    have hsz3:=hb3.size
    clear hW hb3 hz3 p0 p1 p2 p3 p4
    have HCT:Hid (∀W:World,Below w3.heap.size w3 W→Calls Tryz.prog 79 #[.slice A3 q.scopes.length c3,.slice Ab blk.length cb,.int .i64 own,.slice Ak keys.length ck] W fun z w'=>z=.returned (.int .u32 (aM q.scopes blk own keys))∧Below W.heap.size W w'):=zl (fun W hW=>by
     have hwW:=ab HB3.out hW
     exact lz (B:=wr.heap.size) ((HSC.out.keep (Below.trans (B:=wr.heap.size) HTW.out (hW.mono hsz3)) hBr).wide hBr) ((HBL.out.keep hwW hB).wide hBr) ((HKS.out.keep hwW hB).wide hBr) HOW.out (zm hsz3 hW.size) HSN.out hbn hkn)
    have HCQ:Hid (∀W:World,Below w3.heap.size w3 W→Calls Tryz.prog 28 #[.agg #[.string q.head.name,.slice A0 q.head.terms.length c0,.slice A1 q.body.length c1,.slice A2 q.exprs.length c2,.slice A3 q.scopes.length c3],.pointer (some ⟨S,0,none⟩),.int .u32 (aM q.scopes blk own keys)] W fun z w'=>z=.returned (.tuple #[.bool (eG (fs.map FV.f) true (aM q.scopes blk own keys) q).1,.int .i64 (eG (fs.map FV.f) true (aM q.scopes blk own keys) q).2])∧Below W.heap.size W w'):=zl (fun W hW=>by
     have hwW:=ab HB3.out hW
     exact nZ (d:=d) (B:=wr.heap.size) (r:=q) (vr:=[_,_,_,_,_]) ((RuR (d+1)).keep (Below.trans (B:=wr.heap.size) HTW.out (hW.mono hsz3)) (zn _) ((RuR (d+1)).wide hBr HQ.out)) (zm hsz3 hW.size) (HS.out.later hwW) hfew ((hwW.cell (p:=⟨0,0,none⟩) hp).trans HM.out) (zq hp hwW.size))
    generalize eG (fs.map FV.f) true (aM q.scopes blk own keys) q=h at *
    generalize aM q.scopes blk own keys=tr at *
    have q_k:=HK3.out.regrown
    refine wp_region_quiet_below (by kernel_rfl) (by kernel_rfl) ?_
    repeat (go_big_quiet_step ((first
     | (go_at_call 79;exact Calls.regrown_of (HCT.out _ (below_regrown _ _ _)))
     | (go_at_call 28;exact Calls.regrown_of (HCQ.out _ (below_regrown _ _ _))))))
    refine wpQuiet_nil ?_
    intro w4 hw_
    have hb:Below w3.heap.size w3 w4:=by obtain ⟨p_,rfl⟩:=hw_;exact below_regrown _ _ _
    clear hw_ q_k
    have HB4:=zl (ab HB3.out hb)
    have HX4:=zl (ab HX3.out hb)
    clear hb
    obtain ⟨h1,h2⟩:=h
    by_cases hh:h1=true
    ·have HV:Hid (be (fs.map FV.f) blk own keys ⟨true,cqs⟩=(h1,h2)):=zl (HE1.out.trans (if_pos (.inl hh)))
     subst hh
     go_wp2_with fail
     go_ret2
     exact ⟨by rw [HV.out];rfl,HB4.out⟩
    ·by_cases hh2:h2=0
     ·have HE2:Hid (be (fs.map FV.f) blk own keys ⟨true,cqs⟩=uh (fs.map FV.f) true blk own keys (cqs.drop (k+1))):=zl (HE1.out.trans (if_neg (by intro hc;rcases hc with hc | hc;exact hh hc;exact hc hh2)))
      simp only [Bool.not_eq_true] at hh
      subst hh
      have hh3:(h2 !=0)=false:=by simpa using hh2
      clear hh2
      go_wp2_with fail
      go_roundw
      case rel=>exact ⟨k+1,by omega,by go_num,HE2,HX4⟩
      case measure=>simp [intOf];omega
     ·have HV:Hid (be (fs.map FV.f) blk own keys ⟨true,cqs⟩=(h1,h2)):=zl (HE1.out.trans (if_pos (.inr hh2)))
      simp only [Bool.not_eq_true] at hh
      subst hh
      have hh3:(h2 !=0)=true:=by simpa using hh2
      clear hh2
      go_wp2_with fail
      go_ret2
      exact ⟨by rw [HV.out];rfl,HB4.out⟩
   ·have HV:Hid (be (fs.map FV.f) blk own keys ⟨true,cqs⟩=(false,0)):=zl (by rw [HE.out,List.drop_eq_nil_iff.2 (by omega)];rfl)
    go_wp2_with fail
    go_ret2
    exact ⟨by rw [HV.out];rfl,HBr.out⟩
end Go.Proofs.YtdphibjibnffeaaGreat
