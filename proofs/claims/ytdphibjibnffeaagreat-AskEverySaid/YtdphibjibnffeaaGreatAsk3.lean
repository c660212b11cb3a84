/- ask.Policies. Printed by mk_ask2.py. -/
import Derived.Test.YtdphibjibnffeaaGreatRule2
import Derived.Test.YtdphibjibnffeaaGreatRule4
import Derived.Test.YtdphibjibnffeaaGreatOwn
import Derived.Test.YtdphibjibnffeaaGreatAsk
set_option linter.unusedVariables false
set_option linter.unusedSimpArgs false
set_option maxRecDepth 100000
set_option maxHeartbeats 8000000
namespace Go.Proofs.YtdphibjibnffeaaGreat
open Go.ChangeShapes Go.WideShapes Go.ChangeAt Go.RowKit
def rp (i:Nat):Int:=((2 ^ i:Nat):Int)
def jn (key:ByteArray):List ByteArray→Nat→Int→Int
 | [],_,n=>n
 | k::ks,i,n=>if 8≤i then n else jn key ks (i+1) (if (k.toList==key.toList)=true then orO n (rp i) else n)
def dx (own:Int) (keys:List ByteArray) (s:Sc) (n:Int):Int:=
 if s.kind=1 then orO n 1
 else if s.kind=2∧1≤own∧own<8 then orO n (rp own.toNat-1)
 else if s.kind=3∧s.key.size≠0 then jn s.key keys 0 n
 else n
def ofR (own:Int) (keys:List ByteArray):List Sc→Int→Int
 | [],n=>n
 | s::ss,n=>ofR own keys ss (dx own keys s n)
def aM (rule block:List Sc) (own:Int) (keys:List ByteArray):Int:=
 orO (if 0≤own∧own<8 then orO (if 0<rule.length then ofR own keys rule 0 else if 0<block.length then ofR own keys block 0 else 1) (rp own.toNat) else (if 0<rule.length then ofR own keys rule 0 else if 0<block.length then ofR own keys block 0 else 1)) (rp 15)
theorem cj (i:Nat) (hi:i<16) (w:World):Calls Tryz.prog 136 #[.int .i64 i] w fun z w'=>z=.returned (.int .u32 (rp i))∧w=w':=by
 have h0:(0:Int)≤(i:Int):=Int.natCast_nonneg _
 go_enter Tryz.func136,Tryz.ntmps136
 go_wp2_with fail
 go_ret
 refine ⟨ak ?_,rfl⟩
 unfold rp
 have h1:(2:Nat) ^ i≤2 ^ 15:=Nat.pow_le_pow_right (by omega) (by omega)
 have h2:((2 ^ i:Nat):Int)=(2:Int) ^ i:=by simp
 rw [h2]
 have h3:(2:Int) ^ i≤32768:=by rw [←h2];omega
 have h4:(0:Int)≤(2:Int) ^ i:=by rw [←h2];exact Int.natCast_nonneg _
 exact Int.emod_eq_of_lt h4 (by omega)
theorem vA {key:ByteArray} {ks:List ByteArray} {i:Nat} {n:Int} (h:8≤i∨ks=[]):jn key ks i n=n:=by
 cases ks with
 | nil=>rfl
 | cons k ks=>rw [jn,if_pos (h.resolve_right (by simp))]
theorem sX {key:ByteArray} {ks:List ByteArray} {i:Nat} {n:Int} (h:i<8) (hi:i<ks.length):jn key (ks.drop i) i n=jn key (ks.drop (i+1)) (i+1) (if (ks[i].toList==key.toList)=true then orO n (rp i) else n):=by
 rw [List.drop_eq_getElem_cons hi,jn,if_neg (by omega)]
theorem yf {own:Int} {keys:List ByteArray} {l:List Sc} {k:Nat} {s:Sc} {n:Int} (h:l[k]? = some s):ofR own keys (l.drop k) n=ofR own keys (l.drop (k+1)) (dx own keys s n):=by
 obtain ⟨hk,rfl⟩:=List.getElem?_eq_some_iff.1 h
 rw [List.drop_eq_getElem_cons hk,ofR]
theorem zd {B c ck:Nat} {l:List Sc} {A Ak:Option Addr} {keys:List ByteArray} {own:Int} {w:World} (hl:RL ScR w B l A) (hk:RL cD w B keys Ak) (ho:I64 own) (hB:B≤w.heap.size) (hn:l.length≤140737488351232) (hkn:keys.length≤140737488351232) :
 Calls Tryz.prog 137 #[.slice A l.length c,.int .i64 own,.slice Ak keys.length ck] w fun z w'=>z=.returned (.int .u32 (ofR own keys l 0))∧Below w.heap.size w w':=by
 have HL:=zD hl
 have HK:=zD hk
 have HOW:=zD ho
 clear hl hk ho
 go_enter Tryz.func137,Tryz.ntmps137
 go_wp2_with fail
 go_loopw [7,13] (fun u i wr=>∃(k:Nat) (n:Int),k≤l.length∧i=.int .i64 k∧u=.int .u32 n∧Hid (ofR own keys l 0=ofR own keys (l.drop k) n)∧Hid (Below w.heap.size w wr)) (fun _ i _=>l.length-(intOf i).toNat)
 case atStart=>exact ⟨0,0,zG _,rfl,rfl,zD rfl,zD (zH _ _)⟩
 case round=>
  obtain ⟨k,n,hk,rfl,rfl,HE,HW⟩:=hrel
  have hszr:=HW.out.size
  by_cases hlt:k<l.length
  ·obtain ⟨b,off,rfl,hob⟩:=HL.out.base HW.out hB (by omega)
   obtain ⟨x,vs,hx,hlen,hcell,hr⟩:=HL.out.at_ HW.out hB hlt
   obtain ⟨rfl,hi1,hi2⟩:=hr
   have c0:wr.cell? ⟨b,off+k*2,none⟩=some (.int .i64 x.kind):=hcell 0 _ rfl
   have c1:wr.cell? ⟨b,off+k*2+1,none⟩=some (.string x.key):=hcell 1 _ rfl
   have HE2:Hid (ofR own keys l 0=ofR own keys (l.drop (k+1)) (dx own keys x n)):=zD (HE.out.trans (yf hx))
   clear hx hcell hlen hi1
   go_upto_region 5 with fail
   generalize hW2:World.alloc _ _=w2
   obtain ⟨hb2,hz2⟩:=al1 hW2
   have HS2:=zD (n11 hW2)
   have HB2:=zD (ab HW.out hb2)
   have hsz2:=hb2.size
   clear hW2 hb2 hz2 c0 c1
   have k_s:=HS2.out.cell
   have l_s:=HS2.out.lt
   by_cases h1:x.kind=1
   ·have HV:Hid (dx own keys x n=orO n 1):=zD (by unfold dx;rw [if_pos h1])
    have hk1:(x.kind==1)=true:=by simpa using h1
    clear h1
    go_wp2_with fail
    refine (cj 0 (by omega) _).mono ?_
    rintro z w3 ⟨rfl,rfl⟩
    go_wp2_with fail
    go_roundw
    case rel=>exact ⟨k+1,_,by omega,by go_num,rfl,zD (HE2.out.trans (by rw [HV.out];rfl)),HB2⟩
    case measure=>simp [intOf];omega
   ·have hk1:(x.kind==1)=false:=by simpa using h1
    by_cases h2:x.kind=2
    ·have hk2:(x.kind==2)=true:=by simpa using h2
     by_cases ho1:1≤own
     ·by_cases ho2:own<8
      ·obtain ⟨o,rfl⟩:∃o:Nat,own=o:=⟨own.toNat,by omega⟩
       have HV:Hid (dx o keys x n=orO n (rp o-1)):=zD (by unfold dx;rw [if_neg h1,if_pos ⟨h2,ho1,ho2⟩];simp)
       have hwb:IntKind.u32.wrap (rp o-1)=rp o-1:=by
        have h5:(2:Nat) ^ o≤2 ^ 15:=Nat.pow_le_pow_right (by omega) (by omega)
        have h6:0<(2:Nat) ^ o:=Nat.pow_pos (by omega)
        unfold rp
        rw [IntKind.wrap_u32']
        omega
       clear h1 h2
       go_wp2_with fail
       refine (cj o (by omega) _).mono ?_
       rintro z w3 ⟨rfl,rfl⟩
       go_wp2_with fail
       go_roundw
       case rel=>exact ⟨k+1,_,by omega,by go_num,rfl,zD (HE2.out.trans (by rw [HV.out];rfl)),HB2⟩
       case measure=>simp [intOf];omega
      ·have HV:Hid (dx own keys x n=n):=zD (by unfold dx;rw [if_neg h1,if_neg (by omega),if_neg (by omega)])
       have hk3:(x.kind==3)=false:=by rw [h2];rfl
       clear h1 h2
       go_wp2_with fail
       go_roundw
       case rel=>exact ⟨k+1,_,by omega,by go_num,rfl,zD (HE2.out.trans (by rw [HV.out])),HB2⟩
       case measure=>simp [intOf];omega
     ·have HV:Hid (dx own keys x n=n):=zD (by unfold dx;rw [if_neg h1,if_neg (by omega),if_neg (by omega)])
      have hk3:(x.kind==3)=false:=by rw [h2];rfl
      clear h1 h2
      go_wp2_with fail
      go_roundw
      case rel=>exact ⟨k+1,_,by omega,by go_num,rfl,zD (HE2.out.trans (by rw [HV.out])),HB2⟩
      case measure=>simp [intOf];omega
    ·have hk2:(x.kind==2)=false:=by simpa using h2
     by_cases h3:x.kind=3
     ·have hk3:(x.kind==3)=true:=by simpa using h3
      by_cases hke:x.key.size=0
      ·have HV:Hid (dx own keys x n=n):=zD (by unfold dx;rw [if_neg h1,if_neg (by omega),if_neg (by omega)])
       have hem:x.key.toList.isEmpty=true:=by rw [ByteArray.toList_eq];exact List.isEmpty_iff.2 (List.eq_nil_of_length_eq_zero (by simpa using hke))
       clear h1 h2 h3
       go_wp2_with fail
       go_roundw
       case rel=>exact ⟨k+1,_,by omega,by go_num,rfl,zD (HE2.out.trans (by rw [HV.out])),HB2⟩
       case measure=>simp [intOf];omega
      ·have HV:Hid (dx own keys x n=jn x.key keys 0 n):=zD (by unfold dx;rw [if_neg h1,if_neg (by omega),if_pos ⟨h3,hke⟩])
       have hem:x.key.toList.isEmpty=false:=by
        rw [ByteArray.toList_eq,List.isEmpty_eq_false_iff]
        intro e
        exact hke (by have:=congrArg List.length e;simpa using this)
       clear h1 h2 h3
       obtain ⟨mm,hmm⟩:∃mm,mm=min keys.length 8:=⟨_,rfl⟩
       have hmi:min (keys.length:Int) 8=(mm:Int):=by omega
       have hm1:mm≤keys.length:=by omega
       have hm2:mm≤8:=by omega
       have HMM:Hid (mm=8∨mm=keys.length):=zD (by omega)
       clear hmm
       go_upto_region 11 with fail
       clear k_s
       generalize wr=wo at *
       go_loopw [7,53] (fun u i wr=>∃(j:Nat) (n2:Int),j≤mm∧i=.int .i64 j∧u=.int .u32 n2∧Hid (jn x.key keys 0 n=jn x.key (keys.drop j) j n2)∧Hid (Below w2.heap.size w2 wr)) (fun _ i _=>mm-(intOf i).toNat)
       case atStart=>exact ⟨0,n,zG _,rfl,rfl,zD rfl,zD (zH _ _)⟩
       case round=>
        obtain ⟨j,n2,hj,rfl,rfl,HJ,HWJ⟩:=hrel
        have hszj:=HWJ.out.size
        have HB3:=zD (ab HB2.out HWJ.out)
        by_cases hjl:j<mm
        ·have hjk:j<keys.length:=by omega
         obtain ⟨b2,off2,rfl,hob2⟩:=HK.out.base HB3.out hB (by omega)
         obtain ⟨y,vs2,hy,_,hcell2,hr2⟩:=HK.out.at_ HB3.out hB hjk
         obtain ⟨rfl,hy2⟩:=hr2
         have d0:wr.cell? ⟨b2,off2+j*1,none⟩=some (.string y):=hcell2 0 _ rfl
         rw [Nat.mul_one] at d0
         have HJ2:Hid (jn x.key keys 0 n=jn x.key (keys.drop (j+1)) (j+1) (if (y.toList==x.key.toList)=true then orO n2 (rp j) else n2)):=zD (by
          rw [HJ.out,sX (by omega) hjk,(List.getElem?_eq_some_iff.1 hy).2])
         have hI0:(0:Int)≤(j:Int):=Int.natCast_nonneg _
         have hI1:(j:Int)<(keys.length:Int):=by omega
         have q_s:=(HS2.out.later HWJ.out).regrown
         have q0:=cell_regrown d0
         clear hcell2 hy d0
         by_cases heq:(y.toList==x.key.toList)=true
         ·have HJ3:=zD (HJ2.out.trans (by rw [if_pos heq]))
          clear HJ2
          go_upto_region 13 with fail
          refine wp_region_quiet_below (by kernel_rfl) (by kernel_rfl) ?_
          repeat (go_big_quiet_step (fail))
          refine wpQuiet_nil ?_
          intro w4 hw_
          have hb:Below wr.heap.size wr w4:=by obtain ⟨p_,rfl⟩:=hw_;exact below_regrown _ _ _
          have HB4:=zD (ab HWJ.out hb)
          clear hw_ hb q_s q0
          go_wp2_with fail
          refine (cj j (by omega) _).mono ?_
          rintro z w5 ⟨rfl,rfl⟩
          go_wp2_with fail
          go_roundw
          case rel=>exact ⟨j+1,_,by omega,by go_num,rfl,HJ3,HB4⟩
          case measure=>simp [intOf];omega
         ·have HJ3:=zD (HJ2.out.trans (by rw [if_neg heq]))
          have heq':(y.toList==x.key.toList)=false:=by simpa using heq
          clear HJ2
          go_upto_region 13 with fail
          refine wp_region_quiet_below (by kernel_rfl) (by kernel_rfl) ?_
          repeat (go_big_quiet_step (fail))
          refine wpQuiet_nil ?_
          intro w4 hw_
          have hb:Below wr.heap.size wr w4:=by obtain ⟨p_,rfl⟩:=hw_;exact below_regrown _ _ _
          have HB4:=zD (ab HWJ.out hb)
          clear hw_ hb q_s q0
          go_wp2_with fail
          go_roundw
          case rel=>exact ⟨j+1,_,by omega,by go_num,rfl,HJ3,HB4⟩
          case measure=>simp [intOf];omega
        ·have HVK:Hid (jn x.key keys 0 n=n2):=zD (by
          rw [HJ.out]
          exact vA (by
           rcases HMM.out with h | h
           ·exact .inl (by omega)
           ·exact .inr (List.drop_eq_nil_iff.2 (by omega))))
         go_wp2_with fail
         go_roundw
         case rel=>exact ⟨k+1,_,by omega,by go_num,rfl,zD (HE2.out.trans (by rw [HV.out,HVK.out])),HB3⟩
         case measure=>simp [intOf];omega
     ·have HV:Hid (dx own keys x n=n):=zD (by unfold dx;rw [if_neg h1,if_neg (by omega),if_neg (by omega)])
      have hk3:(x.kind==3)=false:=by simpa using h3
      clear h1 h2 h3
      go_wp2_with fail
      go_roundw
      case rel=>exact ⟨k+1,_,by omega,by go_num,rfl,zD (HE2.out.trans (by rw [HV.out])),HB2⟩
      case measure=>simp [intOf];omega
  ·have HV:Hid (ofR own keys l 0=n):=zD (by rw [HE.out,List.drop_eq_nil_iff.2 (by omega)];rfl)
   go_wp2_with fail
   go_ret
   exact ⟨ak HV.out.symm,HW.out⟩
theorem lK {B c c2 ck:Nat} {l l2:List Sc} {A A2 Ak:Option Addr} {keys:List ByteArray} {own:Int} {w:World} (hl:RL ScR w B l A) (hl2:RL ScR w B l2 A2) (hk:RL cD w B keys Ak) (ho:I64 own) (hB:B≤w.heap.size) (hn:l.length≤140737488351232) (hn2:l2.length≤140737488351232) (hkn:keys.length≤140737488351232) :
 Calls Tryz.prog 79 #[.slice A l.length c,.slice A2 l2.length c2,.int .i64 own,.slice Ak keys.length ck] w fun z w'=>z=.returned (.int .u32 (aM l l2 own keys))∧Below w.heap.size w w':=by
 have HL:=zD (zd (c:=c) (ck:=ck) hl hk ho hB hn hkn)
 have HL2:=zD (zd (c:=c2) (ck:=ck) hl2 hk ho hB hn2 hkn)
 clear hl hl2 hk
 have HT:Hid (aM l l2 own keys=orO (if 0≤own∧own<8 then orO (if 0<l.length then ofR own keys l 0 else if 0<l2.length then ofR own keys l2 0 else 1) (rp own.toNat) else (if 0<l.length then ofR own keys l 0 else if 0<l2.length then ofR own keys l2 0 else 1)) (rp 15)):=zD rfl
 go_enter Tryz.func79,Tryz.ntmps79
 go_wp2_with fail
 refine (cj 0 (by omega) _).mono ?_
 rintro z w1 ⟨rfl,rfl⟩
 by_cases hl0:0<l.length
 ·have hl0':(0:Int)<(l.length:Int):=by omega
  rw [if_pos hl0] at HT
  go_wp2_with fail
  refine HL.out.mono ?_
  rintro z w2 ⟨rfl,hb2⟩
  have HB2:=zD hb2
  generalize ofR own keys l 0=n at *
  clear hb2 hl0 HL HL2
  by_cases ho1:0≤own
  ·by_cases ho2:own<8
   ·obtain ⟨o,rfl⟩:∃o:Nat,own=o:=⟨own.toNat,by omega⟩
    rw [if_pos ⟨ho1,ho2⟩,Int.toNat_natCast] at HT
    go_wp2_with fail
    refine (cj o (by omega) _).mono ?_
    rintro z w3 ⟨rfl,rfl⟩
    go_wp2_with fail
    refine (cj 15 (by omega) _).mono ?_
    rintro z w3 ⟨rfl,rfl⟩
    go_wp2_with fail
    go_ret
    exact ⟨ak HT.out.symm,HB2.out⟩
   ·rw [if_neg (by omega)] at HT
    go_wp2_with fail
    refine (cj 15 (by omega) _).mono ?_
    rintro z w3 ⟨rfl,rfl⟩
    go_wp2_with fail
    go_ret
    exact ⟨ak HT.out.symm,HB2.out⟩
  ·rw [if_neg (by omega)] at HT
   go_wp2_with fail
   refine (cj 15 (by omega) _).mono ?_
   rintro z w3 ⟨rfl,rfl⟩
   go_wp2_with fail
   go_ret
   exact ⟨ak HT.out.symm,HB2.out⟩
 ·have hl0':¬(0:Int)<(l.length:Int):=by omega
  rw [if_neg hl0] at HT
  by_cases hl1:0<l2.length
  ·have hl1':(0:Int)<(l2.length:Int):=by omega
   rw [if_pos hl1] at HT
   go_wp2_with fail
   refine HL2.out.mono ?_
   rintro z w2 ⟨rfl,hb2⟩
   have HB2:=zD hb2
   generalize ofR own keys l2 0=n at *
   clear hb2 hl0 HL HL2
   by_cases ho1:0≤own
   ·by_cases ho2:own<8
    ·obtain ⟨o,rfl⟩:∃o:Nat,own=o:=⟨own.toNat,by omega⟩
     rw [if_pos ⟨ho1,ho2⟩,Int.toNat_natCast] at HT
     go_wp2_with fail
     refine (cj o (by omega) _).mono ?_
     rintro z w3 ⟨rfl,rfl⟩
     go_wp2_with fail
     refine (cj 15 (by omega) _).mono ?_
     rintro z w3 ⟨rfl,rfl⟩
     go_wp2_with fail
     go_ret
     exact ⟨ak HT.out.symm,HB2.out⟩
    ·rw [if_neg (by omega)] at HT
     go_wp2_with fail
     refine (cj 15 (by omega) _).mono ?_
     rintro z w3 ⟨rfl,rfl⟩
     go_wp2_with fail
     go_ret
     exact ⟨ak HT.out.symm,HB2.out⟩
   ·rw [if_neg (by omega)] at HT
    go_wp2_with fail
    refine (cj 15 (by omega) _).mono ?_
    rintro z w3 ⟨rfl,rfl⟩
    go_wp2_with fail
    go_ret
    exact ⟨ak HT.out.symm,HB2.out⟩
  ·have hl1':¬(0:Int)<(l2.length:Int):=by omega
   rw [if_neg hl1] at HT
   have HB2:Hid (Below w.heap.size w w):=zD (zH _ _)
   clear hl0 HL HL2
   by_cases ho1:0≤own
   ·by_cases ho2:own<8
    ·obtain ⟨o,rfl⟩:∃o:Nat,own=o:=⟨own.toNat,by omega⟩
     rw [if_pos ⟨ho1,ho2⟩,Int.toNat_natCast] at HT
     go_wp2_with fail
     refine (cj o (by omega) _).mono ?_
     rintro z w3 ⟨rfl,rfl⟩
     go_wp2_with fail
     refine (cj 15 (by omega) _).mono ?_
     rintro z w3 ⟨rfl,rfl⟩
     go_wp2_with fail
     go_ret
     exact ⟨ak HT.out.symm,HB2.out⟩
    ·rw [if_neg (by omega)] at HT
     go_wp2_with fail
     refine (cj 15 (by omega) _).mono ?_
     rintro z w3 ⟨rfl,rfl⟩
     go_wp2_with fail
     go_ret
     exact ⟨ak HT.out.symm,HB2.out⟩
   ·rw [if_neg (by omega)] at HT
    go_wp2_with fail
    refine (cj 15 (by omega) _).mono ?_
    rintro z w3 ⟨rfl,rfl⟩
    go_wp2_with fail
    go_ret
    exact ⟨ak HT.out.symm,HB2.out⟩
def cE (l:List Ru):Bool:=decide (1≤l.length)&&(decide ((l.length:Int)≤8)&&l.all ay)
def dY (c:Ck):Bool:=cE c.queries
theorem mh {d B:Nat} {w:World} (hB:B≤w.heap.size):bB Tryz.prog (RuR d) bU B w 54 #[] ay:=fun x vs w1 hb hr=>by
 obtain ⟨_,_,_,_,rfl,_⟩:=id hr
 exact eB (d:=d) (B:=B) (vs:=[_,_,_,_,_]) hr (by have:=hb.size;omega)
theorem qM (d:Nat) (l:List Ru) (A:Option Addr) (c B:Nat) (w:World) (hl:RL (RuR d) w B l A) (hB:B≤w.heap.size) (hn:l.length≤140737488351232) :
 Calls Tryz.prog 135 #[.slice A l.length c] w fun e w'=>e=.returned (.bool (cE l))∧Below w.heap.size w w':=by
 by_cases h1:1≤l.length
 ·have u1:(l.length:Int)≥1:=by omega
  go_enter Tryz.func135,Tryz.ntmps135
  go_wp2_with fail
  refine (qm d 54 ay 8 l A c B w (ent Tryz.func54 (by kernel_rfl) rfl) hl hB (by omega) (mh hB)).mono ?_
  rintro e w1 ⟨rfl,hb1⟩
  have HM:=zD (show cE l=(decide ((l.length:Int)≤8)&&l.all ay) by rw [cE,decide_eq_true h1,Bool.true_and])
  have HB1:=zD hb1
  obtain ⟨bb,hbb⟩:∃bb,bb=(decide ((l.length:Int)≤8)&&l.all ay):=⟨_,rfl⟩
  have HBB:=zD hbb
  rw [←hbb]
  clear hb1 hbb
  go_wp2_with fail
  go_ret
  exact ⟨ac (by rw [HM.out,HBB.out]),HB1.out⟩
 ·have u1:¬(l.length:Int)≥1:=by omega
  go_enter Tryz.func135,Tryz.ntmps135
  go_wp2_with fail
  go_ret
  exact ⟨ac (by rw [cE,decide_eq_false h1];rfl),zH _ _⟩
theorem oN {d B:Nat} {x:Ck} {vs:List Value} {w:World} (hx:(CkR d).rd w B x vs) (hB:B≤w.heap.size) :
 Calls Tryz.prog 78 #[.agg vs.toArray] w fun e w'=>e=.returned (.bool (dY x))∧Below w.heap.size w w':=by
 obtain ⟨_,rfl,A,c,rfl,h1,h2,hl⟩:=hx
 simp only [RuR] at h2
 have HL:=zD hl
 clear hl
 go_enter Tryz.func78,Tryz.ntmps78
 go_wp2_with fail
 generalize hW:World.alloc _ _=w1
 obtain ⟨hb,hz⟩:=al1 hW
 clear hW
 refine (qM d x.queries A c B w1 (HL.out.keep hb hB) (by omega) (by omega)).mono ?_
 rintro e w2 ⟨rfl,hb2⟩
 have HB:=zD (ab hb hb2)
 clear hb hb2 hz
 go_wp2_with fail
 go_ret
 exact ⟨rfl,HB.out⟩
def fC (fs:List Fc) (all:Bool) (tr:Int) (q:Ru):Bool × Int:=if all=true then cI fs tr q else eD fs tr q
def rr (fs:List Fc) (all:Bool) (block:List Sc) (own:Int) (keys:List ByteArray):List Ru→Bool × Int
 | []=>(false,0)
 | q::qs=>if (fC fs all (aM q.scopes block own keys) q).1=true∨(fC fs all (aM q.scopes block own keys) q).2≠0 then fC fs all (aM q.scopes block own keys) q else rr fs all block own keys qs
def bR (fs:List Fc) (block:List Sc) (own:Int) (keys:List ByteArray) (c:Ck):Bool × Int:=if dY c=true then rr fs c.all block own keys c.queries else (false,1)
theorem nV {fs:List Fc} {all:Bool} {block:List Sc} {own:Int} {keys:List ByteArray} {l:List Ru} {k:Nat} {q:Ru} (h:l[k]? = some q):rr fs all block own keys (l.drop k)=if (fC fs all (aM q.scopes block own keys) q).1=true∨(fC fs all (aM q.scopes block own keys) q).2≠0 then fC fs all (aM q.scopes block own keys) q else rr fs all block own keys (l.drop (k+1)):=by
 obtain ⟨hk,rfl⟩:=List.getElem?_eq_some_iff.1 h
 rw [List.drop_eq_getElem_cons hk,rr]
theorem kC {d baseS B S cs cb ck:Nat} {c:Ck} {vc:List Value} {w:World} {fs:List FV} {As Ab Ak:Option Addr} {blk:List Sc} {own m:Int} {keys:List ByteArray} (hc:(CkR (d+1)).rd w B c vc) (hbl:RL ScR w B blk Ab) (hks:RL cD w B keys Ak) (ho:I64 own) (hbn:blk.length≤140737488351232) (hkn:keys.length≤140737488351232) (hB:B≤w.heap.size) (hS:StA baseS d w S fs As cs) (hfew:fs.length≤100000) (hm:w.cell? ⟨0,0,none⟩=some (.int .i64 m)) (hp:0<w.heap.size) :
 Calls Tryz.prog 29 #[.agg vc.toArray,.pointer (some ⟨S,0,none⟩),.slice Ab blk.length cb,.int .i64 own,.slice Ak keys.length ck] w fun z w'=>z=.returned (.tuple #[.bool (bR (fs.map FV.f) blk own keys c).1,.int .i64 (bR (fs.map FV.f) blk own keys c).2])∧Below w.heap.size w w':=by
 have HC:=zD hc
 have HBL:=zD hbl
 have HKS:=zD hks
 have HOW:=zD ho
 have HS:=zD hS
 have HM:=zD hm
 obtain ⟨_,rfl,Aq,cq,rfl,hq1,hq2,hql⟩:=hc
 simp only [RuR] at hq2
 have HQL:=zD hql
 clear hbl hks ho hS hm hql
 go_enter Tryz.func29,Tryz.ntmps29
 go_upto_region 1 with fail
 generalize hW:World.alloc _ _=w1
 obtain ⟨hb1,hz⟩:=al1 hW
 have HK1:=zD (n11 hW)
 have HB1:=zD hb1
 have hsz1:=hb1.size
 clear hW hb1 hz
 have k_r:=HK1.out.cell
 have l_r:=HK1.out.lt
 go_wp2_with fail
 refine (oN (d:=d+1) (B:=B) (x:=c) (vs:=[_,_]) ((CkR (d+1)).keep HB1.out hB HC.out) (zE hB hsz1)).mono ?_
 rintro z w2 ⟨rfl,hb2⟩
 have HK2:=zD (HK1.out.later hb2)
 have HB2:=zD (ab HB1.out hb2)
 have hsz2:=HB2.out.size
 clear hb2 k_r l_r
 have k_r:=HK2.out.cell
 have l_r:=HK2.out.lt
 by_cases hq:dY c=true
 rotate_left
 ·have HV:Hid (bR (fs.map FV.f) blk own keys c=(false,1)):=zD (by unfold bR;rw [if_neg hq])
  simp only [Bool.not_eq_true] at hq
  rw [hq]
  go_wp2_with fail
  go_ret2
  exact ⟨by rw [HV.out];rfl,HB2.out⟩
 have HV0:Hid (bR (fs.map FV.f) blk own keys c=rr (fs.map FV.f) c.all blk own keys c.queries):=zD (by unfold bR;rw [if_pos hq])
 rw [hq]
 clear hq
 obtain ⟨ca,cqs⟩:=c
 simp only at *
 cases ca
 ·go_upto_region 7 with fail
  clear k_r l_r
  go_loopw [25] (fun i wr=>∃k:Nat,k≤cqs.length∧i=.int .i64 k∧Hid (bR (fs.map FV.f) blk own keys ⟨false,cqs⟩=rr (fs.map FV.f) false blk own keys (cqs.drop k))∧Hid (Below w2.heap.size w2 wr)) (fun i _=>cqs.length-(intOf i).toNat)
  case atStart=>exact ⟨0,zG _,rfl,HV0,zD (zH _ _)⟩
  case round=>
   obtain ⟨k,hk,rfl,HE,HW⟩:=hrel
   have hszr:=HW.out.size
   have HBr:=zD (ab HB2.out HW.out)
   have hBr:B≤wr.heap.size:=zE hB HBr.out.size
   by_cases hlt:k<cqs.length
   ·obtain ⟨b,off,rfl,hob⟩:=(HQL.out.keep HBr.out hB).base (zH _ _) hBr (by omega)
    obtain ⟨q,vs,hx,hlen,hcell,hr⟩:=(HQL.out.keep HBr.out hB).at_ (zH _ _) hBr hlt
    have HQ:=zD hr
    obtain ⟨_,_,_,_,rfl,_,⟨A0,c0,rfl,_⟩,⟨A1,c1,rfl,_⟩,⟨A2,c2,rfl,_⟩,⟨A3,c3,rfl,g1,g2,gl⟩⟩:=hr
    have HSC:=zD gl
    have HSN:Hid (q.scopes.length≤140737488351232):=zD (by have:=g2.1;simp only [ScR] at this;omega)
    have p0:wr.cell? ⟨b,off+k*5,none⟩=some (.string q.head.name):=hcell 0 _ rfl
    have p1:wr.cell? ⟨b,off+k*5+1,none⟩=some (.slice A0 q.head.terms.length c0):=hcell 1 _ rfl
    have p2:wr.cell? ⟨b,off+k*5+2,none⟩=some (.slice A1 q.body.length c1):=hcell 2 _ rfl
    have p3:wr.cell? ⟨b,off+k*5+3,none⟩=some (.slice A2 q.exprs.length c2):=hcell 3 _ rfl
    have p4:wr.cell? ⟨b,off+k*5+4,none⟩=some (.slice A3 q.scopes.length c3):=hcell 4 _ rfl
    have HE1:=zD (HE.out.trans (nV hx))
    clear hcell hlen hx gl g1 g2
    go_upto_region 9 with fail
    generalize hW:World.alloc _ _=w3
    obtain ⟨hb3,hz3⟩:=al1 hW
    have HK3:=zD (n11 hW)
    have HB3:=zD (ab HBr.out hb3)
    have HX3:=zD (ab HW.out hb3)
    have HTW:Hid (Below wr.heap.size wr w3):=zD hb3
    have hsz3:=hb3.size
    clear hW hb3 hz3 p0 p1 p2 p3 p4
    have HCT:Hid (∀W:World,Below w3.heap.size w3 W→Calls Tryz.prog 79 #[.slice A3 q.scopes.length c3,.slice Ab blk.length cb,.int .i64 own,.slice Ak keys.length ck] W fun z w'=>z=.returned (.int .u32 (aM q.scopes blk own keys))∧Below W.heap.size W w'):=zD (fun W hW=>by
     have hwW:=ab HB3.out hW
     exact lK (B:=wr.heap.size) ((HSC.out.keep (Below.trans (B:=wr.heap.size) HTW.out (hW.mono hsz3)) hBr).wide hBr) ((HBL.out.keep hwW hB).wide hBr) ((HKS.out.keep hwW hB).wide hBr) HOW.out (zE hsz3 hW.size) HSN.out hbn hkn)
    have HCQ:Hid (∀W:World,Below w3.heap.size w3 W→Calls Tryz.prog 27 #[.agg #[.string q.head.name,.slice A0 q.head.terms.length c0,.slice A1 q.body.length c1,.slice A2 q.exprs.length c2,.slice A3 q.scopes.length c3],.pointer (some ⟨S,0,none⟩),.int .u32 (aM q.scopes blk own keys)] W fun z w'=>z=.returned (.tuple #[.bool (fC (fs.map FV.f) false (aM q.scopes blk own keys) q).1,.int .i64 (fC (fs.map FV.f) false (aM q.scopes blk own keys) q).2])∧Below W.heap.size W w'):=zD (fun W hW=>by
     have hwW:=ab HB3.out hW
     exact pl (d:=d) (B:=wr.heap.size) (r:=q) (vr:=[_,_,_,_,_]) ((RuR (d+1)).keep (Below.trans (B:=wr.heap.size) HTW.out (hW.mono hsz3)) (zF _) ((RuR (d+1)).wide hBr HQ.out)) (zE hsz3 hW.size) (HS.out.later hwW) hfew ((hwW.cell (p:=⟨0,0,none⟩) hp).trans HM.out) (zI hp hwW.size))
    generalize fC (fs.map FV.f) false (aM q.scopes blk own keys) q=h at *
    generalize aM q.scopes blk own keys=tr at *
    have q_k:=HK3.out.regrown
    refine wp_region_quiet_below (by kernel_rfl) (by kernel_rfl) ?_
    repeat (go_big_quiet_step ((first
     | (go_at_call 79;exact Calls.regrown_of (HCT.out _ (below_regrown _ _ _)))
     | (go_at_call 27;exact Calls.regrown_of (HCQ.out _ (below_regrown _ _ _))))))
    refine wpQuiet_nil ?_
    intro w4 hw_
    have hb:Below w3.heap.size w3 w4:=by obtain ⟨p_,rfl⟩:=hw_;exact below_regrown _ _ _
    clear hw_ q_k
    have HB4:=zD (ab HB3.out hb)
    have HX4:=zD (ab HX3.out hb)
    clear hb
    obtain ⟨h1,h2⟩:=h
    by_cases hh:h1=true
    ·have HV:Hid (bR (fs.map FV.f) blk own keys ⟨false,cqs⟩=(h1,h2)):=zD (HE1.out.trans (if_pos (.inl hh)))
     subst hh
     go_wp2_with fail
     go_ret2
     exact ⟨by rw [HV.out];rfl,HB4.out⟩
    ·by_cases hh2:h2=0
     ·have HE2:Hid (bR (fs.map FV.f) blk own keys ⟨false,cqs⟩=rr (fs.map FV.f) false blk own keys (cqs.drop (k+1))):=zD (HE1.out.trans (if_neg (by intro hc;rcases hc with hc | hc;exact hh hc;exact hc hh2)))
      simp only [Bool.not_eq_true] at hh
      subst hh
      have hh3:(h2 !=0)=false:=by simpa using hh2
      clear hh2
      go_wp2_with fail
      go_roundw
      case rel=>exact ⟨k+1,by omega,by go_num,HE2,HX4⟩
      case measure=>simp [intOf];omega
     ·have HV:Hid (bR (fs.map FV.f) blk own keys ⟨false,cqs⟩=(h1,h2)):=zD (HE1.out.trans (if_pos (.inr hh2)))
      simp only [Bool.not_eq_true] at hh
      subst hh
      have hh3:(h2 !=0)=true:=by simpa using hh2
      clear hh2
      go_wp2_with fail
      go_ret2
      exact ⟨by rw [HV.out];rfl,HB4.out⟩
   ·have HV:Hid (bR (fs.map FV.f) blk own keys ⟨false,cqs⟩=(false,0)):=zD (by rw [HE.out,List.drop_eq_nil_iff.2 (by omega)];rfl)
    go_wp2_with fail
    go_ret2
    exact ⟨by rw [HV.out];rfl,HBr.out⟩
 ·go_upto_region 7 with fail
  clear k_r l_r
  go_loopw [25] (fun i wr=>∃k:Nat,k≤cqs.length∧i=.int .i64 k∧Hid (bR (fs.map FV.f) blk own keys ⟨true,cqs⟩=rr (fs.map FV.f) true blk own keys (cqs.drop k))∧Hid (Below w2.heap.size w2 wr)) (fun i _=>cqs.length-(intOf i).toNat)
  case atStart=>exact ⟨0,zG _,rfl,HV0,zD (zH _ _)⟩
  case round=>
   obtain ⟨k,hk,rfl,HE,HW⟩:=hrel
   have hszr:=HW.out.size
   have HBr:=zD (ab HB2.out HW.out)
   have hBr:B≤wr.heap.size:=zE hB HBr.out.size
   by_cases hlt:k<cqs.length
   ·obtain ⟨b,off,rfl,hob⟩:=(HQL.out.keep HBr.out hB).base (zH _ _) hBr (by omega)
    obtain ⟨q,vs,hx,hlen,hcell,hr⟩:=(HQL.out.keep HBr.out hB).at_ (zH _ _) hBr hlt
    have HQ:=zD hr
    obtain ⟨_,_,_,_,rfl,_,⟨A0,c0,rfl,_⟩,⟨A1,c1,rfl,_⟩,⟨A2,c2,rfl,_⟩,⟨A3,c3,rfl,g1,g2,gl⟩⟩:=hr
    have HSC:=zD gl
    have HSN:Hid (q.scopes.length≤140737488351232):=zD (by have:=g2.1;simp only [ScR] at this;omega)
    have p0:wr.cell? ⟨b,off+k*5,none⟩=some (.string q.head.name):=hcell 0 _ rfl
    have p1:wr.cell? ⟨b,off+k*5+1,none⟩=some (.slice A0 q.head.terms.length c0):=hcell 1 _ rfl
    have p2:wr.cell? ⟨b,off+k*5+2,none⟩=some (.slice A1 q.body.length c1):=hcell 2 _ rfl
    have p3:wr.cell? ⟨b,off+k*5+3,none⟩=some (.slice A2 q.exprs.length c2):=hcell 3 _ rfl
    have p4:wr.cell? ⟨b,off+k*5+4,none⟩=some (.slice A3 q.scopes.length c3):=hcell 4 _ rfl
    have HE1:=zD (HE.out.trans (nV hx))
    clear hcell hlen hx gl g1 g2
    go_upto_region 9 with fail
    generalize hW:World.alloc _ _=w3
    obtain ⟨hb3,hz3⟩:=al1 hW
    have HK3:=zD (n11 hW)
    have HB3:=zD (ab HBr.out hb3)
    have HX3:=zD (ab HW.out hb3)
    have HTW:Hid (Below wr.heap.size wr w3):=zD hb3
    have hsz3:=hb3.size
    clear hW hb3 hz3 p0 p1 p2 p3 p4
    have HCT:Hid (∀W:World,Below w3.heap.size w3 W→Calls Tryz.prog 79 #[.slice A3 q.scopes.length c3,.slice Ab blk.length cb,.int .i64 own,.slice Ak keys.length ck] W fun z w'=>z=.returned (.int .u32 (aM q.scopes blk own keys))∧Below W.heap.size W w'):=zD (fun W hW=>by
     have hwW:=ab HB3.out hW
     exact lK (B:=wr.heap.size) ((HSC.out.keep (Below.trans (B:=wr.heap.size) HTW.out (hW.mono hsz3)) hBr).wide hBr) ((HBL.out.keep hwW hB).wide hBr) ((HKS.out.keep hwW hB).wide hBr) HOW.out (zE hsz3 hW.size) HSN.out hbn hkn)
    have HCQ:Hid (∀W:World,Below w3.heap.size w3 W→Calls Tryz.prog 28 #[.agg #[.string q.head.name,.slice A0 q.head.terms.length c0,.slice A1 q.body.length c1,.slice A2 q.exprs.length c2,.slice A3 q.scopes.length c3],.pointer (some ⟨S,0,none⟩),.int .u32 (aM q.scopes blk own keys)] W fun z w'=>z=.returned (.tuple #[.bool (fC (fs.map FV.f) true (aM q.scopes blk own keys) q).1,.int .i64 (fC (fs.map FV.f) true (aM q.scopes blk own keys) q).2])∧Below W.heap.size W w'):=zD (fun W hW=>by
     have hwW:=ab HB3.out hW
     exact oA (d:=d) (B:=wr.heap.size) (r:=q) (vr:=[_,_,_,_,_]) ((RuR (d+1)).keep (Below.trans (B:=wr.heap.size) HTW.out (hW.mono hsz3)) (zF _) ((RuR (d+1)).wide hBr HQ.out)) (zE hsz3 hW.size) (HS.out.later hwW) hfew ((hwW.cell (p:=⟨0,0,none⟩) hp).trans HM.out) (zI hp hwW.size))
    generalize fC (fs.map FV.f) true (aM q.scopes blk own keys) q=h at *
    generalize aM q.scopes blk own keys=tr at *
    have q_k:=HK3.out.regrown
    refine wp_region_quiet_below (by kernel_rfl) (by kernel_rfl) ?_
    repeat (go_big_quiet_step ((first
     | (go_at_call 79;exact Calls.regrown_of (HCT.out _ (below_regrown _ _ _)))
     | (go_at_call 28;exact Calls.regrown_of (HCQ.out _ (below_regrown _ _ _))))))
    refine wpQuiet_nil ?_
    intro w4 hw_
    have hb:Below w3.heap.size w3 w4:=by obtain ⟨p_,rfl⟩:=hw_;exact below_regrown _ _ _
    clear hw_ q_k
    have HB4:=zD (ab HB3.out hb)
    have HX4:=zD (ab HX3.out hb)
    clear hb
    obtain ⟨h1,h2⟩:=h
    by_cases hh:h1=true
    ·have HV:Hid (bR (fs.map FV.f) blk own keys ⟨true,cqs⟩=(h1,h2)):=zD (HE1.out.trans (if_pos (.inl hh)))
     subst hh
     go_wp2_with fail
     go_ret2
     exact ⟨by rw [HV.out];rfl,HB4.out⟩
    ·by_cases hh2:h2=0
     ·have HE2:Hid (bR (fs.map FV.f) blk own keys ⟨true,cqs⟩=rr (fs.map FV.f) true blk own keys (cqs.drop (k+1))):=zD (HE1.out.trans (if_neg (by intro hc;rcases hc with hc | hc;exact hh hc;exact hc hh2)))
      simp only [Bool.not_eq_true] at hh
      subst hh
      have hh3:(h2 !=0)=false:=by simpa using hh2
      clear hh2
      go_wp2_with fail
      go_roundw
      case rel=>exact ⟨k+1,by omega,by go_num,HE2,HX4⟩
      case measure=>simp [intOf];omega
     ·have HV:Hid (bR (fs.map FV.f) blk own keys ⟨true,cqs⟩=(h1,h2)):=zD (HE1.out.trans (if_pos (.inr hh2)))
      simp only [Bool.not_eq_true] at hh
      subst hh
      have hh3:(h2 !=0)=true:=by simpa using hh2
      clear hh2
      go_wp2_with fail
      go_ret2
      exact ⟨by rw [HV.out];rfl,HB4.out⟩
   ·have HV:Hid (bR (fs.map FV.f) blk own keys ⟨true,cqs⟩=(false,0)):=zD (by rw [HE.out,List.drop_eq_nil_iff.2 (by omega)];rfl)
    go_wp2_with fail
    go_ret2
    exact ⟨by rw [HV.out];rfl,HBr.out⟩
end Go.Proofs.YtdphibjibnffeaaGreat
