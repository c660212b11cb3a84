/- What a check that the law 22 makes at once must tell. -/
import Derived.Test.YtdphibjibnffeaaGreatSize
import Derived.Test.YtdphibjibnffeaaGreatAsk
import Derived.Test.YtdphibjibnffeaaGreatAsk3
set_option linter.unusedVariables false
set_option linter.unusedSimpArgs false
set_option maxRecDepth 100000
set_option maxHeartbeats 8000000
namespace Go.Proofs.YtdphibjibnffeaaGreat
open Go.ChangeShapes Go.WideShapes Go.ChangeAt Go.RowKit
theorem uq {d B:Nat} {b:Bk} {vs:List Value} {w:World} (hx:(BkR d).rd w B b vs) (hB:B≤w.heap.size) :
 Calls Tryz.prog 133 #[.agg vs.toArray] w fun e w'=>(∃m:Int,e=.returned (.int .i64 m))∧Below w.heap.size w w':=by
 obtain ⟨_,_,_,_,rfl,⟨A0,c0,rfl,g0,h0,hl0⟩,⟨A1,c1,rfl,g1,h1,hl1⟩,⟨A2,c2,rfl,g2,h2,hl2⟩,⟨A3,c3,rfl,g3,h3,hl3⟩⟩:=hx
 simp only [PrR,RuR,CkR,ScR] at h0 h1 h2 h3
 have HL0:=zD hl0
 have HL1:=zD hl1
 have HL2:=zD hl2
 clear hl0 hl1 hl2 hl3
 go_enter Tryz.func133,Tryz.ntmps133
 go_wp2_with fail
 generalize hW:World.alloc _ _=W
 obtain ⟨hb,hz⟩:=al1 hW
 have ba:=n11 hW
 have HB1:=zD hb
 have hB1:B≤W.heap.size:=by omega
 clear hW hb hz
 go_loopw [3,18] (fun v i wr=>∃k:Nat,k≤b.facts.length∧i=.int .i64 k∧(∃n:Int,v=.int .i64 n)∧Below W.heap.size W wr) (fun _ i _=>b.facts.length-(intOf i).toNat)
 case atStart=>exact ⟨0,zG _,rfl,⟨_,rfl⟩,zH _ _⟩
 case round=>
  obtain ⟨k,hk,rfl,⟨n,rfl⟩,hbw⟩:=hrel
  by_cases hlt:k<b.facts.length
  ·have hl:=HL0.out.keep HB1.out hB
   obtain ⟨bk,off,rfl,hbk⟩:=hl.base hbw hB1 (by omega)
   obtain ⟨x,vs,hx,hlen,hcell,hr⟩:=hl.at_ hbw hB1 hlt
   obtain ⟨_,rfl,hs,Ax,cx,rfl,gx,hxx,hlx⟩:=id hr
   have p0:wr.cell? ⟨bk,off+k*2,none⟩=some (.string x.name):=hcell 0 _ rfl
   have p1:wr.cell? ⟨bk,off+k*2+1,none⟩=some (.slice Ax x.terms.length cx):=hcell 1 _ rfl
   have HBw:=zD hbw
   have HR:=zD (And.intro hs (show RSl (TmR d) wr B x.terms (.slice Ax x.terms.length cx) from ⟨Ax,cx,rfl,gx,hxx,hlx⟩))
   have hszr:=hbw.size
   clear hl hcell hlen hx hr hlx hs gx hxx hbw
   go_wp2_with fail
   generalize hW2:World.alloc _ _=W2
   obtain ⟨hb2,hz2⟩:=al1 hW2
   clear hW2 p0 p1
   refine (gN (d:=d) (B:=B) (r:=⟨x,[],[],[]⟩) (vs:=[_,_,_,_,_]) (show (RuR d).rd W2 B ⟨x,[],[],[]⟩ _ from ⟨_,_,_,_,rfl,HR.out.1,HR.out.2.keep hb2 (by omega),fj,fj,fj⟩) (by omega)).mono ?_
   rintro e w3 ⟨⟨m,rfl⟩,hb3⟩
   have HB3:=zD (ab HBw.out (ab hb2 hb3))
   have hfin:=zD (ab HB1.out HB3.out)
   clear hb2 hb3 hz2
   go_wp2_with fail
   all_goals first
    | (go_ret
       exact ⟨⟨_,rfl⟩,hfin.out⟩)
    | (go_roundw
       case rel=>exact ⟨k+1,by omega,by go_num,⟨_,rfl⟩,HB3.out⟩
       case measure=>simp [intOf];omega)
  ·have HB2:=zD (ab HB1.out hbw)
   have ba2:=ba.later hbw
   have kba:=ba2.cell
   have lba:=ba2.lt
   have hB2:B≤wr.heap.size:=by have:=hbw.size;omega
   clear HB1 hB1 hbw ba
   go_wp2_with fail
   clear kba lba
   go_loopw [3,34] (fun v i ws=>∃k2:Nat,k2≤b.rules.length∧i=.int .i64 k2∧(∃n:Int,v=.int .i64 n)∧Below wr.heap.size wr ws) (fun _ i _=>b.rules.length-(intOf i).toNat)
   case atStart=>exact ⟨0,zG _,rfl,⟨_,rfl⟩,zH _ _⟩
   case round=>
    obtain ⟨k2,hk2,rfl,⟨n2,rfl⟩,hbw⟩:=hrel
    by_cases hlt2:k2<b.rules.length
    ·have hl:=HL1.out.keep HB2.out hB
     obtain ⟨bk,off,rfl,hbk⟩:=hl.base hbw hB2 (by omega)
     obtain ⟨x,vs,hx,hlen,hcell,hr⟩:=hl.at_ hbw hB2 hlt2
     obtain ⟨_,_,_,_,rfl,_,⟨X0,y0,rfl,_⟩,⟨X1,y1,rfl,_⟩,⟨X2,y2,rfl,_⟩,⟨X3,y3,rfl,_⟩⟩:=id hr
     have p0:wr.cell? ⟨bk,off+k2*5,none⟩=some (.string x.head.name):=hcell 0 _ rfl
     have p1:wr.cell? ⟨bk,off+k2*5+1,none⟩=some (.slice X0 x.head.terms.length y0):=hcell 1 _ rfl
     have p2:wr.cell? ⟨bk,off+k2*5+2,none⟩=some (.slice X1 x.body.length y1):=hcell 2 _ rfl
     have p3:wr.cell? ⟨bk,off+k2*5+3,none⟩=some (.slice X2 x.exprs.length y2):=hcell 3 _ rfl
     have p4:wr.cell? ⟨bk,off+k2*5+4,none⟩=some (.slice X3 x.scopes.length y3):=hcell 4 _ rfl
     have HBw:=zD hbw
     have HR:=zD hr
     have hszr:=hbw.size
     clear hl hcell hlen hx hr hbw
     go_wp2_with fail
     generalize hW2:World.alloc _ _=W2
     obtain ⟨hb2,hz2⟩:=al1 hW2
     clear hW2 p0 p1 p2 p3 p4
     refine (gN (d:=d) (B:=B) (r:=x) (vs:=[_,_,_,_,_]) ((RuR d).keep hb2 (by omega) HR.out) (by omega)).mono ?_
     rintro e w3 ⟨⟨m,rfl⟩,hb3⟩
     have HB3:=zD (ab HBw.out (ab hb2 hb3))
     have hfin:=zD (ab HB2.out HB3.out)
     clear hb2 hb3 hz2
     go_wp2_with fail
     all_goals first
      | (go_ret
         exact ⟨⟨_,rfl⟩,hfin.out⟩)
      | (go_roundw
         case rel=>exact ⟨k2+1,by omega,by go_num,⟨_,rfl⟩,HB3.out⟩
         case measure=>simp [intOf];omega)
    ·have HB4:=zD (ab HB2.out hbw)
     have ba4:=ba2.later hbw
     have kba:=ba4.cell
     have lba:=ba4.lt
     have hB4:B≤wr.heap.size:=by have:=hbw.size;omega
     clear HB2 hB2 hbw ba2
     go_wp2_with fail
     clear kba lba
     go_loopw [3,49] (fun v i wt=>∃k3:Nat,k3≤b.checks.length∧i=.int .i64 k3∧(∃n:Int,v=.int .i64 n)∧Below wr.heap.size wr wt) (fun _ i _=>b.checks.length-(intOf i).toNat)
     case atStart=>exact ⟨0,zG _,rfl,⟨_,rfl⟩,zH _ _⟩
     case round=>
      obtain ⟨k3,hk3,rfl,⟨n3,rfl⟩,hbw⟩:=hrel
      by_cases hlt3:k3<b.checks.length
      ·have hl:=HL2.out.keep HB4.out hB
       obtain ⟨bk,off,rfl,hbk⟩:=hl.base hbw hB4 (by omega)
       obtain ⟨x,vs,hx,hlen,hcell,hr⟩:=hl.at_ hbw hB4 hlt3
       obtain ⟨_,rfl,Aq,cq,rfl,gq,hq,hlq⟩:=id hr
       simp only [RuR] at hq
       have p0:wr.cell? ⟨bk,off+k3*2,none⟩=some (.bool x.all):=hcell 0 _ rfl
       have p1:wr.cell? ⟨bk,off+k3*2+1,none⟩=some (.slice Aq x.queries.length cq):=hcell 1 _ rfl
       have HBw:=zD hbw
       have HLq:=zD hlq
       have hszr:=hbw.size
       clear hl hcell hlen hx hr hbw hlq
       go_wp2_with fail
       generalize hW2:World.alloc _ _=W2
       obtain ⟨hb2,hz2⟩:=al1 hW2
       have HB5:=zD (ab HB4.out (ab HBw.out hb2))
       have HB6:=zD (ab HBw.out hb2)
       have HLq2:=zD (HLq.out.keep hb2 (by omega))
       have hB5:B≤W2.heap.size:=by omega
       clear hW2 p0 p1 hb2 hz2 HLq
       go_loopw [3,58] (fun v i wu=>∃j:Nat,j≤x.queries.length∧i=.int .i64 j∧(∃n:Int,v=.int .i64 n)∧Below W2.heap.size W2 wu) (fun _ i _=>x.queries.length-(intOf i).toNat)
       case atStart=>exact ⟨0,zG _,rfl,⟨_,rfl⟩,zH _ _⟩
       case round=>
        obtain ⟨j,hj,rfl,⟨n4,rfl⟩,hbw⟩:=hrel
        by_cases hlt4:j<x.queries.length
        ·obtain ⟨bk,off,rfl,hbk⟩:=HLq2.out.base hbw hB5 (by omega)
         obtain ⟨x,vs,hx,hlen,hcell,hr⟩:=HLq2.out.at_ hbw hB5 hlt4
         obtain ⟨_,_,_,_,rfl,_,⟨X0,y0,rfl,_⟩,⟨X1,y1,rfl,_⟩,⟨X2,y2,rfl,_⟩,⟨X3,y3,rfl,_⟩⟩:=id hr
         have p0:wr.cell? ⟨bk,off+j*5,none⟩=some (.string x.head.name):=hcell 0 _ rfl
         have p1:wr.cell? ⟨bk,off+j*5+1,none⟩=some (.slice X0 x.head.terms.length y0):=hcell 1 _ rfl
         have p2:wr.cell? ⟨bk,off+j*5+2,none⟩=some (.slice X1 x.body.length y1):=hcell 2 _ rfl
         have p3:wr.cell? ⟨bk,off+j*5+3,none⟩=some (.slice X2 x.exprs.length y2):=hcell 3 _ rfl
         have p4:wr.cell? ⟨bk,off+j*5+4,none⟩=some (.slice X3 x.scopes.length y3):=hcell 4 _ rfl
         have HBw:=zD hbw
         have HR:=zD hr
         have hszr:=hbw.size
         clear hcell hlen hx hr hbw
         go_wp2_with fail
         generalize hW2:World.alloc _ _=W3
         obtain ⟨hb2,hz2⟩:=al1 hW2
         clear hW2 p0 p1 p2 p3 p4
         refine (gN (d:=d) (B:=B) (r:=x) (vs:=[_,_,_,_,_]) ((RuR d).keep hb2 (by omega) HR.out) (by omega)).mono ?_
         rintro e w3 ⟨⟨m,rfl⟩,hb3⟩
         have HB7:=zD (ab HBw.out (ab hb2 hb3))
         have hfin:=zD (ab HB5.out HB7.out)
         clear hb2 hb3 hz2
         go_wp2_with fail
         all_goals first
          | (go_ret
             exact ⟨⟨_,rfl⟩,hfin.out⟩)
          | (go_roundw
             case rel=>exact ⟨j+1,by omega,by go_num,⟨_,rfl⟩,HB7.out⟩
             case measure=>simp [intOf];omega)
        ·have HB8:=zD (ab HB6.out hbw)
         clear hbw
         go_wp2_with fail
         go_roundw
         case rel=>exact ⟨k3+1,by omega,by go_num,⟨_,rfl⟩,HB8.out⟩
         case measure=>simp [intOf];omega
      ·have hfin:=zD (ab HB4.out hbw)
       clear hbw
       go_wp2_with fail
       go_ret
       exact ⟨⟨_,rfl⟩,hfin.out⟩
theorem pk {d B:Nat} {l:List Ru} {v:Value} {w:World} (hl:RSl (RuR d) w B l v) (hB:B≤w.heap.size) :
 Calls Tryz.prog 74 #[v] w fun e w'=>(∃m:Int,e=.returned (.int .i64 m))∧Below w.heap.size w w':=by
 have HL:=zD hl
 obtain ⟨A,c,rfl,g,h,_⟩:=hl
 go_enter Tryz.func74,Tryz.ntmps74
 go_wp2_with fail
 refine (uq (d:=d) (B:=B) (b:=⟨[],l,[],[]⟩) (vs:=[_,_,_,_]) (show (BkR d).rd w B ⟨[],l,[],[]⟩ _ from ⟨_,_,_,_,rfl,fj,HL.out,fj,fj⟩) hB).mono ?_
 rintro e w1 ⟨⟨m,rfl⟩,hb1⟩
 have HB:=zD hb1
 clear hb1
 go_wp2_with fail
 go_ret
 exact ⟨⟨_,rfl⟩,HB.out⟩
theorem tc {d B c:Nat} {l:List Fc} {A:Option Addr} {r:Ru} {vr:List Value} {w:World} (hl:RL (aA (d+1)) w B l A) (hr:(RuR (d+1)).rd w B r vr) (hB:B≤w.heap.size) (hn:l.length≤140737488351232) :
 Calls Tryz.prog 73 #[.slice A l.length c,.agg vr.toArray] w fun z w'=>(∃q:Int,z=.returned (.int .i64 q))∧Below w.heap.size w w':=by
 have HL:=zD hl
 have HR:=zD hr
 obtain ⟨_,_,_,_,rfl,_,⟨A0,c0,rfl,_⟩,⟨A1,c1,rfl,_⟩,⟨A2,c2,rfl,_⟩,⟨A3,c3,rfl,_⟩⟩:=hr
 clear hl
 go_enter Tryz.func73,Tryz.ntmps73
 go_upto_region 1 with fail
 generalize hW:World.alloc _ _=w1
 obtain ⟨hb1,hz⟩:=al1 hW
 have HK1:=zD (n11 hW)
 have HB1:=zD hb1
 have hsz1:=hb1.size
 clear hW hb1 hz
 have k_r:=HK1.out.cell
 have l_r:=HK1.out.lt
 go_wp2_with fail
 refine (uX (d:=d) (B:=B) (l:=l) (r:=r) (vr:=[_,_,_,_,_]) (HL.out.keep HB1.out hB) ((RuR (d+1)).keep HB1.out hB HR.out) (by omega) hn).mono ?_
 rintro z w2 ⟨⟨q,rfl,hq⟩,hb2⟩
 have HB2:=zD (ab HB1.out hb2)
 clear hb2 hq k_r l_r
 cases q
 ·go_wp2_with fail
  go_ret
  exact ⟨⟨_,rfl⟩,HB2.out⟩
 ·go_wp2_with fail
  go_ret
  exact ⟨⟨_,rfl⟩,HB2.out⟩
def yN (n b k:Nat) (z:Ending):Prop:=∃q,z=.returned (.bool q)∧(q=true→n≤600∧b≤20∧k≤20)
theorem yN.no {n b k:Nat}:yN n b k (.returned (.bool false)):=⟨false,rfl,fun h=>by cases h⟩
theorem uY {d B c cq cb ck:Nat} {l:List Fc} {A Aq Ab Ak:Option Addr} {qs:List Ru} {blk:List Sc} {keys:List ByteArray} {w:World} (hl:RL (aA (d+1)) w B l A) (hq:RSl (RuR (d+1)) w B qs (.slice Aq qs.length cq)) (hB:B≤w.heap.size) (hn:l.length≤140737488351232) :
 Calls Tryz.prog 25 #[.slice A l.length c,.slice Aq qs.length cq,.slice Ab blk.length cb,.slice Ak keys.length ck] w fun z w'=>yN l.length blk.length keys.length z∧Below w.heap.size w w':=by
 have HL:=zD hl
 have HQS:=zD hq
 have HQL:Hid (RL (RuR (d+1)) w B qs Aq):=zD (by obtain ⟨A',c',e,_,_,h⟩:=hq;cases e;exact h)
 have hqn:qs.length≤140737488351232:=by obtain ⟨A',c',e,_,h,_⟩:=hq;have:=h.1;simp only [RuR] at this;omega
 clear hl hq
 go_enter Tryz.func25,Tryz.ntmps25
 go_upto_region 2 with fail
 go_loopw [13] (fun i wr=>∃k:Nat,k≤qs.length∧i=.int .i64 k∧Hid (Below w.heap.size w wr)) (fun i _=>qs.length-(intOf i).toNat)
 case atStart=>exact ⟨0,zG _,rfl,zD (zH _ _)⟩
 case round=>
  obtain ⟨k,hk,rfl,HW⟩:=hrel
  have hszr:=HW.out.size
  have hBr:B≤wr.heap.size:=zE hB hszr
  by_cases hlt:k<qs.length
  ·obtain ⟨b,off,rfl,hob⟩:=(HQL.out.keep HW.out hB).base (zH _ _) hBr (by omega)
   obtain ⟨q,vs,hx,hlen,hcell,hr⟩:=(HQL.out.keep HW.out hB).at_ (zH _ _) hBr hlt
   have HQ:=zD hr
   obtain ⟨_,_,_,_,rfl,_,⟨A0,c0,rfl,_⟩,⟨A1,c1,rfl,_⟩,⟨A2,c2,rfl,_⟩,⟨A3,c3,rfl,_⟩⟩:=hr
   have p0:wr.cell? ⟨b,off+k*5,none⟩=some (.string q.head.name):=hcell 0 _ rfl
   have p1:wr.cell? ⟨b,off+k*5+1,none⟩=some (.slice A0 q.head.terms.length c0):=hcell 1 _ rfl
   have p2:wr.cell? ⟨b,off+k*5+2,none⟩=some (.slice A1 q.body.length c1):=hcell 2 _ rfl
   have p3:wr.cell? ⟨b,off+k*5+3,none⟩=some (.slice A2 q.exprs.length c2):=hcell 3 _ rfl
   have p4:wr.cell? ⟨b,off+k*5+4,none⟩=some (.slice A3 q.scopes.length c3):=hcell 4 _ rfl
   clear hcell hlen hx
   go_upto_region 4 with fail
   generalize hW:World.alloc _ _=w3
   obtain ⟨hb3,hz3⟩:=al1 hW
   have HK3:=zD (n11 hW)
   have HB3:=zD (ab HW.out hb3)
   have HQ3:=zD ((RuR (d+1)).keep hb3 hBr HQ.out)
   have hsz3:=hb3.size
   clear hW hb3 hz3 p0 p1 p2 p3 p4
   have k_r:=HK3.out.cell
   have l_r:=HK3.out.lt
   by_cases hg:(20:Int)≤(k:Int)
   ·go_wp2_with fail
    go_ret
    exact ⟨yN.no,HB3.out⟩
   ·go_wp2_with fail
    refine (tc (d:=d) (B:=B) (l:=l) (r:=q) (vr:=[_,_,_,_,_]) (HL.out.keep HB3.out hB) HQ3.out (by omega) hn).mono ?_
    rintro z w4 ⟨⟨v,rfl⟩,hb4⟩
    have HB4:=zD (ab HB3.out hb4)
    clear hb4 k_r l_r
    by_cases hv:(0:Int)<v
    ·go_wp2_with fail
     go_ret
     exact ⟨yN.no,HB4.out⟩
    ·go_wp2_with fail
     go_roundw
     case rel=>exact ⟨k+1,by omega,by go_num,HB4⟩
     case measure=>simp [intOf];omega
  ·generalize wr=w2 at *
   go_wp2_with fail
   refine (mE (HL.out.keep HW.out hB) hBr hn).mono ?_
   rintro z w3 ⟨⟨v,rfl,hv⟩,hb3⟩
   have HB3:=zD (ab HW.out hb3)
   clear hb3
   by_cases hv0:v=0
   rotate_left
   ·have hv1:((0:Int)==v)=false:=by rw [beq_eq_false_iff_ne];omega
    clear hv
    go_wp2_with fail
    go_ret
    exact ⟨yN.no,HB3.out⟩
   ·have hl6:=hv hv0
    subst hv0
    clear hv
    by_cases hb20:(blk.length:Int)≤20
    rotate_left
    ·go_wp2_with fail
     go_ret
     exact ⟨yN.no,HB3.out⟩
    ·by_cases hk20:(keys.length:Int)≤20
     rotate_left
     ·go_wp2_with fail
      go_ret
      exact ⟨yN.no,HB3.out⟩
     ·go_wp2_with fail
      refine (pk (d:=d+1) (B:=B) (l:=qs) (HQS.out.keep HB3.out hB) (zE hB HB3.out.size)).mono ?_
      rintro z w4 ⟨⟨v,rfl⟩,hb4⟩
      have HB4:=zD (ab HB3.out hb4)
      clear hb4
      go_wp2_with fail
      go_ret
      exact ⟨⟨_,rfl,fun _=>⟨hl6,by omega,by omega⟩⟩,HB4.out⟩
section
variable {fs:List Fc} {blk:List Sc} {own:Int} {keys:List ByteArray} {qs:List Ru} {r:Ru}
def pH (fs:List Fc) (blk:List Sc) (own:Int) (keys:List ByteArray) (r:Ru):Bool × Int:=eD fs (aM r.scopes blk own keys) r
def zA (fs:List Fc) (blk:List Sc) (own:Int) (keys:List ByteArray) (r:Ru):Bool × Int:=cI fs (aM r.scopes blk own keys) r
theorem vQ (a:Bool):dY ⟨a,[r]⟩=ay r:=by simp [dY,cE]
theorem ru (p:Bool × Int):(if p.1=true∨p.2≠0 then p else (false,0))=p:=by
 split
 ·rfl
 ·rename_i h
  obtain ⟨a,b⟩:=p
  simp only [not_or,Bool.not_eq_true,ne_eq,Classical.not_not] at h
  rw [h.1,h.2]
theorem uB:bR fs blk own keys ⟨false,[r]⟩=pH fs blk own keys r:=by
 unfold bR
 rw [vQ]
 split
 ·show (if _ then _ else _)=_
  rw [show rr fs false blk own keys []=(false,0) from rfl]
  exact ru _
 ·rename_i h
  unfold pH eD
  rw [if_neg h]
theorem uA:bR fs blk own keys ⟨true,[r]⟩=zA fs blk own keys r:=by
 unfold bR
 rw [vQ]
 split
 ·show (if _ then _ else _)=_
  rw [show rr fs true blk own keys []=(false,0) from rfl]
  exact ru _
 ·rename_i h
  unfold zA cI
  rw [if_neg h]
def zx (fs:List Fc) (blk:List Sc) (own:Int) (keys:List ByteArray) (qs:List Ru):Bool:=qs.any fun r=>(pH fs blk own keys r).1
def zn (fs:List Fc) (blk:List Sc) (own:Int) (keys:List ByteArray) (qs:List Ru):Bool:=qs.any fun r=>(pH fs blk own keys r).2 !=0
theorem ro {α:Type} {l:List α} {k:Nat} {x:α} {p:α→Bool} (h:l[k]? = some x):(l.take (k+1)).any p=((l.take k).any p||p x):=by
 obtain ⟨hk,rfl⟩:=List.getElem?_eq_some_iff.1 h
 rw [List.take_succ_eq_append_getElem hk,List.any_append]
 simp
theorem rt:∀{qs:List Ru},zn fs blk own keys qs=false→rr fs false blk own keys qs=(zx fs blk own keys qs,0)
 | [],_=>rfl
 | q::qs,h=>by
   unfold zn at h
   rw [List.any_cons,Bool.or_eq_false_iff] at h
   have h2:(pH fs blk own keys q).2=0:=by simpa using h.1
   have ih:=rt (qs:=qs) h.2
   rw [rr]
   show (if (pH fs blk own keys q).1=true∨(pH fs blk own keys q).2≠0 then pH fs blk own keys q else _)=_
   unfold zx
   rw [List.any_cons]
   by_cases h1:(pH fs blk own keys q).1=true
   ·rw [if_pos (.inl h1),h1,Bool.true_or]
    exact Prod.ext h1 h2
   ·rw [if_neg (by rintro (h | h);exact h1 h;exact h h2),ih,Bool.eq_false_iff.2 h1,Bool.false_or];rfl
theorem one_may (h:(pH fs blk own keys r).2=0):ay r=true:=by
 unfold pH eD at h
 split at h
 ·assumption
 ·cases h
theorem ng (h0:qs.length≠0) (h8:qs.length≤8) (h:zn fs blk own keys qs=false):bR fs blk own keys ⟨false,qs⟩=(zx fs blk own keys qs,0):=by
 unfold bR
 have hm:dY ⟨false,qs⟩=true:=by
  unfold dY cE
  rw [decide_eq_true (by show 1≤qs.length;omega),decide_eq_true (by show (qs.length:Int)≤8;omega),Bool.true_and,Bool.true_and,List.all_eq_true]
  intro q hq
  unfold zn at h
  rw [List.any_eq_false] at h
  have:=h q hq
  exact one_may (by simpa using this)
 rw [if_pos hm]
 exact rt h
theorem uR (h:zA fs blk own keys r=(true,0)):pH fs blk own keys r=(true,0):=qk h
end
theorem stL_few {l:List Fc} {xs:List FV} (h:xs.map FV.f=stL l) (hl:l.length≤1000):xs.length≤100000:=by
 have h1:=qX l []
 have h2:=congrArg List.length h
 rw [List.length_map] at h2
 unfold stL at h2
 simp only [List.length_nil] at h1
 omega
theorem pK {d B c cq cb ck:Nat} {l:List Fc} {A Aq Ab Ak:Option Addr} {qs:List Ru} {blk:List Sc} {keys:List ByteArray} {own m:Int} {w:World} (HAW:∀w1:World,Below w.heap.size w w1→Calls Tryz.prog 26 #[] w1 fun z w'=>z=.returned (.bool true)∧Below w1.heap.size w1 w')
 (hl:RL (aA (d+1)) w B l A) (hn0:l.length*(8*3)≤140737488351232) (hqs:RSl (RuR (d+1)) w B qs (.slice Aq qs.length cq)) (hbl:RL ScR w B blk Ab) (hbn0:blk.length*(8*2)≤140737488351232) (ho:I64 own) (hks:RL cD w B keys Ak) (hkn0:keys.length*(8*1)≤140737488351232) (hB:B≤w.heap.size) (hm:w.cell? ⟨0,0,none⟩=some (.int .i64 m)) (hp:0<w.heap.size) :
 Calls Tryz.prog 7 #[.slice A l.length c,.slice Aq qs.length cq,.slice Ab blk.length cb,.int .i64 own,.slice Ak keys.length ck] w fun z w'=>z=.returned (.bool true)∧Below w.heap.size w w':=by
 have hn:l.length≤140737488351232:=by omega
 have HSN:Hid (blk.length≤140737488351232∧keys.length≤140737488351232):=zD (by omega)
 clear hn0 hbn0 hkn0
 have HAWH:=zD HAW
 have HL:=zD hl
 have HQS:=zD hqs
 have HBL:=zD hbl
 have HKS:=zD hks
 have HOW:=zD ho
 have HM:=zD hm
 have HQL:Hid (RL (RuR (d+1)) w B qs Aq):=zD (by obtain ⟨A',c',e,_,_,h⟩:=hqs;cases e;exact h)
 have HQN:Hid (qs.length≤140737488351232):=zD (by obtain ⟨A',c',e,_,h,_⟩:=hqs;have:=h.1;simp only [RuR] at this;omega)
 have hqn:=HQN.out
 clear HAW hl hqs hbl hks ho hm
 go_enter Tryz.func7,Tryz.ntmps7
 go_wp2_with fail
 refine (uY (d:=d) (B:=B) HL.out HQS.out hB hn).mono ?_
 rintro z w1 ⟨⟨q,rfl,hq⟩,hb1⟩
 have HB1:=zD hb1
 clear hb1
 cases q
 ·clear hq
  go_wp2_with fail
  refine (HAWH.out _ HB1.out).mono ?_
  rintro z w3 ⟨rfl,hb3⟩
  go_wp2_with fail
  go_ret
  exact ⟨rfl,ab HB1.out hb3⟩
 obtain ⟨hl6,hb20,hk20⟩:=hq rfl
 clear hq
 by_cases hq0:qs.length=0
 ·have hq0':((qs.length:Int)==0)=true:=by simp [hq0]
  clear hq0
  go_wp2_with fail
  refine (HAWH.out _ HB1.out).mono ?_
  rintro z w3 ⟨rfl,hb3⟩
  go_wp2_with fail
  go_ret
  exact ⟨rfl,ab HB1.out hb3⟩
 have hq0':((qs.length:Int)==0)=false:=by rw [beq_eq_false_iff_ne];omega
 have HQ0:=zD hq0
 clear hq0
 by_cases hq8:(8:Int)<(qs.length:Int)
 ·go_wp2_with fail
  refine (HAWH.out _ HB1.out).mono ?_
  rintro z w3 ⟨rfl,hb3⟩
  go_wp2_with fail
  go_ret
  exact ⟨rfl,ab HB1.out hb3⟩
 go_wp2_with fail
 refine (vL (d:=d) (B:=B) (l:=l) (A:=A) (c:=c) (HL.out.keep HB1.out hB) (zE hB HB1.out.size) (by omega)).mono ?_
 rintro z w3 ⟨S,M,xs,As,cs,ys,Am,cm,rfl,hT,hx,hy,hb3⟩
 have HB3:=zD (ab HB1.out hb3)
 have HFW:=zD (stL_few hx (by omega))
 have HS3:=zD hT.s
 clear hT hx hy hb3
 generalize hfs:xs.map FV.f=fs at *
 go_upto_region 6 with fail
 go_loopw [13,14,47] (fun a b i wr=>∃(k:Nat) (av bv:Bool),k≤qs.length∧i=.int .i64 k∧a=.bool av∧b=.bool bv∧Hid (zx fs blk own keys (qs.take k)=av)∧Hid (zn fs blk own keys (qs.take k)=bv)∧Hid (Below w3.heap.size w3 wr)) (fun _ _ i _=>qs.length-(intOf i).toNat)
 case atStart=>exact ⟨0,false,false,zG _,rfl,rfl,rfl,zD rfl,zD rfl,zD (zH _ _)⟩
 case round=>
  obtain ⟨k,av,bv,hk,rfl,rfl,rfl,HAV,HBV,HWR⟩:=hrel
  have HW:=zD (ab HB3.out HWR.out)
  have hBr:B≤wr.heap.size:=zE hB HW.out.size
  by_cases hlt:k<qs.length
  ·obtain ⟨b,off,rfl,hob⟩:=(HQL.out.keep HW.out hB).base (zH _ _) hBr (by omega)
   obtain ⟨r,vs,hx,hlen,hcell,hr⟩:=HQL.out.at0 HW.out hB hlt
   have HX:=zD hx
   have HR0:=zD hr
   obtain ⟨_,_,_,_,rfl,_,⟨A0,c0,rfl,_⟩,⟨A1,c1,rfl,_⟩,⟨A2,c2,rfl,_⟩,⟨A3,c3,rfl,_⟩⟩:=hr
   have p0:wr.cell? ⟨b,off+k*5,none⟩=some (.string r.head.name):=hcell 0 _ rfl
   have p1:wr.cell? ⟨b,off+k*5+1,none⟩=some (.slice A0 r.head.terms.length c0):=hcell 1 _ rfl
   have p2:wr.cell? ⟨b,off+k*5+2,none⟩=some (.slice A1 r.body.length c1):=hcell 2 _ rfl
   have p3:wr.cell? ⟨b,off+k*5+3,none⟩=some (.slice A2 r.exprs.length c2):=hcell 3 _ rfl
   have p4:wr.cell? ⟨b,off+k*5+4,none⟩=some (.slice A3 r.scopes.length c3):=hcell 4 _ rfl
   clear hcell hlen hx
   go_upto_region 8 with fail
   generalize hW:World.alloc _ _=w4
   obtain ⟨hb4,hz4⟩:=al1 hW
   have HK4:=zD (n11 hW)
   have HB4:=zD (ab HW.out hb4)
   have HX4:=zD (ab HWR.out hb4)
   clear hW hb4 hz4 p0 p1 p2 p3 p4
   have HSW:Hid (∀W:World,Below w3.heap.size w3 W→StA (M+1) d W S xs As cs):=zD (fun W h=>HS3.out.later h)
   have k_r:=HK4.out.cell
   have l_r:=HK4.out.lt
   go_wp2_with fail
   generalize hW:World.alloc _ _=u1
   obtain ⟨hbu,hzu⟩:=al1 hW
   have HG1:=zD (n11 hW)
   have HBu1:=zD (ab HB4.out hbu)
   have HKu1:=zD (HK4.out.later hbu)
   have hszu1:=HBu1.out.size
   have hu1:=hbu
   clear hW hbu hzu k_r l_r
   have HCR1:Hid ((CkR (d+1)).rd u1 u1.heap.size ⟨false,[r]⟩ [.bool false,.slice (some ⟨w4.heap.size,0,none⟩) 1 1]):=zD ⟨_,rfl,jJ (R:=RuR (d+1)) (c:=1) (HG1.out.rl (R:=RuR (d+1)) (x:=r) ((RuR (d+1)).wide (zE hB hszu1) ((RuR (d+1)).keep HBu1.out hB HR0.out)) HG1.out.lt) (by simp) (by simp [RuR]) (by omega)⟩
   refine (kC (d:=d) (B:=u1.heap.size) (c:=⟨false,[r]⟩) (vc:=[_,_]) HCR1.out ((HBL.out.keep HBu1.out hB).wide (zE hB hszu1)) ((HKS.out.keep HBu1.out hB).wide (zE hB hszu1)) HOW.out HSN.out.1 HSN.out.2 (zF _) (HSW.out _ (ab HX4.out hu1)) HFW.out ((HBu1.out.cell (p:=⟨0,0,none⟩) hp).trans HM.out) (zI hp HBu1.out.size)).mono ?_
   rintro z v1 ⟨rfl,hbv⟩
   have HBv1:=zD (ab HBu1.out hbv)
   have HKv1:=zD (HKu1.out.later hbv)
   have hv1:=hbv
   clear hbv
   have k_r:=HKv1.out.cell
   have l_r:=HKv1.out.lt
   go_wp2_with fail
   generalize hW:World.alloc _ _=u2
   obtain ⟨hbu,hzu⟩:=al1 hW
   have HG2:=zD (n11 hW)
   have HBu2:=zD (ab HBv1.out hbu)
   have HKu2:=zD (HKv1.out.later hbu)
   have hszu2:=HBu2.out.size
   have hu2:=hbu
   clear hW hbu hzu k_r l_r
   have HCR2:Hid ((CkR (d+1)).rd u2 u2.heap.size ⟨true,[r]⟩ [.bool true,.slice (some ⟨v1.heap.size,0,none⟩) 1 1]):=zD ⟨_,rfl,jJ (R:=RuR (d+1)) (c:=1) (HG2.out.rl (R:=RuR (d+1)) (x:=r) ((RuR (d+1)).wide (zE hB hszu2) ((RuR (d+1)).keep HBu2.out hB HR0.out)) HG2.out.lt) (by simp) (by simp [RuR]) (by omega)⟩
   refine (kC (d:=d) (B:=u2.heap.size) (c:=⟨true,[r]⟩) (vc:=[_,_]) HCR2.out ((HBL.out.keep HBu2.out hB).wide (zE hB hszu2)) ((HKS.out.keep HBu2.out hB).wide (zE hB hszu2)) HOW.out HSN.out.1 HSN.out.2 (zF _) (HSW.out _ (ab HX4.out (ab (Below.trans hu1 (hv1.mono hu1.size)) hu2))) HFW.out ((HBu2.out.cell (p:=⟨0,0,none⟩) hp).trans HM.out) (zI hp HBu2.out.size)).mono ?_
   rintro z v2 ⟨rfl,hbv⟩
   have HBv2:=zD (ab HBu2.out hbv)
   have HKv2:=zD (HKu2.out.later hbv)
   have hv2:=hbv
   clear hbv
   have HA2:Hid (zx fs blk own keys (qs.take (k+1))=(av||(pH fs blk own keys r).1)):=zD (by unfold zx at *;rw [ro HX.out,HAV.out])
   have HB2:Hid (zn fs blk own keys (qs.take (k+1))=(bv||(pH fs blk own keys r).2 !=0)):=zD (by unfold zn at *;rw [ro HX.out,HBV.out])
   have HLW:Hid (zA fs blk own keys r=(true,0)→pH fs blk own keys r=(true,0)):=zD uR
   rw [hfs,uB,uA]
   generalize pH fs blk own keys r=h at *
   generalize zA fs blk own keys r=g at *
   have HXE:=zD (ab HX4.out (ab (Below.trans hu1 (hv1.mono hu1.size)) (Below.trans hu2 (hv2.mono hu2.size))))
   clear hu1 hv1 hu2 hv2
   obtain ⟨h1,h2⟩:=h
   obtain ⟨g1,g2⟩:=g
   simp only at HA2 HB2
   by_cases hg2:g2=0
   ·have hg3:(g2==0)=true:=by simpa using hg2
    cases g1
    ·clear HLW hg2
     by_cases hh:h2=0
     ·have hh3:(h2 !=0)=false:=by simpa using hh
      rw [hh3] at HB2
      clear hh
      cases av<;>cases bv<;>cases h1
      all_goals
       go_wp2_with fail
       go_roundw
       case rel=>exact ⟨k+1,_,_,by omega,by go_num,rfl,rfl,HA2,HB2,HXE⟩
       case measure=>simp [intOf];omega
     ·have hh3:(h2 !=0)=true:=by simpa using hh
      rw [hh3] at HB2
      clear hh
      cases av<;>cases bv<;>cases h1
      all_goals
       go_wp2_with fail
       go_roundw
       case rel=>exact ⟨k+1,_,_,by omega,by go_num,rfl,rfl,HA2,HB2,HXE⟩
       case measure=>simp [intOf];omega
    ·have hl:=HLW.out (by rw [hg2])
     simp only [Prod.mk.injEq] at hl
     obtain ⟨rfl,rfl⟩:=hl
     have hh3:((0:Int) !=0)=false:=rfl
     rw [hh3] at HB2
     clear HLW hg2 hh3
     cases av<;>cases bv
     all_goals
      go_wp2_with fail
      go_roundw
      case rel=>exact ⟨k+1,_,_,by omega,by go_num,rfl,rfl,HA2,HB2,HXE⟩
      case measure=>simp [intOf];omega
   ·have hg3:(g2==0)=false:=by simpa using hg2
    clear HLW hg2
    by_cases hh:h2=0
    ·have hh3:(h2 !=0)=false:=by simpa using hh
     rw [hh3] at HB2
     clear hh
     cases av<;>cases bv<;>cases h1
     all_goals
      go_wp2_with fail
      go_roundw
      case rel=>exact ⟨k+1,_,_,by omega,by go_num,rfl,rfl,HA2,HB2,HXE⟩
      case measure=>simp [intOf];omega
    ·have hh3:(h2 !=0)=true:=by simpa using hh
     rw [hh3] at HB2
     clear hh
     cases av<;>cases bv<;>cases h1
     all_goals
      go_wp2_with fail
      go_roundw
      case rel=>exact ⟨k+1,_,_,by omega,by go_num,rfl,rfl,HA2,HB2,HXE⟩
      case measure=>simp [intOf];omega
  ·have hkl:qs.take k=qs:=List.take_of_length_le (by omega)
   rw [hkl] at HAV HBV
   clear hkl
   cases bv
   rotate_left
   ·go_wp2_with fail
    refine (HAWH.out _ HW.out).mono ?_
    rintro z w8 ⟨rfl,hb8⟩
    go_wp2_with fail
    go_ret
    exact ⟨rfl,ab HW.out hb8⟩
   ·have HCV:Hid (bR fs blk own keys ⟨false,qs⟩=(av,0)):=zD (by rw [ng HQ0.out (by omega) HBV.out,HAV.out])
    go_wp2_with fail
    refine (kC (d:=d) (B:=B) (c:=⟨false,qs⟩) (vc:=[_,_]) ⟨_,rfl,HQS.out.keep HW.out hB⟩ (HBL.out.keep HW.out hB) (HKS.out.keep HW.out hB) HOW.out HSN.out.1 HSN.out.2 hBr (HS3.out.later HWR.out) HFW.out ((HW.out.cell (p:=⟨0,0,none⟩) hp).trans HM.out) (zI hp HW.out.size)).mono ?_
    rintro z w8 ⟨rfl,hb8⟩
    have HB8:=zD (ab HW.out hb8)
    clear hb8
    rw [hfs,HCV.out]
    go_wp2_with fail
    refine (HAWH.out _ HB8.out).mono ?_
    rintro z w9 ⟨rfl,hb9⟩
    go_wp2_with fail
    go_ret
    exact ⟨rfl,ab HB8.out hb9⟩
def awS:ByteArray:=⟨#[112]⟩
def awX:ByteArray:=⟨#[120]⟩
def awT (n:Int):Tm:=⟨2,n,⟨#[]⟩,[]⟩
def awV:Tm:=⟨1,0,awX,[]⟩
def awF (n:Int):Fc:=⟨⟨awS,[awT n]⟩,1⟩
def awA (n:Int):Ans:=⟨⟨[[120]],[awT n]⟩,1⟩
def awE:List OpD:=[⟨1,awV,0,0⟩,⟨1,awT 2,0,0⟩,⟨3,⟨0,0,⟨#[]⟩,[]⟩,1,0⟩]
def awQ:Ru:=⟨⟨⟨#[]⟩,[]⟩,[⟨awS,[awV]⟩],[awE],[]⟩
theorem uj:stL [awF 1,awF 2]=[awF 1,awF 2]:=by kernel_rfl
theorem pP:ay awQ=true:=by kernel_rfl
theorem awq_run:cv [awF 1,awF 2] 1 [awE] [⟨awS,[awV]⟩] fI ⟨0,[],0⟩=⟨2,[awA 1],0⟩:=by kernel_rfl
theorem xk:cv [awF 1,awF 2] 1 [] [⟨awS,[awV]⟩] fI ⟨0,[],0⟩=⟨2,[awA 1,awA 2],0⟩:=by kernel_rfl
theorem aw1_one:dD (awA 1).b [awE] true=(true,0):=by kernel_rfl
theorem aw1_no:dD (awA 1).b [awE] false=(false,0):=by kernel_rfl
theorem aw2_one:dD (awA 2).b [awE] true=(false,0):=by kernel_rfl
theorem aw2_no:dD (awA 2).b [awE] false=(false,0):=by kernel_rfl
theorem ui:eD (stL [awF 1,awF 2]) 1 awQ=(true,0):=by
 have h:qT (stL [awF 1,awF 2]) 1 awQ=⟨2,[awA 1],0⟩:=by rw [uj];exact awq_run
 have h2:aS (stL [awF 1,awF 2]) 1 awQ=([awA 1],0):=by
  rw [fe,if_pos (by rw [pP,Bool.or_true]),h,if_pos rfl,wM]
 unfold eD
 rw [if_pos pP,h2]
 rfl
theorem oz:∀{L:List Ans} {a:Bool},(∀x∈L,x=awA 1∨x=awA 2)→awA 2∈L∨a=false→fF [awE] L a=(false,0)
 | [],a,h,h2=>by
   obtain h2 | h2:=h2
   ·cases h2
   ·rw [h2];rfl
 | x::xs,a,h,h2=>by
   have hxs:∀y∈xs,y=awA 1∨y=awA 2:=fun y hy=>h y (List.mem_cons_of_mem _ hy)
   obtain rfl | rfl:=h x List.mem_cons_self
   ·cases a
    ·rw [fF,aw1_no];exact oz hxs (.inr rfl)
    ·rw [fF,aw1_one]
     refine oz hxs (.inl ?_)
     obtain h2 | h2:=h2
     ·obtain e | h2:=List.mem_cons.1 h2
      ·exact absurd e (by simp [awA,awT])
      ·exact h2
     ·cases h2
   ·cases a
    ·rw [fF,aw2_no];exact oz hxs (.inr rfl)
    ·rw [fF,aw2_one];exact oz hxs (.inr rfl)
theorem uh:cI (stL [awF 1,awF 2]) 1 awQ=(false,0):=by
 have hm:(bl (nd awQ)||ay (nd awQ))=true:=by kernel_rfl
 have h:qT (stL [awF 1,awF 2]) 1 (nd awQ)=⟨2,[awA 1,awA 2],0⟩:=by rw [uj];exact xk
 have h2:bK (stL [awF 1,awF 2]) 1 awQ=(lJ [awA 1,awA 2],0):=by
  unfold bK
  rw [if_neg (by simp [awQ]),fe,if_pos hm,h,if_pos rfl]
 obtain ⟨_,h3,h4⟩:=eW [awA 1,awA 2]
 unfold cI
 rw [if_pos pP,h2,if_neg (by simp)]
 refine oz (fun x hx=>by have:=h4 x hx;simpa using this) (.inl ?_)
 obtain ⟨y,hy,e⟩:=h3 (awA 2) (by simp)
 obtain rfl | rfl:=(show y=awA 1∨y=awA 2 by have:=h4 y hy;simpa using this)
 ·exact absurd e (of_decide_eq_false (by kernel_rfl))
 ·exact hy
end Go.Proofs.YtdphibjibnffeaaGreat
