/- What Query and Every tell, as plain functions; what holds of every holds of one. No program here. -/
import Derived.Test.YtdphibjibnffeaaGreatMade
import Derived.Test.YtdphibjibnffeaaGreatLit
set_option linter.unusedVariables false
set_option linter.unusedSimpArgs false
set_option maxRecDepth 100000
set_option maxHeartbeats 8000000
namespace Go.Proofs.YtdphibjibnffeaaGreat
open Go.ChangeShapes Go.WideShapes Go.ChangeAt Go.RowKit
theorem tN {d B:Nat} {b:Bk} {vs:List Value} {w:World} (hx:(BkR d).rd w B b vs) (hB:B≤w.heap.size) :
 Calls Tryz.prog 133 #[.agg vs.toArray] w fun e w'=>(∃m:Int,e=.returned (.int .i64 m))∧Below w.heap.size w w':=by
 obtain ⟨_,_,_,_,rfl,⟨A0,c0,rfl,g0,h0,hl0⟩,⟨A1,c1,rfl,g1,h1,hl1⟩,⟨A2,c2,rfl,g2,h2,hl2⟩,⟨A3,c3,rfl,g3,h3,hl3⟩⟩:=hx
 simp only [PrR,RuR,CkR,ScR] at h0 h1 h2 h3
 have HL0:=yW hl0
 have HL1:=yW hl1
 have HL2:=yW hl2
 clear hl0 hl1 hl2 hl3
 go_enter Tryz.func133,Tryz.ntmps133
 go_wp2_with fail
 generalize hW:World.alloc _ _=W
 obtain ⟨hb,hz⟩:=al1 hW
 have ba:=n11 hW
 have HB1:=yW hb
 have hB1:B≤W.heap.size:=by omega
 clear hW hb hz
 go_loopw [3,18] (fun v i wr=>∃k:Nat,k≤b.facts.length∧i=.int .i64 k∧(∃n:Int,v=.int .i64 n)∧Below W.heap.size W wr) (fun _ i _=>b.facts.length-(intOf i).toNat)
 case atStart=>exact ⟨0,yZ _,rfl,⟨_,rfl⟩,za _ _⟩
 case round=>
  obtain ⟨k,hk,rfl,⟨n,rfl⟩,hbw⟩:=hrel
  by_cases hlt:k<b.facts.length
  ·have hl:=HL0.out.keep HB1.out hB
   obtain ⟨bk,off,rfl,hbk⟩:=hl.base hbw hB1 (by omega)
   obtain ⟨x,vs,hx,hlen,hcell,hr⟩:=hl.at_ hbw hB1 hlt
   obtain ⟨_,rfl,hs,Ax,cx,rfl,gx,hxx,hlx⟩:=id hr
   have p0:wr.cell? ⟨bk,off+k*2,none⟩=some (.string x.name):=hcell 0 _ rfl
   have p1:wr.cell? ⟨bk,off+k*2+1,none⟩=some (.slice Ax x.terms.length cx):=hcell 1 _ rfl
   have HBw:=yW hbw
   have HR:=yW (And.intro hs (show RSl (TmR d) wr B x.terms (.slice Ax x.terms.length cx) from ⟨Ax,cx,rfl,gx,hxx,hlx⟩))
   have hszr:=hbw.size
   clear hl hcell hlen hx hr hlx hs gx hxx hbw
   go_wp2_with fail
   generalize hW2:World.alloc _ _=W2
   obtain ⟨hb2,hz2⟩:=al1 hW2
   clear hW2 p0 p1
   refine (gF (d:=d) (B:=B) (r:=⟨x,[],[],[]⟩) (vs:=[_,_,_,_,_]) (show (RuR d).rd W2 B ⟨x,[],[],[]⟩ _ from ⟨_,_,_,_,rfl,HR.out.1,HR.out.2.keep hb2 (by omega),eY,eY,eY⟩) (by omega)).mono ?_
   rintro e w3 ⟨⟨m,rfl⟩,hb3⟩
   have HB3:=yW (ab HBw.out (ab hb2 hb3))
   have hfin:=yW (ab HB1.out HB3.out)
   clear hb2 hb3 hz2
   go_wp2_with fail
   all_goals first
    | (go_ret
       exact ⟨⟨_,rfl⟩,hfin.out⟩)
    | (go_roundw
       case rel=>exact ⟨k+1,by omega,by go_num,⟨_,rfl⟩,HB3.out⟩
       case measure=>simp [intOf];omega)
  ·have HB2:=yW (ab HB1.out hbw)
   have ba2:=ba.later hbw
   have kba:=ba2.cell
   have lba:=ba2.lt
   have hB2:B≤wr.heap.size:=by have:=hbw.size;omega
   clear HB1 hB1 hbw ba
   go_wp2_with fail
   clear kba lba
   go_loopw [3,34] (fun v i ws=>∃k2:Nat,k2≤b.rules.length∧i=.int .i64 k2∧(∃n:Int,v=.int .i64 n)∧Below wr.heap.size wr ws) (fun _ i _=>b.rules.length-(intOf i).toNat)
   case atStart=>exact ⟨0,yZ _,rfl,⟨_,rfl⟩,za _ _⟩
   case round=>
    obtain ⟨k2,hk2,rfl,⟨n2,rfl⟩,hbw⟩:=hrel
    by_cases hlt2:k2<b.rules.length
    ·have hl:=HL1.out.keep HB2.out hB
     obtain ⟨bk,off,rfl,hbk⟩:=hl.base hbw hB2 (by omega)
     obtain ⟨x,vs,hx,hlen,hcell,hr⟩:=hl.at_ hbw hB2 hlt2
     obtain ⟨_,_,_,_,rfl,_,⟨X0,y0,rfl,_⟩,⟨X1,y1,rfl,_⟩,⟨X2,y2,rfl,_⟩,⟨X3,y3,rfl,_⟩⟩:=id hr
     have p0:wr.cell? ⟨bk,off+k2*5,none⟩=some (.string x.head.name):=hcell 0 _ rfl
     have p1:wr.cell? ⟨bk,off+k2*5+1,none⟩=some (.slice X0 x.head.terms.length y0):=hcell 1 _ rfl
     have p2:wr.cell? ⟨bk,off+k2*5+2,none⟩=some (.slice X1 x.body.length y1):=hcell 2 _ rfl
     have p3:wr.cell? ⟨bk,off+k2*5+3,none⟩=some (.slice X2 x.exprs.length y2):=hcell 3 _ rfl
     have p4:wr.cell? ⟨bk,off+k2*5+4,none⟩=some (.slice X3 x.scopes.length y3):=hcell 4 _ rfl
     have HBw:=yW hbw
     have HR:=yW hr
     have hszr:=hbw.size
     clear hl hcell hlen hx hr hbw
     go_wp2_with fail
     generalize hW2:World.alloc _ _=W2
     obtain ⟨hb2,hz2⟩:=al1 hW2
     clear hW2 p0 p1 p2 p3 p4
     refine (gF (d:=d) (B:=B) (r:=x) (vs:=[_,_,_,_,_]) ((RuR d).keep hb2 (by omega) HR.out) (by omega)).mono ?_
     rintro e w3 ⟨⟨m,rfl⟩,hb3⟩
     have HB3:=yW (ab HBw.out (ab hb2 hb3))
     have hfin:=yW (ab HB2.out HB3.out)
     clear hb2 hb3 hz2
     go_wp2_with fail
     all_goals first
      | (go_ret
         exact ⟨⟨_,rfl⟩,hfin.out⟩)
      | (go_roundw
         case rel=>exact ⟨k2+1,by omega,by go_num,⟨_,rfl⟩,HB3.out⟩
         case measure=>simp [intOf];omega)
    ·have HB4:=yW (ab HB2.out hbw)
     have ba4:=ba2.later hbw
     have kba:=ba4.cell
     have lba:=ba4.lt
     have hB4:B≤wr.heap.size:=by have:=hbw.size;omega
     clear HB2 hB2 hbw ba2
     go_wp2_with fail
     clear kba lba
     go_loopw [3,49] (fun v i wt=>∃k3:Nat,k3≤b.checks.length∧i=.int .i64 k3∧(∃n:Int,v=.int .i64 n)∧Below wr.heap.size wr wt) (fun _ i _=>b.checks.length-(intOf i).toNat)
     case atStart=>exact ⟨0,yZ _,rfl,⟨_,rfl⟩,za _ _⟩
     case round=>
      obtain ⟨k3,hk3,rfl,⟨n3,rfl⟩,hbw⟩:=hrel
      by_cases hlt3:k3<b.checks.length
      ·have hl:=HL2.out.keep HB4.out hB
       obtain ⟨bk,off,rfl,hbk⟩:=hl.base hbw hB4 (by omega)
       obtain ⟨x,vs,hx,hlen,hcell,hr⟩:=hl.at_ hbw hB4 hlt3
       obtain ⟨_,rfl,Aq,cq,rfl,gq,hq,hlq⟩:=id hr
       simp only [RuR] at hq
       have p0:wr.cell? ⟨bk,off+k3*2,none⟩=some (.bool x.all):=hcell 0 _ rfl
       have p1:wr.cell? ⟨bk,off+k3*2+1,none⟩=some (.slice Aq x.queries.length cq):=hcell 1 _ rfl
       have HBw:=yW hbw
       have HLq:=yW hlq
       have hszr:=hbw.size
       clear hl hcell hlen hx hr hbw hlq
       go_wp2_with fail
       generalize hW2:World.alloc _ _=W2
       obtain ⟨hb2,hz2⟩:=al1 hW2
       have HB5:=yW (ab HB4.out (ab HBw.out hb2))
       have HB6:=yW (ab HBw.out hb2)
       have HLq2:=yW (HLq.out.keep hb2 (by omega))
       have hB5:B≤W2.heap.size:=by omega
       clear hW2 p0 p1 hb2 hz2 HLq
       go_loopw [3,58] (fun v i wu=>∃j:Nat,j≤x.queries.length∧i=.int .i64 j∧(∃n:Int,v=.int .i64 n)∧Below W2.heap.size W2 wu) (fun _ i _=>x.queries.length-(intOf i).toNat)
       case atStart=>exact ⟨0,yZ _,rfl,⟨_,rfl⟩,za _ _⟩
       case round=>
        obtain ⟨j,hj,rfl,⟨n4,rfl⟩,hbw⟩:=hrel
        by_cases hlt4:j<x.queries.length
        ·obtain ⟨bk,off,rfl,hbk⟩:=HLq2.out.base hbw hB5 (by omega)
         obtain ⟨x,vs,hx,hlen,hcell,hr⟩:=HLq2.out.at_ hbw hB5 hlt4
         obtain ⟨_,_,_,_,rfl,_,⟨X0,y0,rfl,_⟩,⟨X1,y1,rfl,_⟩,⟨X2,y2,rfl,_⟩,⟨X3,y3,rfl,_⟩⟩:=id hr
         have p0:wr.cell? ⟨bk,off+j*5,none⟩=some (.string x.head.name):=hcell 0 _ rfl
         have p1:wr.cell? ⟨bk,off+j*5+1,none⟩=some (.slice X0 x.head.terms.length y0):=hcell 1 _ rfl
         have p2:wr.cell? ⟨bk,off+j*5+2,none⟩=some (.slice X1 x.body.length y1):=hcell 2 _ rfl
         have p3:wr.cell? ⟨bk,off+j*5+3,none⟩=some (.slice X2 x.exprs.length y2):=hcell 3 _ rfl
         have p4:wr.cell? ⟨bk,off+j*5+4,none⟩=some (.slice X3 x.scopes.length y3):=hcell 4 _ rfl
         have HBw:=yW hbw
         have HR:=yW hr
         have hszr:=hbw.size
         clear hcell hlen hx hr hbw
         go_wp2_with fail
         generalize hW2:World.alloc _ _=W3
         obtain ⟨hb2,hz2⟩:=al1 hW2
         clear hW2 p0 p1 p2 p3 p4
         refine (gF (d:=d) (B:=B) (r:=x) (vs:=[_,_,_,_,_]) ((RuR d).keep hb2 (by omega) HR.out) (by omega)).mono ?_
         rintro e w3 ⟨⟨m,rfl⟩,hb3⟩
         have HB7:=yW (ab HBw.out (ab hb2 hb3))
         have hfin:=yW (ab HB5.out HB7.out)
         clear hb2 hb3 hz2
         go_wp2_with fail
         all_goals first
          | (go_ret
             exact ⟨⟨_,rfl⟩,hfin.out⟩)
          | (go_roundw
             case rel=>exact ⟨j+1,by omega,by go_num,⟨_,rfl⟩,HB7.out⟩
             case measure=>simp [intOf];omega)
        ·have HB8:=yW (ab HB6.out hbw)
         clear hbw
         go_wp2_with fail
         go_roundw
         case rel=>exact ⟨k3+1,by omega,by go_num,⟨_,rfl⟩,HB8.out⟩
         case measure=>simp [intOf];omega
      ·have hfin:=yW (ab HB4.out hbw)
       clear hbw
       go_wp2_with fail
       go_ret
       exact ⟨⟨_,rfl⟩,hfin.out⟩
theorem oP {d B:Nat} {l:List Ru} {v:Value} {w:World} (hl:RSl (RuR d) w B l v) (hB:B≤w.heap.size) :
 Calls Tryz.prog 74 #[v] w fun e w'=>(∃m:Int,e=.returned (.int .i64 m))∧Below w.heap.size w w':=by
 have HL:=yW hl
 obtain ⟨A,c,rfl,g,h,_⟩:=hl
 go_enter Tryz.func74,Tryz.ntmps74
 go_wp2_with fail
 refine (tN (d:=d) (B:=B) (b:=⟨[],l,[],[]⟩) (vs:=[_,_,_,_]) (show (BkR d).rd w B ⟨[],l,[],[]⟩ _ from ⟨_,_,_,_,rfl,eY,HL.out,eY,eY⟩) hB).mono ?_
 rintro e w1 ⟨⟨m,rfl⟩,hb1⟩
 have HB:=yW hb1
 clear hb1
 go_wp2_with fail
 go_ret
 exact ⟨⟨_,rfl⟩,HB.out⟩
theorem sB {d B c:Nat} {l:List Fc} {A:Option Addr} {r:Ru} {vr:List Value} {w:World} (hl:RL (ax (d+1)) w B l A) (hr:(RuR (d+1)).rd w B r vr) (hB:B≤w.heap.size) (hn:l.length≤140737488351232) :
 Calls Tryz.prog 73 #[.slice A l.length c,.agg vr.toArray] w fun z w'=>(∃q:Int,z=.returned (.int .i64 q))∧Below w.heap.size w w':=by
 have HL:=yW hl
 have HR:=yW hr
 obtain ⟨_,_,_,_,rfl,_,⟨A0,c0,rfl,_⟩,⟨A1,c1,rfl,_⟩,⟨A2,c2,rfl,_⟩,⟨A3,c3,rfl,_⟩⟩:=hr
 clear hl
 go_enter Tryz.func73,Tryz.ntmps73
 go_upto_region 1 with fail
 generalize hW:World.alloc _ _=w1
 obtain ⟨hb1,hz⟩:=al1 hW
 have HK1:=yW (n11 hW)
 have HB1:=yW hb1
 have hsz1:=hb1.size
 clear hW hb1 hz
 have k_r:=HK1.out.cell
 have l_r:=HK1.out.lt
 go_wp2_with fail
 refine (uv (d:=d) (B:=B) (l:=l) (r:=r) (vr:=[_,_,_,_,_]) (HL.out.keep HB1.out hB) ((RuR (d+1)).keep HB1.out hB HR.out) (by omega) hn).mono ?_
 rintro z w2 ⟨⟨q,rfl,hq⟩,hb2⟩
 have HB2:=yW (ab HB1.out hb2)
 clear hb2 hq k_r l_r
 cases q
 ·go_wp2_with fail
  go_ret
  exact ⟨⟨_,rfl⟩,HB2.out⟩
 ·go_wp2_with fail
  go_ret
  exact ⟨⟨_,rfl⟩,HB2.out⟩
def yh (n b k:Nat) (z:Ending):Prop:=∃q,z=.returned (.bool q)∧(q=true→n≤600∧b≤20∧k≤20)
theorem yh.no {n b k:Nat}:yh n b k (.returned (.bool false)):=⟨false,rfl,fun h=>by cases h⟩
theorem uw {d B c cq cb ck:Nat} {l:List Fc} {A Aq Ab Ak:Option Addr} {qs:List Ru} {blk:List Sc} {keys:List ByteArray} {w:World} (hl:RL (ax (d+1)) w B l A) (hq:RSl (RuR (d+1)) w B qs (.slice Aq qs.length cq)) (hB:B≤w.heap.size) (hn:l.length≤140737488351232) :
 Calls Tryz.prog 25 #[.slice A l.length c,.slice Aq qs.length cq,.slice Ab blk.length cb,.slice Ak keys.length ck] w fun z w'=>yh l.length blk.length keys.length z∧Below w.heap.size w w':=by
 have HL:=yW hl
 have HQS:=yW hq
 have HQL:Hid (RL (RuR (d+1)) w B qs Aq):=yW (by obtain ⟨A',c',e,_,_,h⟩:=hq;cases e;exact h)
 have hqn:qs.length≤140737488351232:=by obtain ⟨A',c',e,_,h,_⟩:=hq;have:=h.1;simp only [RuR] at this;omega
 clear hl hq
 go_enter Tryz.func25,Tryz.ntmps25
 go_upto_region 2 with fail
 go_loopw [13] (fun i wr=>∃k:Nat,k≤qs.length∧i=.int .i64 k∧Hid (Below w.heap.size w wr)) (fun i _=>qs.length-(intOf i).toNat)
 case atStart=>exact ⟨0,yZ _,rfl,yW (za _ _)⟩
 case round=>
  obtain ⟨k,hk,rfl,HW⟩:=hrel
  have hszr:=HW.out.size
  have hBr:B≤wr.heap.size:=yX hB hszr
  by_cases hlt:k<qs.length
  ·obtain ⟨b,off,rfl,hob⟩:=(HQL.out.keep HW.out hB).base (za _ _) hBr (by omega)
   obtain ⟨q,vs,hx,hlen,hcell,hr⟩:=(HQL.out.keep HW.out hB).at_ (za _ _) hBr hlt
   have HQ:=yW hr
   obtain ⟨_,_,_,_,rfl,_,⟨A0,c0,rfl,_⟩,⟨A1,c1,rfl,_⟩,⟨A2,c2,rfl,_⟩,⟨A3,c3,rfl,_⟩⟩:=hr
   have p0:wr.cell? ⟨b,off+k*5,none⟩=some (.string q.head.name):=hcell 0 _ rfl
   have p1:wr.cell? ⟨b,off+k*5+1,none⟩=some (.slice A0 q.head.terms.length c0):=hcell 1 _ rfl
   have p2:wr.cell? ⟨b,off+k*5+2,none⟩=some (.slice A1 q.body.length c1):=hcell 2 _ rfl
   have p3:wr.cell? ⟨b,off+k*5+3,none⟩=some (.slice A2 q.exprs.length c2):=hcell 3 _ rfl
   have p4:wr.cell? ⟨b,off+k*5+4,none⟩=some (.slice A3 q.scopes.length c3):=hcell 4 _ rfl
   clear hcell hlen hx
   go_upto_region 4 with fail
   generalize hW:World.alloc _ _=w3
   obtain ⟨hb3,hz3⟩:=al1 hW
   have HK3:=yW (n11 hW)
   have HB3:=yW (ab HW.out hb3)
   have HQ3:=yW ((RuR (d+1)).keep hb3 hBr HQ.out)
   have hsz3:=hb3.size
   clear hW hb3 hz3 p0 p1 p2 p3 p4
   have k_r:=HK3.out.cell
   have l_r:=HK3.out.lt
   by_cases hg:(20:Int)≤(k:Int)
   ·go_wp2_with fail
    go_ret
    exact ⟨yh.no,HB3.out⟩
   ·go_wp2_with fail
    refine (sB (d:=d) (B:=B) (l:=l) (r:=q) (vr:=[_,_,_,_,_]) (HL.out.keep HB3.out hB) HQ3.out (by omega) hn).mono ?_
    rintro z w4 ⟨⟨v,rfl⟩,hb4⟩
    have HB4:=yW (ab HB3.out hb4)
    clear hb4 k_r l_r
    by_cases hv:(0:Int)<v
    ·go_wp2_with fail
     go_ret
     exact ⟨yh.no,HB4.out⟩
    ·go_wp2_with fail
     go_roundw
     case rel=>exact ⟨k+1,by omega,by go_num,HB4⟩
     case measure=>simp [intOf];omega
  ·generalize wr=w2 at *
   go_wp2_with fail
   refine (mm (HL.out.keep HW.out hB) hBr hn).mono ?_
   rintro z w3 ⟨⟨v,rfl,hv⟩,hb3⟩
   have HB3:=yW (ab HW.out hb3)
   clear hb3
   by_cases hv0:v=0
   rotate_left
   ·have hv1:((0:Int)==v)=false:=by rw [beq_eq_false_iff_ne];omega
    clear hv
    go_wp2_with fail
    go_ret
    exact ⟨yh.no,HB3.out⟩
   ·have hl6:=hv hv0
    subst hv0
    clear hv
    by_cases hb20:(blk.length:Int)≤20
    rotate_left
    ·go_wp2_with fail
     go_ret
     exact ⟨yh.no,HB3.out⟩
    ·by_cases hk20:(keys.length:Int)≤20
     rotate_left
     ·go_wp2_with fail
      go_ret
      exact ⟨yh.no,HB3.out⟩
     ·go_wp2_with fail
      refine (oP (d:=d+1) (B:=B) (l:=qs) (HQS.out.keep HB3.out hB) (yX hB HB3.out.size)).mono ?_
      rintro z w4 ⟨⟨v,rfl⟩,hb4⟩
      have HB4:=yW (ab HB3.out hb4)
      clear hb4
      go_wp2_with fail
      go_ret
      exact ⟨⟨_,rfl,fun _=>⟨hl6,by omega,by omega⟩⟩,HB4.out⟩
def Sim2 (s s' t t':Wst):Prop:=s.held=s'.held→t.e=0→t'.e=0→t.held=t'.held∧∃l l',t.out=s.out++l∧t'.out=s'.out++l'∧l.Sublist l'
theorem mg {x:Ans}:∀{es:List (List OpD)} {s s':Wst},Sim2 s s' (dI es x s) (dI [] x s')
 | [],s,s'=>fun h _ _=>⟨h,[x],[x],rfl,rfl,List.Sublist.refl _⟩
 | q::qs,s,s'=>by
   rw [dI.eq_2]
   split
   ·rename_i h
    intro _ h3;exact absurd h3 h
   ·split
    ·exact mg
    ·exact fun h _ _=>⟨h,[],[x],by simp,rfl,by simp⟩
theorem ji {tr:Int} {step step':Fc→Wst→Wst} (hs:∀f s s',Sim2 s s' (step f s) (step' f s')):∀{fs:List Fc} {s s':Wst},Sim2 s s' (bS tr step fs s) (bS tr step' fs s')
 | [],s,s'=>fun h _ _=>⟨h,[],[],by simp [bS],by simp [bS],List.Sublist.refl _⟩
 | f::fs,s,s'=>by
   intro h h1 h2
   rw [bS] at h1 h2 ⊢
   rw [bS]
   split
   ·rename_i hu
    rw [if_pos hu] at h1 h2
    exact ji hs h h1 h2
   ·rename_i hu
    rw [if_neg hu] at h1 h2
    split
    ·rename_i hm
     rw [if_pos hm] at h1;cases h1
    ·rename_i hm
     rw [if_neg hm] at h1
     rw [←h] at h2 ⊢
     rw [if_neg hm] at h2 ⊢
     split
     ·rename_i he
      rw [if_pos he] at h1;exact absurd h1 he
     ·rename_i he
      rw [if_neg he] at h1
      split
      ·rename_i he'
       rw [if_pos he'] at h2;exact absurd h2 he'
      ·rename_i he'
       rw [if_neg he'] at h2
       obtain ⟨a1,l,l',a3,a4,a5⟩:=hs f ⟨s.held+1,s.out,s.e⟩ ⟨s.held+1,s'.out,s'.e⟩ rfl (by simpa using he) (by simpa using he')
       obtain ⟨b1,m,m',b3,b4,b5⟩:=ji hs a1 h1 h2
       exact ⟨b1,l++m,l'++m',by rw [b3,a3,List.append_assoc],by rw [b4,a4,List.append_assoc],a5.append b5⟩
theorem mi {fs:List Fc} {tr:Int} {es:List (List OpD)}:∀{ps:List Pr} {x:Ans} {s s':Wst},Sim2 s s' (cU fs tr es ps x s) (cU fs tr [] ps x s')
 | [],x,s,s'=>mg
 | p::ps,x,s,s'=>by
   rw [bR,bR]
   refine ji (fun f s s'=>?_)
   unfold ee
   split
   ·exact mi
   ·exact fun h _ _=>⟨h,[],[],by simp,by simp,List.Sublist.refl _⟩
def eA (b:Bd):List (List OpD)→Bool→Bool × Int
 | [],a=>(a,0)
 | q::qs,a=>if (bN (cT b q)).2≠0 then (false,(bN (cT b q)).2) else eA b qs (a&&(bN (cT b q)).1)
def fv (es:List (List OpD)):List Ans→Bool→Bool × Int
 | [],a=>(a,0)
 | x::xs,a=>if (eA x.b es a).2≠0 then (false,(eA x.b es a).2) else fv es xs (eA x.b es a).1
def cH (r:Ru):Ru:=⟨r.head,r.body,[],r.scopes⟩
def bH (fs:List Fc) (tr:Int) (r:Ru):List Ans × Int:=if r.body.length=0 then ([gG],0) else aA fs tr (cH r)
def ls (l:List Ans):Bool:=decide (0<l.length)
def aV (fs:List Fc) (tr:Int) (r:Ru):Bool × Int:=if aB r=true then (ls (aA fs tr r).1,(aA fs tr r).2) else (false,1)
def cV (fs:List Fc) (tr:Int) (r:Ru):Bool × Int:=if aB r=true then (if (bH fs tr r).2≠0 then (false,(bH fs tr r).2) else fv r.exprs (bH fs tr r).1 (ls (bH fs tr r).1)) else (false,1)
theorem oV {l:List Ans}:ls l=true↔l≠[]:=by unfold ls;rw [decide_eq_true_eq];exact List.length_pos_iff
theorem vS {L:List Ans}:ls (lx L)=true↔L≠[]:=by
 rw [oV]
 constructor
 ·rintro h rfl
  exact h (List.eq_nil_iff_forall_not_mem.2 fun x hx=>absurd ((di []).2.2 x hx) (by simp))
 ·intro h e
  obtain ⟨x,hx⟩:=List.exists_mem_of_ne_nil _ h
  obtain ⟨y,hy,_⟩:=(di L).2.1 x hx
  rw [e] at hy;simp at hy
theorem qy {fs:List Fc} {tr:Int} {r:Ru} (h:aB r=true):aA fs tr r=if (pi fs tr r).e=0 then (lx (pi fs tr r).out,0) else ([],(pi fs tr r).e):=by
 rw [dM,if_pos (by rw [h,Bool.or_true])]
theorem sP {fs fs':List Fc} {tr:Int} {r:Ru} (hs:fs.Sublist fs') (he:(aV fs' tr r).2=0) (ha:(aV fs tr r).1=true):(aV fs' tr r).1=true:=by
 unfold aV at he ha ⊢
 split at he
 ·rename_i hm
  rw [if_pos hm] at ha ⊢
  obtain ⟨_,_,_,h⟩:=ny hs he
  simp only at ha ⊢
  rw [oV] at ha ⊢
  obtain ⟨x,hx⟩:=List.exists_mem_of_ne_nil _ ha
  obtain ⟨y,hy,_⟩:=h x hx
  exact List.ne_nil_of_mem hy
 ·cases he
theorem sa {fs:List Fc} {tr:Int} {r:Ru} (hb:r.body.length≠0):cV fs tr (cH r)=aV fs tr (cH r):=by
 unfold cV aV
 split
 ·rename_i hm
  have e:bH fs tr (cH r)=aA fs tr (cH r):=by unfold bH;rw [if_neg (by exact hb)];rfl
  have ev:∀(l:List Ans) (a:Bool),fv [] l a=(a,0):=by
   intro l
   induction l with
   | nil=>intro a;rfl
   | cons x l ih=>intro a;rw [fv];simp [eA,ih]
  rw [e]
  show (if (aA fs tr (cH r)).2≠0 then _ else fv [] _ _)=_
  rw [ev]
  split
  ·rename_i he
   rw [qy hm] at he ⊢
   split at he
   ·exact absurd rfl he
   ·rename_i hr
    rw [if_neg hr];rfl
  ·rename_i he
   have he':(aA fs tr (cH r)).2=0:=by simpa using he
   rw [he']
 ·rfl
theorem sO {fs:List Fc} {tr:Int} {r:Ru} (he:(aV fs tr r).2=0) (hg:(aV fs tr (cH r)).2=0) (ha:(aV fs tr r).1=true):(aV fs tr (cH r)).1=true:=by
 unfold aV at he hg ha ⊢
 split at he
 ·rename_i hm
  split at hg
  ·rename_i hm2
   rw [if_pos hm] at ha
   rw [if_pos hm2]
   rw [qy hm] at he ha
   rw [qy hm2] at hg ⊢
   split at he
   ·rename_i h1
    split at hg
    ·rename_i h2
     rw [if_pos h1] at ha
     rw [if_pos h2]
     obtain ⟨_,l,l',k1,k2,k3⟩:=mi (fs:=fs) (tr:=tr) (es:=r.exprs) (ps:=r.body) (x:=gG) (s:=⟨0,[],0⟩) (s':=⟨0,[],0⟩) rfl h1 h2
     have e1:(pi fs tr r).out=l:=by unfold pi;simpa using k1
     have e2:(pi fs tr (cH r)).out=l':=by unfold pi cH;simpa using k2
     simp only at ha ⊢
     rw [vS] at ha ⊢
     rw [e1] at ha
     rw [e2]
     rintro rfl
     exact ha (List.sublist_nil.1 k3)
    ·rename_i h2;exact absurd hg h2
   ·rename_i h1;exact absurd he h1
  ·cases hg
 ·cases he
end Go.Proofs.YtdphibjibnffeaaGreat
