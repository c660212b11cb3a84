/- fix.begin, fix.Run. Printed by mk_fx5.py. -/
import Derived.Test.YtjpndglegpcdnaaGreatFx3
set_option linter.unusedVariables false
set_option linter.unusedSimpArgs false
set_option maxRecDepth 100000
set_option maxHeartbeats 8000000
namespace Go.Proofs.YtjpndglegpcdnaaGreat
open Go.ChangeShapes Go.WideShapes Go.ChangeAt Go.RowKit
section
variable {fs:List Fc} {rs:List OwD} {X:List Fc × Int} {acc:List Fc} {k:Nat} {o:OwD}
def qr (fs:List Fc) (rs:List OwD) (acc:List Fc) (k:Nat) (X:List Fc × Int):Prop:=X=if (fm fs (rs.drop k)).2≠0 then ([],(fm fs (rs.drop k)).2) else (acc++(fm fs (rs.drop k)).1,0)
theorem qr.start:qr fs rs [] 0 (fm fs rs):=by
 unfold qr
 rw [List.drop_zero]
 split
 ·rename_i h
  cases rs with
  | nil=>exact absurd rfl h
  | cons o rs=>
    rw [fm] at h ⊢
    split
    ·rfl
    ·rename_i h1
     rw [if_neg h1] at h
     split
     ·rfl
     ·rename_i h2
      rw [if_neg h2] at h
      exact absurd rfl h
 ·rename_i h
  exact Prod.ext (List.nil_append _).symm (Classical.not_not.1 h)
theorem qr.bad (h:qr fs rs acc k X) (ho:rs[k]? = some o) (he:(aC fs o).2≠0):X=([],(aC fs o).2):=by
 obtain ⟨hk,rfl⟩:=List.getElem?_eq_some_iff.1 ho
 unfold qr at h
 rw [List.drop_eq_getElem_cons hk,fm,if_pos he,if_pos he] at h
 exact h
theorem qr.next (h:qr fs rs acc k X) (ho:rs[k]? = some o) (he:(aC fs o).2=0):qr fs rs (acc++(aC fs o).1.filter (fun f=>!fe fs f)) (k+1) X:=by
 obtain ⟨hk,rfl⟩:=List.getElem?_eq_some_iff.1 ho
 have key:fm fs (rs.drop k)=if (fm fs (rs.drop (k+1))).2≠0 then ([],(fm fs (rs.drop (k+1))).2) else ((aC fs rs[k]).1.filter (fun f=>!fe fs f)++(fm fs (rs.drop (k+1))).1,0):=by
  rw [List.drop_eq_getElem_cons hk,fm,if_neg (by simpa using he)]
 unfold qr at h ⊢
 by_cases h1:(fm fs (rs.drop (k+1))).2=0
 ·have h2:¬(fm fs (rs.drop (k+1))).2≠0:=by simp [h1]
  rw [if_neg h2] at key ⊢
  rw [key,if_neg (by simp)] at h
  rw [h,List.append_assoc]
 ·have h2:(fm fs (rs.drop (k+1))).2≠0:=h1
  rw [if_pos h2] at key ⊢
  rw [key,if_pos h2] at h
  exact h
theorem qr.stop (h:qr fs rs acc k X) (hk:rs.length≤k):X=(acc,0):=by
 unfold qr at h
 rw [List.drop_eq_nil_iff.2 hk] at h
 rw [h]
 show (acc++[],(0:Int))=_
 rw [List.append_nil]
end
structure FAcc (b0 base d P:Nat) (old:Value) (w:World) (xs:List FV) (A:Option Addr) (c:Nat):Prop where
 hd:bS w P #[old] 84
 own:aq FvR 33 w base 0 (.slice A xs.length c) xs
 deep:∀x∈xs,FcOk x.f∧fJ (fun k=>k<b0∨k=P∨(Value.slice A xs.length c).ownBlock=some k) w (fun w'=>(ay (d+1)).rd w' w'.heap.size x.f x.cs)
section
variable {b0 base d P c c':Nat} {N:Nat→Prop} {old:Value} {w w1:World} {xs:List FV} {A A':Option Addr} {y:FV}
theorem FAcc.later (h:FAcc b0 base d P old w xs A c) (hb:Below w.heap.size w w1):FAcc b0 base d P old w1 xs A c:=⟨uQ h.hd hb,h.own.later hb (AH _),fun x hx=>⟨(h.deep x hx).1,(h.deep x hx).2.later hb⟩⟩
theorem at_app4 {w w':World} {v v':Value} {k:Nat} {cs:Array Value} {T:TypeId} (h:w.heap[k]? = some (.cells cs T (0,0))) (hn:v.ownBlock≠some k) (hg:w.grownBy w' v.ownBlock) (hf:bk w v v'):w'.heap[k]? = some (.cells cs T (0,0)):=(fF.app (fF.mk' h hn) hg hf).1
theorem FAcc.app (h:FAcc b0 base d P old w xs A c) (hy:FcOk y.f) (hs:fJ N w (fun w'=>(ay (d+1)).rd w' w'.heap.size y.f y.cs)) (hb:∀k,k<b0→N k) (hP:N P) (hr:∀k,(Value.slice A xs.length c).ownBlock=some k→N k)
 (ho:aq FvR 33 w1 base 0 (.slice A' (xs++[y]).length c') (xs++[y])) (hg:w.grownBy w1 (Value.slice A xs.length c).ownBlock) (hf:bk w (.slice A xs.length c) (.slice A' (xs++[y]).length c')):FAcc b0 base d P old w1 (xs++[y]) A' c':=by
 have hag:=al.grown hg
 have hown:∀k,k<w.heap.size→(Value.slice A' (xs++[y]).length c').ownBlock=some k→(Value.slice A xs.length c).ownBlock=some k:=fun k hk hm=>by
  rcases hf with e | ⟨q,e,hq⟩
  ·rw [←e];exact hm
  ·rw [e] at hm;cases hm;omega
 refine ⟨at_app4 h.hd (h.own.ne h.hd (by decide)) hg hf,ho,fun x hx=>?_⟩
 rcases List.mem_append.1 hx with hx | hx
 ·refine ⟨(h.deep x hx).1,(h.deep x hx).2.next hag (fun k hk hm=>.inr (.inr hm.symm)) (fun k hk hm=>?_)⟩
  rcases hm with hm | hm | hm
  ·exact .inl hm
  ·exact .inr (.inl hm)
  ·exact .inr (.inr (hown k hk hm))
 ·obtain rfl:x=y:=by simpa using hx
  refine ⟨hy,hs.next hag (fun k hk hm=>hr k hm.symm) (fun k hk hm=>?_)⟩
  rcases hm with hm | hm | hm
  ·exact hb k hm
  ·exact hm▸hP
  ·exact hr k (hown k hk hm)
theorem FAcc.put (h:FAcc b0 base d P old w xs A c) (v:Value):FAcc b0 base d P v (w.setCell ⟨P,0,none⟩ v) xs A c:=by
 refine ⟨bS.set_ h.hd 0 v,h.own.farT h.hd (by decide) 0 v,fun x hx=>⟨(h.deep x hx).1,(h.deep x hx).2.next (N:=fun k=>k=P) (al.set_ (M:=fun k=>k=P) (al.refl (fun k=>k=P) w) (fun _=>(rfl:P=P)) 0 v) (fun k _ hk=>.inr (.inl hk)) (fun k _ hk=>hk)⟩⟩
end
def AccF (b0 base d P:Nat) (old:Value) (g0 g1:Nat) (wS:World) (xs:List FV) (v:Value) (w:World):Prop:=∃A c,v=.slice A xs.length c∧FAcc b0 base d P old w xs A c∧(∀k,(Value.slice A xs.length c).ownBlock=some k→k<g0∨g1≤k)∧al (fun q=>old.ownBlock=some q) wS w
theorem Stb.accF (b0 base d P:Nat) (old:Value) (g0 g1:Nat) (wS:World) (xs:List FV):Stb (AccF b0 base d P old g0 g1 wS xs):=fun _ _ _ ⟨A,c,e,h,k,q⟩ hb=>⟨A,c,e,h.later hb,k,q.trans (N:=fun _=>False) (al.of_below hb) (fun _ _ h=>h.elim)⟩
theorem qY {w:World} {base g c i:Nat} {xs:List FV} (h:aq FvR 33 w base 0 (.slice (some ⟨g,0,none⟩) xs.length c) xs) (hi:i<xs.length):w.cell? ⟨g,i*3,none⟩=some (.string xs[i].f.pr.name)∧w.cell? ⟨g,i*3+1,none⟩=some (.slice xs[i].a xs[i].f.pr.terms.length xs[i].c)∧w.cell? ⟨g,i*3+2,none⟩=some (.int .u32 xs[i].f.o):=by
 obtain ⟨g1,c1,e1,_,_,_,_,hc,_,_⟩:=h.sh aU (by omega)
 simp only [AR,AP,Addr.mk.injEq,and_true] at e1
 obtain ⟨rfl,-,rfl⟩:=e1
 exact ⟨hc i hi 0 _ rfl,hc i hi 1 _ rfl,hc i hi 2 _ rfl⟩
theorem gE.agree {g h:Nat} {a b:World} (k:gE g h a b):al (fun q=>q=g∨q=h) a b:=⟨k.1.mono (AH _),fun q hq hn=>k.2 q hq (fun e=>hn (.inl e)) (fun e=>hn (.inr e))⟩
theorem pl {ys:List Fc} {p:Fc→Bool} {j:Nat} {y:Fc} (h:ys[j]? = some y):(ys.take (j+1)).filter p=(ys.take j).filter p++if p y=true then [y] else []:=by
 obtain ⟨hj,rfl⟩:=List.getElem?_eq_some_iff.1 h
 rw [List.take_succ_eq_append_getElem hj,List.filter_append]
 cases hp:p ys[j]<;>simp [hp]
theorem uN (xs:List FV) (k:Nat):atL de.f (xs.map FV.f) k=(atL de xs k).f:=by
 unfold atL
 rw [List.getD_eq_getElem?_getD,List.getD_eq_getElem?_getD,List.getElem?_map]
 cases xs[k]?<;>rfl
theorem iT {xs:List FV} {i n:Nat} (h:gT cFV (atL de xs) i n):gT aF (atL de.f (xs.map FV.f)) i n:=fun k h0 h1 h2=>by
 rw [uN,uN];exact h k h0 h1 h2
theorem FAcc.pile {b0 base d P c:Nat} {w:World} {xs:List FV} {A:Option Addr} (h:FAcc b0 base d P (.slice A xs.length c) w xs A c) (hx:0<xs.length) (hn:xs.length≤1000000000000):∃G,A=some ⟨G,0,none⟩∧base≤G∧P≠G∧G<w.heap.size∧xs.length≤c∧c≤9223372036854775807∧FPile d P G c w xs:=by
 obtain ⟨cells,ho,hf⟩:=id h.own
 rcases ho.2 with ⟨h1,h2⟩ | ⟨g,cap,cur,hv,hg,hh,k1,k2,k3,k4⟩
 ·omega
 ·simp only [AR,true_and] at hv
  obtain ⟨rfl,rfl⟩:=hv
  have hne:P≠g:=fun e=>h.own.ne h.hd (by decide) (by rw [e];rfl)
  refine ⟨g,rfl,hg,hne,(Array.getElem?_eq_some_iff.1 hh).1,k1,by unfold maxLen at k2;omega,⟨_,h.hd⟩,⟨cur,⟨_,hh⟩,fun k hk b hb=>?_⟩,fun x hx=>⟨(h.deep x hx).1,(h.deep x hx).2.less (fun k _ hk=>?_)⟩,hn⟩
  ·have h1:(cells.drop (k*3)).take 3=xs[k].cs:=hf.2 k hk
   have h2:=congrArg (fun l:List Value=>l[b]?) h1
   simp only [List.getElem?_take,if_pos hb,List.getElem?_drop] at h2
   rw [bO hk,←h2,←k4,List.getElem?_take,if_pos (by show k*3+b<xs.length*3;omega),Array.getElem?_toList]
  ·rcases hk with rfl | rfl
   ·exact .inr (.inl rfl)
   ·exact .inr (.inr rfl)
structure PopInv (d P G cp:Nat) (l:List Fc) (xs0:List FV) (w0 wr:World) (out xs:List FV) (A:Option Addr) (c:Nat):Prop where
 piled:Piled aF de.f l (out.map FV.f) (xs.map FV.f)
 heap:gT cFV (atL de xs) 0 xs.length
 pile:FPile d P G cp wr xs
 own:aq FvR 33 wr w0.heap.size 0 (.slice A out.length c) out
 ag:al (fun k=>k=P∨k=G) w0 wr
 subO:∀x∈out,x∈xs0
 subX:∀x∈xs,x∈xs0
theorem qa {d baseS B S cs c:Nat} {rs:List OwD} {A:Option Addr} {w:World} {fs:List FV} {As:Option Addr} {m:Int} (hl:RL (OwR (d+1)) w B rs A) (hn:rs.length≤1000000) (hB:B≤w.heap.size) (hS:StA baseS d w S fs As cs) (hfew:fs.length≤100000) (hm:w.cell? ⟨0,0,none⟩=some (.int .i64 m)) (hp:0<w.heap.size) :
 Calls Tryz.prog 17 #[.pointer (some ⟨S,0,none⟩),.slice A rs.length c] w fun z w'=>FolE d w w' (aA (fs.map FV.f) rs) z:=by
 have HL:=AE hl
 have HS:=AE hS
 have HM:=AE hm
 obtain ⟨i0,hi0,hz0,hz1,hz2⟩:=info_parts fh
 clear hl hS hm
 go_enter Tryz.func17,Tryz.ntmps17
 go_wp2_with fail
 refine (nl HL.out (by omega) hB).mono ?_
 rintro z w1 ⟨rfl,hb1⟩
 have HB1:=AE hb1
 have hsz1:=hb1.size
 clear hb1
 by_cases ha:rs.all iF=true
 rotate_left
 ·have HV:Hid (aA (fs.map FV.f) rs=([],1)):=AE (by unfold aA;rw [if_neg ha])
  simp only [Bool.not_eq_true] at ha
  rw [ha]
  clear ha
  go_wp2_with fail
  go_ret2
  exact ⟨[],none,0,by rw [HV.out];rfl,by rw [HV.out];rfl,FRow.nil _ _ _,HB1.out⟩
 have HALL:Hid (∀o∈rs,iF o=true):=AE (List.all_eq_true.1 ha)
 have HRR:Hid (aA (fs.map FV.f) rs=if (fm (fs.map FV.f) rs).2≠0 then ([],(fm (fs.map FV.f) rs).2) else (setL aF (fm (fs.map FV.f) rs).1,0)):=AE (by unfold aA;rw [if_pos ha])
 rw [ha]
 clear ha
 have HNA:=AE (qr.start (fs:=fs.map FV.f) (rs:=rs))
 generalize fm (fs.map FV.f) rs=X at *
 go_upto_region 4 with fail
 generalize hW:World.alloc _ _=w2
 obtain ⟨hb2,hz⟩:=al2 hW
 have HP2:Hid (bS w2 (w1.heap.size+1) #[.slice (some ⟨w1.heap.size,0,none⟩) 0 0] 84):=AE (hW▸hp22)
 have HG2:Hid (w2.heap[w1.heap.size]? = some (.cells #[] 33 (0,0))):=AE (hW▸hp21)
 have HB2:=AE (aa HB1.out hb2)
 have HW2:=AE hb2
 have hsz2:=hb2.size
 have hlt2:w1.heap.size+1<w2.heap.size:=HP2.out.blk.lt
 clear hW hb2 hz
 have HA2:Hid (FAcc w.heap.size w1.heap.size d (w1.heap.size+1) (.slice (some ⟨w1.heap.size,0,none⟩) 0 0) w2 [] (some ⟨w1.heap.size,0,none⟩) 0):=AE ⟨HP2.out,aq.empty _ _ HG2.out (AG _) 0,fun x hx=>absurd hx (by simp)⟩
 clear HP2 HG2
 generalize hPP:w1.heap.size+1=P at *
 go_upto_region 5 with fail
 go_loopw [24] (fun i wr=>∃(k:Nat) (xs:List FV) (Ar:Option Addr) (cr:Nat),k≤rs.length∧xs.length≤k*1000000∧i=.int .i64 k∧Hid (qr (fs.map FV.f) rs (xs.map FV.f) k X)∧Hid (FAcc w.heap.size w1.heap.size d P (.slice Ar xs.length cr) wr xs Ar cr)∧Hid (Below w1.heap.size w1 wr)∧w2.heap.size≤wr.heap.size) (fun i _=>rs.length-(intOf i).toNat)
 case atStart=>exact ⟨0,[],_,0,AH _,AH _,rfl,HNA,HA2,HW2,AG _⟩
 case round=>
  obtain ⟨k,xs,Ar,cr,hk,hxk,rfl,HN,HA,HW,hs2⟩:=hrel
  have HBr:=AE (aa HB1.out HW.out)
  have hszr:=HBr.out.size
  have hBr:B≤wr.heap.size:=AF hB hszr
  by_cases hlt:k<rs.length
  ·obtain ⟨b,off,rfl,hob⟩:=(HL.out.keep HBr.out hB).base (AI _ _) hBr (by omega)
   obtain ⟨x,vs,hx,hlen,hcell,hr⟩:=(HL.out.keep HBr.out hB).at_ (AI _ _) hBr hlt
   have HX:=AE hx
   have HRX:=AE hr
   obtain ⟨A0,c0,A1,c1,A2,c2,A3,c3,rfl,_,_,_⟩:=iA hr
   have p0:wr.cell? ⟨b,off+k*7,none⟩=some (.string x.rule.head.name):=hcell 0 _ rfl
   have p1:wr.cell? ⟨b,off+k*7+1,none⟩=some (.slice A0 x.rule.head.terms.length c0):=hcell 1 _ rfl
   have p2:wr.cell? ⟨b,off+k*7+2,none⟩=some (.slice A1 x.rule.body.length c1):=hcell 2 _ rfl
   have p3:wr.cell? ⟨b,off+k*7+3,none⟩=some (.slice A2 x.rule.exprs.length c2):=hcell 3 _ rfl
   have p4:wr.cell? ⟨b,off+k*7+4,none⟩=some (.slice A3 x.rule.scopes.length c3):=hcell 4 _ rfl
   have p5:wr.cell? ⟨b,off+k*7+5,none⟩=some (.int .i64 x.block):=hcell 5 _ rfl
   have p6:wr.cell? ⟨b,off+k*7+6,none⟩=some (.int .u32 x.trusted):=hcell 6 _ rfl
   clear hcell hlen hx hr
   go_upto_region 7 with fail
   generalize hW:World.alloc _ _=w4
   obtain ⟨hb4,hz4⟩:=al1 hW
   have HK4:=AE (n11 hW)
   have HB4:=AE (aa HBr.out hb4)
   have HW4:=AE (aa HW.out hb4)
   have HR4:=AE ((OwR (d+1)).keep hb4 hBr HRX.out)
   have HA4:=AE (HA.out.later hb4)
   have hsz4:=hb4.size
   clear hW hb4 hz4 p0 p1 p2 p3 p4 p5 p6
   have k_r:=HK4.out.cell
   have l_r:=HK4.out.lt
   have HFR:=AE (ii (fs.map FV.f) x.trusted x.rule)
   go_wp2_with fail
   refine (ra (d:=d) (B:=B) (o:=x) (vo:=[_,_,_,_,_,_,_]) HR4.out (HALL.out x (List.mem_of_getElem? HX.out)) (by omega) (HS.out.later HB4.out) hfew ((HB4.out.cell (p:=⟨0,0,none⟩) hp).trans HM.out) (AJ hp HB4.out.size)).mono ?_
   rintro z w5 ⟨ys,Ay,cy,rfl,hys,hyr,hb5⟩
   have HYL:Hid (ys.length≤1000000):=AE (by
    have h1:=congrArg List.length hys
    rw [AM] at h1
    have h2:=HFR.out
    have h3:(aC (fs.map FV.f) x).1.length≤(be (fs.map FV.f) x.trusted x.rule).1.length:=List.length_filterMap_le _ _
    omega)
   have HYS:=AE hys
   have HYR:=AE hyr
   have HB5:=AE (aa HB4.out hb5)
   have HW5:=AE (aa HW4.out hb5)
   have HA5:=AE (HA4.out.later hb5)
   have hsz5:=hb5.size
   have hPw:P<w4.heap.size:=by omega
   have HG5:Hid (∀q,(Value.slice Ar xs.length cr).ownBlock=some q→q<w4.heap.size∨w5.heap.size≤q):=AE (fun q hq=>.inl (HA4.out.own.lt q hq).2)
   clear hys hyr hb5 k_r l_r HFR
   by_cases he:(aC (fs.map FV.f) x).2=0
   rotate_left
   ·have he':((aC (fs.map FV.f) x).2 !=0)=true:=by simpa using he
    have HV:Hid (aA (fs.map FV.f) rs=([],(aC (fs.map FV.f) x).2)):=AE (by rw [HRR.out,HN.out.bad HX.out he];exact if_pos he)
    generalize (aC (fs.map FV.f) x).2=e5 at *
    clear he
    go_wp2_with fail
    go_ret2
    exact ⟨[],none,0,by rw [HV.out];rfl,by rw [HV.out];rfl,FRow.nil _ _ _,HB5.out⟩
   have he':((aC (fs.map FV.f) x).2 !=0)=false:=by simpa using he
   have HNN:=AE (HN.out.next HX.out he)
   clear he HN
   rw [←HYS.out] at HNN
   generalize (aC (fs.map FV.f) x).2=e5 at *
   go_upto_region 11 with fail
   generalize wr=wo at *
   go_loopw [39] (fun i wr=>∃(j:Nat) (zs:List FV) (Az:Option Addr) (cz:Nat),j≤ys.length∧zs.length≤xs.length+j∧i=.int .i64 j∧Hid (zs.map FV.f=xs.map FV.f++((ys.map FV.f).take j).filter (fun f=>!fe (fs.map FV.f) f))∧Hid (FAcc w.heap.size w1.heap.size d P (.slice Az zs.length cz) wr zs Az cz)∧Hid (Below w1.heap.size w1 wr)∧Hid (al (fun q=>q<w4.heap.size) w5 wr)∧Hid (∀q,(Value.slice Az zs.length cz).ownBlock=some q→q<w4.heap.size∨w5.heap.size≤q)) (fun i _=>ys.length-(intOf i).toNat)
   case atStart=>exact ⟨0,xs,_,_,AH _,AG _,rfl,AE (by simp),HA5,HW5,AE (al.refl _ _),HG5⟩
   case round=>
    obtain ⟨j,zs,Az,cz,hj,hzj,rfl,HZ,HAZ,HWZ,HAG,HGZ⟩:=hrel
    have HBz:=AE (aa HB1.out HWZ.out)
    have hszz:=HAG.out.size
    have HYZ:=AE (HYR.out.agree HAG.out (fun q _ h=>h))
    by_cases hjl:j<ys.length
    ·obtain ⟨g,cg,eg,hg1,hg2,_⟩:=HYZ.out.own.sh aU (by omega)
     simp only [AR,true_and] at eg
     obtain ⟨rfl,rfl⟩:=eg
     obtain ⟨a0,a1,a2⟩:=qY HYZ.out.own hjl
     have HYD:Hid (FcOk ys[j].f∧fJ (fun q=>q<w4.heap.size∨w5.heap.size≤q) wr (fun w'=>(ay (d+1)).rd w' w'.heap.size ys[j].f ys[j].cs)):=AE ⟨(HYR.out.deep _ (List.getElem_mem hjl)).1,(HYR.out.deep _ (List.getElem_mem hjl)).2.next HAG.out (fun q _ h=>.inl h) (fun q hq h=>by
      rcases h with h | h
      ·exact .inl h
      ·omega)⟩
     have HYJ:Hid ((ys.map FV.f)[j]? = some ys[j].f):=AE (by rw [List.getElem?_map,AO hjl];rfl)
     have hI0:(0:Int)≤(j:Int):=Int.natCast_nonneg _
     have hI1:(j:Int)<(ys.length:Int):=by omega
     generalize ys[j]=y at *
     have HFT:=AE (pl (p:=fun f=>!fe (fs.map FV.f) f) HYJ.out)
     go_upto_region 13 with fail
     generalize hW:World.alloc _ _=w6
     obtain ⟨hb6,hz6⟩:=al1 hW
     have HT6:=AE (n11 hW)
     have HW6:=AE (aa HWZ.out hb6)
     have HB6:=AE (aa HBz.out hb6)
     have HA6:=AE (HAZ.out.later hb6)
     have HAG6:=AE (HAG.out.trans (N:=fun _=>False) (al.of_below hb6) (fun _ _ h=>h.elim))
     have HYD6:=AE (And.intro HYD.out.1 (HYD.out.2.later hb6))
     have hsz6:=hb6.size
     clear hW hb6 hz6 a0 a1 a2
     have k_t:=HT6.out.cell
     have l_t:=HT6.out.lt
     go_wp2_with fail
     refine (gu (f:=y.f) (vf:=[_,_,_]) (B:=w6.heap.size) (HS.out.later HB6.out) HYD6.out.2.here (AG _) hfew (by have:=HYD6.out.1.few;omega)).mono ?_
     rintro z w7 ⟨rfl,hb7⟩
     have HT7:=AE (HT6.out.later hb7)
     have HW7:=AE (aa HW6.out hb7)
     have HB7:=AE (aa HB6.out hb7)
     have HA7:=AE (HA6.out.later hb7)
     have HAG7:=AE (HAG6.out.trans (N:=fun _=>False) (al.of_below hb7) (fun _ _ h=>h.elim))
     have HYD7:=AE (And.intro HYD6.out.1 (HYD6.out.2.later hb7))
     have hsz7:=hb7.size
     clear hb7 k_t l_t
     cases hh:fe (fs.map FV.f) y.f
     rotate_left
     ·have HZ1:Hid (zs.map FV.f=xs.map FV.f++((ys.map FV.f).take (j+1)).filter (fun f=>!fe (fs.map FV.f) f)):=AE (by rw [HFT.out,HZ.out,hh];simp)
      clear hh
      go_wp2_with fail
      go_roundw
      case rel=>exact ⟨j+1,zs,Az,cz,by omega,by omega,by go_num,HZ1,HA7,HW7,HAG7,HGZ⟩
      case measure=>simp [intOf];omega
     ·have HZ1:Hid (zs.map FV.f++[y.f]=xs.map FV.f++((ys.map FV.f).take (j+1)).filter (fun f=>!fe (fs.map FV.f) f)):=AE (by rw [HFT.out,HZ.out,hh];simp)
      have HZL:Hid (zs.length+1≤1000000000001):=AE (by have:=HYL.out;omega)
      clear hh
      go_upto_region 14 with fail
      have HST:Hid (zF [fun v _=>v=.pointer (some ⟨P,0,none⟩),fun v _=>v=.pointer (some ⟨P,0,none⟩),fun v _=>v=.pointer (some ⟨P,0,none⟩),fun v _=>v=.slice Az zs.length cz,fun v _=>v=.agg #[.string y.f.pr.name,.slice y.a y.f.pr.terms.length y.c,.int .u32 y.f.o],qz w1.heap.size 1 #[.string y.f.pr.name,.slice y.a y.f.pr.terms.length y.c,.int .u32 y.f.o] 33,AccF w.heap.size w1.heap.size d P (.slice Az zs.length cz) w4.heap.size w5.heap.size w7 (zs++[y]),fun v _=>v=.pointer (some ⟨P,0,none⟩)]):=AE ⟨Stb.val _,⟨Stb.val _,⟨Stb.val _,⟨Stb.val _,⟨Stb.val _,⟨Stb.row _ _ _ _,⟨Stb.accF _ _ _ _ _ _ _ _ _,⟨Stb.val _,trivial⟩⟩⟩⟩⟩⟩⟩⟩
      have HH0:Hid (w1.heap.size≤w7.drew.heap.size):=AE HW7.out.size
      have HDR:Hid (Below w7.heap.size w7 w7.drew):=AE (AI _ _).drew
      refine cV 8 (ol [fun v _=>v=.pointer (some ⟨P,0,none⟩),fun v _=>v=.pointer (some ⟨P,0,none⟩),fun v _=>v=.pointer (some ⟨P,0,none⟩),fun v _=>v=.slice Az zs.length cz,fun v _=>v=.agg #[.string y.f.pr.name,.slice y.a y.f.pr.terms.length y.c,.int .u32 y.f.o],qz w1.heap.size 1 #[.string y.f.pr.name,.slice y.a y.f.pr.terms.length y.c,.int .u32 y.f.o] 33,AccF w.heap.size w1.heap.size d P (.slice Az zs.length cz) w4.heap.size w5.heap.size w7 (zs++[y]),fun v _=>v=.pointer (some ⟨P,0,none⟩)]) [6] (w1.heap.size) HH0.out (by kernel_rfl) (by kernel_rfl) (by kernel_rfl) (by kernel_rfl) (by kernel_rfl) rfl (ae (ae (ae (ae (ae (ae (ae (ae jh ?op0_) ?op1_) ?op2_) ?op3_) ?op4_) ?op5_) ?op6_) ?op7_) ?last_
      case op0_=>
       refine mvA fun T w' hk hb hgr hd K hK=>?_
       have h_:T[6]?.getD undef=.pointer (some ⟨P,0,none⟩):=gqd (mvK hk 6)
       clear hk hd
       go_simp
       exact hK.out _ _ (mvM HST HH0 hb) rfl
      case op1_=>
       refine mvA fun T w' hk hb hgr hd K hK=>?_
       have h_:T[6]?.getD undef=.pointer (some ⟨P,0,none⟩):=gqd (mvK hk 6)
       clear hk hd
       go_simp
       exact hK.out _ _ (mvM HST HH0 hb) rfl
      case op2_=>
       refine mvA fun T w' hk hb hgr hd K hK=>?_
       have d1:T[48]?.getD undef=.pointer (some ⟨P,0,none⟩):=gqd (mvD hd 1)
       clear hk hd
       go_simp
       exact hK.out _ _ (mvM HST HH0 hb) rfl
      case op3_=>
       refine mvA fun T w' hk hb hgr hd K hK=>?_
       have d2:T[49]?.getD undef=.pointer (some ⟨P,0,none⟩):=gqd (mvD hd 2)
       have k_:=(HA7.out.later (HDR.out.trans (hgr (by kernel_rfl)))).hd.blk.cell
       have l_:=(HA7.out.later (HDR.out.trans (hgr (by kernel_rfl)))).hd.blk.lt
       clear hk hd
       go_simp
       exact hK.out _ _ (mvM HST HH0 hb) rfl
      case op4_=>
       refine mvA fun T w' hk hb hgr hd K hK=>?_
       have h_:T[12]?.getD undef=.pointer (some ⟨wr.heap.size,0,none⟩):=gqd (mvK hk 12)
       have k_:=(HT7.out.later (HDR.out.trans (hgr (by kernel_rfl)))).cell
       have l_:=(HT7.out.later (HDR.out.trans (hgr (by kernel_rfl)))).lt
       clear hk hd
       go_simp
       exact hK.out _ _ (mvM HST HH0 hb) rfl
      case op5_=>
       refine mvA fun T w' hk hb hgr hd K hK=>?_
       have d4:T[51]?.getD undef=.agg #[.string y.f.pr.name,.slice y.a y.f.pr.terms.length y.c,.int .u32 y.f.o]:=gqd (mvD hd 4)
       clear hk hd
       go_simp
       generalize hW:World.alloc _ _=w4
       obtain ⟨hb4,hz4⟩:=al1 hW
       have hN4:=hW▸heap_alloc_new w' _
       clear hW
       exact hK.out _ _ (mvN HST HH0 hb hb4) ⟨_,rfl,AF HH0.out hb.size,hN4⟩
      case op6_=>
       refine mvA fun T w' hk hb hgr hd K hK=>?_
       have d3:=mvD hd 3
       have d5:=mvD hd 5
       replace d3:T.getD 50 undef=.slice Az zs.length cz:=d3
       obtain ⟨b5,e5_,hb5,hc5⟩:=d5
       have hgw:=HDR.out.trans (hgr (by kernel_rfl))
       have HAw:=HA7.out.later hgw
       refine dF (R:=FvR) (e:=33) (.tmp 50) (.tmp 52) 84 rfl (bytes:=48) Tryz.underlying84 hi0 hz0 hz1 hz2 rfl (show 0<3 by omega) bC (xs:=zs) (base:=w1.heap.size) (B:=0) (v:=.slice Az zs.length cz) (by exact d3) HAw.own (by exact e5_) (ys:=[y]) (zm hc5 (bu.one (R:=FvR) rfl)) rfl (AH _) (by have:=HZL.out;simp only [AV,List.length_nil];omega) (by omega) (AF HW7.out.size hgw.size) ?_
       intro v_1 w8 hown hb8 hg hf
       obtain ⟨A',c',rfl⟩:=hown.form
       refine hK.out _ _ (Moved.keep (hb.trans hb8) rfl [0,7] (by kernel_rfl) (fun j hj=>by
        simp only [List.mem_cons,List.not_mem_nil,or_false] at hj
        rcases hj with rfl | rfl<;>exact fun h=>h)) ⟨A',c',rfl,HAw.app HYD7.out.1 (HYD7.out.2.later hgw) (fun q hq=>.inl (by omega)) (.inl hPw) HGZ.out hown hg hf,fun q hq=>?_,(al.of_below (M:=fun q=>(Value.slice Az zs.length cz).ownBlock=some q) hgw).trans (al.grown hg) (fun q _ h=>h.symm)⟩
       rcases hf with e | ⟨q2,e,hq2⟩
       ·exact HGZ.out q (e▸hq)
       ·rw [e] at hq
        cases hq
        have:=hgw.size
        exact .inr (by omega)
      case op7_=>
       refine mvA fun T w' hk hb hgr hd K hK=>?_
       have d0:T[47]?.getD undef=.pointer (some ⟨P,0,none⟩):=gqd (mvD hd 0)
       clear hk hd
       go_simp
       exact hK.out _ _ (mvM HST HH0 hb) rfl
      case last_=>
       refine mvL fun T w' hk hb hgr hd K hK=>?_
       have d6:=mvD hd 6
       have d7:=mvD hd 7
       replace d7:T.getD 54 undef=.pointer (some ⟨P,0,none⟩):=d7
       obtain ⟨A',c',e6,ha6,hq6,hg6⟩:=d6
       replace e6:T.getD 53 undef=_:=e6
       have HA8:=AE ha6
       have HQ8:=AE hq6
       have HG8:=AE hg6
       have HBW:Hid (Below w1.heap.size w1 w'):=AE (HW7.out.trans ((HDR.out.mono HW7.out.size).trans hb))
       have k_p:=HA8.out.hd.blk.cell
       have f_p:=HA8.out.hd.blk.free
       have l_p:=HA8.out.hd.blk.lt
       have hT:=kU hk.1
       obtain ⟨f_,hf_⟩:∃f_:Nat→Value,(fun t=>T.getD t undef)=f_:=⟨_,rfl⟩
       rw [hf_] at hT
       have E_:=fun t h=>(congrFun hf_ t).symm.trans (hk.2 t h)
       replace e6:f_ 53=_:=(congrFun hf_ 53).symm.trans e6
       replace d7:f_ 54=_:=(congrFun hf_ 54).symm.trans d7
       replace hT:T=#[f_ 0,f_ 1,f_ 2,f_ 3,f_ 4,f_ 5,f_ 6,f_ 7,f_ 8,f_ 9,f_ 10,f_ 11,f_ 12,f_ 13,f_ 14,f_ 15,f_ 16,f_ 17,f_ 18,f_ 19,f_ 20,f_ 21,f_ 22,f_ 23,f_ 24,f_ 25,f_ 26,f_ 27,f_ 28,f_ 29,f_ 30,f_ 31,f_ 32,f_ 33,f_ 34,f_ 35,f_ 36,f_ 37,f_ 38,f_ 39,f_ 40,f_ 41,f_ 42,f_ 43,f_ 44,f_ 45,f_ 46,f_ 47,f_ 48,f_ 49,f_ 50,f_ 51,f_ 52,f_ 53,f_ 54,f_ 55,f_ 56,f_ 57,f_ 58,f_ 59,f_ 60,f_ 61,f_ 62,f_ 63,f_ 64,f_ 65,f_ 66,f_ 67,f_ 68,f_ 69,f_ 70,f_ 71,f_ 72,f_ 73,f_ 74,f_ 75,f_ 76,f_ 77,f_ 78,f_ 79,f_ 80,f_ 81,f_ 82,f_ 83,f_ 84,f_ 85,f_ 86,f_ 87,f_ 88,f_ 89,f_ 90]:=hT
       clear hf_
       subst hT
       rw [e6,d7,E_ 0 (by kernel_rfl),E_ 1 (by kernel_rfl),E_ 2 (by kernel_rfl),E_ 3 (by kernel_rfl),E_ 4 (by kernel_rfl),E_ 5 (by kernel_rfl),E_ 6 (by kernel_rfl),E_ 7 (by kernel_rfl),E_ 8 (by kernel_rfl),E_ 9 (by kernel_rfl),E_ 10 (by kernel_rfl),E_ 11 (by kernel_rfl),E_ 12 (by kernel_rfl),E_ 13 (by kernel_rfl),E_ 14 (by kernel_rfl),E_ 15 (by kernel_rfl),E_ 16 (by kernel_rfl),E_ 17 (by kernel_rfl),E_ 18 (by kernel_rfl),E_ 19 (by kernel_rfl),E_ 20 (by kernel_rfl),E_ 21 (by kernel_rfl),E_ 22 (by kernel_rfl),E_ 23 (by kernel_rfl),E_ 24 (by kernel_rfl),E_ 25 (by kernel_rfl),E_ 26 (by kernel_rfl),E_ 27 (by kernel_rfl),E_ 28 (by kernel_rfl),E_ 29 (by kernel_rfl),E_ 30 (by kernel_rfl),E_ 31 (by kernel_rfl),E_ 32 (by kernel_rfl),E_ 33 (by kernel_rfl),E_ 34 (by kernel_rfl),E_ 35 (by kernel_rfl),E_ 36 (by kernel_rfl),E_ 37 (by kernel_rfl),E_ 38 (by kernel_rfl),E_ 39 (by kernel_rfl),E_ 40 (by kernel_rfl),E_ 41 (by kernel_rfl),E_ 42 (by kernel_rfl),E_ 43 (by kernel_rfl),E_ 44 (by kernel_rfl),E_ 45 (by kernel_rfl),E_ 46 (by kernel_rfl),E_ 55 (by kernel_rfl),E_ 56 (by kernel_rfl),E_ 57 (by kernel_rfl),E_ 58 (by kernel_rfl),E_ 59 (by kernel_rfl),E_ 60 (by kernel_rfl),E_ 61 (by kernel_rfl),E_ 62 (by kernel_rfl),E_ 63 (by kernel_rfl),E_ 64 (by kernel_rfl),E_ 65 (by kernel_rfl),E_ 66 (by kernel_rfl),E_ 67 (by kernel_rfl),E_ 68 (by kernel_rfl),E_ 69 (by kernel_rfl),E_ 70 (by kernel_rfl),E_ 71 (by kernel_rfl),E_ 72 (by kernel_rfl),E_ 73 (by kernel_rfl),E_ 74 (by kernel_rfl),E_ 75 (by kernel_rfl),E_ 76 (by kernel_rfl),E_ 77 (by kernel_rfl),E_ 78 (by kernel_rfl),E_ 79 (by kernel_rfl),E_ 80 (by kernel_rfl),E_ 81 (by kernel_rfl),E_ 82 (by kernel_rfl),E_ 83 (by kernel_rfl),E_ 84 (by kernel_rfl),E_ 85 (by kernel_rfl),E_ 86 (by kernel_rfl),E_ 87 (by kernel_rfl),E_ 88 (by kernel_rfl),E_ 89 (by kernel_rfl),E_ 90 (by kernel_rfl)]
       clear E_
       clear hd hk ha6 hq6 hg6 hb hgr
       go_simp
       refine hK.out _ _ ?_
       clear hK
       have hl:(zs++[y]).length=zs.length+1:=by simp
       have HA9:=HA8.out.put (.slice A' (zs++[y]).length c')
       have hb9:=HBW.out.setCell (p:=⟨P,0,none⟩) (by show w1.heap.size≤P;omega) (.slice A' (zs++[y]).length c')
       have hag9:al (fun q=>q<w4.heap.size) w5 (w'.setCell ⟨P,0,none⟩ (.slice A' (zs++[y]).length c')):=al.set_ (HAG7.out.trans HG8.out (fun q hq h=>by
        rcases HGZ.out q h with h1 | h1
        ·exact h1
        ·omega)) (fun _=>hPw) 0 _
       rw [hl] at HA9 hb9 hag9
       have HH9:=AE (And.intro HA9 (And.intro hb9 hag9))
       clear HA9 hb9 hag9
       generalize World.setCell w' _ _=w9 at *
       go_wp2_with fail
       go_roundw
       case rel=>exact ⟨j+1,zs++[y],A',c',by omega,by omega,by go_num,AE (by rw [List.map_append];exact HZ1.out),AE (by rw [hl];exact HH9.out.1),AE HH9.out.2.1,AE HH9.out.2.2,HQ8⟩
       case measure=>simp [intOf];omega
    ·have HNB:Hid (qr (fs.map FV.f) rs (zs.map FV.f) (k+1) X):=AE (by rw [HZ.out,List.take_of_length_le (by rw [AM];omega)];exact HNN.out)
     have hyl:=HYL.out
     go_wp2_with fail
     go_roundw
     case rel=>exact ⟨k+1,zs,Az,cz,by omega,by omega,by go_num,HNB,HAZ,HWZ,by omega⟩
     case measure=>simp [intOf];omega
  ·have HX0:Hid (X=(xs.map FV.f,0)):=AE (HN.out.stop (by omega))
   have HV:Hid (aA (fs.map FV.f) rs=(setL aF (xs.map FV.f),0)):=AE (by rw [HRR.out,HX0.out];exact if_neg (by simp))
   have hxl:xs.length≤1000000000000:=by omega
   clear HN HX0 HRR HNA
   by_cases hx0:xs.length=0
   ·obtain rfl:=List.eq_nil_of_length_eq_zero hx0
    simp only [List.length_nil] at *
    have k_p:=HA.out.hd.blk.cell
    have l_p:=HA.out.hd.blk.lt
    have hml:=fun fuel=>iR (name := "Len") (f:=38) (by kernel_rfl) fuel (k_p 0)
    go_wp2_with fail
    refine (initG0 hml (ent Tryz.func38 (by kernel_rfl) rfl) (dz _ _ _ _)).mono ?_
    rintro z wz ⟨rfl,rfl⟩
    clear hml
    go_upto_region 19 with fail
    generalize wr=wo at *
    go_loopw [13] (fun u wr=>u=.slice none 0 0∧wo=wr) (fun _ wr=>0)
    case atStart=>exact ⟨rfl,rfl⟩
    case round=>
     obtain ⟨rfl,rfl⟩:=hrel
     have k_p:=HA.out.hd.blk.cell
     go_wp2_with fail
     refine (dz _ _ _ _).mono ?_
     rintro z wz ⟨rfl,rfl⟩
     go_wp2_with fail
     go_ret2
     exact ⟨[],none,0,by rw [HV.out];rfl,by rw [HV.out];rfl,FRow.nil _ _ _,HBr.out⟩
   ·obtain ⟨G,rfl,hG1,hPG,hGw,hcp1,hcp2,hpile⟩:=HA.out.pile (by omega) hxl
    have HST:Hid (∀(W:World) (x:FV),x∈xs→al (fun q=>q=P∨q=G) wr W→FcOk x.f∧fJ (fun q=>q<w.heap.size∨q=P∨q=G∨wr.heap.size≤q) W (fun w'=>(ay (d+1)).rd w' w'.heap.size x.f x.cs)):=AE (fun W x hx hag=>⟨(HA.out.deep x hx).1,(HA.out.deep x hx).2.next hag (fun q _ h=>by
     rcases h with rfl | rfl
     ·exact .inr (.inl rfl)
     ·exact .inr (.inr rfl)) (fun q hq h=>by
     rcases h with h | h | h | h
     ·exact .inl h
     ·exact .inr (.inl h)
     ·exact .inr (.inr (by rw [h];rfl))
     ·omega)⟩)
    have HEQ:Hid (∀a∈xs.map FV.f,∀b∈xs.map FV.f,aF a b=0→a=b):=AE (fun a ha b hb e=>by
     obtain ⟨x,hx,rfl⟩:=List.mem_map.1 ha
     obtain ⟨y,hy,rfl⟩:=List.mem_map.1 hb
     exact (gI (HA.out.deep x hx).1 (HA.out.deep y hy).1).1 e)
    have hml:=(sn (d:=d) hPG hcp2).mlen hpile
    have HPI:=AE hpile
    clear hpile
    go_wp2_with fail
    refine (initG (sn hPG hcp2) HPI.out).mono ?_
    rintro z w6 ⟨rfl,he,zs,hpm,hheap,hst⟩
    have HI0:Hid (PopInv d P G cr (xs.map FV.f) xs wr w6 [] zs none 0):=AE ⟨⟨by rw [AM];exact iT hheap,List.Pairwise.nil,by simp,fun t=>by rw [(hpm.map FV.f).mem_iff];simp,by simp [hpm.length_eq]⟩,hheap,hst,aq.nil _ _ _ _ _,he.agree.mono (fun _ _ h=>.inr h),by simp,fun x hx=>hpm.subset hx⟩
    have HB6:Hid (Below w1.heap.size w1 w6):=AE (HW.out.trans (he.1.mono hG1))
    clear he hpm hheap hst hml
    go_upto_region 19 with fail
    generalize wr=wo at *
    go_loopw [13] (fun u wr=>∃(out ps:List FV) (A:Option Addr) (c:Nat),u=.slice A out.length c∧Hid (PopInv d P G cr (xs.map FV.f) xs wo wr out ps A c)∧Hid (Below w1.heap.size w1 wr)) (fun _ wr=>pD wr P)
    case atStart=>exact ⟨[],zs,none,0,rfl,HI0,HB6⟩
    case round=>
     obtain ⟨out,ps,A9,c9,rfl,HI,HW9⟩:=hrel
     have HB9:=AE (aa HB1.out HW9.out)
     have hol:out.length+ps.length≤xs.length:=by have:=HI.out.piled.len;simpa using this
     have HME:=AE (eF HI.out.pile.hd)
     rcases Nat.eq_zero_or_pos ps.length with hx1 | hx1
     ·obtain rfl:ps=[]:=List.eq_nil_of_length_eq_zero hx1
      have k_p:=HI.out.pile.hd.cell
      have HD:Hid (out.map FV.f=setL aF (xs.map FV.f)):=AE (Piled.done aW HEQ.out HI.out.piled)
      have HO:=AE HI.out.own
      simp only [List.length_nil] at k_p
      go_wp2_with fail
      refine (dz _ _ _ _).mono ?_
      rintro z wz ⟨rfl,rfl⟩
      go_wp2_with fail
      go_ret2
      refine ⟨out,A9,c9,by rw [HV.out];rfl,by rw [HV.out];exact HD.out,⟨HO.out.lower (by omega),fun x hx=>?_⟩,HB9.out⟩
      have h1:=HST.out _ x (HI.out.subO x hx) HI.out.ag
      exact ⟨h1.1,h1.2.less (fun q _ h=>by
       rcases h with h | h
       ·exact .inl h
       ·exact .inr (.inr (.inr (HO.out.lt q h).1)))⟩
     obtain ⟨n,hn1⟩:∃n,ps.length=n+1:=⟨ps.length-1,by omega⟩
     have HN1:=AE hn1
     have k_p:=HI.out.pile.hd.cell
     have hml:=(sn (d:=d) hPG hcp2).mlen HI.out.pile
     rw [hn1] at k_p
     clear hn1 hx1
     go_wp2_with fail
     refine (dz _ _ _ _).mono ?_
     rintro z wz ⟨rfl,rfl⟩
     go_wp2_with fail
     refine (popG (sn hPG hcp2) HI.out.pile HN1.out (by have:=HN1.out;omega) (HN1.out▸HI.out.heap)).mono ?_
     rintro z wa ⟨rfl,he,rest,hrl,hrp,hrh,hrm,hst⟩
     have HXM:Hid (atL de ps 0∈xs):=AE (HI.out.subX _ (qC (by have:=HN1.out;omega)))
     have hwo:wo.heap.size≤wr.heap.size:=HI.out.ag.size
     have HAGa:Hid (al (fun q=>q=P∨q=G) wo wa):=AE (HI.out.ag.trans he.agree (fun q _ h=>h))
     have HOa:=AE (HI.out.own.agree he.agree (fun q hq h=>by have:=(HI.out.own.lt q hq).1;rcases h with rfl | rfl<;>omega))
     have HWa:Hid (Below w1.heap.size w1 wa):=AE (HW9.out.trans (he.1.mono (by omega)))
     have HRS:=AE (And.intro hrl (And.intro hrp (And.intro hrh hrm)))
     have HPIa:=AE hst
     have hsa:=he.1.size
     clear he hrl hrp hrh hrm hst k_p hml
     generalize atL de ps 0=x at *
     simp only [FV.cs,fcV]
     have hta:=fun v wx=>iI (P:=Tryz.prog) (t:=33) (xT:=20) (v:=v) Tryz.underlying33 wx
     go_upto_region 21 with fail
     generalize hW:World.alloc _ _=wb
     obtain ⟨hb,hz⟩:=al1 hW
     have HTb:=AE (n11 hW)
     have HAGb:=AE (HAGa.out.trans (N:=fun _=>False) (al.of_below hb) (fun _ _ h=>h.elim))
     have HOb:=AE (HOa.out.later hb (AH _))
     have HPIb:=AE (HPIa.out.later hb)
     have HWb:=AE (aa HWa.out hb)
     have HSZb:Hid (wo.heap.size≤wb.heap.size):=AE (AF (AF hwo hsa) hb.size)
     have HSW:Hid (w1.heap.size≤wo.heap.size):=AE (by omega)
     have HXR:=AE (HST.out wb x HXM.out HAGb.out)
     clear hW hb hz hta
     rcases Nat.eq_zero_or_pos out.length with ho | ho
     ·obtain rfl:out=[]:=List.eq_nil_of_length_eq_zero ho
      have q_x:=HTb.out.regrown
      go_upto_region 22 with fail
      refine wp_region_quiet_below (by kernel_rfl) (by kernel_rfl) ?_
      repeat (go_big_quiet_step (fail))
      refine wpQuiet_nil ?_
      intro wc hw3
      have hb1:Below wb.heap.size wb wc:=by obtain ⟨p,rfl⟩:=hw3;exact below_regrown _ _ _
      have HTc:=AE (HTb.out.later hb1)
      have HO:=AE (HOb.out.later hb1 (AH _))
      have HPIc:=AE (HPIb.out.later hb1)
      have HWc:=AE (aa HWb.out hb1)
      have HAGc:=AE (HAGb.out.trans (N:=fun _=>False) (al.of_below hb1) (fun _ _ h=>h.elim))
      have HSZ:Hid (wo.heap.size≤wc.heap.size):=AE (AF HSZb.out hb1.size)
      clear hw3 q_x hb1
      simp only [List.length_nil] at *
      have HOW:=AE (And.intro (HO.out.later ((AI _ wc).alloc (AG _) (.cells x.cs.toArray 33)) (AH _)) (zm (R:=FvR) (B:=0) (xs:=[x]) (Ac (w:=wc) (o1:=.cells x.cs.toArray 33)) (bu.one (R:=FvR) rfl)))
      simp only [FV.cs,fcV] at HOW
      have k_x:=HTc.out.cell
      have l_x:=HTc.out.lt
      go_wp2_with ((
       at_builtin
       refine ar (R:=FvR) (e:=33) (base:=wo.heap.size) (B:=0) (xs:=[]) (ys:=[x]) rfl (.tmp 86) (.tmp 88) 23 rfl (bytes:=48) Tryz.underlying23 hi0 hz0 hz1 hz2 rfl (show 0<3 by omega) bC rfl HOW.out.1 rfl HOW.out.2 rfl (AH _) (by simp only [AV,List.length_nil];omega) (by omega) (by rw [World.size_alloc];have:=HSZ.out;omega) ?_
       intro v7 w7 hown7 hb7
       obtain ⟨A7,c7,rfl⟩:=hown7.form
       have H7:=AE (And.intro hown7 (((AI wo.heap.size wc).alloc HSZ.out (.cells #[.string x.f.pr.name,.slice x.a x.f.pr.terms.length x.c,.int .u32 x.f.o] 33)).trans hb7))
       clear hown7 hb7 k_x l_x))
      have HAG7:Hid (al (fun q=>q=P∨q=G) wo w7):=AE (HAGc.out.trans (al.under H7.out.2) (fun q hq h=>absurd h (by omega)))
      have HPI7:Hid (FPile d P G cr w7 rest):=AE (by
       obtain ⟨cur,h1,h2⟩:=HPIc.out.row
       have ha:=al.under H7.out.2
       exact ⟨ha.blk HPIc.out.hd (by omega),⟨cur,ha.blk h1 (by omega),h2⟩,fun z hz=>by
        have h:=HST.out w7 z (HI.out.subX z (HRS.out.2.1.symm.subset (List.mem_cons_of_mem _ hz))) HAG7.out
        exact ⟨h.1,h.2.less (fun q _ hq=>by
         rcases hq with rfl | rfl
         ·exact .inr (.inl rfl)
         ·exact .inr (.inr (.inl rfl)))⟩,HPIc.out.few⟩)
      go_roundw
      case rel=>
       have h1:gT aF (atL de.f (rest.map FV.f)) 0 (rest.map FV.f).length:=by rw [AM,HRS.out.1];exact iT HRS.out.2.2.1
       have h2:∀b∈rest.map FV.f,aF x.f b≤0:=fun b hb=>by
        obtain ⟨z,hz,rfl⟩:=List.mem_map.1 hb
        exact HRS.out.2.2.2 z hz
       have h3:=HI.out.piled.more aW (HRS.out.2.1.map FV.f) h1 h2 (fun z hz=>by simp at hz)
       exact ⟨[]++[x],rest,A7,c7,rfl,AE ⟨by rw [List.map_append];exact h3,by rw [HRS.out.1];exact HRS.out.2.2.1,HPI7.out,H7.out.1,HAG7.out,fun z hz=>by
       rcases List.mem_append.1 hz with hz | hz
       ·exact HI.out.subO z hz
       ·obtain rfl:z=x:=by simpa using hz
        exact HXM.out,fun z hz=>HI.out.subX z (HRS.out.2.1.symm.subset (List.mem_cons_of_mem _ hz))⟩,AE (HWc.out.trans (H7.out.2.mono HSW.out))⟩
      case measure=>
       have h1:=eF HPI7.out.hd
       have h2:=HME.out
       have h3:=HRS.out.1
       have h4:=HN1.out
       rw [h1,h2];omega
     obtain ⟨mm,hmm⟩:∃mm,out.length=mm+1:=⟨out.length-1,by omega⟩
     obtain ⟨g,cg,eg,hg1,hg2,_⟩:=HOb.out.sh aU ho
     simp only [AR,true_and] at eg
     obtain ⟨rfl,rfl⟩:=eg
     have hml:mm<out.length:=by omega
     obtain ⟨g0,g1,g2⟩:=qY HOb.out hml
     have HLAST:Hid (out.getLast? = some out[mm]):=AE (by rw [List.getLast?_eq_getElem?,hmm,Nat.add_sub_cancel,AO hml])
     have HYM:Hid (out[mm]∈xs):=AE (HI.out.subO _ (List.getElem_mem hml))
     generalize out[mm]=y at *
     have HYR:=AE (HST.out wb y HYM.out HAGb.out)
     have HC:Hid (∀w9,Below wb.heap.size wb w9→Calls Tryz.prog 35 #[.agg y.cs.toArray,.agg x.cs.toArray] w9 fun z w'=>z=.returned (.int .i64 (aF y.f x.f))∧Below w9.heap.size w9 w'):=AE (fun w9 hb=>cN (d:=d+1) (e:=d+1) (B:=w9.heap.size) ((HYR.out.2.later hb).here) ((HXR.out.2.later hb).here) (by have:=HYR.out.1.few;omega) (by have:=HXR.out.1.few;omega) (AG _))
     simp only [FV.cs,fcV] at HC
     replace g0:=cell_regrown g0
     replace g1:=cell_regrown g1
     replace g2:=cell_regrown g2
     have q_x:=HTb.out.regrown
     have HMM:=AE hmm
     have hgd:((mm:Int)+1==0)=false:=by rw [beq_eq_false_iff_ne];omega
     by_cases hs:aF y.f x.f=0
     ·have hs1:(aF y.f x.f !=0)=false:=by simpa using hs
      have HYX:Hid (y.f=x.f):=AE ((gI HYR.out.1 HXR.out.1).1 hs)
      generalize aF y.f x.f=cv at *
      clear hs
      go_upto_region 22 with fail
      rw [hmm]
      push_cast
      refine wp_region_quiet_below (by kernel_rfl) (by kernel_rfl) ?_
      repeat (go_big_quiet_step ((go_at_call 35;exact Calls.regrown_of (HC.out _ (below_regrown _ _ _)))))
      refine wpQuiet_nil ?_
      intro wc hw3
      have hb1:Below wb.heap.size wb wc:=by obtain ⟨p,rfl⟩:=hw3;exact below_regrown _ _ _
      have HO:=AE (HOb.out.later hb1 (AH _))
      have HPIc:=AE (HPIb.out.later hb1)
      have HWc:=AE (aa HWb.out hb1)
      have HAGc:=AE (HAGb.out.trans (N:=fun _=>False) (al.of_below hb1) (fun _ _ h=>h.elim))
      clear hw3 q_x hb1 g0 g1 g2
      go_wp2_with fail
      go_roundw
      case rel=>exact ⟨out,rest,some ⟨g,0,none⟩,c9,by rw [HMM.out],AE ⟨HI.out.piled.skip (HRS.out.2.1.map FV.f) (by rw [AM,HRS.out.1];exact iT HRS.out.2.2.1) (by rw [List.getLast?_map,HLAST.out];rfl) HYX.out,by rw [HRS.out.1];exact HRS.out.2.2.1,HPIc.out,HO.out,HAGc.out,HI.out.subO,fun z hz=>HI.out.subX z (HRS.out.2.1.symm.subset (List.mem_cons_of_mem _ hz))⟩,HWc⟩
      case measure=>
       have h1:=eF HPIc.out.hd
       have h2:=HME.out
       have h3:=HRS.out.1
       have h4:=HN1.out
       rw [h1,h2];omega
     ·have hs1:(aF y.f x.f !=0)=true:=by simpa using hs
      have HYX:Hid (∀z,(out.map FV.f).getLast? = some z→aF z x.f≠0):=AE (fun z hz=>by
       rw [List.getLast?_map,HLAST.out] at hz
       cases hz
       exact hs)
      generalize aF y.f x.f=cv at *
      clear hs
      go_upto_region 22 with fail
      rw [hmm]
      push_cast
      refine wp_region_quiet_below (by kernel_rfl) (by kernel_rfl) ?_
      repeat (go_big_quiet_step ((go_at_call 35;exact Calls.regrown_of (HC.out _ (below_regrown _ _ _)))))
      refine wpQuiet_nil ?_
      intro wc hw3
      have hb1:Below wb.heap.size wb wc:=by obtain ⟨p,rfl⟩:=hw3;exact below_regrown _ _ _
      have HTc:=AE (HTb.out.later hb1)
      have HO:=AE (HOb.out.later hb1 (AH _))
      have HPIc:=AE (HPIb.out.later hb1)
      have HWc:=AE (aa HWb.out hb1)
      have HAGc:=AE (HAGb.out.trans (N:=fun _=>False) (al.of_below hb1) (fun _ _ h=>h.elim))
      have HSZ:Hid (wo.heap.size≤wc.heap.size):=AE (AF HSZb.out hb1.size)
      rw [hmm] at HO
      clear hw3 q_x hb1 g0 g1 g2 hmm hgd
      have HOW:=AE (And.intro (HO.out.later ((AI _ wc).alloc (AG _) (.cells x.cs.toArray 33)) (AH _)) (zm (R:=FvR) (B:=0) (xs:=[x]) (Ac (w:=wc) (o1:=.cells x.cs.toArray 33)) (bu.one (R:=FvR) rfl)))
      simp only [FV.cs,fcV] at HOW
      have k_x:=HTc.out.cell
      have l_x:=HTc.out.lt
      go_wp2_with ((
       at_builtin
       refine ar (R:=FvR) (e:=33) (base:=wo.heap.size) (B:=0) (xs:=out) (ys:=[x]) rfl (.tmp 86) (.tmp 88) 23 rfl (bytes:=48) Tryz.underlying23 hi0 hz0 hz1 hz2 rfl (show 0<3 by omega) bC rfl HOW.out.1 rfl HOW.out.2 rfl (AH _) (by simp only [AV,List.length_nil];omega) (by omega) (by rw [World.size_alloc];have:=HSZ.out;omega) ?_
       intro v7 w7 hown7 hb7
       obtain ⟨A7,c7,rfl⟩:=hown7.form
       have H7:=AE (And.intro hown7 (((AI wo.heap.size wc).alloc HSZ.out (.cells #[.string x.f.pr.name,.slice x.a x.f.pr.terms.length x.c,.int .u32 x.f.o] 33)).trans hb7))
       clear hown7 hb7 k_x l_x))
      have HAG7:Hid (al (fun q=>q=P∨q=G) wo w7):=AE (HAGc.out.trans (al.under H7.out.2) (fun q hq h=>absurd h (by omega)))
      have HPI7:Hid (FPile d P G cr w7 rest):=AE (by
       obtain ⟨cur,h1,h2⟩:=HPIc.out.row
       have ha:=al.under H7.out.2
       exact ⟨ha.blk HPIc.out.hd (by omega),⟨cur,ha.blk h1 (by omega),h2⟩,fun z hz=>by
        have h:=HST.out w7 z (HI.out.subX z (HRS.out.2.1.symm.subset (List.mem_cons_of_mem _ hz))) HAG7.out
        exact ⟨h.1,h.2.less (fun q _ hq=>by
         rcases hq with rfl | rfl
         ·exact .inr (.inl rfl)
         ·exact .inr (.inr (.inl rfl)))⟩,HPIc.out.few⟩)
      go_roundw
      case rel=>
       have h1:gT aF (atL de.f (rest.map FV.f)) 0 (rest.map FV.f).length:=by rw [AM,HRS.out.1];exact iT HRS.out.2.2.1
       have h2:∀b∈rest.map FV.f,aF x.f b≤0:=fun b hb=>by
        obtain ⟨z,hz,rfl⟩:=List.mem_map.1 hb
        exact HRS.out.2.2.2 z hz
       have h3:=HI.out.piled.more aW (HRS.out.2.1.map FV.f) h1 h2 HYX.out
       exact ⟨out++[x],rest,A7,c7,by simp,AE ⟨by rw [List.map_append];exact h3,by rw [HRS.out.1];exact HRS.out.2.2.1,HPI7.out,H7.out.1,HAG7.out,fun z hz=>by
       rcases List.mem_append.1 hz with hz | hz
       ·exact HI.out.subO z hz
       ·obtain rfl:z=x:=by simpa using hz
        exact HXM.out,fun z hz=>HI.out.subX z (HRS.out.2.1.symm.subset (List.mem_cons_of_mem _ hz))⟩,AE (HWc.out.trans (H7.out.2.mono HSW.out))⟩
      case measure=>
       have h1:=eF HPI7.out.hd
       have h2:=HME.out
       have h3:=HRS.out.1
       have h4:=HN1.out
       rw [h1,h2];omega
/-! What is the same as a fact is that fact. -/
theorem wC {d:Nat} {a b:Tm} (ha:jv a) (h:aV (d+1) a b=0):jv b:=by
 unfold aV at h
 split at h
 ·rw [show a.l=[] from ha] at h
  unfold jv
  cases hb:b.l with
  | nil=>rfl
  | cons y ys=>rw [hb] at h;simp [bM] at h
 ·rename_i k;exact absurd h k
theorem nc {d:Nat}:∀{xs ys:List Tm},(∀x∈xs,jv x)→bM (aV (d+1)) xs ys=0→∀y∈ys,jv y
 | [],[],_,_=>by simp
 | [],_::_,_,h=>by simp [bM] at h
 | _::_,[],_,h=>by simp [bM] at h
 | x::xs,y::ys,hx,h=>by
   rw [bM] at h
   split at h
   ·rename_i h0
    intro z hz
    rcases List.mem_cons.1 hz with rfl | hz
    ·exact wC (hx x (by simp)) h0
    ·exact nc (fun u hu=>hx u (by simp [hu])) h z hz
   ·rename_i k;exact absurd h k
theorem zx {d:Nat} {a b:Tm} (ha:Two a) (h:aV (d+2) a b=0):Two b:=by
 unfold aV at h
 split at h
 ·exact nc ha h
 ·rename_i k;exact absurd h k
theorem qm:∀{xs ys:List Tm},(∀x∈xs,Two x)→bM (aV 3) xs ys=0→∀y∈ys,Two y
 | [],[],_,_=>by simp
 | [],_::_,_,h=>by simp [bM] at h
 | _::_,[],_,h=>by simp [bM] at h
 | x::xs,y::ys,hx,h=>by
   rw [bM] at h
   split at h
   ·rename_i h0
    intro z hz
    rcases List.mem_cons.1 hz with rfl | hz
    ·exact zx (hx x (by simp)) h0
    ·exact qm (fun u hu=>hx u (by simp [hu])) h z hz
   ·rename_i k;exact absurd h k
theorem tl {a b:Fc} (ha:FcOk a) (h:aF a b=0):a=b:=by
 simp only [aF,orL] at h
 split at h
 ·rename_i h1
  split at h
  ·rename_i h2
   split at h
   ·rename_i h3
    split at h
    ·rename_i h4
     obtain ⟨⟨an,at_⟩,ao⟩:=a
     obtain ⟨⟨bn,bt⟩,bo⟩:=b
     have hx:∀x∈at_,Two x:=fun x hx=>(aO (ha.fix x hx)).1
     have e1:an=bn:=oO (fT.1 h1)
     have e3:at_=bt:=oB hx (qm hx h3) h3
     have e4:ao=bo:=eb.1 h4
     rw [e1,e3,e4]
    ·exact absurd h ‹_›
   ·exact absurd h ‹_›
  ·exact absurd h ‹_›
 ·exact absurd h ‹_›
theorem StF.not {fs:List Fc} {f:Fc} (h:StF fs) (hf:aD f=false):fe fs f=false:=by
 cases hh:fe fs f with
 | false=>rfl
 | true=>
   obtain ⟨x,hx,h0⟩:=(nU h.sort).1 hh
   have e:=tl (h.ok x hx) h0
   subst e
   rw [h.st x hx] at hf
   cases hf
theorem zp {l:List Fc} {k:Nat} {x:Fc} (h:l[k]? = some x):(l.take (k+1)).all aD=((l.take k).all aD&&aD x):=by
 obtain ⟨hk,rfl⟩:=List.getElem?_eq_some_iff.1 h
 rw [List.take_succ_eq_append_getElem hk,List.all_append]
 simp
theorem qi {l:List Fc} {k:Nat} {x:Fc} (h:l[k]? = some x):stL (l.take (k+1))=fd (stL (l.take k)) x:=by
 obtain ⟨hk,rfl⟩:=List.getElem?_eq_some_iff.1 h
 rw [List.take_succ_eq_append_getElem hk,sP]
theorem vR {ys fs:List Fc} {k:Nat} {x:Fc} (h:ys[k]? = some x):(ys.take (k+1)).foldl fd fs=fd ((ys.take k).foldl fd fs) x:=by
 obtain ⟨hk,rfl⟩:=List.getElem?_eq_some_iff.1 h
 rw [List.take_succ_eq_append_getElem hk,List.foldl_append];rfl
def BegE (d:Nat) (w w':World) (l:List Fc) (z:Ending):Prop:=
 ((l.all aD=true∧∃S base xs As cs,z=.returned (.tuple #[.pointer (some ⟨S,0,none⟩),.bool true])∧StA base d w' S xs As cs∧xs.map FV.f=stL l∧w.heap.size≤S∧(∀q,(Value.slice As xs.length cs).ownBlock=some q→w.heap.size≤q)) ∨
  (l.all aD=false∧z=.returned (.tuple #[.pointer none,.bool false])))∧Below w.heap.size w w'
theorem uV {d B c:Nat} {l:List Fc} {A:Option Addr} {w:World} (hl:RL (ay (d+1)) w B l A) (hB:B≤w.heap.size) (hn:l.length≤100000) (h40:∀f∈l,f.pr.terms.length*40≤140737488351232) :
 Calls Tryz.prog 22 #[.slice A l.length c] w fun z w'=>BegE d w w' l z:=by
 have HL:=AE hl
 have HIN:Hid (∀f∈l,uG f):=AE (fun g hg=>by
  obtain ⟨i,hi,rfl⟩:=List.getElem_of_mem hg
  obtain ⟨b,off,_,_,hc⟩:=hl (by omega)
  obtain ⟨vs,_,⟨x,hx,hr⟩,_⟩:=hc i hi
  obtain ⟨_,rfl⟩:=List.getElem?_eq_some_iff.1 hx
  exact vF hr)
 have HTM:=AE h40
 clear hl h40
 go_enter Tryz.func22,Tryz.ntmps22
 go_wp2_with fail
 refine (qj d).mono ?_
 rintro z w1 ⟨rfl,hs1,hb1⟩
 have HS1:=AE hs1
 have HB1:=AE hb1
 have hsz1:=hb1.size
 clear hs1 hb1
 generalize hS:w.heap.size=S at *
 go_upto_region 3 with fail
 go_loopw [10] (fun i wr=>∃(k:Nat) (xs:List FV) (As:Option Addr) (cs:Nat),k≤l.length∧xs.length≤k∧i=.int .i64 k∧Hid (StA (S+1) d wr S xs As cs)∧Hid (xs.map FV.f=stL (l.take k))∧Hid ((l.take k).all aD=true)∧Hid (Below S w wr)∧Hid (∀q,(Value.slice As xs.length cs).ownBlock=some q→S≤q)) (fun i _=>l.length-(intOf i).toNat)
 case atStart=>exact ⟨0,[],none,0,AH _,AG _,rfl,HS1,AE rfl,AE rfl,HB1,AE (fun q h=>by cases h)⟩
 case round=>
  obtain ⟨k,xs,As,cs,hk,hxk,rfl,HS,HX,HAL,HW,HQ⟩:=hrel
  have hszr:=HW.out.size
  have hBr:B≤wr.heap.size:=by omega
  by_cases hlt:k<l.length
  ·have hBS:B≤S:=by omega
   obtain ⟨b,off,rfl,hob⟩:=(HL.out.keep HW.out hBS).base (AI _ _) hBr (by omega)
   obtain ⟨x,vs,hx,hlen,hcell,hr⟩:=(HL.out.keep HW.out hBS).at_ (AI _ _) hBr hlt
   have HXK:=AE hx
   have HR:=AE hr
   obtain ⟨Af,cf,rfl,_⟩:=aG hr
   have p0:wr.cell? ⟨b,off+k*3,none⟩=some (.string x.pr.name):=hcell 0 _ rfl
   have p1:wr.cell? ⟨b,off+k*3+1,none⟩=some (.slice Af x.pr.terms.length cf):=hcell 1 _ rfl
   have p2:wr.cell? ⟨b,off+k*3+2,none⟩=some (.int .u32 x.o):=hcell 2 _ rfl
   clear hcell hlen hx hr
   go_upto_region 5 with fail
   generalize hW:World.alloc _ _=w3
   obtain ⟨hb3,hz3⟩:=al1 hW
   have HK3:=AE (n11 hW)
   have HB3:Hid (Below S w w3):=AE (HW.out.trans (hb3.mono (by omega)))
   have HR3:=AE ((ay (d+1)).keep hb3 hBr HR.out)
   have HS3:=AE (HS.out.later hb3)
   have hsz3:=hb3.size
   clear hW hb3 hz3 p0 p1 p2
   have k_r:=HK3.out.cell
   have l_r:=HK3.out.lt
   go_wp2_with fail
   refine (mh (f:=x) (vf:=[_,_,_]) (B:=B) HS3.out HR3.out (by omega) (by omega)).mono ?_
   rintro z w4 ⟨xs2,A2,c2,rfl,hx2,hs2,hag,hfr⟩
   have hl2:xs2.length≤k+1:=by
    have h1:=congrArg List.length hx2
    have h2:=nE (xs.map FV.f) x
    rw [AM] at h1 h2
    omega
   have HX2:Hid (xs2.map FV.f=stL (l.take (k+1))):=AE (by rw [hx2,HX.out,qi HXK.out])
   have HS4:=AE hs2
   have HQ4:Hid (∀q,(Value.slice A2 xs2.length c2).ownBlock=some q→S≤q):=AE (fun q hq=>by
    rcases hfr with e | ⟨q2,e,h⟩
    ·exact HQ.out q (e▸hq)
    ·rw [e] at hq;cases hq;omega)
   have HB34:Hid (Below S w3 w4):=AE (hag.below (fun q hq hm=>by
    rcases hm with rfl | hm
    ·omega
    ·have:=HQ.out q hm;omega) (by omega))
   have HB4:Hid (Below S w w4):=AE (HB3.out.trans HB34.out)
   have HK4:Hid (Blk w4 wr.heap.size #[.string x.pr.name,.slice Af x.pr.terms.length cf,.int .u32 x.o]):=AE (hag.blk HK3.out (fun hm=>by
    rcases hm with h | h
    ·have:=HS.out.hd.lt;omega
    ·have:=(HS.out.row.lt _ h).2;omega))
   have HFT:=AE (HTM.out x (List.mem_of_getElem? HXK.out))
   have HFF:Hid (StF (stL (l.take k))):=AE (StF.of (fun f hf=>HIN.out f (List.mem_of_mem_take hf)))
   have HSTK:=AE (zp HXK.out)
   have hsz4:=hag.size
   have hag0:=HX.out
   clear hx2 hs2 hag hfr k_r l_r
   rw [hag0]
   clear hag0
   cases ha:mv (stL (l.take k)) x
   ·have k_r:=HK4.out.cell
    have l_r:=HK4.out.lt
    have HR4:=AE ((ay (d+1)).keep HB34.out hBS HR3.out)
    go_wp2_with fail
    refine (gu (f:=x) (vf:=[_,_,_]) (B:=B) HS4.out HR4.out (by omega) (by omega) HFT.out).mono ?_
    rintro z w5 ⟨rfl,hb5⟩
    have HB5:Hid (Below S w w5):=AE (HB4.out.trans (hb5.mono (by omega)))
    have HS5:=AE (HS4.out.later hb5)
    clear hb5 k_r l_r
    have haa:fd (stL (l.take k)) x=stL (l.take k):=by unfold fd;rw [ha];rfl
    rw [show xs2.map FV.f=stL (l.take k) by rw [HX2.out,qi HXK.out,haa]]
    clear haa
    cases hh:fe (stL (l.take k)) x
    ·have HNO:Hid (l.all aD=false):=AE (zG HXK.out (by
      unfold mv at ha
      rw [hh] at ha
      simpa using ha))
     clear ha hh
     go_wp2_with fail
     go_ret2
     exact ⟨.inr ⟨HNO.out,rfl⟩,by rw [hS];exact HB5.out⟩
    ·have HAL2:Hid ((l.take (k+1)).all aD=true):=AE (by
      rw [HSTK.out,HAL.out,Bool.true_and]
      cases hst:aD x with
      | true=>rfl
      | false=>rw [HFF.out.not hst] at hh;cases hh)
     clear ha hh
     go_wp2_with fail
     go_roundw
     case rel=>exact ⟨k+1,xs2,A2,c2,by omega,hl2,by go_num,HS5,HX2,HAL2,HB5,HQ4⟩
     case measure=>simp [intOf];omega
   ·have HAL2:Hid ((l.take (k+1)).all aD=true):=AE (by
     rw [HSTK.out,HAL.out]
     unfold mv at ha
     rw [AN] at ha
     exact ha.1)
    clear ha
    go_wp2_with fail
    go_roundw
    case rel=>exact ⟨k+1,xs2,A2,c2,by omega,hl2,by go_num,HS4,HX2,HAL2,HB4,HQ4⟩
    case measure=>simp [intOf];omega
  ·have HE:Hid (l.take k=l):=AE (List.take_of_length_le (by omega))
   go_wp2_with fail
   go_ret2
   exact ⟨.inl ⟨by rw [←HE.out];exact HAL.out,S,S+1,xs,As,cs,rfl,HS.out,by rw [HX.out,HE.out],by omega,by rw [hS];exact HQ.out⟩,by rw [hS];exact HW.out⟩
end Go.Proofs.YtjpndglegpcdnaaGreat
