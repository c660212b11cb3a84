/- expr.MayBind. -/
import Derived.Test.YtjpndglegpcdnaaGreatSet
import Derived.Test.YtjpndglegpcdnaaGreatHeapLaw
set_option linter.unusedVariables false
set_option linter.unusedSimpArgs false
set_option maxRecDepth 100000
set_option maxHeartbeats 8000000
namespace Go.Proofs.YtjpndglegpcdnaaGreat
open Go.ChangeShapes Go.WideShapes Go.ChangeAt Go.RowKit
theorem AR(a:Option Addr)(l c:Nat)(b:Option Addr)(m d:Nat):(Value.slice a l c=Value.slice b m d)=(a=b∧l=m∧c=d):=Value.slice.injEq a l c b m d
structure TmOwn (d base:Nat) (w:World) (t:Tm) (A:Option Addr) (c:Nat):Prop where
 own:aq (TmR d) 29 w base 0 (.slice A t.l.length c) t.l
 k:I64 t.kind
 n:I64 t.n
 s:t.s.size≤140737488351232
 len:t.l.length≤1000000
def jx (d:Nat) (w w':World) (r:Tm × Int) (e:Ending):Prop:=(∃A c,e=.returned (.tuple #[.agg #[.int .i64 r.1.kind,.int .i64 r.1.n,.string r.1.s,.slice A r.1.l.length c],.int .i64 r.2])∧TmOwn d w.heap.size w' r.1 A c)∧Below w.heap.size w w'
section
variable {d base B:Nat} {w w':World} {t:Tm} {A:Option Addr} {c:Nat}
theorem TmOwn.rtm (h:TmOwn d base w t A c):RTm w w.heap.size (d+1) t [.int .i64 t.kind,.int .i64 t.n,.string t.s,.slice A t.l.length c]:=by
 obtain ⟨A3,c3,e3,r1,r2,r3⟩:=h.own.reads (AH _) (by have:=h.len;show t.l.length*(8*4)≤_;omega)
 simp only [AR] at e3
 obtain ⟨rfl,_,rfl⟩:=e3
 exact ⟨A,c,rfl,r1,⟨by have:=h.len;omega,r2.2⟩,h.s,h.k,h.n,r3⟩
theorem TmOwn.later (h:TmOwn d base w t A c) (hb:Below w.heap.size w w'):TmOwn d base w' t A c:=⟨h.own.later hb (AH _),h.k,h.n,h.s,h.len⟩
theorem TmOwn.far (h:TmOwn d base w t A c) {g i:Nat} (hg:g<base) (u:Value):TmOwn d base (w.setCell ⟨g,i,none⟩ u) t A c:=⟨h.own.far hg (AH _) u,h.k,h.n,h.s,h.len⟩
theorem aq.lower {α:Type} {R:Reader α} {e:TypeId} {v:Value} {xs:List α} {b0:Nat} (h:aq R e w base B v xs) (hb:b0≤base):aq R e w b0 B v xs:=by
 obtain ⟨cells,h,hf⟩:=h
 refine ⟨cells,⟨h.1,?_⟩,hf⟩
 rcases h.2 with h2 | ⟨g,cap,cur,hv,hg,r⟩
 ·exact .inl h2
 ·exact .inr ⟨g,cap,cur,hv,AF hb hg,r⟩
theorem TmOwn.lower (h:TmOwn d base w t A c) {b0:Nat} (hb:b0≤base):TmOwn d b0 w t A c:=⟨h.own.lower hb,h.k,h.n,h.s,h.len⟩
theorem TmOwn.put4 (h:TmOwn d base w t A c) {g:Nat} (hg:g<base) (v0 v1 v2 v3:Value):TmOwn d base ((((w.setCell ⟨g,0,none⟩ v0).setCell ⟨g,1,none⟩ v1).setCell ⟨g,2,none⟩ v2).setCell ⟨g,3,none⟩ v3) t A c:=(((h.far hg v0).far hg v1).far hg v2).far hg v3
theorem wD {x:Tm} {vs:List Value} (hx:jv x) (h:RTm w B d x vs):RTm w 0 d x vs:=by
 cases d with
 | zero=>exact h.elim
 | succ d=>
   obtain ⟨A,c,e,h1,h2,h3,h4,h5,_⟩:=h
   have h0:x.l.length=0:=by rw [show x.l=[] from hx];rfl
   exact ⟨A,c,e,h1,h2,h3,h4,h5,fun hn=>absurd hn (by omega)⟩
theorem aq.leaves {e:TypeId} {v:Value} {xs:List Tm} (h:aq (TmR d) e w base B v xs) (hx:∀x∈xs,jv x):aq (TmR d) e w base 0 v xs:=by
 obtain ⟨cells,h,hf⟩:=h
 exact ⟨cells,h,hf.1,fun i hi=>wD (hx _ (List.getElem_mem hi)) (hf.2 i hi)⟩
theorem TmOwn.flat {k n:Int} {s:ByteArray} (hk:I64 k) (hn:I64 n) (hs:s.size≤140737488351232):TmOwn d base w ⟨k,n,s,[]⟩ none 0:=⟨aq.nil _ _ _ _ _,hk,hn,hs,by simp⟩
theorem TmOwn.no:TmOwn d base w noT none 0:=TmOwn.flat (by simp [I64]) (by simp [I64]) (by decide)
end
theorem dA {w:World} {g:Nat} {a b c d:Value} (h:Blk w g #[a,b,c,d]) (v0 v1 v2 v3:Value) :
 Blk ((((w.setCell ⟨g,0,none⟩ v0).setCell ⟨g,1,none⟩ v1).setCell ⟨g,2,none⟩ v2).setCell ⟨g,3,none⟩ v3) g #[v0,v1,v2,v3]:=(((h.set_ 0 v0).set_ 1 v1).set_ 2 v2).set_ 3 v3
theorem cC {w w2:World} {B g:Nat} (h:Below B w w2) (hg:B≤g) (v0 v1 v2 v3:Value) :
 Below B w ((((w2.setCell ⟨g,0,none⟩ v0).setCell ⟨g,1,none⟩ v1).setCell ⟨g,2,none⟩ v2).setCell ⟨g,3,none⟩ v3):=
 (((h.setCell (p:=⟨g,0,none⟩) hg v0).setCell (p:=⟨g,1,none⟩) hg v1).setCell (p:=⟨g,2,none⟩) hg v2).setCell (p:=⟨g,3,none⟩) hg v3
theorem iI {P:Program} {t xT:TypeId} {fs:Array Field} {v:Value} (hu:P.underlying t=some (.struct fs)) (w:World):(Instr.typeAssert (.iface t v) xT t true).run P w=.ok (.tuple #[v,.bool true]) w:=by
 unfold Instr.typeAssert
 simp [Sem.run_bind,run_underlying hu,Result.andThen]
abbrev xP:Array Value:=#[.int .i64 0,.int .i64 0,.string ⟨#[]⟩,.slice none 0 0]
abbrev set4 (A:Option Addr) (n c:Nat):Array Value:=#[.int .i64 7,.int .i64 0,.string ⟨#[]⟩,.slice A n c]
structure SetInv (d B P G O R cp:Nat) (l:List Tm) (wr:World) (out:List Tm) (xs:List TV) (A:Option Addr) (c:Nat):Prop where
 piled:Piled (aV 3) noT l out (xs.map TV.t)
 heap:gT cTV (atL tv0 xs) 0 xs.length
 rd:PRd wr B d xs
 pat:PAt wr P G xs cp
 res:Blk wr R xP
 set_:Blk wr O (set4 A out.length c)
 own:aq (TmR d) 29 wr (O+1) B (.slice A out.length c) out
def nC (d B P G R cp n:Nat) (l:List Tm) (w:World) (out:List Tm) (xs:List TV) (x:TV) (rest:List TV):Prop:=
 (Piled (aV 3) noT l out (xs.map TV.t)∧xs.Perm (x::rest)∧rest.length=n∧gT cTV (atL tv0 rest) 0 n∧(∀b∈rest,cTV x b≤0))∧PRd w B d rest∧PAt w P G rest cp∧Blk w R xP
theorem nC.later {d B P G R cp n:Nat} {l:List Tm} {w w':World} {out:List Tm} {xs:List TV} {x:TV} {rest:List TV} (h:nC d B P G R cp n l w out xs x rest) (hb:Below w.heap.size w w') (hB:B≤w.heap.size):nC d B P G R cp n l w' out xs x rest:=
 ⟨h.1,h.2.1.below hb hB,h.2.2.1.later hb,h.2.2.2.later hb⟩
def pD (w:World) (P:Nat):Nat:=match w.cell? ⟨P,0,none⟩ with | some (.slice _ n _)=>n | _=>0
theorem eF {w:World} {P n c:Nat} {A:Option Addr} (h:Blk w P #[.slice A n c]):pD w P=n:=by
 unfold pD
 rw [h.cell 0];rfl
theorem lE {w:World} {P c:Nat} {A:Option Addr} (hP:Blk w P #[.slice A 0 c]) :
 Calls Tryz.prog 37 #[.iface 258 (.pointer (some ⟨P,0,none⟩))] w fun e w'=>e=.returned (.tuple #[])∧w=w':=by
 have i0:=fun fuel=>kT m_len fuel (hP.cell 0)
 go_enter Tryz.func37,Tryz.ntmps37
 go_wp2_with fail
 refine (ek _ _ _ _).mono ?_
 rintro e wz ⟨rfl,rfl⟩
 go_wp2_with fail
 go_loopw [3] (fun i wr=>i=.int .i64 (-1)∧w=wr) (fun i _=>0)
 case atStart=>exact ⟨rfl,rfl⟩
 case round=>
  obtain ⟨rfl,rfl⟩:=hrel
  go_wp2_with fail
  go_end0
  exact ⟨rfl,rfl⟩
theorem set_any {d B c:Nat} {l:List Tm} {A:Option Addr} {w:World} (hl:RL (TmR d) w B l A) (hB:B≤w.heap.size) (hn:l.length*56≤140737488351232) :
 Calls Tryz.prog 210 #[.slice A l.length c] w fun e w'=>jx d w w' (rM l) e:=by
 obtain ⟨i0,hi0,hz0,hz1,hz2⟩:=info_parts hJ
 have HL:=AE hl
 clear hl
 by_cases h16:l.length≤16
 rotate_left
 ·have i1:¬(l.length:Int)≤16:=by omega
  have hbad:rM l=(noT,1):=by unfold rM ow;rw [decide_eq_false h16];rfl
  rw [hbad]
  go_enter Tryz.func210,Tryz.ntmps210
  go_wp2_with fail
  refine bodyPost_ret (am rfl rfl (n22 rfl) rfl) rfl ?_
  exact ⟨⟨_,_,rfl,TmOwn.no⟩,(al2 rfl).1⟩
 have i1:(l.length:Int)≤16:=by omega
 rcases Nat.eq_zero_or_pos l.length with h0 | h0
 ·obtain rfl:l=[]:=List.eq_nil_of_length_eq_zero h0
  have hset:rM []=(AD [],0):=rfl
  go_enter Tryz.func210,Tryz.ntmps210
  go_wp2_with fail
  generalize hW:World.alloc _ _=w1
  obtain ⟨hb,hz⟩:=al2 hW
  have b_l_1:=n21 hW
  have b_r_1:=n22 hW
  have HB1:=AE hb
  clear hW hz hb
  refine ll.mono ?_
  rintro e w2 ⟨rfl,hb⟩
  have HB2:=AE (aa HB1.out hb)
  have b_l_2:=b_l_1.later hb
  have b_r_2:=b_r_1.later hb
  clear hb b_l_1 b_r_1
  have k_l:=b_l_2.cell
  have k_r:=b_r_2.cell
  go_wp2_with fail
  refine (bU (xs:=[]) (HL.out.keep HB2.out hB) (AF hB HB2.out.size) hn).mono ?_
  rintro e w3 ⟨⟨v,rfl,hv⟩,hb⟩
  obtain ⟨A3,c3,rfl⟩:=hv.form
  have HB3:=AE (aa HB2.out hb)
  have b_r_3:=b_r_2.later hb
  clear hb hv b_r_2 k_l k_r b_l_2
  simp only [List.length_nil] at *
  go_wp2_with fail
  generalize hW:World.alloc _ _=w4
  obtain ⟨hb,hz⟩:=al1 hW
  have b_p_4:=n11 hW
  have b_r_4:=b_r_3.later hb
  have HB4:=AE (aa HB3.out hb)
  clear hW hz hb b_r_3
  refine (lE b_p_4).mono ?_
  rintro e wz ⟨rfl,rfl⟩
  have k_p:=b_p_4.cell
  have l_p:=b_p_4.lt
  go_wp2_with fail
  generalize hW:World.alloc _ _=w5
  obtain ⟨hb,hz⟩:=al1 hW
  have b_o_5:=n11 hW
  have b_r_5:=b_r_4.later hb
  have b_p_5:=b_p_4.later hb
  have HB5:=AE (aa HB4.out hb)
  clear hW hz hb b_r_4 b_p_4 k_p
  go_loopw [] (fun wr=>w5=wr) (fun wr=>0)
  case atStart=>rfl
  case round=>
   subst hrel
   have k_p:=b_p_5.cell
   have k_o:=b_o_5.cell
   have k_r:=b_r_5.cell
   have f_r:=b_r_5.free
   go_wp2_with fail
   refine (ek _ _ _ _).mono ?_
   rintro e wz ⟨rfl,rfl⟩
   go_wp2_with fail
   have hbr:=dA b_r_5 (.int .i64 7) (.int .i64 0) (.string ⟨#[]⟩) (.slice none 0 0)
   refine bodyPost_ret (am rfl rfl hbr rfl) rfl ?_
   rw [hset]
   exact ⟨⟨_,_,rfl,TmOwn.flat (by simp [I64]) (by simp [I64]) (by decide)⟩,cC HB5.out (Nat.le_succ _) _ _ _ _⟩
 go_enter Tryz.func210,Tryz.ntmps210
 go_wp2_with fail
 generalize hW:World.alloc _ _=w1
 obtain ⟨hb,hz⟩:=al2 hW
 have b_l_1:=n21 hW
 have b_r_1:=n22 hW
 have HB1:=AE hb
 clear hW hz hb
 have hB1:=AF hB HB1.out.size
 refine (bA d 218 _ _ l A _ B w1 (ent Tryz.func218 (by kernel_rfl) rfl) (HL.out.keep HB1.out hB) hB1 (by omega) (uj b_l_1 (HL.out.keep HB1.out hB) hB1 h0 rfl h16)).mono ?_
 rintro e w2 ⟨rfl,hb⟩
 have HB2:=AE (aa HB1.out hb)
 have b_l_2:=b_l_1.later hb
 have b_r_2:=b_r_1.later hb
 have hB2:=AF hB1 hb.size
 clear hb b_l_1 b_r_1
 by_cases hany:l.any (qu (dJ l))=true
 ·have hbad:rM l=(noT,1):=by unfold rM ow;rw [hany];simp
  rw [hany]
  have k_l:=b_l_2.cell
  have k_r:=b_r_2.cell
  have f_r:=b_r_2.free
  go_wp2_with fail
  have hb4:=dA b_r_2 (.int .i64 0) (.int .i64 0) (.string ⟨#[]⟩) (.slice none 0 0)
  refine bodyPost_ret (am rfl rfl hb4 rfl) rfl ?_
  rw [hbad]
  exact ⟨⟨_,_,rfl,TmOwn.no⟩,cC HB2.out (Nat.le_succ _) _ _ _ _⟩
 have hany':l.any (qu (dJ l))=false:=by simpa using hany
 have k_l:=b_l_2.cell
 rw [hany']
 go_wp2_with fail
 refine (bU (HL.out.keep HB2.out hB) hB2 hn).mono ?_
 rintro e w3 ⟨⟨v,rfl,hv⟩,hb⟩
 have b_r_3:=b_r_2.later hb
 have HB3:=AE (aa HB2.out hb)
 have hB3:=AF hB2 hb.size
 have hRl:w.heap.size+1<w2.heap.size:=b_r_2.lt
 have hs23:=hb.size
 obtain ⟨G,cp,tvs,cur,rfl,hG,htv,b_g_3,hpr,hpd,hc1,hc2⟩:=yY hv (fun x hx=>by
  have hf:=gG.1 (show qu (dJ l) x=false by simpa using List.any_eq_false.1 hany' x hx)
  exact dU hf.1 hf.2.1) h0
 have HV:=AE (And.intro htv (And.intro hpr hpd))
 have htl:tvs.length=l.length:=by rw [←htv,AM]
 have hGl:=b_g_3.lt
 clear hv hb k_l b_l_2 b_r_2 htv hpr hpd
 go_wp2_with fail
 rw [←htl]
 generalize hW:World.alloc _ _=w4
 obtain ⟨hb,hz⟩:=al1 hW
 have hpat:PAt w4 w3.heap.size G tvs cp:=⟨n11 hW,cur,b_g_3.later hb,HV.out.2.1⟩
 have HPAT:=AE hpat
 have HPD4:=AE (HV.out.2.2.below hb hB3)
 have HB4:=AE (aa HB3.out hb)
 have b_r_4:=b_r_3.later hb
 have hB4:=AF hB3 hb.size
 have hs34:w4.heap.size=w3.heap.size+1:=hz
 clear hW hb hz hpat b_g_3 b_r_3
 generalize hP:w3.heap.size=P at *
 refine (pq HPAT.out HPD4.out hB4 (by omega) (by omega) (by omega)).mono ?_
 rintro e w5 ⟨rfl,he,ys,hpm,hheap,hpat⟩
 have HP5:=AE hpat
 have HM5:=AE hpm
 have HH5:=AE hheap
 have HB5:=AE (HB4.out.trans (he.1.mono (show w.heap.size≤G by omega)))
 have HE5:=AE he
 have b_r_5:=he.blk (by omega) b_r_4
 have hs45:=he.1.size
 clear hpat hpm hheap he b_r_4
 go_wp2_with fail
 generalize hW:World.alloc _ _=w6
 obtain ⟨hb,hz⟩:=al1 hW
 have b_o_6:=n11 hW
 have HB6:=AE (aa HB5.out hb)
 have hyl:ys.length=l.length:=HM5.out.length_eq.trans htl
 have hpd6:PRd w6 B d ys:=fun x hx=>((HPD4.out.below HE5.out.1 (by omega)).below hb (by omega)) x (HM5.out.subset hx)
 have HINV:=AE (show SetInv d B P G w5.heap.size (w.heap.size+1) cp l w6 [] ys none 0 from
  ⟨⟨by rw [AM];exact kJ HH5.out,by simp,fun a ha=>absurd ha (by simp),fun t=>by rw [←HV.out.1,(HM5.out.map TV.t).mem_iff];simp,by simp [hyl]⟩,HH5.out,hpd6,HP5.out.later hb,b_r_5.later hb,b_o_6,aq.nil _ _ _ _ _⟩)
 have hO:w5.heap.size<w6.heap.size:=by omega
 clear hW hb hpd6 b_r_5 b_o_6 HPAT HPD4 HB4
 generalize w5.heap.size=O at *
 go_loopw [] (fun wr=>∃out xs A2 c2,Hid (SetInv d B P G O (w.heap.size+1) cp l wr out xs A2 c2)∧Hid (Below w.heap.size w wr)∧O<wr.heap.size) (fun wr=>pD wr P)
 case atStart=>exact ⟨[],ys,none,0,HINV,HB6,hO⟩
 case round=>
  obtain ⟨out,xs,A2,c2,HI,HBr,hOr⟩:=hrel
  have hlen:=HI.out.piled.len
  rw [AM] at hlen
  have hBr:B≤wr.heap.size:=AF hB HBr.out.size
  have hme:pD wr P=xs.length:=eF HI.out.pat.1
  have HME:=AE hme
  clear hme
  rcases Nat.eq_zero_or_pos xs.length with hx0 | hx0
  ·have hxe:xs=[]:=List.eq_nil_of_length_eq_zero hx0
   have hout:out=setL (aV 3) l:=(hxe▸HI.out.piled).done (ff 3) (fun a ha b hb h=>by
    have h1:=gG.1 (show qu (dJ l) a=false by simpa using List.any_eq_false.1 hany' a ha)
    have h2:=gG.1 (show qu (dJ l) b=false by simpa using List.any_eq_false.1 hany' b hb)
    exact rj (dU h1.1 h1.2.1) (dU h2.1 h2.2.1) h)
   have kP:=HI.out.pat.1.cell
   have kO:=HI.out.set_.cell
   have kR:=HI.out.res.cell
   have fR:=HI.out.res.free
   have HOUT:=AE hout
   rw [hx0] at kP
   clear hx0 hxe hout
   go_wp2_with fail
   refine (ek _ _ _ _).mono ?_
   rintro e wz ⟨rfl,rfl⟩
   go_wp2_with fail
   have hbr:=dA HI.out.res (.int .i64 7) (.int .i64 0) (.string ⟨#[]⟩) (.slice A2 out.length c2)
   have how:=(((HI.out.own.far (c:=w.heap.size+1) (i:=0) (by omega) (by omega) (.int .i64 7)).far (c:=w.heap.size+1) (i:=1) (by omega) (by omega) (.int .i64 0)).far (c:=w.heap.size+1) (i:=2) (by omega) (by omega) (.string ⟨#[]⟩)).far (c:=w.heap.size+1) (i:=3) (by omega) (by omega) (.slice A2 out.length c2)
   refine bodyPost_ret (am rfl rfl hbr rfl) rfl ?_
   have hset:rM l=(AD l,0):=by unfold rM ow;rw [decide_eq_true h16,hany'];rfl
   rw [hset]
   have hgl:∀t∈out,jv t:=fun t ht=>by
    have hm:t∈l:=(HI.out.piled.mem t).1 (.inl ht)
    have h1:=gG.1 (show qu (dJ l) t=false by simpa using List.any_eq_false.1 hany' t hm)
    exact dU h1.1 h1.2.1
   have hset2:(AD l)=⟨7,0,lp,out⟩:=by unfold AD;rw [HOUT.out]
   rw [hset2]
   exact ⟨⟨A2,c2,rfl,⟨(how.leaves hgl).lower (by omega),by simp [I64],by simp [I64],by show lp.size≤_;decide,by show out.length≤1000000;omega⟩⟩,cC HBr.out (Nat.le_succ _) _ _ _ _⟩
  obtain ⟨n,hn1⟩:∃n,xs.length=n+1:=⟨xs.length-1,by omega⟩
  have kP:=HI.out.pat.1.cell
  have HN1:=AE hn1
  rw [hn1] at kP
  clear hx0
  go_wp2_with fail
  refine (ek _ _ _ _).mono ?_
  rintro e wz ⟨rfl,rfl⟩
  clear hn1
  go_wp2_with fail
  refine (re HI.out.pat HI.out.rd hBr (by omega) (by omega) HN1.out (by have:=HN1.out;omega) hc2 (by have:=HN1.out;omega) (HN1.out▸HI.out.heap)).mono ?_
  rintro e wa ⟨rfl,he,rest,hrl,hrp,hrh,hrm,hpa⟩
  have hxm:atL tv0 xs 0∈xs:=qD (by have:=HN1.out;omega)
  have hxrd:=(HI.out.rd _ hxm).below he.1 (by omega)
  have hrrd:PRd wa B d rest:=fun y hy=>(HI.out.rd y (hrp.symm.subset (List.mem_cons_of_mem _ hy))).below he.1 (by omega)
  have b_o_a:=he.blk (by omega) (by omega) HI.out.set_
  have b_r_a:=he.blk (by omega) (by omega) HI.out.res
  have how_a:=HI.out.own.exc2 he (by omega) (by omega) (by omega)
  have HBa:=AE (HBr.out.trans (he.1.mono (show w.heap.size≤min P G by omega)))
  have hsa:=he.1.size
  have HR:=AE (And.intro hrl (And.intro hrp (And.intro hrh (And.intro hrm (And.intro hpa (And.intro hrrd how_a))))))
  have HX:=AE hxrd
  clear hrl hrp hrh hrm hpa he hxm hrrd how_a hxrd kP
  generalize atL tv0 xs 0=x at *
  simp only [TV.cs] at HX ⊢
  have kO:=b_o_a.cell
  have lO:=b_o_a.lt
  have hta:=fun v wx=>iI (P:=Tryz.prog) (t:=29) (xT:=20) (v:=v) Tryz.underlying29 wx
  go_wp2_with fail
  -- REGION 9
  generalize hW:World.alloc _ _=wb
  obtain ⟨hb,hz⟩:=al1 hW
  have b_x_b:=n11 hW
  have b_o_b:=b_o_a.later hb
  have hBa:B≤wa.heap.size:=AF hBr hsa
  have HXb:Hid (RTm wb B d x.t x.cs):=AE (HX.out.below hb hBa)
  have HBb:=AE (aa HBa.out hb)
  have how_b:=HR.out.2.2.2.2.2.2.later hb hBa
  have HRr:=AE (show nC d B P G (w.heap.size+1) cp n l wb out xs x rest from
   ⟨⟨HI.out.piled,HR.out.2.1,HR.out.1,HR.out.2.2.1,HR.out.2.2.2.1⟩,HR.out.2.2.2.2.2.1.below hb hBa,HR.out.2.2.2.2.1.later hb,b_r_a.later hb⟩)
  have hBb:B≤wb.heap.size:=AF hBa hb.size
  have hszb:O+1≤wb.heap.size:=by omega
  clear hW hb b_o_a b_r_a HR HX kO lO
  rcases Nat.eq_zero_or_pos out.length with ho | ho
  ·obtain rfl:out=[]:=List.eq_nil_of_length_eq_zero ho
   have qx:=b_x_b.regrown
   have qo:=b_o_b.regrown
   go_wp2_with fail
   refine wp_region_quiet_below (by kernel_rfl) (by kernel_rfl) ?_
   repeat (go_big_quiet_step (fail))
   refine wpQuiet_nil ?_
   intro wc hw3
   have hb1:Below wb.heap.size wb wc:=by obtain ⟨p,rfl⟩:=hw3;exact below_regrown _ _ _
   have b_o_c:=b_o_b.later hb1
   have b_x_c:=b_x_b.later hb1
   clear hw3 qx qo b_o_b b_x_b
   have b_l_c:=b_x_c
   have HXc:=AE (HXb.out.below hb1 hBb)
   have HBc:=AE (aa HBb.out hb1)
   have hOWN:=how_b.later hb1 hBb
   have hRr:=HRr.out.later hb1 hBb
   have hBc:=AF hBb hb1.size
   have hOc:O+1≤wc.heap.size:=AF (by omega) hb1.size
   have HOW:=AE (And.intro (hOWN.later ((AI _ wc).alloc (AG _) (.cells x.cs.toArray 29)) hBc) (Blk.src (R:=TmR d) (B:=B) (x:=x.t) (Blk.new wc x.cs.toArray 29) ((HXc.out.below ((AI _ wc).alloc (AG _) (.cells x.cs.toArray 29)) hBc))))
   simp only [TV.cs] at HOW
   have HRR:=AE (And.intro hRr (And.intro b_o_c (And.intro hb1.size hBc)))
   clear hOWN hRr hb1
   have k_o:=b_o_c.cell
   have k_x:=b_x_c.cell
   have l_o:=b_o_c.lt
   have l_x:=b_x_c.lt
   go_wp2_with ((
    at_builtin
    refine ar (R:=TmR d) (e:=29) (base:=O+1) (B:=B) (xs:=[]) (ys:=[x.t]) rfl (.tmp 49) (.tmp 51) 24 rfl (bytes:=56) Tryz.underlying24 hi0 hz0 hz1 hz2 rfl (show 0<4 by omega) (ep d) rfl HOW.out.1 rfl HOW.out.2 rfl (by omega) (by simp only [AV,List.length_nil];omega) (by omega) (by rw [World.size_alloc];omega) ?_
    intro v2 w7 hown2 hb2
    obtain ⟨A3,c3,rfl⟩:=hown2.form
    have hb3:=((AI (O+1) wc).alloc hOc (.cells #[.int .i64 x.t.kind,.int .i64 x.t.n,.string x.t.s,.slice x.a 0 x.c] 29)).trans hb2
    have b_o_7:=HRR.out.2.1.keep hb3 (Nat.lt_succ_self _)
    have H7:=AE (And.intro hown2 hb3)
    have B7:=AE b_o_7
    have f_7:=b_o_7.free
    have k_7:=b_o_7.cell
    clear hown2 hb2 hb3 b_o_7 k_o k_x l_o l_x b_o_c b_x_c b_l_c))
   go_roundw
   case rel=>
    have hb3:=H7.out.2
    have hR:=HRR.out.1
    have hxx:PRd w7 B d rest:=hR.2.1.below hb3 (by omega)
    have hle:=hb3.size
    refine ⟨[]++[x.t],rest,A3,c3,AE ⟨?_,?_,?_,?_,?_,?_,?_⟩,AE ((HBc.out.trans (hb3.mono (by omega))).setCell (by show w.heap.size≤O;omega) _),by simp only [World.size_setCell];omega⟩
    ·exact hR.1.1.more (ff 3) (hR.1.2.1.map TV.t) (by rw [AM,hR.1.2.2.1];exact kJ hR.1.2.2.2.1) (fun b hb=>by
      obtain ⟨y,hy,rfl⟩:=List.mem_map.1 hb
      exact hR.1.2.2.2.2 y hy) (fun y hy=>by simp at hy)
    ·rw [hR.1.2.2.1];exact hR.1.2.2.2.1
    ·exact hxx.below ((AI B w7).setCell (p:=⟨O,3,none⟩) (by show B≤O;omega) _) (AG _)
    ·obtain ⟨hpP,cur2,hpG,hpr⟩:=hR.2.2.1
     exact ⟨(hpP.keep hb3 (by omega)).far (by omega) _ _,cur2,(hpG.keep hb3 (by omega)).far (by omega) _ _,hpr⟩
    ·exact (hR.2.2.2.keep hb3 (by omega)).far (by omega) _ _
    ·rw [AK];exact B7.out.set_ 3 _
    ·have:=H7.out.1.far (c:=O) (i:=3) (Nat.lt_succ_self _) (by omega) (.slice A3 ([]++[x.t]).length c3)
     first
      | exact this
      | (simp only [AK,AV,List.length_nil,Nat.zero_add] at this ⊢;exact this)
   case measure=>
    have hR:=HRR.out.1
    have h1:pD (w7.setCell ⟨O,3,none⟩ (.slice A3 ([]++[x.t]).length c3)) P=rest.length:=eF ((hR.2.2.1.1.keep H7.out.2 (by omega)).far (by omega) _ _)
    have h2:=HME.out
    have h3:=hR.1.2.2.1
    have h4:=HN1.out
    first
     | exact Nat.lt_of_le_of_lt (Nat.le_of_eq h1) (by omega)
     | (simp only [AK,AV,List.length_nil,Nat.zero_add] at h1;omega)
  obtain ⟨m,hm⟩:∃m,out.length=m+1:=⟨out.length-1,by omega⟩
  obtain ⟨A9,c9,e9,r1,r2,r3⟩:=how_b.reads hBb (by show out.length*(8*4)≤_;omega)
  simp only [AR] at e9
  obtain ⟨rfl,_,rfl⟩:=e9
  obtain ⟨b,off,rfl,hbl⟩:=r3.base (AI _ _) (AG _) ho
  obtain ⟨y,vs,hy,hvl,hcell,hry⟩:=r3.at0 (k:=m) (AI _ _) (AG _) (by omega)
  obtain ⟨A8,c8,rfl,_⟩:=RTm.cells (show RTm wb wb.heap.size d y vs from hry)
  have hR4:(TmR d).k=4:=rfl
  rw [hR4] at hcell
  have g0:=cell_regrown (show wb.cell? ⟨b,off+m*4,none⟩=some _ from hcell 0 _ rfl)
  have g1:=cell_regrown (show wb.cell? ⟨b,off+m*4+1,none⟩=some _ from hcell 1 _ rfl)
  have g2:=cell_regrown (show wb.cell? ⟨b,off+m*4+2,none⟩=some _ from hcell 2 _ rfl)
  have g3:=cell_regrown (show wb.cell? ⟨b,off+m*4+3,none⟩=some _ from hcell 3 _ rfl)
  have HY:=AE (show RTm wb wb.heap.size d y _ from hry)
  have HLAST:=AE (show out.getLast? = some y by rw [List.getLast?_eq_getElem?,hm];exact hy)
  have qx:=b_x_b.regrown
  have qo:=b_o_b.regrown
  rw [hm] at qo
  clear hy hvl hcell hry r1 r2 r3 hR4
  have hgd:((m:Int)+1==0)=false:=by rw [beq_eq_false_iff_ne];omega
  by_cases hs:iD y x.t=true
  ·go_wp2_with fail
   rw [hm]
   push_cast
   refine wp_region_quiet_below (by kernel_rfl) (by kernel_rfl) ?_
   repeat (go_big_quiet_step ((go_at_call 124;exact Calls.regrown_of (dg hs (ft (HY.out.below (below_regrown _ _ _) (AG _)) ((HXb.out.more hBb).below (below_regrown _ _ _) (AG _)) (below_regrown _ _ _).size)))))
   refine wpQuiet_nil ?_
   intro wc hw3
   have hb1:Below wb.heap.size wb wc:=by obtain ⟨p,rfl⟩:=hw3;exact below_regrown _ _ _
   have b_o_c:=b_o_b.later hb1
   clear hw3 qx qo b_o_b b_x_b g0 g1 g2 g3
   have HRc:=AE (HRr.out.later hb1 hBb)
   have HBc:=AE (aa HBb.out hb1)
   have HOW:=AE (how_b.later hb1 hBb)
   have B7:=AE b_o_c
   have hle:=hb1.size
   clear hb1 b_o_c
   go_wp2_with fail
   go_roundw
   case rel=>
    have hR:=HRc.out
    have hyx:y=x.t:=by
     have hyl:y∈out:=List.mem_of_getLast? HLAST.out
     have hxl:x.t∈xs.map TV.t:=List.mem_map.2 ⟨x,hR.1.2.1.symm.subset (by simp),rfl⟩
     have h1:=gG.1 (show qu (dJ l) y=false by simpa using List.any_eq_false.1 hany' y ((hR.1.1.mem y).1 (.inl hyl)))
     have h2:=gG.1 (show qu (dJ l) x.t=false by simpa using List.any_eq_false.1 hany' x.t ((hR.1.1.mem x.t).1 (.inr hxl)))
     exact rj (dU h1.1 h1.2.1) (dU h2.1 h2.2.1) (by simpa [iD] using hs)
    refine ⟨out,rest,_,c2,AE ⟨?_,?_,hR.2.1,hR.2.2.1,hR.2.2.2,B7.out,HOW.out⟩,HBc,by omega⟩
    ·exact hR.1.1.skip (x:=x.t) (y:=y) (hR.1.2.1.map TV.t) (by rw [AM,hR.1.2.2.1];exact kJ hR.1.2.2.2.1) HLAST.out hyx
    ·rw [hR.1.2.2.1];exact hR.1.2.2.2.1
   case measure=>
    have hR:=HRc.out
    have h1:pD wc P=rest.length:=eF hR.2.2.1.1
    have h2:=HME.out
    have h3:=hR.1.2.2.1
    have h4:=HN1.out
    omega
  have hs:iD y x.t=false:=by simpa using hs
  go_wp2_with fail
  rw [hm]
  push_cast
  refine wp_region_quiet_below (by kernel_rfl) (by kernel_rfl) ?_
  repeat (go_big_quiet_step ((go_at_call 124;exact Calls.regrown_of (dg hs (ft (HY.out.below (below_regrown _ _ _) (AG _)) ((HXb.out.more hBb).below (below_regrown _ _ _) (AG _)) (below_regrown _ _ _).size)))))
  refine wpQuiet_nil ?_
  intro wc hw3
  have hb1:Below wb.heap.size wb wc:=by obtain ⟨p,rfl⟩:=hw3;exact below_regrown _ _ _
  have b_o_c:=b_o_b.later hb1
  have b_x_c:=b_x_b.later hb1
  have HSN:=AE (show ∀z,out.getLast? = some z→aV 3 z x.t≠0 by
   intro z hz
   rw [HLAST.out] at hz
   simp only [AP] at hz
   subst hz
   simpa [iD] using hs)
  clear hw3 qx qo b_o_b b_x_b g0 g1 g2 g3 hm hgd
  have b_l_c:=b_x_c
  have HXc:=AE (HXb.out.below hb1 hBb)
  have HBc:=AE (aa HBb.out hb1)
  have hOWN:=how_b.later hb1 hBb
  have hRr:=HRr.out.later hb1 hBb
  have hBc:=AF hBb hb1.size
  have hOc:O+1≤wc.heap.size:=AF (by omega) hb1.size
  have HOW:=AE (And.intro (hOWN.later ((AI _ wc).alloc (AG _) (.cells x.cs.toArray 29)) hBc) (Blk.src (R:=TmR d) (B:=B) (x:=x.t) (Blk.new wc x.cs.toArray 29) ((HXc.out.below ((AI _ wc).alloc (AG _) (.cells x.cs.toArray 29)) hBc))))
  simp only [TV.cs] at HOW
  have HRR:=AE (And.intro hRr (And.intro b_o_c (And.intro hb1.size hBc)))
  clear hOWN hRr hb1
  have k_o:=b_o_c.cell
  have k_x:=b_x_c.cell
  have l_o:=b_o_c.lt
  have l_x:=b_x_c.lt
  go_wp2_with ((
   at_builtin
   refine ar (R:=TmR d) (e:=29) (base:=O+1) (B:=B) (xs:=out) (ys:=[x.t]) rfl (.tmp 49) (.tmp 51) 24 rfl (bytes:=56) Tryz.underlying24 hi0 hz0 hz1 hz2 rfl (show 0<4 by omega) (ep d) rfl HOW.out.1 rfl HOW.out.2 rfl (by omega) (by simp only [AV,List.length_nil];omega) (by omega) (by rw [World.size_alloc];omega) ?_
   intro v2 w7 hown2 hb2
   obtain ⟨A3,c3,rfl⟩:=hown2.form
   have hb3:=((AI (O+1) wc).alloc hOc (.cells #[.int .i64 x.t.kind,.int .i64 x.t.n,.string x.t.s,.slice x.a 0 x.c] 29)).trans hb2
   have b_o_7:=HRR.out.2.1.keep hb3 (Nat.lt_succ_self _)
   have H7:=AE (And.intro hown2 hb3)
   have B7:=AE b_o_7
   have f_7:=b_o_7.free
   have k_7:=b_o_7.cell
   clear hown2 hb2 hb3 b_o_7 k_o k_x l_o l_x b_o_c b_x_c b_l_c))
  go_roundw
  case rel=>
   have hb3:=H7.out.2
   have hR:=HRR.out.1
   have hxx:PRd w7 B d rest:=hR.2.1.below hb3 (by omega)
   have hle:=hb3.size
   refine ⟨out++[x.t],rest,A3,c3,AE ⟨?_,?_,?_,?_,?_,?_,?_⟩,AE ((HBc.out.trans (hb3.mono (by omega))).setCell (by show w.heap.size≤O;omega) _),by simp only [World.size_setCell];omega⟩
   ·exact hR.1.1.more (ff 3) (hR.1.2.1.map TV.t) (by rw [AM,hR.1.2.2.1];exact kJ hR.1.2.2.2.1) (fun b hb=>by
     obtain ⟨y,hy,rfl⟩:=List.mem_map.1 hb
     exact hR.1.2.2.2.2 y hy) (fun z hz=>HSN.out z hz)
   ·rw [hR.1.2.2.1];exact hR.1.2.2.2.1
   ·exact hxx.below ((AI B w7).setCell (p:=⟨O,3,none⟩) (by show B≤O;omega) _) (AG _)
   ·obtain ⟨hpP,cur2,hpG,hpr⟩:=hR.2.2.1
    exact ⟨(hpP.keep hb3 (by omega)).far (by omega) _ _,cur2,(hpG.keep hb3 (by omega)).far (by omega) _ _,hpr⟩
   ·exact (hR.2.2.2.keep hb3 (by omega)).far (by omega) _ _
   ·rw [AK];exact B7.out.set_ 3 _
   ·have:=H7.out.1.far (c:=O) (i:=3) (Nat.lt_succ_self _) (by omega) (.slice A3 (out++[x.t]).length c3)
    first
     | exact this
     | (simp only [AK,AV,List.length_nil,Nat.zero_add] at this ⊢;exact this)
  case measure=>
   have hR:=HRR.out.1
   have h1:pD (w7.setCell ⟨O,3,none⟩ (.slice A3 (out++[x.t]).length c3)) P=rest.length:=eF ((hR.2.2.1.1.keep H7.out.2 (by omega)).far (by omega) _ _)
   have h2:=HME.out
   have h3:=hR.1.2.2.1
   have h4:=HN1.out
   first
    | exact Nat.lt_of_le_of_lt (Nat.le_of_eq h1) (by omega)
    | (simp only [AK,AV,List.length_nil,Nat.zero_add] at h1;omega)
structure Bd where
 names:List aZ
 terms:List Tm
def cZ (b:Bd) (name:aZ):Option Tm:=if name∈b.names then b.terms[iG b.names name]? else none
structure BdOk (b:Bd):Prop where
 len:b.names.length=b.terms.length
 few:b.names.length≤32
 rise:b.names.Pairwise (· < ·)
 fixed:∀t∈b.terms,af t=true
def bdV (An:Option Addr) (nn cn:Nat) (At:Option Addr) (nt ct:Nat):Array Value:=#[.slice An nn cn,.slice At nt ct]
theorem aO {t:Tm} (h:af t=true):(∀u∈t.l,jv u)∧t.l.length≤16:=by
 have:=lz h
 by_cases h7:t.kind=7
 ·rw [if_pos h7] at this
  exact ⟨(dC this.2.2).2,(dC this.2.2).1⟩
 ·rw [if_neg h7] at this
  rw [this];exact ⟨fun u hu=>(List.not_mem_nil hu).elim,by simp⟩
def mO (d:Nat) (w w':World) (r:Option Tm) (z:Ending):Prop:=
 (∃A c,z=.returned (.tuple #[.agg #[.int .i64 (r.getD noT).kind,.int .i64 (r.getD noT).n,.string (r.getD noT).s,.slice A (r.getD noT).l.length c],.bool r.isSome])∧TmOwn d w.heap.size w' (r.getD noT) A c)∧Below w.heap.size w w'
theorem wZ {L:List aZ} {t:aZ} (h:t∈L):iG L t<L.length:=by
 unfold iG
 rw [List.findIdx_lt_length]
 exact ⟨t,h,by simp [List.lt_irrefl]⟩
theorem lB {d B cn ct:Nat} {b:Bd} {An At:Option Addr} {name:ByteArray} {w:World} (hok:BdOk b) (hn:RL cX w B (b.names.map mkS) An) (ht:RL (TmR (d+1)) w B b.terms At) (hB:B≤w.heap.size) :
 Calls Tryz.prog 102 #[.agg (bdV An b.names.length cn At b.terms.length ct),.string name] w fun e w'=>mO d w w' (cZ b (bs name)) e:=by
 have HOK:=AE hok
 have HN:=AE hn
 have HT:=AE ht
 have hf:=hok.few
 have hlen:=hok.len
 have HLN:=AE hlen
 clear hok hn ht hlen
 unfold bdV
 go_enter Tryz.func102,Tryz.ntmps102
 go_wp2_with fail
 generalize hW:World.alloc _ _=w1
 obtain ⟨hb1,hz⟩:=al2 hW
 have b_b:=n21 hW
 have b_r:=n22 hW
 have HB1:=AE hb1
 clear hW hb1
 refine (ik b.names An cn B name w1 (HN.out.keep HB1.out hB) (AF hB HB1.out.size) (by omega) HOK.out.rise).mono ?_
 rintro e w2 ⟨rfl,rfl⟩
 have BB:=AE b_b
 have BR:=AE b_r
 by_cases hm:bs name∈b.names
 ·have hp:=wZ hm
  have hp2:iG b.names (bs name)<b.terms.length:=by rw [←HLN.out];exact hp
  have HR:Hid (cZ b (bs name)=some (b.terms[iG b.names (bs name)])):=AE (by unfold cZ;rw [if_pos hm,AO hp2])
  have hd:decide (bs name∈b.names)=true:=by simpa using hm
  rw [hd]
  have hB1:=AF hB HB1.out.size
  have HT1:=AE (HT.out.keep HB1.out hB)
  obtain ⟨b_,off,rfl,hob⟩:=HT1.out.base (AI _ _) hB1 (by omega)
  obtain ⟨x,vs,hx,hlen,hcell,hr⟩:=HT1.out.at_ (AI _ _) hB1 hp2
  obtain ⟨Ax,cx,rfl,g1,g2,g3,g4,g5,_⟩:=RTm.cells (show RTm w1 B (d+1) x vs from hr)
  have c0:w1.cell? ⟨b_,off+iG b.names (bs name)*4,none⟩=some (.int .i64 x.kind):=hcell 0 _ rfl
  have c1:w1.cell? ⟨b_,off+iG b.names (bs name)*4+1,none⟩=some (.int .i64 x.n):=hcell 1 _ rfl
  have c2:w1.cell? ⟨b_,off+iG b.names (bs name)*4+2,none⟩=some (.string x.s):=hcell 2 _ rfl
  have c3:w1.cell? ⟨b_,off+iG b.names (bs name)*4+3,none⟩=some (.slice Ax x.l.length cx):=hcell 3 _ rfl
  have hex:b.terms[iG b.names (bs name)]=x:=by
   rw [AO hp2] at hx
   simpa using hx
  rw [hex] at HR
  have HF:Hid (af x=true):=AE (HOK.out.fixed x (List.mem_of_getElem? hx))
  have HXR:Hid (RL (TmR d) w1 B x.l Ax):=AE (jt.rl ‹jt w1 B (d+1-1) x.l Ax›)
  have HI:Hid (I64 x.kind∧I64 x.n∧x.s.size≤140737488351232):=AE ⟨‹_›,‹_›,‹_›⟩
  have k_b:=b_b.cell
  have l_b:=b_b.lt
  have l_r:=b_r.lt
  clear hcell hlen hx hr hex hm hd
  generalize iG b.names (bs name)=p at *
  go_wp2_with fail
  generalize hW:World.alloc _ _=w2
  obtain ⟨hb2,hz2⟩:=al1 hW
  have b_x:=n11 hW
  rw [hz] at b_x
  have b_r2:=b_r.later hb2
  have HB2:=AE (aa HB1.out hb2)
  have HX2:=AE (HXR.out.keep hb2 hB1)
  clear hW
  obtain ⟨hle,hl16⟩:=aO HF.out
  have HLE:=AE hle
  clear hle
  refine (bU HX2.out (AF hB1 hb2.size) (by omega)).mono ?_
  rintro e w3 ⟨⟨v,rfl,hv⟩,hb⟩
  obtain ⟨A3,cc,rfl⟩:=hv.form
  have HV:=AE (hv.leaves HLE.out)
  have HB3:=AE (aa HB2.out hb)
  have b_r3:=b_r2.later hb
  have b_x3:=b_x.later hb
  clear hv hb
  have k_x:=b_x3.cell
  have l_x:=b_x3.lt
  have f_x:=b_x3.free
  have k_r:=b_r3.cell
  have f_r:=b_r3.free
  have l_r3:=b_r3.lt
  clear k_b l_b l_r c0 c1 c2 c3
  go_wp2_with fail
  have hbase:w2.heap.size=w.heap.size+1+1+1:=by omega
  have HO:TmOwn d w2.heap.size w3 x A3 cc:=⟨HV.out,HI.out.1,HI.out.2.1,HI.out.2.2,by omega⟩
  have HO4:=(HO.far (g:=w.heap.size+1+1) (i:=3) (by omega) (.slice A3 x.l.length cc)).put4 (g:=w.heap.size+1) (by omega) (.int .i64 x.kind) (.int .i64 x.n) (.string x.s) (.slice A3 x.l.length cc)
  have b_r4:=b_r3.far (c:=w.heap.size+1+1) (by omega) 3 (.slice A3 x.l.length cc)
  refine bodyPost_ret (am rfl rfl (dA b_r4 (.int .i64 x.kind) (.int .i64 x.n) (.string x.s) (.slice A3 x.l.length cc)) rfl) rfl ?_
  rw [HR.out]
  exact ⟨⟨A3,cc,rfl,HO4.lower (by omega)⟩,cC (HB3.out.setCell (p:=⟨w.heap.size+1+1,3,none⟩) (by show w.heap.size≤w.heap.size+1+1;omega) _) (by omega) _ _ _ _⟩
 ·have HR:Hid (cZ b (bs name)=none):=AE (by unfold cZ;rw [if_neg hm])
  have hd:decide (bs name∈b.names)=false:=by simpa using hm
  rw [hd]
  clear hm hd
  have k_r:=b_r.cell
  have f_r:=b_r.free
  go_wp2_with fail
  refine bodyPost_ret (am rfl rfl (dA BR.out (.int .i64 0) (.int .i64 0) (.string ⟨#[]⟩) (.slice none 0 0)) rfl) rfl ?_
  rw [HR.out]
  exact ⟨⟨none,0,rfl,TmOwn.no⟩,cC HB1.out (by omega) _ _ _ _⟩
def iJ (b:Bd) (i:Nat):Bool:=
 match b.names[i]?,b.terms[i]?,b.names[i-1]? with
 | some n,some t,some p=>dQ n&&af t&&(decide (i=0)||decide (p<n))
 | _,_,_=>false
def bG (b:Bd):Bool:=decide (b.names.length=b.terms.length)&&decide (b.names.length≤32)&&(List.range b.names.length).all (iJ b)
theorem dn {d B cn ct:Nat} {b:Bd} {An At:Option Addr} {w:World} (hn:RL cX w B (b.names.map mkS) An) (ht:RL (TmR (d+1)) w B b.terms At) (hB:B≤w.heap.size) :
 Calls Tryz.prog 82 #[.agg (bdV An b.names.length cn At b.terms.length ct)] w fun e w'=>e=.returned (.bool (bG b))∧Below w.heap.size w w':=by
 have HN:=AE hn
 have HT:=AE ht
 clear hn ht
 unfold bdV
 go_enter Tryz.func82,Tryz.ntmps82
 by_cases hlen:b.names.length=b.terms.length
 ·have ql:((b.names.length:Int) !=b.terms.length)=false:=by simp [hlen]
  have HLN:=AE hlen
  clear hlen
  by_cases hfew:b.names.length≤32
  ·have qf:decide ((32:Int)<b.names.length)=false:=by simp;omega
   go_wp2_with fail
   generalize hW:World.alloc _ _=w1
   obtain ⟨hb1,hz⟩:=al1 hW
   have HBB:=AE (n11 hW)
   have HB1:=AE hb1
   clear hW hb1
   go_loopw [21] (fun i wr=>∃k:Nat,k≤b.names.length∧i=.int .i64 k∧Below w1.heap.size w1 wr∧∀i,i<k→iJ b i=true) (fun i _=>b.names.length-(intOf i).toNat)
   case atStart=>exact ⟨0,AH _,rfl,AI _ _,fun i h=>absurd h (by omega)⟩
   case round=>
    obtain ⟨k,hk,rfl,hbw,hall⟩:=hrel
    have HA:=AE hall
    have HWR:=AE hbw
    have HBR:=AE (HBB.out.later hbw)
    have HBw:Hid (Below w.heap.size w wr):=AE (aa HB1.out hbw)
    have hB1:B≤w1.heap.size:=by omega
    have hsz:=hbw.size
    clear hall hbw
    by_cases hlt:k<b.names.length
    ·have HN1:=AE (HN.out.keep HBw.out hB)
     have HT1:=AE (HT.out.keep HBw.out hB)
     have hBr:B≤wr.heap.size:=by omega
     have hlt2:k<b.terms.length:=by rw [←HLN.out];exact hlt
     obtain ⟨bn_,offn,rfl,hobn,hcn⟩:=mj HN1.out (AI _ _) hBr (by omega)
     obtain ⟨bt_,offt,rfl,hobt⟩:=HT1.out.base (AI _ _) hBr (by omega)
     obtain ⟨x,vs,hx,hlen,hcell,hr⟩:=HT1.out.at_ (AI _ _) hBr hlt2
     obtain ⟨Ax,cx,rfl,g1,g2,g3,g4,g5,_⟩:=RTm.cells (show RTm wr B (d+1) x vs from hr)
     have c0:wr.cell? ⟨bt_,offt+k*4,none⟩=some (.int .i64 x.kind):=hcell 0 _ rfl
     have c1:wr.cell? ⟨bt_,offt+k*4+1,none⟩=some (.int .i64 x.n):=hcell 1 _ rfl
     have c2:wr.cell? ⟨bt_,offt+k*4+2,none⟩=some (.string x.s):=hcell 2 _ rfl
     have c3:wr.cell? ⟨bt_,offt+k*4+3,none⟩=some (.slice Ax x.l.length cx):=hcell 3 _ rfl
     have cn0:=hcn k hlt
     have cn1:=hcn (k-1) (by omega)
     have k_b:=HBR.out.cell
     have l_b:=HBR.out.lt
     have hxe:b.terms[k]=x:=by
      rw [AO hlt2] at hx
      simpa using hx
     obtain ⟨y,vy,hy,_,_,hry⟩:=HN1.out.at_ (AI _ _) hBr (k:=k) (by simpa using hlt)
     have hye:y=mkS b.names[k]:=by simpa [hlt,eq_comm] using hy
     have hsz16:(mkS b.names[k]).size≤140737488351232:=hye▸(show cX.rd wr B y vy from hry).2
     have HX:=AE hr
     have HAT:Hid (iJ b k=(dQ (bs (mkS b.names[k]))&&af x&&(decide (k=0)||decide (bs (mkS b.names[k-1])<bs (mkS b.names[k]))))):=AE (by
      unfold iJ
      rw [AO hlt,AO hlt2,AO (show k-1<b.names.length by omega),hxe,jX,jX])
     clear hcell hlen hcn hx hr hry hy hye hxe
     generalize mkS b.names[k]=nk at *
     generalize mkS b.names[k-1]=np at *
     have HNO:Hid (iJ b k=false→bG b=false):=AE (fun h=>by
      rw [Bool.eq_false_iff]
      intro h2
      unfold bG at h2
      rw [AN,List.all_eq_true] at h2
      have:=h2.2 k (by simpa using hlt)
      rw [h] at this
      cases this)
     by_cases hnm:dQ (bs nk)=true
     ·by_cases hfx:af x=true
      ·have hk1:(k:Int)-1=((k-1:Nat):Int)∨k=0:=by omega
       have hle:(!Op.bytesLess np.toList nk.toList) = !decide (bs np<bs nk):=by rw [dx,ByteArray.toList_eq,ByteArray.toList_eq]
       rcases Nat.eq_zero_or_pos k with h0 | h0
       ·have hAT:iJ b k=true:=by rw [HAT.out,hnm,hfx,decide_eq_true h0];rfl
        have HAT2:=AE hAT
        have H0:=AE h0
        clear h0 hAT hle hk1
        go_wp2_with (first
         | (go_at_call 44;refine (fl _ _ (by unfold maxLen;omega)).mono ?_;rintro e w' ⟨rfl,rfl⟩)
         | (go_at_call 47;refine (aj HX.out hBr).mono ?_;rintro e w2 ⟨rfl,hb2⟩;have cn2:=(hb2.cell (p:=⟨bn_,offn+(k-1),none⟩) hobn).trans cn1;have k_b2:=(HBR.out.later hb2).cell;have HB2:=AE (aa HBw.out hb2);have HBR2:=AE (Below.trans HWR.out (hb2.mono hsz));clear hb2))
        ·exact absurd H0.out (by omega)
        all_goals
         go_roundw
         case rel=>exact ⟨k+1,by omega,by go_num,HBR2.out,fun i hi=>by
          rcases Nat.lt_or_ge i k with h1 | h1
          ·exact HA.out i h1
          ·obtain rfl:i=k:=by omega
           exact HAT2.out⟩
         case measure=>simp [intOf];omega
       ·have hk2:(k:Int)-1=((k-1:Nat):Int):=by omega
        have q0:decide ((0:Int)<k)=true:=by simp;omega
        clear hk1
        have HLE:=AE hle
        clear hle
        go_wp2_with (first
         | (go_at_call 44;refine (fl _ _ (by unfold maxLen;omega)).mono ?_;rintro e w' ⟨rfl,rfl⟩)
         | (go_at_call 47;refine (aj HX.out hBr).mono ?_;rintro e w2 ⟨rfl,hb2⟩;have cn2:=(hb2.cell (p:=⟨bn_,offn+(k-1),none⟩) hobn).trans cn1;have k_b2:=(HBR.out.later hb2).cell;have HB2:=AE (aa HBw.out hb2);have HBR2:=AE (Below.trans HWR.out (hb2.mono hsz));clear hb2))
        ·rename_i hq
         go_ret
         refine ⟨ac ?_,HB2.out⟩
         rw [HLE.out] at hq
         have hq2:decide (bs np<bs nk)=false:=by simpa using hq
         have hq1:decide (k=0)=false:=by simp;omega
         rw [HNO.out (by rw [HAT.out,hnm,hfx,hq1,hq2];rfl)]
        ·rename_i hq
         rw [HLE.out] at hq
         have hq2:decide (bs np<bs nk)=true:=by simpa using hq
         have HAT2:Hid (iJ b k=true):=AE (by rw [HAT.out,hnm,hfx,hq2,Bool.or_true];rfl)
         clear hq hq2
         go_roundw
         case rel=>exact ⟨k+1,by omega,by go_num,HBR2.out,fun i hi=>by
          rcases Nat.lt_or_ge i k with h1 | h1
          ·exact HA.out i h1
          ·obtain rfl:i=k:=by omega
           exact HAT2.out⟩
         case measure=>simp [intOf];omega
      ·have hfx':af x=false:=by simpa using hfx
       clear hfx
       go_wp2_with (first
        | (go_at_call 44;refine (fl _ _ (by unfold maxLen;omega)).mono ?_;rintro e w' ⟨rfl,rfl⟩)
        | (go_at_call 47;refine (aj HX.out hBr).mono ?_;rintro e w2 ⟨rfl,hb2⟩;have cn2:=(hb2.cell (p:=⟨bn_,offn+(k-1),none⟩) hobn).trans cn1;have k_b2:=(HBR.out.later hb2).cell;have HB2:=AE (aa HBw.out hb2);have HBR2:=AE (Below.trans HWR.out (hb2.mono hsz));clear hb2))
       go_ret
       refine ⟨ac ?_,HB2.out⟩
       rw [HNO.out (by rw [HAT.out,hnm,hfx'];rfl)]
     ·have hnm':dQ (bs nk)=false:=by simpa using hnm
      clear hnm
      go_wp2_with (first
       | (go_at_call 44;refine (fl _ _ (by unfold maxLen;omega)).mono ?_;rintro e w' ⟨rfl,rfl⟩)
       | (go_at_call 47;refine (aj HX.out hBr).mono ?_;rintro e w2 ⟨rfl,hb2⟩;have cn2:=(hb2.cell (p:=⟨bn_,offn+(k-1),none⟩) hobn).trans cn1;have k_b2:=(HBR.out.later hb2).cell;have HB2:=AE (aa HBw.out hb2);have HBR2:=AE (Below.trans HWR.out (hb2.mono hsz));clear hb2))
      go_ret
      refine ⟨ac ?_,HBw.out⟩
      rw [HNO.out (by rw [HAT.out,hnm'];rfl)]
    ·go_wp2_with fail
     go_ret
     obtain rfl:k=b.names.length:=by omega
     refine ⟨ac ?_,HBw.out⟩
     unfold bG
     rw [eq_comm,AN,AN,List.all_eq_true]
     exact ⟨⟨decide_eq_true HLN.out,decide_eq_true hfew⟩,fun i hi=>HA.out i (by simpa using hi)⟩
  ·have qf:decide ((32:Int)<b.names.length)=true:=by simp;omega
   go_wp2_with fail
   go_ret
   refine ⟨ac ?_,au rfl⟩
   unfold bG
   simp [hfew]
 ·have ql:((b.names.length:Int) !=b.terms.length)=true:=by simp;omega
  have HLN:=AE hlen
  clear hlen
  go_wp2_with fail
  go_ret
  refine ⟨ac ?_,au rfl⟩
  unfold bG
  simp [HLN.out]
theorem dX {b:Bd} (h:bG b=true):BdOk b∧∀n∈b.names,dQ n=true:=by
 unfold bG at h
 rw [AN,AN,List.all_eq_true] at h
 obtain ⟨⟨h1,h2⟩,h3⟩:=h
 have hlen:=of_decide_eq_true h1
 have hat:∀i (hi:i<b.names.length),dQ b.names[i]=true∧af (b.terms[i]'(hlen▸hi))=true∧(i=0∨b.names[i-1]<b.names[i]):=by
  intro i hi
  have:=h3 i (by simpa using hi)
  unfold iJ at this
  rw [AO hi,AO (hlen▸hi),AO (show i-1<b.names.length by omega)] at this
  simpa [and_assoc] using this
 refine ⟨⟨hlen,of_decide_eq_true h2,?_,fun t ht=>?_⟩,fun n hn=>?_⟩
 ·rw [List.pairwise_iff_getElem]
  intro i j hi hj hij
  have:∀m,∀hm:i+m+1<b.names.length,b.names[i]<b.names[i+m+1]:=by
   intro m
   induction m with
   | zero=>
     intro hm
     rcases (hat (i+0+1) hm).2.2 with h | h
     ·omega
     ·exact h
   | succ m ih=>
     intro hm
     rcases (hat (i+(m+1)+1) hm).2.2 with h | h
     ·omega
     ·exact List.lt_trans (ih (by omega)) h
  have:=this (j-i-1) (by omega)
  have e:i+(j-i-1)+1=j:=by omega
  simpa only [e] using this
 ·obtain ⟨i,hi,rfl⟩:=List.getElem_of_mem ht
  exact (hat i (hlen▸hi)).2.1
 ·obtain ⟨i,hi,rfl⟩:=List.getElem_of_mem hn
  exact (hat i hi).1
theorem yK {d B cn ct:Nat} {b:Bd} {An At:Option Addr} {name:ByteArray} {w:World} (hn:RL cX w B (b.names.map mkS) An) (ht:RL (TmR (d+1)) w B b.terms At) (hB:B≤w.heap.size) :
 Calls Tryz.prog 83 #[.agg (bdV An b.names.length cn At b.terms.length ct),.string name] w fun e w'=>mO d w w' (if bG b=true then cZ b (bs name) else none) e:=by
 have HN:=AE hn
 have HT:=AE ht
 clear hn ht
 unfold bdV
 by_cases hok:bG b=true
 ·rw [if_pos hok]
  have HOK:=AE hok
  clear hok
  go_enter Tryz.func83,Tryz.ntmps83
  go_wp2_with fail
  generalize hW:World.alloc _ _=w1
  obtain ⟨hb1,hz⟩:=al2 hW
  have b_b:=n21 hW
  have b_r:=n22 hW
  have HB1:=AE hb1
  clear hW
  refine (dn (cn:=cn) (ct:=ct) (HN.out.keep hb1 hB) (HT.out.keep hb1 hB) (AF hB hb1.size)).mono ?_
  rintro e w2 ⟨rfl,hb2⟩
  have HB2:=AE (aa HB1.out hb2)
  have b_b2:=b_b.later hb2
  have b_r2:=b_r.later hb2
  clear b_b b_r hb1 hb2
  have k_b:=b_b2.cell
  have l_b:=b_b2.lt
  have k_r:=b_r2.cell
  have f_r:=b_r2.free
  have l_r:=b_r2.lt
  rw [HOK.out]
  have HBD:=AE (dX HOK.out).1
  go_wp2_with fail
  refine (lB (cn:=cn) (ct:=ct) (name:=name) HBD.out (HN.out.keep HB2.out hB) (HT.out.keep HB2.out hB) (AF hB HB2.out.size)).mono ?_
  rintro e w3 ⟨⟨A3,c3,rfl,hown⟩,hb3⟩
  have HO:=AE hown
  have HB3:=AE (aa HB2.out hb3)
  have b_r3:=b_r2.later hb3
  have hsz2:=HB2.out.size
  clear hown hb3 k_b l_b k_r f_r b_b2
  have k_r:=b_r3.cell
  have f_r:=b_r3.free
  have l_r3:=b_r3.lt
  generalize hq:cZ b (bs name)=q at *
  go_wp2_with fail
  refine bodyPost_ret (am rfl rfl (dA b_r3 (.int .i64 (q.getD noT).kind) (.int .i64 (q.getD noT).n) (.string (q.getD noT).s) (.slice A3 (q.getD noT).l.length c3)) rfl) rfl ?_
  rw [hq]
  exact ⟨⟨A3,c3,rfl,(HO.out.put4 (g:=w.heap.size+1) l_r _ _ _ _).lower (by omega)⟩,cC HB3.out (by omega) _ _ _ _⟩
 ·rw [if_neg hok]
  have hno:bG b=false:=by simpa using hok
  have HOK:=AE hno
  clear hok hno
  go_enter Tryz.func83,Tryz.ntmps83
  go_wp2_with fail
  generalize hW:World.alloc _ _=w1
  obtain ⟨hb1,hz⟩:=al2 hW
  have b_b:=n21 hW
  have b_r:=n22 hW
  have HB1:=AE hb1
  clear hW
  refine (dn (cn:=cn) (ct:=ct) (HN.out.keep hb1 hB) (HT.out.keep hb1 hB) (AF hB hb1.size)).mono ?_
  rintro e w2 ⟨rfl,hb2⟩
  have HB2:=AE (aa HB1.out hb2)
  have b_b2:=b_b.later hb2
  have b_r2:=b_r.later hb2
  clear b_b b_r hb1 hb2
  have k_b:=b_b2.cell
  have l_b:=b_b2.lt
  have k_r:=b_r2.cell
  have f_r:=b_r2.free
  have l_r:=b_r2.lt
  rw [HOK.out]
  go_wp2_with fail
  refine bodyPost_ret (am rfl rfl (dA b_r2 (.int .i64 0) (.int .i64 0) (.string ⟨#[]⟩) (.slice none 0 0)) rfl) rfl ?_
  exact ⟨⟨none,0,rfl,TmOwn.no⟩,cC HB2.out (by omega) _ _ _ _⟩
end Go.Proofs.YtjpndglegpcdnaaGreat
