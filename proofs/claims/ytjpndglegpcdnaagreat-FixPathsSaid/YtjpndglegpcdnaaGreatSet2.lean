/- term.Set: the walk. -/
import Derived.Test.YtjpndglegpcdnaaGreatHeapLaw
import Derived.Test.YtjpndglegpcdnaaGreatHeap3
import Derived.Test.YtjpndglegpcdnaaGreatBSearch
set_option linter.unusedVariables false
set_option linter.unusedSimpArgs false
set_option maxRecDepth 100000
set_option maxHeartbeats 8000000
namespace Go.Proofs.YtjpndglegpcdnaaGreat
open Go.ChangeShapes Go.WideShapes Go.ChangeAt Go.RowKit
theorem yw {α:Type _}{β:Type _}{x:List α}(f:α→β):(List.map f x).length=x.length:=List.length_map f
theorem yB(a:Option Addr)(l c:Nat)(b:Option Addr)(m d:Nat):(Value.slice a l c=Value.slice b m d)=(a=b∧l=m∧c=d):=Value.slice.injEq a l c b m d
abbrev kC:ByteArray:=⟨#[]⟩
def noT:Tm:=⟨0,0,kC,[]⟩
def dx (l:List Tm):Int:=(l.head?.map Tm.kind).getD 0
def po (k:Int) (t:Tm):Bool:=!af t||decide (t.kind=7)||decide (t.kind≠k)
def ny (l:List Tm):Bool:=decide (l.length≤16)&&!l.any (po (dx l))
def yl (l:List Tm):Tm:=⟨7,0,kC,setL (cH 3) l⟩
def qu (l:List Tm):Tm × Int:=if ny l then (yl l,0) else (noT,1)
theorem sG {d B G:Nat} {k:Int} {l:List Tm} {A:Option Addr} {c:Nat} {w:World} (hG:Blk w G #[.slice A l.length c]) (hl:RL (TmR d) w B l A) (hB:B≤w.heap.size) (h0:0<l.length) (hk:dx l=k) (hn:l.length≤16) :
 bS Tryz.prog (TmR d) cS B w 218 #[.pointer (some ⟨G,0,none⟩)] (po k):=by
 intro x vs w1 hb hr
 have HR:Hid (RTm w1 B d x vs):=ym hr
 obtain ⟨A',c',rfl,q1,q2,q3,q4,q5,_⟩:=RTm.cells (show RTm w1 B d x vs from hr)
 have hG1:=hG.later hb
 have hB1:=yn hB hb.size
 obtain ⟨b,off,rfl,hbl⟩:=hl.base hb hB h0
 obtain ⟨y,ys,hy,_,hcell,hry⟩:=hl.at_ (k:=0) hb hB h0
 obtain ⟨A2,c2,rfl,_⟩:=RTm.cells (show RTm w1 B d y ys from hry)
 have hyk:y.kind=k:=by rw [←hk];unfold dx;rw [List.head?_eq_getElem?,hy];rfl
 have f0:w1.cell? ⟨b,off,none⟩=some (.int .i64 k):=by rw [←hyk];simpa using hcell 0 _ rfl
 clear hr hry hcell hy hyk hb hG
 show Calls Tryz.prog 218 #[.agg #[_,_,_,_],.pointer (some ⟨G,0,none⟩)] w1 _
 have kG:=hG1.cell
 have lG:=hG1.lt
 go_enter Tryz.func218,Tryz.ntmps218
 go_wp2_with fail
 generalize hW:World.alloc _ _=w2
 obtain ⟨hb,hz⟩:=al1 hW
 have bx:=n11 hW
 have bG2:=hG1.later hb
 have g0:=cell_regrown ((hb.cell (p:=⟨b,off,none⟩) hbl).trans f0)
 have qx:=bx.regrown
 have qG:=bG2.regrown
 have HB1:=ym hb
 have hB2:=yn hB1 hb.size
 clear hW hz hb kG lG f0
 have HR2:=ym (HR.out.below HB1.out hB1)
 have hcases:af x=false∨(af x=true∧(x.kind==7)=true)∨(af x=true∧(x.kind==7)=false):=by
  cases af x<;>cases (x.kind==7)<;>simp
 rcases hcases with hf | ⟨hf,h7⟩ | ⟨hf,h7⟩
 all_goals
  refine wp_region_quiet_below (by kernel_rfl) (by kernel_rfl) ?_
  repeat (go_big_quiet_step ((go_at_call 47;exact Calls.regrown_of (cV hf (ai (HR2.out.below (below_regrown _ _ _) hB2) (yn hB2 (below_regrown _ _ _).size))))))
  refine wpQuiet_nil ?_
  intro w3 hw3
  have hb1:Below w2.heap.size w2 w3:=by obtain ⟨p,rfl⟩:=hw3;exact below_regrown _ _ _
  clear hw3
  go_wp2_with fail
  go_ret
  refine ⟨ae ?_,ac HB1.out hb1⟩
  first
   | (simp only [beq_iff_eq,beq_eq_false_iff_ne] at h7;simp [po,hf,h7];try rfl)
   | (simp [po,hf,h7];try rfl)
   | simp [po,hf]
theorem kx {F:FuncId} {cap:Array Value} {A:Option Addr} {c:Nat} {w:World} :
 Calls Tryz.prog 45 #[.slice A 0 c,.func (.func F) #[] cap] w fun e w'=>e=.returned (.bool false)∧Below w.heap.size w w':=by
 go_enter Tryz.func45,Tryz.ntmps45
 go_wp2_with fail
 refine (Calls.mono (R:=fun e w'=>e=.returned (.int .i64 (-1))∧w=w') ?_ ?_)
 ·go_enter Tryz.func67,Tryz.ntmps67
  go_wp2_with fail
  go_loopw [8] (fun i wr=>i=.int .i64 0∧w=wr) (fun i _=>0)
  case atStart=>exact ⟨rfl,rfl⟩
  case round=>
   obtain ⟨rfl,rfl⟩:=hrel
   go_wp2_with fail
   go_ret
   exact ⟨rfl,rfl⟩
 ·rintro e w1 ⟨rfl,rfl⟩
  go_wp2_with fail
  go_ret
  exact ⟨rfl,yq _ _⟩
theorem gf {k:Int} {t:Tm}:po k t=false↔af t=true∧t.kind≠7∧t.kind=k:=by
 unfold po
 simp only [Bool.or_eq_false_iff,Bool.not_eq_false',decide_eq_false_iff_not,ne_eq,Classical.not_not,and_assoc]
theorem dH {t:Tm} (h:af t=true) (h7:t.kind≠7):iP t:=by
 unfold af kc at h
 rw [if_neg h7,yx] at h
 exact fB h.2
theorem th (xs:List TV) (k:Nat):atL noT (xs.map TV.t) k=(atL tv0 xs k).t:=by
 unfold atL
 rw [List.getD_eq_getElem?_getD,List.getD_eq_getElem?_getD,List.getElem?_map]
 cases xs[k]?<;>rfl
theorem jW {xs:List TV} {i n:Nat} (h:gv cTV (atL tv0 xs) i n):gv (cH 3) (atL noT (xs.map TV.t)) i n:=fun k h0 h1 h2=>by
 rw [th,th];exact h k h0 h1 h2
theorem wX {d B base:Nat} {T:TypeId} {w:World} {v:Value} {xs:List Tm} (h:am (TmR d) T w base B v xs) (hf:∀x∈xs,iP x) (h0:0<xs.length) :
 ∃(G c:Nat) (tvs:List TV) (cur:Array Value),v=.slice (some ⟨G,0,none⟩) xs.length c∧base≤G∧tvs.map TV.t=xs∧Blk w G cur∧qD cur tvs∧PRd w B d tvs∧xs.length≤c∧c≤9223372036854775807:=by
 obtain ⟨cells,h,hfl⟩:=h
 rcases h.2 with ⟨h1,h2⟩ | ⟨g,cap,cur,hv,hg,hh,k1,k2,k3,k4⟩
 ·omega
 ·have key:∀n,n≤xs.length→∃tvs:List TV,tvs.map TV.t=xs.take n∧(∀k (hk:k<n),∀b,b<4→cells[k*4+b]? = (atL tv0 tvs k).cs[b]?)∧PRd w B d tvs:=by
   intro n
   induction n with
   | zero=>intro _;exact ⟨[],by simp,fun k hk=>absurd hk (by omega),fun x hx=>by simp at hx⟩
   | succ n ih=>
     intro hn
     obtain ⟨tvs,e1,e2,e3⟩:=ih (by omega)
     have hr:RTm w B d xs[n] ((cells.drop (n*4)).take 4):=hfl.2 n (by omega)
     obtain ⟨A,c,e4,_⟩:=RTm.cells hr
     have hlf:xs[n].l=[]:=hf _ (List.getElem_mem _)
     rw [hlf] at e4
     have hlen:tvs.length=n:=by have:=congrArg List.length e1;rw [yw,yF] at this;omega
     have ea:atL tv0 (tvs++[⟨xs[n],A,c⟩]) n=⟨xs[n],A,c⟩:=by rw [bJ (by simp;omega)];simp [hlen]
     refine ⟨tvs++[⟨xs[n],A,c⟩],?_,fun k hk b hb=>?_,fun x hx=>?_⟩
     ·rw [List.map_append,e1,List.take_succ_eq_append_getElem (by omega)];rfl
     ·by_cases hkn:k=n
      ·subst hkn
       rw [ea]
       have:=congrArg (fun l:List Value=>l[b]?) e4
       simp only [List.getElem?_take,if_pos hb,List.getElem?_drop] at this
       exact this
      ·rw [e2 k (by omega) b hb,bJ (by omega),bJ (by simp;omega),List.getElem_append_left (by omega)]
     ·rcases List.mem_append.1 hx with hx | hx
      ·exact e3 x hx
      ·obtain rfl:x=⟨xs[n],A,c⟩:=by simpa using hx
       show RTm w B d xs[n] [_,_,_,_]
       rw [e4] at hr
       exact hr
  obtain ⟨tvs,e1,e2,e3⟩:=key xs.length (yo _)
  rw [List.take_length] at e1
  have hlen:tvs.length=xs.length:=by rw [←e1,yw]
  refine ⟨g,cap,tvs,cur,hv,hg,e1,⟨T,hh⟩,fun k hk b hb=>?_,e3,k1,by unfold maxLen at k2;omega⟩
  have hk4:(TmR d).k=4:=rfl
  rw [←e2 k (by omega) b hb,←k4,List.getElem?_take,if_pos (by rw [hk4];omega),Array.getElem?_toList]
structure TmOwn (d base:Nat) (w:World) (t:Tm) (A:Option Addr) (c:Nat):Prop where
 own:am (TmR d) 29 w base 0 (.slice A t.l.length c) t.l
 k:I64 t.kind
 n:I64 t.n
 s:t.s.size≤140737488351232
 len:t.l.length≤1000000
def iR (d:Nat) (w w':World) (r:Tm × Int) (e:Ending):Prop:=(∃A c,e=.returned (.tuple #[.agg #[.int .i64 r.1.kind,.int .i64 r.1.n,.string r.1.s,.slice A r.1.l.length c],.int .i64 r.2])∧TmOwn d w.heap.size w' r.1 A c)∧Below w.heap.size w w'
section
variable {d base B:Nat} {w w':World} {t:Tm} {A:Option Addr} {c:Nat}
theorem TmOwn.rtm (h:TmOwn d base w t A c):RTm w w.heap.size (d+1) t [.int .i64 t.kind,.int .i64 t.n,.string t.s,.slice A t.l.length c]:=by
 obtain ⟨A3,c3,e3,r1,r2,r3⟩:=h.own.reads (yp _) (by have:=h.len;show t.l.length*(8*4)≤_;omega)
 simp only [yB] at e3
 obtain ⟨rfl,_,rfl⟩:=e3
 exact ⟨A,c,rfl,r1,⟨by have:=h.len;omega,r2.2⟩,h.s,h.k,h.n,r3⟩
theorem TmOwn.later (h:TmOwn d base w t A c) (hb:Below w.heap.size w w'):TmOwn d base w' t A c:=⟨h.own.later hb (yp _),h.k,h.n,h.s,h.len⟩
theorem TmOwn.far (h:TmOwn d base w t A c) {g i:Nat} (hg:g<base) (u:Value):TmOwn d base (w.setCell ⟨g,i,none⟩ u) t A c:=⟨h.own.far hg (yp _) u,h.k,h.n,h.s,h.len⟩
theorem am.lower {α:Type} {R:Reader α} {e:TypeId} {v:Value} {xs:List α} {b0:Nat} (h:am R e w base B v xs) (hb:b0≤base):am R e w b0 B v xs:=by
 obtain ⟨cells,h,hf⟩:=h
 refine ⟨cells,⟨h.1,?_⟩,hf⟩
 rcases h.2 with h2 | ⟨g,cap,cur,hv,hg,r⟩
 ·exact .inl h2
 ·exact .inr ⟨g,cap,cur,hv,yn hb hg,r⟩
theorem TmOwn.lower (h:TmOwn d base w t A c) {b0:Nat} (hb:b0≤base):TmOwn d b0 w t A c:=⟨h.own.lower hb,h.k,h.n,h.s,h.len⟩
theorem TmOwn.put4 (h:TmOwn d base w t A c) {g:Nat} (hg:g<base) (v0 v1 v2 v3:Value):TmOwn d base ((((w.setCell ⟨g,0,none⟩ v0).setCell ⟨g,1,none⟩ v1).setCell ⟨g,2,none⟩ v2).setCell ⟨g,3,none⟩ v3) t A c:=(((h.far hg v0).far hg v1).far hg v2).far hg v3
theorem uo {x:Tm} {vs:List Value} (hx:iP x) (h:RTm w B d x vs):RTm w 0 d x vs:=by
 cases d with
 | zero=>exact h.elim
 | succ d=>
   obtain ⟨A,c,e,h1,h2,h3,h4,h5,_⟩:=h
   have h0:x.l.length=0:=by rw [show x.l=[] from hx];rfl
   exact ⟨A,c,e,h1,h2,h3,h4,h5,fun hn=>absurd hn (by omega)⟩
theorem am.leaves {e:TypeId} {v:Value} {xs:List Tm} (h:am (TmR d) e w base B v xs) (hx:∀x∈xs,iP x):am (TmR d) e w base 0 v xs:=by
 obtain ⟨cells,h,hf⟩:=h
 exact ⟨cells,h,hf.1,fun i hi=>uo (hx _ (List.getElem_mem hi)) (hf.2 i hi)⟩
theorem TmOwn.flat {k n:Int} {s:ByteArray} (hk:I64 k) (hn:I64 n) (hs:s.size≤140737488351232):TmOwn d base w ⟨k,n,s,[]⟩ none 0:=⟨am.nil _ _ _ _ _,hk,hn,hs,by simp⟩
theorem TmOwn.no:TmOwn d base w noT none 0:=TmOwn.flat (by simp [I64]) (by simp [I64]) (by decide)
end
theorem dq {w:World} {g:Nat} {a b c d:Value} (h:Blk w g #[a,b,c,d]) (v0 v1 v2 v3:Value) :
 Blk ((((w.setCell ⟨g,0,none⟩ v0).setCell ⟨g,1,none⟩ v1).setCell ⟨g,2,none⟩ v2).setCell ⟨g,3,none⟩ v3) g #[v0,v1,v2,v3]:=(((h.set_ 0 v0).set_ 1 v1).set_ 2 v2).set_ 3 v3
theorem cB {w w2:World} {B g:Nat} (h:Below B w w2) (hg:B≤g) (v0 v1 v2 v3:Value) :
 Below B w ((((w2.setCell ⟨g,0,none⟩ v0).setCell ⟨g,1,none⟩ v1).setCell ⟨g,2,none⟩ v2).setCell ⟨g,3,none⟩ v3):=
 (((h.setCell (p:=⟨g,0,none⟩) hg v0).setCell (p:=⟨g,1,none⟩) hg v1).setCell (p:=⟨g,2,none⟩) hg v2).setCell (p:=⟨g,3,none⟩) hg v3
theorem ib {P:Program} {t xT:TypeId} {fs:Array Field} {v:Value} (hu:P.underlying t=some (.struct fs)) (w:World):(Instr.typeAssert (.iface t v) xT t true).run P w=.ok (.tuple #[v,.bool true]) w:=by
 unfold Instr.typeAssert
 simp [Sem.run_bind,run_underlying hu,Result.andThen]
abbrev vC:Array Value:=#[.int .i64 0,.int .i64 0,.string ⟨#[]⟩,.slice none 0 0]
abbrev set4 (A:Option Addr) (n c:Nat):Array Value:=#[.int .i64 7,.int .i64 0,.string ⟨#[]⟩,.slice A n c]
structure SetInv (d B P G O R cp:Nat) (l:List Tm) (wr:World) (out:List Tm) (xs:List TV) (A:Option Addr) (c:Nat):Prop where
 piled:Piled (cH 3) noT l out (xs.map TV.t)
 heap:gv cTV (atL tv0 xs) 0 xs.length
 rd:PRd wr B d xs
 pat:PAt wr P G xs cp
 res:Blk wr R vC
 set_:Blk wr O (set4 A out.length c)
 own:am (TmR d) 29 wr (O+1) B (.slice A out.length c) out
def mL (d B P G R cp n:Nat) (l:List Tm) (w:World) (out:List Tm) (xs:List TV) (x:TV) (rest:List TV):Prop:=
 (Piled (cH 3) noT l out (xs.map TV.t)∧xs.Perm (x::rest)∧rest.length=n∧gv cTV (atL tv0 rest) 0 n∧(∀b∈rest,cTV x b≤0))∧PRd w B d rest∧PAt w P G rest cp∧Blk w R vC
theorem mL.later {d B P G R cp n:Nat} {l:List Tm} {w w':World} {out:List Tm} {xs:List TV} {x:TV} {rest:List TV} (h:mL d B P G R cp n l w out xs x rest) (hb:Below w.heap.size w w') (hB:B≤w.heap.size):mL d B P G R cp n l w' out xs x rest:=
 ⟨h.1,h.2.1.below hb hB,h.2.2.1.later hb,h.2.2.2.later hb⟩
def oD (w:World) (P:Nat):Nat:=match w.cell? ⟨P,0,none⟩ with | some (.slice _ n _)=>n | _=>0
theorem ek {w:World} {P n c:Nat} {A:Option Addr} (h:Blk w P #[.slice A n c]):oD w P=n:=by
 unfold oD
 rw [h.cell 0];rfl
theorem kT {w:World} {P c:Nat} {A:Option Addr} (hP:Blk w P #[.slice A 0 c]) :
 Calls Tryz.prog 37 #[.iface 258 (.pointer (some ⟨P,0,none⟩))] w fun e w'=>e=.returned (.tuple #[])∧w=w':=by
 have i0:=fun fuel=>kg m_len fuel (hP.cell 0)
 go_enter Tryz.func37,Tryz.ntmps37
 go_wp2_with fail
 refine (dS _ _ _ _).mono ?_
 rintro e wz ⟨rfl,rfl⟩
 go_wp2_with fail
 go_loopw [3] (fun i wr=>i=.int .i64 (-1)∧w=wr) (fun i _=>0)
 case atStart=>exact ⟨rfl,rfl⟩
 case round=>
  obtain ⟨rfl,rfl⟩:=hrel
  go_wp2_with fail
  go_end0
  exact ⟨rfl,rfl⟩
theorem set_any {d B c:Nat} {l:List Tm} {A:Option Addr} {w:World} (hl:RL (TmR d) w B l A) (hB:B≤w.heap.size) (hn:l.length*56≤140737488351232) :
 Calls Tryz.prog 210 #[.slice A l.length c] w fun e w'=>iR d w w' (qu l) e:=by
 obtain ⟨i0,hi0,hz0,hz1,hz2⟩:=info_parts gJ
 have HL:=ym hl
 clear hl
 by_cases h16:l.length≤16
 rotate_left
 ·have i1:¬(l.length:Int)≤16:=by omega
  have hbad:qu l=(noT,1):=by unfold qu ny;rw [decide_eq_false h16];rfl
  rw [hbad]
  go_enter Tryz.func210,Tryz.ntmps210
  go_wp2_with fail
  refine bodyPost_ret (al rfl rfl (n22 rfl) rfl) rfl ?_
  exact ⟨⟨_,_,rfl,TmOwn.no⟩,(al2 rfl).1⟩
 have i1:(l.length:Int)≤16:=by omega
 rcases Nat.eq_zero_or_pos l.length with h0 | h0
 ·obtain rfl:l=[]:=List.eq_nil_of_length_eq_zero h0
  have hset:qu []=(yl [],0):=rfl
  go_enter Tryz.func210,Tryz.ntmps210
  go_wp2_with fail
  generalize hW:World.alloc _ _=w1
  obtain ⟨hb,hz⟩:=al2 hW
  have b_l_1:=n21 hW
  have b_r_1:=n22 hW
  have HB1:=ym hb
  clear hW hz hb
  refine kx.mono ?_
  rintro e w2 ⟨rfl,hb⟩
  have HB2:=ym (ac HB1.out hb)
  have b_l_2:=b_l_1.later hb
  have b_r_2:=b_r_1.later hb
  clear hb b_l_1 b_r_1
  have k_l:=b_l_2.cell
  have k_r:=b_r_2.cell
  go_wp2_with fail
  refine (bP (xs:=[]) (HL.out.keep HB2.out hB) (yn hB HB2.out.size) hn).mono ?_
  rintro e w3 ⟨⟨v,rfl,hv⟩,hb⟩
  obtain ⟨A3,c3,rfl⟩:=hv.form
  have HB3:=ym (ac HB2.out hb)
  have b_r_3:=b_r_2.later hb
  clear hb hv b_r_2 k_l k_r b_l_2
  simp only [List.length_nil] at *
  go_wp2_with fail
  generalize hW:World.alloc _ _=w4
  obtain ⟨hb,hz⟩:=al1 hW
  have b_p_4:=n11 hW
  have b_r_4:=b_r_3.later hb
  have HB4:=ym (ac HB3.out hb)
  clear hW hz hb b_r_3
  refine (kT b_p_4).mono ?_
  rintro e wz ⟨rfl,rfl⟩
  have k_p:=b_p_4.cell
  have l_p:=b_p_4.lt
  go_wp2_with fail
  generalize hW:World.alloc _ _=w5
  obtain ⟨hb,hz⟩:=al1 hW
  have b_o_5:=n11 hW
  have b_r_5:=b_r_4.later hb
  have b_p_5:=b_p_4.later hb
  have HB5:=ym (ac HB4.out hb)
  clear hW hz hb b_r_4 b_p_4 k_p
  go_loopw [] (fun wr=>w5=wr) (fun wr=>0)
  case atStart=>rfl
  case round=>
   subst hrel
   have k_p:=b_p_5.cell
   have k_o:=b_o_5.cell
   have k_r:=b_r_5.cell
   have f_r:=b_r_5.free
   go_wp2_with fail
   refine (dS _ _ _ _).mono ?_
   rintro e wz ⟨rfl,rfl⟩
   go_wp2_with fail
   have hbr:=dq b_r_5 (.int .i64 7) (.int .i64 0) (.string ⟨#[]⟩) (.slice none 0 0)
   refine bodyPost_ret (al rfl rfl hbr rfl) rfl ?_
   rw [hset]
   exact ⟨⟨_,_,rfl,TmOwn.flat (by simp [I64]) (by simp [I64]) (by decide)⟩,cB HB5.out (Nat.le_succ _) _ _ _ _⟩
 go_enter Tryz.func210,Tryz.ntmps210
 go_wp2_with fail
 generalize hW:World.alloc _ _=w1
 obtain ⟨hb,hz⟩:=al2 hW
 have b_l_1:=n21 hW
 have b_r_1:=n22 hW
 have HB1:=ym hb
 clear hW hz hb
 have hB1:=yn hB HB1.out.size
 refine (bl d 218 _ _ l A _ B w1 (ent Tryz.func218 (by kernel_rfl) rfl) (HL.out.keep HB1.out hB) hB1 (by omega) (sG b_l_1 (HL.out.keep HB1.out hB) hB1 h0 rfl h16)).mono ?_
 rintro e w2 ⟨rfl,hb⟩
 have HB2:=ym (ac HB1.out hb)
 have b_l_2:=b_l_1.later hb
 have b_r_2:=b_r_1.later hb
 have hB2:=yn hB1 hb.size
 clear hb b_l_1 b_r_1
 by_cases hany:l.any (po (dx l))=true
 ·have hbad:qu l=(noT,1):=by unfold qu ny;rw [hany];simp
  rw [hany]
  have k_l:=b_l_2.cell
  have k_r:=b_r_2.cell
  have f_r:=b_r_2.free
  go_wp2_with fail
  have hb4:=dq b_r_2 (.int .i64 0) (.int .i64 0) (.string ⟨#[]⟩) (.slice none 0 0)
  refine bodyPost_ret (al rfl rfl hb4 rfl) rfl ?_
  rw [hbad]
  exact ⟨⟨_,_,rfl,TmOwn.no⟩,cB HB2.out (Nat.le_succ _) _ _ _ _⟩
 have hany':l.any (po (dx l))=false:=by simpa using hany
 have k_l:=b_l_2.cell
 rw [hany']
 go_wp2_with fail
 refine (bP (HL.out.keep HB2.out hB) hB2 hn).mono ?_
 rintro e w3 ⟨⟨v,rfl,hv⟩,hb⟩
 have b_r_3:=b_r_2.later hb
 have HB3:=ym (ac HB2.out hb)
 have hB3:=yn hB2 hb.size
 have hRl:w.heap.size+1<w2.heap.size:=b_r_2.lt
 have hs23:=hb.size
 obtain ⟨G,cp,tvs,cur,rfl,hG,htv,b_g_3,hpr,hpd,hc1,hc2⟩:=wX hv (fun x hx=>by
  have hf:=gf.1 (show po (dx l) x=false by simpa using List.any_eq_false.1 hany' x hx)
  exact dH hf.1 hf.2.1) h0
 have HV:=ym (And.intro htv (And.intro hpr hpd))
 have htl:tvs.length=l.length:=by rw [←htv,yw]
 have hGl:=b_g_3.lt
 clear hv hb k_l b_l_2 b_r_2 htv hpr hpd
 go_wp2_with fail
 rw [←htl]
 generalize hW:World.alloc _ _=w4
 obtain ⟨hb,hz⟩:=al1 hW
 have hpat:PAt w4 w3.heap.size G tvs cp:=⟨n11 hW,cur,b_g_3.later hb,HV.out.2.1⟩
 have HPAT:=ym hpat
 have HPD4:=ym (HV.out.2.2.below hb hB3)
 have HB4:=ym (ac HB3.out hb)
 have b_r_4:=b_r_3.later hb
 have hB4:=yn hB3 hb.size
 have hs34:w4.heap.size=w3.heap.size+1:=hz
 clear hW hb hz hpat b_g_3 b_r_3
 generalize hP:w3.heap.size=P at *
 refine (ov HPAT.out HPD4.out hB4 (by omega) (by omega) (by omega)).mono ?_
 rintro e w5 ⟨rfl,he,ys,hpm,hheap,hpat⟩
 have HP5:=ym hpat
 have HM5:=ym hpm
 have HH5:=ym hheap
 have HB5:=ym (HB4.out.trans (he.1.mono (show w.heap.size≤G by omega)))
 have HE5:=ym he
 have b_r_5:=he.blk (by omega) b_r_4
 have hs45:=he.1.size
 clear hpat hpm hheap he b_r_4
 go_wp2_with fail
 generalize hW:World.alloc _ _=w6
 obtain ⟨hb,hz⟩:=al1 hW
 have b_o_6:=n11 hW
 have HB6:=ym (ac HB5.out hb)
 have hyl:ys.length=l.length:=HM5.out.length_eq.trans htl
 have hpd6:PRd w6 B d ys:=fun x hx=>((HPD4.out.below HE5.out.1 (by omega)).below hb (by omega)) x (HM5.out.subset hx)
 have HINV:=ym (show SetInv d B P G w5.heap.size (w.heap.size+1) cp l w6 [] ys none 0 from
  ⟨⟨by rw [yw];exact jW HH5.out,by simp,fun a ha=>absurd ha (by simp),fun t=>by rw [←HV.out.1,(HM5.out.map TV.t).mem_iff];simp,by simp [hyl]⟩,HH5.out,hpd6,HP5.out.later hb,b_r_5.later hb,b_o_6,am.nil _ _ _ _ _⟩)
 have hO:w5.heap.size<w6.heap.size:=by omega
 clear hW hb hpd6 b_r_5 b_o_6 HPAT HPD4 HB4
 generalize w5.heap.size=O at *
 go_loopw [] (fun wr=>∃out xs A2 c2,Hid (SetInv d B P G O (w.heap.size+1) cp l wr out xs A2 c2)∧Hid (Below w.heap.size w wr)∧O<wr.heap.size) (fun wr=>oD wr P)
 case atStart=>exact ⟨[],ys,none,0,HINV,HB6,hO⟩
 case round=>
  obtain ⟨out,xs,A2,c2,HI,HBr,hOr⟩:=hrel
  have hlen:=HI.out.piled.len
  rw [yw] at hlen
  have hBr:B≤wr.heap.size:=yn hB HBr.out.size
  have hme:oD wr P=xs.length:=ek HI.out.pat.1
  have HME:=ym hme
  clear hme
  rcases Nat.eq_zero_or_pos xs.length with hx0 | hx0
  ·have hxe:xs=[]:=List.eq_nil_of_length_eq_zero hx0
   have hout:out=setL (cH 3) l:=(hxe▸HI.out.piled).done (eP 3) (fun a ha b hb h=>by
    have h1:=gf.1 (show po (dx l) a=false by simpa using List.any_eq_false.1 hany' a ha)
    have h2:=gf.1 (show po (dx l) b=false by simpa using List.any_eq_false.1 hany' b hb)
    exact pW (dH h1.1 h1.2.1) (dH h2.1 h2.2.1) h)
   have kP:=HI.out.pat.1.cell
   have kO:=HI.out.set_.cell
   have kR:=HI.out.res.cell
   have fR:=HI.out.res.free
   have HOUT:=ym hout
   rw [hx0] at kP
   clear hx0 hxe hout
   go_wp2_with fail
   refine (dS _ _ _ _).mono ?_
   rintro e wz ⟨rfl,rfl⟩
   go_wp2_with fail
   have hbr:=dq HI.out.res (.int .i64 7) (.int .i64 0) (.string ⟨#[]⟩) (.slice A2 out.length c2)
   have how:=(((HI.out.own.far (c:=w.heap.size+1) (i:=0) (by omega) (by omega) (.int .i64 7)).far (c:=w.heap.size+1) (i:=1) (by omega) (by omega) (.int .i64 0)).far (c:=w.heap.size+1) (i:=2) (by omega) (by omega) (.string ⟨#[]⟩)).far (c:=w.heap.size+1) (i:=3) (by omega) (by omega) (.slice A2 out.length c2)
   refine bodyPost_ret (al rfl rfl hbr rfl) rfl ?_
   have hset:qu l=(yl l,0):=by unfold qu ny;rw [decide_eq_true h16,hany'];rfl
   rw [hset]
   have hgl:∀t∈out,iP t:=fun t ht=>by
    have hm:t∈l:=(HI.out.piled.mem t).1 (.inl ht)
    have h1:=gf.1 (show po (dx l) t=false by simpa using List.any_eq_false.1 hany' t hm)
    exact dH h1.1 h1.2.1
   have hset2:(yl l)=⟨7,0,kC,out⟩:=by unfold yl;rw [HOUT.out]
   rw [hset2]
   exact ⟨⟨A2,c2,rfl,⟨(how.leaves hgl).lower (by omega),by simp [I64],by simp [I64],by show kC.size≤_;decide,by show out.length≤1000000;omega⟩⟩,cB HBr.out (Nat.le_succ _) _ _ _ _⟩
  obtain ⟨n,hn1⟩:∃n,xs.length=n+1:=⟨xs.length-1,by omega⟩
  have kP:=HI.out.pat.1.cell
  have HN1:=ym hn1
  rw [hn1] at kP
  clear hx0
  go_wp2_with fail
  refine (dS _ _ _ _).mono ?_
  rintro e wz ⟨rfl,rfl⟩
  clear hn1
  go_wp2_with fail
  refine (pT HI.out.pat HI.out.rd hBr (by omega) (by omega) HN1.out (by have:=HN1.out;omega) hc2 (by have:=HN1.out;omega) (HN1.out▸HI.out.heap)).mono ?_
  rintro e wa ⟨rfl,he,rest,hrl,hrp,hrh,hrm,hpa⟩
  have hxm:atL tv0 xs 0∈xs:=pw (by have:=HN1.out;omega)
  have hxrd:=(HI.out.rd _ hxm).below he.1 (by omega)
  have hrrd:PRd wa B d rest:=fun y hy=>(HI.out.rd y (hrp.symm.subset (List.mem_cons_of_mem _ hy))).below he.1 (by omega)
  have b_o_a:=he.blk (by omega) (by omega) HI.out.set_
  have b_r_a:=he.blk (by omega) (by omega) HI.out.res
  have how_a:=HI.out.own.exc2 he (by omega) (by omega) (by omega)
  have HBa:=ym (HBr.out.trans (he.1.mono (show w.heap.size≤min P G by omega)))
  have hsa:=he.1.size
  have HR:=ym (And.intro hrl (And.intro hrp (And.intro hrh (And.intro hrm (And.intro hpa (And.intro hrrd how_a))))))
  have HX:=ym hxrd
  clear hrl hrp hrh hrm hpa he hxm hrrd how_a hxrd kP
  generalize atL tv0 xs 0=x at *
  simp only [TV.cs] at HX ⊢
  have kO:=b_o_a.cell
  have lO:=b_o_a.lt
  have hta:=fun v wx=>ib (P:=Tryz.prog) (t:=29) (xT:=20) (v:=v) Tryz.underlying29 wx
  go_wp2_with fail
  -- REGION 9
  generalize hW:World.alloc _ _=wb
  obtain ⟨hb,hz⟩:=al1 hW
  have b_x_b:=n11 hW
  have b_o_b:=b_o_a.later hb
  have hBa:B≤wa.heap.size:=yn hBr hsa
  have HXb:Hid (RTm wb B d x.t x.cs):=ym (HX.out.below hb hBa)
  have HBb:=ym (ac HBa.out hb)
  have how_b:=HR.out.2.2.2.2.2.2.later hb hBa
  have HRr:=ym (show mL d B P G (w.heap.size+1) cp n l wb out xs x rest from
   ⟨⟨HI.out.piled,HR.out.2.1,HR.out.1,HR.out.2.2.1,HR.out.2.2.2.1⟩,HR.out.2.2.2.2.2.1.below hb hBa,HR.out.2.2.2.2.1.later hb,b_r_a.later hb⟩)
  have hBb:B≤wb.heap.size:=yn hBa hb.size
  have hszb:O+1≤wb.heap.size:=by omega
  clear hW hb b_o_a b_r_a HR HX kO lO
  rcases Nat.eq_zero_or_pos out.length with ho | ho
  ·obtain rfl:out=[]:=List.eq_nil_of_length_eq_zero ho
   have qx:=b_x_b.regrown
   have qo:=b_o_b.regrown
   go_wp2_with fail
   refine wp_region_quiet_below (by kernel_rfl) (by kernel_rfl) ?_
   repeat (go_big_quiet_step (fail))
   refine wpQuiet_nil ?_
   intro wc hw3
   have hb1:Below wb.heap.size wb wc:=by obtain ⟨p,rfl⟩:=hw3;exact below_regrown _ _ _
   have b_o_c:=b_o_b.later hb1
   have b_x_c:=b_x_b.later hb1
   clear hw3 qx qo b_o_b b_x_b
   have b_l_c:=b_x_c
   have HXc:=ym (HXb.out.below hb1 hBb)
   have HBc:=ym (ac HBb.out hb1)
   have hOWN:=how_b.later hb1 hBb
   have hRr:=HRr.out.later hb1 hBb
   have hBc:=yn hBb hb1.size
   have hOc:O+1≤wc.heap.size:=yn (by omega) hb1.size
   have HOW:=ym (And.intro (hOWN.later ((yq _ wc).alloc (yo _) (.cells x.cs.toArray 29)) hBc) (Blk.src (R:=TmR d) (B:=B) (x:=x.t) (Blk.new wc x.cs.toArray 29) ((HXc.out.below ((yq _ wc).alloc (yo _) (.cells x.cs.toArray 29)) hBc))))
   simp only [TV.cs] at HOW
   have HRR:=ym (And.intro hRr (And.intro b_o_c (And.intro hb1.size hBc)))
   clear hOWN hRr hb1
   have k_o:=b_o_c.cell
   have k_x:=b_x_c.cell
   have l_o:=b_o_c.lt
   have l_x:=b_x_c.lt
   go_wp2_with ((
    at_builtin
    refine aq (R:=TmR d) (e:=29) (base:=O+1) (B:=B) (xs:=[]) (ys:=[x.t]) rfl (.tmp 49) (.tmp 51) 24 rfl (bytes:=56) Tryz.underlying24 hi0 hz0 hz1 hz2 rfl (show 0<4 by omega) (dV d) rfl HOW.out.1 rfl HOW.out.2 rfl (by omega) (by simp only [yE,List.length_nil];omega) (by omega) (by rw [World.size_alloc];omega) ?_
    intro v2 w7 hown2 hb2
    obtain ⟨A3,c3,rfl⟩:=hown2.form
    have hb3:=((yq (O+1) wc).alloc hOc (.cells #[.int .i64 x.t.kind,.int .i64 x.t.n,.string x.t.s,.slice x.a 0 x.c] 29)).trans hb2
    have b_o_7:=HRR.out.2.1.keep hb3 (Nat.lt_succ_self _)
    have H7:=ym (And.intro hown2 hb3)
    have B7:=ym b_o_7
    have f_7:=b_o_7.free
    have k_7:=b_o_7.cell
    clear hown2 hb2 hb3 b_o_7 k_o k_x l_o l_x b_o_c b_x_c b_l_c))
   go_roundw
   case rel=>
    have hb3:=H7.out.2
    have hR:=HRR.out.1
    have hxx:PRd w7 B d rest:=hR.2.1.below hb3 (by omega)
    have hle:=hb3.size
    refine ⟨[]++[x.t],rest,A3,c3,ym ⟨?_,?_,?_,?_,?_,?_,?_⟩,ym ((HBc.out.trans (hb3.mono (by omega))).setCell (by show w.heap.size≤O;omega) _),by simp only [World.size_setCell];omega⟩
    ·exact hR.1.1.more (eP 3) (hR.1.2.1.map TV.t) (by rw [yw,hR.1.2.2.1];exact jW hR.1.2.2.2.1) (fun b hb=>by
      obtain ⟨y,hy,rfl⟩:=List.mem_map.1 hb
      exact hR.1.2.2.2.2 y hy) (fun y hy=>by simp at hy)
    ·rw [hR.1.2.2.1];exact hR.1.2.2.2.1
    ·exact hxx.below ((yq B w7).setCell (p:=⟨O,3,none⟩) (by show B≤O;omega) _) (yo _)
    ·obtain ⟨hpP,cur2,hpG,hpr⟩:=hR.2.2.1
     exact ⟨(hpP.keep hb3 (by omega)).far (by omega) _ _,cur2,(hpG.keep hb3 (by omega)).far (by omega) _ _,hpr⟩
    ·exact (hR.2.2.2.keep hb3 (by omega)).far (by omega) _ _
    ·rw [yv];exact B7.out.set_ 3 _
    ·have:=H7.out.1.far (c:=O) (i:=3) (Nat.lt_succ_self _) (by omega) (.slice A3 ([]++[x.t]).length c3)
     first
      | exact this
      | (simp only [yv,yE,List.length_nil,Nat.zero_add] at this ⊢;exact this)
   case measure=>
    have hR:=HRR.out.1
    have h1:oD (w7.setCell ⟨O,3,none⟩ (.slice A3 ([]++[x.t]).length c3)) P=rest.length:=ek ((hR.2.2.1.1.keep H7.out.2 (by omega)).far (by omega) _ _)
    have h2:=HME.out
    have h3:=hR.1.2.2.1
    have h4:=HN1.out
    first
     | exact Nat.lt_of_le_of_lt (Nat.le_of_eq h1) (by omega)
     | (simp only [yv,yE,List.length_nil,Nat.zero_add] at h1;omega)
  obtain ⟨m,hm⟩:∃m,out.length=m+1:=⟨out.length-1,by omega⟩
  obtain ⟨A9,c9,e9,r1,r2,r3⟩:=how_b.reads hBb (by show out.length*(8*4)≤_;omega)
  simp only [yB] at e9
  obtain ⟨rfl,_,rfl⟩:=e9
  obtain ⟨b,off,rfl,hbl⟩:=r3.base (yq _ _) (yo _) ho
  obtain ⟨y,vs,hy,hvl,hcell,hry⟩:=r3.at0 (k:=m) (yq _ _) (yo _) (by omega)
  obtain ⟨A8,c8,rfl,_⟩:=RTm.cells (show RTm wb wb.heap.size d y vs from hry)
  have hR4:(TmR d).k=4:=rfl
  rw [hR4] at hcell
  have g0:=cell_regrown (show wb.cell? ⟨b,off+m*4,none⟩=some _ from hcell 0 _ rfl)
  have g1:=cell_regrown (show wb.cell? ⟨b,off+m*4+1,none⟩=some _ from hcell 1 _ rfl)
  have g2:=cell_regrown (show wb.cell? ⟨b,off+m*4+2,none⟩=some _ from hcell 2 _ rfl)
  have g3:=cell_regrown (show wb.cell? ⟨b,off+m*4+3,none⟩=some _ from hcell 3 _ rfl)
  have HY:=ym (show RTm wb wb.heap.size d y _ from hry)
  have HLAST:=ym (show out.getLast? = some y by rw [List.getLast?_eq_getElem?,hm];exact hy)
  have qx:=b_x_b.regrown
  have qo:=b_o_b.regrown
  rw [hm] at qo
  clear hy hvl hcell hry r1 r2 r3 hR4
  have hgd:((m:Int)+1==0)=false:=by rw [beq_eq_false_iff_ne];omega
  by_cases hs:hJ y x.t=true
  ·go_wp2_with fail
   rw [hm]
   push_cast
   refine wp_region_quiet_below (by kernel_rfl) (by kernel_rfl) ?_
   repeat (go_big_quiet_step ((go_at_call 124;exact Calls.regrown_of (cV hs (eZ (HY.out.below (below_regrown _ _ _) (yo _)) ((HXb.out.more hBb).below (below_regrown _ _ _) (yo _)) (below_regrown _ _ _).size)))))
   refine wpQuiet_nil ?_
   intro wc hw3
   have hb1:Below wb.heap.size wb wc:=by obtain ⟨p,rfl⟩:=hw3;exact below_regrown _ _ _
   have b_o_c:=b_o_b.later hb1
   clear hw3 qx qo b_o_b b_x_b g0 g1 g2 g3
   have HRc:=ym (HRr.out.later hb1 hBb)
   have HBc:=ym (ac HBb.out hb1)
   have HOW:=ym (how_b.later hb1 hBb)
   have B7:=ym b_o_c
   have hle:=hb1.size
   clear hb1 b_o_c
   go_wp2_with fail
   go_roundw
   case rel=>
    have hR:=HRc.out
    have hyx:y=x.t:=by
     have hyl:y∈out:=List.mem_of_getLast? HLAST.out
     have hxl:x.t∈xs.map TV.t:=List.mem_map.2 ⟨x,hR.1.2.1.symm.subset (by simp),rfl⟩
     have h1:=gf.1 (show po (dx l) y=false by simpa using List.any_eq_false.1 hany' y ((hR.1.1.mem y).1 (.inl hyl)))
     have h2:=gf.1 (show po (dx l) x.t=false by simpa using List.any_eq_false.1 hany' x.t ((hR.1.1.mem x.t).1 (.inr hxl)))
     exact pW (dH h1.1 h1.2.1) (dH h2.1 h2.2.1) (by simpa [hJ] using hs)
    refine ⟨out,rest,_,c2,ym ⟨?_,?_,hR.2.1,hR.2.2.1,hR.2.2.2,B7.out,HOW.out⟩,HBc,by omega⟩
    ·exact hR.1.1.skip (x:=x.t) (y:=y) (hR.1.2.1.map TV.t) (by rw [yw,hR.1.2.2.1];exact jW hR.1.2.2.2.1) HLAST.out hyx
    ·rw [hR.1.2.2.1];exact hR.1.2.2.2.1
   case measure=>
    have hR:=HRc.out
    have h1:oD wc P=rest.length:=ek hR.2.2.1.1
    have h2:=HME.out
    have h3:=hR.1.2.2.1
    have h4:=HN1.out
    omega
  have hs:hJ y x.t=false:=by simpa using hs
  go_wp2_with fail
  rw [hm]
  push_cast
  refine wp_region_quiet_below (by kernel_rfl) (by kernel_rfl) ?_
  repeat (go_big_quiet_step ((go_at_call 124;exact Calls.regrown_of (cV hs (eZ (HY.out.below (below_regrown _ _ _) (yo _)) ((HXb.out.more hBb).below (below_regrown _ _ _) (yo _)) (below_regrown _ _ _).size)))))
  refine wpQuiet_nil ?_
  intro wc hw3
  have hb1:Below wb.heap.size wb wc:=by obtain ⟨p,rfl⟩:=hw3;exact below_regrown _ _ _
  have b_o_c:=b_o_b.later hb1
  have b_x_c:=b_x_b.later hb1
  have HSN:=ym (show ∀z,out.getLast? = some z→cH 3 z x.t≠0 by
   intro z hz
   rw [HLAST.out] at hz
   simp only [yz] at hz
   subst hz
   simpa [hJ] using hs)
  clear hw3 qx qo b_o_b b_x_b g0 g1 g2 g3 hm hgd
  have b_l_c:=b_x_c
  have HXc:=ym (HXb.out.below hb1 hBb)
  have HBc:=ym (ac HBb.out hb1)
  have hOWN:=how_b.later hb1 hBb
  have hRr:=HRr.out.later hb1 hBb
  have hBc:=yn hBb hb1.size
  have hOc:O+1≤wc.heap.size:=yn (by omega) hb1.size
  have HOW:=ym (And.intro (hOWN.later ((yq _ wc).alloc (yo _) (.cells x.cs.toArray 29)) hBc) (Blk.src (R:=TmR d) (B:=B) (x:=x.t) (Blk.new wc x.cs.toArray 29) ((HXc.out.below ((yq _ wc).alloc (yo _) (.cells x.cs.toArray 29)) hBc))))
  simp only [TV.cs] at HOW
  have HRR:=ym (And.intro hRr (And.intro b_o_c (And.intro hb1.size hBc)))
  clear hOWN hRr hb1
  have k_o:=b_o_c.cell
  have k_x:=b_x_c.cell
  have l_o:=b_o_c.lt
  have l_x:=b_x_c.lt
  go_wp2_with ((
   at_builtin
   refine aq (R:=TmR d) (e:=29) (base:=O+1) (B:=B) (xs:=out) (ys:=[x.t]) rfl (.tmp 49) (.tmp 51) 24 rfl (bytes:=56) Tryz.underlying24 hi0 hz0 hz1 hz2 rfl (show 0<4 by omega) (dV d) rfl HOW.out.1 rfl HOW.out.2 rfl (by omega) (by simp only [yE,List.length_nil];omega) (by omega) (by rw [World.size_alloc];omega) ?_
   intro v2 w7 hown2 hb2
   obtain ⟨A3,c3,rfl⟩:=hown2.form
   have hb3:=((yq (O+1) wc).alloc hOc (.cells #[.int .i64 x.t.kind,.int .i64 x.t.n,.string x.t.s,.slice x.a 0 x.c] 29)).trans hb2
   have b_o_7:=HRR.out.2.1.keep hb3 (Nat.lt_succ_self _)
   have H7:=ym (And.intro hown2 hb3)
   have B7:=ym b_o_7
   have f_7:=b_o_7.free
   have k_7:=b_o_7.cell
   clear hown2 hb2 hb3 b_o_7 k_o k_x l_o l_x b_o_c b_x_c b_l_c))
  go_roundw
  case rel=>
   have hb3:=H7.out.2
   have hR:=HRR.out.1
   have hxx:PRd w7 B d rest:=hR.2.1.below hb3 (by omega)
   have hle:=hb3.size
   refine ⟨out++[x.t],rest,A3,c3,ym ⟨?_,?_,?_,?_,?_,?_,?_⟩,ym ((HBc.out.trans (hb3.mono (by omega))).setCell (by show w.heap.size≤O;omega) _),by simp only [World.size_setCell];omega⟩
   ·exact hR.1.1.more (eP 3) (hR.1.2.1.map TV.t) (by rw [yw,hR.1.2.2.1];exact jW hR.1.2.2.2.1) (fun b hb=>by
     obtain ⟨y,hy,rfl⟩:=List.mem_map.1 hb
     exact hR.1.2.2.2.2 y hy) (fun z hz=>HSN.out z hz)
   ·rw [hR.1.2.2.1];exact hR.1.2.2.2.1
   ·exact hxx.below ((yq B w7).setCell (p:=⟨O,3,none⟩) (by show B≤O;omega) _) (yo _)
   ·obtain ⟨hpP,cur2,hpG,hpr⟩:=hR.2.2.1
    exact ⟨(hpP.keep hb3 (by omega)).far (by omega) _ _,cur2,(hpG.keep hb3 (by omega)).far (by omega) _ _,hpr⟩
   ·exact (hR.2.2.2.keep hb3 (by omega)).far (by omega) _ _
   ·rw [yv];exact B7.out.set_ 3 _
   ·have:=H7.out.1.far (c:=O) (i:=3) (Nat.lt_succ_self _) (by omega) (.slice A3 (out++[x.t]).length c3)
    first
     | exact this
     | (simp only [yv,yE,List.length_nil,Nat.zero_add] at this ⊢;exact this)
  case measure=>
   have hR:=HRR.out.1
   have h1:oD (w7.setCell ⟨O,3,none⟩ (.slice A3 (out++[x.t]).length c3)) P=rest.length:=ek ((hR.2.2.1.1.keep H7.out.2 (by omega)).far (by omega) _ _)
   have h2:=HME.out
   have h3:=hR.1.2.2.1
   have h4:=HN1.out
   first
    | exact Nat.lt_of_le_of_lt (Nat.le_of_eq h1) (by omega)
    | (simp only [yv,yE,List.length_nil,Nat.zero_add] at h1;omega)
end Go.Proofs.YtjpndglegpcdnaaGreat
