/- expr.found. -/
import Derived.Test.YtjpndglegpcdnaaGreatHeapG
import Derived.Test.YtjpndglegpcdnaaGreatSingle
set_option linter.unusedVariables false
set_option linter.unusedSimpArgs false
set_option maxRecDepth 100000
set_option maxHeartbeats 8000000
namespace Go.Proofs.YtjpndglegpcdnaaGreat
open Go.ChangeShapes Go.WideShapes Go.ChangeAt Go.RowKit
theorem zB {α:Type _}{β:Type _}{x:List α}(f:α→β):(List.map f x).length=x.length:=List.length_map f
theorem zG(a:Option Addr)(l c:Nat)(b:Option Addr)(m d:Nat):(Value.slice a l c=Value.slice b m d)=(a=b∧l=m∧c=d):=Value.slice.injEq a l c b m d
theorem kp {name:String} {f:FuncId} (hm:((Tryz.prog.info? 258).bind fun i=>(i.methods.find? (·.name==name)).map fun m=>(m.path.toList,m.func))=some ([],some (f,false)))
 (fuel:Nat) {w:World} {P:Nat} {A:Option Addr} {n c:Nat} (h:w.cell? ⟨P,0,none⟩=some (.slice A n c)) :
 (method (fuel+1) 258 (.pointer (some ⟨P,0,none⟩)) name).run Tryz.prog w=.ok (f,.slice A n c) w:=
 wL Tryz.underlying258 hm fuel (by
  have ha:(isAgg 257).run Tryz.prog w=.ok false w:=by go_simp
  have hl:(load ⟨P,0,none⟩).run Tryz.prog w=.ok (.slice A n c) w:=by go_simp
  simp [loadVar,Sem.run_bind,ha,hl,h])
theorem yd {name:String} {f:FuncId} (hm:((Tryz.prog.info? 258).bind fun i=>(i.methods.find? (·.name==name)).map fun m=>(m.path.toList,m.func))=some ([],some (f,true)))
 (fuel:Nat) {w:World} {a:Addr}:(method (fuel+1) 258 (.pointer (some a)) name).run Tryz.prog w=.ok (f,.pointer (some a)) w:=wK Tryz.underlying258 hm fuel
theorem m_len:((Tryz.prog.info? 258).bind fun i=>(i.methods.find? (·.name == "Len")).map fun m=>(m.path.toList,m.func))=some ([],some (219,false)):=by kernel_rfl
theorem m_less:((Tryz.prog.info? 258).bind fun i=>(i.methods.find? (·.name == "Less")).map fun m=>(m.path.toList,m.func))=some ([],some (262,false)):=by kernel_rfl
theorem m_swap:((Tryz.prog.info? 258).bind fun i=>(i.methods.find? (·.name == "Swap")).map fun m=>(m.path.toList,m.func))=some ([],some (263,false)):=by kernel_rfl
theorem m_pop:((Tryz.prog.info? 258).bind fun i=>(i.methods.find? (·.name == "Pop")).map fun m=>(m.path.toList,m.func))=some ([],some (264,true)):=by kernel_rfl
theorem PAt.later {w w':World} {P G c:Nat} {xs:List TV} (h:PAt w P G xs c) (hb:Below w.heap.size w w'):PAt w' P G xs c:=by
 obtain ⟨hP,cur,hG,hr⟩:=h
 exact ⟨hP.later hb,cur,hG.later hb,hr⟩
theorem PAt.exc {w w':World} {P G c:Nat} {xs ys:List TV} (h:PAt w P G xs c) (he:Exc G w w') (hPG:P≠G) (hl:ys.length=xs.length) (hc:∃cur',Blk w' G cur'∧rq cur' ys):PAt w' P G ys c:=by
 obtain ⟨hP,_⟩:=h
 exact ⟨by rw [hl];exact he.blk hPG hP,hc⟩
theorem PAt.lt {w:World} {P G c:Nat} {xs:List TV} (h:PAt w P G xs c):G≤w.heap.size:=by
 obtain ⟨_,cur,hG,_⟩:=h
 exact Nat.le_of_lt hG.lt
theorem qU {w:World} {P G c n:Nat} {xs:List TV} (hp:PAt w P G xs c) (hPG:P≠G) (hx:xs.length=n+1) (hc:n+1≤c) (hc2:c≤9223372036854775807) (hn:n+1≤1000000) :
 Calls Tryz.prog 264 #[.pointer (some ⟨P,0,none⟩)] w fun e w'=>e=.returned (.iface 29 (.agg (atL tv0 xs n).cs.toArray))∧Exc P w w'∧PAt w' P G (xs.take n) c:=by
 obtain ⟨hP,cur,hG,hr⟩:=hp
 have i0:=hr n (by omega) 0 (by omega)
 have i1:=hr n (by omega) 1 (by omega)
 have i2:=hr n (by omega) 2 (by omega)
 have i3:=hr n (by omega) 3 (by omega)
 have HR:=zu (hr.take n)
 have HT:=zu (show (xs.take n).length=n by rw [zK];omega)
 generalize atL tv0 xs n=x at *
 simp only [TV.cs,zI,List.getElem?_cons_succ,Nat.add_zero] at i0 i1 i2 i3
 rw [hx] at hP
 clear hx hr
 have kP:=hP.cell
 have fP:=hP.free
 have kG:=hG.cell
 have lP:=hP.lt
 have lG:=hG.lt
 go_enter Tryz.func264,Tryz.ntmps264
 go_wp2_with fail
 go_ret
 exact ⟨rfl,((Exc.refl P w).set 0 _).then (Nat.le_of_lt lP) ((zy _ _).alloc (zw _) _),by rw [HT.out];exact (hP.set_ 0 _).old _,cur,(hG.far (Ne.symm hPG) 0 _).old _,HR.out⟩
theorem pileG {P G cp B d:Nat} (hPG:P≠G) (hBG:B≤G) (hBP:B≤P) (hc2:cp≤9223372036854775807):PileG cTV tv0 258 P G (fun w xs=>PAt w P G xs cp∧PRd w B d xs∧B≤w.heap.size∧xs.length≤1000000) (fun xs=>.slice (some ⟨G,0,none⟩) xs.length cp) (fun x=>.iface 29 (.agg x.cs.toArray)) 219 262 263 264 (fun n=>n+1≤cp) where
 ord:=cTV_ord
 few:=fun h=>by have:=h.2.2.2;omega
 later:=fun h hb=>⟨h.1.later hb,h.2.1.below hb h.2.2.1,zv h.2.2.1 hb.size,h.2.2.2⟩
 gw:=fun h=>h.1.lt
 mlen:=fun h fuel=>kp m_len fuel (h.1.1.cell 0)
 mless:=fun h fuel=>kp m_less fuel (h.1.1.cell 0)
 mswap:=fun h fuel=>kp m_swap fuel (h.1.1.cell 0)
 mpop:=fun w fuel=>yd m_pop fuel
 elen:=ent Tryz.func219 (by kernel_rfl) rfl
 eless:=ent Tryz.func262 (by kernel_rfl) rfl
 eswap:=ent Tryz.func263 (by kernel_rfl) rfl
 epop:=ent Tryz.func264 (by kernel_rfl) rfl
 len:=fun h=>eh _ _ _ _
 less:=fun h hi hj=>by
  obtain ⟨⟨_,cur,hG,hr⟩,hd,hB,hn⟩:=h
  exact pu hG hr hd hB hi hj hn
 swap:=fun {w xs i j} h hi hj=>by
  obtain ⟨hp,hd,hB,hn⟩:=h
  obtain ⟨_,cur,hG,hr⟩:=id hp
  refine (pv hG hr hi hj hn).mono ?_
  rintro e w' ⟨rfl,he,hc⟩
  refine ⟨rfl,he,hp.exc he hPG cm hc,fun x hx=>(hd.below he.1 hBG) x ((nW hi hj).subset hx),zv hB he.1.size,by rw [cm];exact hn⟩
 pop:=fun {w xs n} h hx hc=>by
  obtain ⟨hp,hd,hB,hn⟩:=h
  refine (qU hp hPG hx hc hc2 (by omega)).mono ?_
  rintro e w' ⟨rfl,he,hc⟩
  exact ⟨rfl,he,hc,fun x hx=>(hd.below he.1 hBP) x (List.mem_of_mem_take hx),zv hB he.1.size,by rw [zK];omega⟩
theorem oS {w:World} {P G c B d:Nat} {xs:List TV} (hp:PAt w P G xs c) (hd:PRd w B d xs) (hB:B≤w.heap.size) (hBG:B≤G) (hPG:P≠G) (hxn:xs.length≤1000000) (hc2:c≤9223372036854775807:=by omega) (hBP:B≤P:=by omega) :
 Calls Tryz.prog 37 #[.iface 258 (.pointer (some ⟨P,0,none⟩))] w fun e w'=>e=.returned (.tuple #[])∧Exc G w w'∧∃ys,ys.Perm xs∧gK cTV (atL tv0 ys) 0 ys.length∧PAt w' P G ys c:=
 (initG (pileG hPG hBG hBP hc2) ⟨hp,hd,hB,hxn⟩).mono fun e w' ⟨h1,h2,ys,h3,h4,h5⟩=>⟨h1,h2,ys,h3,h4,h5.1⟩
theorem qE {w:World} {P G c n B d:Nat} {xs:List TV} (hp:PAt w P G xs c) (hd:PRd w B d xs) (hB:B≤w.heap.size) (hBG:B≤G) (hPG:P≠G) (hx:xs.length=n+1) (hc:n+1≤c) (hc2:c≤9223372036854775807) (hn:n+1≤1000000) (hh:gK cTV (atL tv0 xs) 0 (n+1)) (hBP:B≤P:=by omega) :
 Calls Tryz.prog 39 #[.iface 258 (.pointer (some ⟨P,0,none⟩))] w fun e w'=>e=.returned (.iface 29 (.agg (atL tv0 xs 0).cs.toArray))∧gt P G w w' ∧
  ∃rest:List TV,rest.length=n∧xs.Perm (atL tv0 xs 0::rest)∧gK cTV (atL tv0 rest) 0 n∧(∀b∈rest,cTV (atL tv0 xs 0) b≤0)∧PAt w' P G rest c:=
 (popG (pileG hPG hBG hBP hc2) ⟨hp,hd,hB,by omega⟩ hx hc hh).mono fun e w' ⟨h1,h2,rest,h3,h4,h5,h6,h7⟩=>⟨h1,h2,rest,h3,h4,h5,h6,h7.1⟩
abbrev kM:ByteArray:=⟨#[]⟩
def noT:Tm:=⟨0,0,kM,[]⟩
def dH (l:List Tm):Int:=(l.head?.map Tm.kind).getD 0
def pW (k:Int) (t:Tm):Bool:=!af t||decide (t.kind=7)||decide (t.kind≠k)
def nT (l:List Tm):Bool:=decide (l.length≤16)&&!l.any (pW (dH l))
def zt (l:List Tm):Tm:=⟨7,0,kM,setL (aV 3) l⟩
def rh (l:List Tm):Tm × Int:=if nT l then (zt l,0) else (noT,1)
theorem tC {d B G:Nat} {k:Int} {l:List Tm} {A:Option Addr} {c:Nat} {w:World} (hG:Blk w G #[.slice A l.length c]) (hl:RL (TmR d) w B l A) (hB:B≤w.heap.size) (h0:0<l.length) (hk:dH l=k) (hn:l.length≤16) :
 bW Tryz.prog (TmR d) cW B w 218 #[.pointer (some ⟨G,0,none⟩)] (pW k):=by
 intro x vs w1 hb hr
 have HR:Hid (RTm w1 B d x vs):=zu hr
 obtain ⟨A',c',rfl,q1,q2,q3,q4,q5,_⟩:=RTm.cells (show RTm w1 B d x vs from hr)
 have hG1:=hG.later hb
 have hB1:=zv hB hb.size
 obtain ⟨b,off,rfl,hbl⟩:=hl.base hb hB h0
 obtain ⟨y,ys,hy,_,hcell,hry⟩:=hl.at_ (k:=0) hb hB h0
 obtain ⟨A2,c2,rfl,_⟩:=RTm.cells (show RTm w1 B d y ys from hry)
 have hyk:y.kind=k:=by rw [←hk];unfold dH;rw [List.head?_eq_getElem?,hy];rfl
 have f0:w1.cell? ⟨b,off,none⟩=some (.int .i64 k):=by rw [←hyk];simpa using hcell 0 _ rfl
 clear hr hry hcell hy hyk hb hG
 show Calls Tryz.prog 218 #[.agg #[_,_,_,_],.pointer (some ⟨G,0,none⟩)] w1 _
 have kG:=hG1.cell
 have lG:=hG1.lt
 go_enter Tryz.func218,Tryz.ntmps218
 go_wp2_with fail
 generalize hW:World.alloc _ _=w2
 obtain ⟨hb,hz⟩:=al1 hW
 have bx:=n11 hW
 have bG2:=hG1.later hb
 have g0:=cell_regrown ((hb.cell (p:=⟨b,off,none⟩) hbl).trans f0)
 have qx:=bx.regrown
 have qG:=bG2.regrown
 have HB1:=zu hb
 have hB2:=zv hB1 hb.size
 clear hW hz hb kG lG f0
 have HR2:=zu (HR.out.below HB1.out hB1)
 have hcases:af x=false∨(af x=true∧(x.kind==7)=true)∨(af x=true∧(x.kind==7)=false):=by
  cases af x<;>cases (x.kind==7)<;>simp
 rcases hcases with hf | ⟨hf,h7⟩ | ⟨hf,h7⟩
 all_goals
  refine wp_region_quiet_below (by kernel_rfl) (by kernel_rfl) ?_
  repeat (go_big_quiet_step ((go_at_call 47;exact Calls.regrown_of (df hf (ai (HR2.out.below (below_regrown _ _ _) hB2) (zv hB2 (below_regrown _ _ _).size))))))
  refine wpQuiet_nil ?_
  intro w3 hw3
  have hb1:Below w2.heap.size w2 w3:=by obtain ⟨p,rfl⟩:=hw3;exact below_regrown _ _ _
  clear hw3
  go_wp2_with fail
  go_ret
  refine ⟨ac ?_,aa HB1.out hb1⟩
  first
   | (simp only [beq_iff_eq,beq_eq_false_iff_ne] at h7;simp [pW,hf,h7];try rfl)
   | (simp [pW,hf,h7];try rfl)
   | simp [pW,hf]
theorem kJ {F:FuncId} {cap:Array Value} {A:Option Addr} {c:Nat} {w:World} :
 Calls Tryz.prog 45 #[.slice A 0 c,.func (.func F) #[] cap] w fun e w'=>e=.returned (.bool false)∧Below w.heap.size w w':=by
 go_enter Tryz.func45,Tryz.ntmps45
 go_wp2_with fail
 refine (Calls.mono (R:=fun e w'=>e=.returned (.int .i64 (-1))∧w=w') ?_ ?_)
 ·go_enter Tryz.func67,Tryz.ntmps67
  go_wp2_with fail
  go_loopw [8] (fun i wr=>i=.int .i64 0∧w=wr) (fun i _=>0)
  case atStart=>exact ⟨rfl,rfl⟩
  case round=>
   obtain ⟨rfl,rfl⟩:=hrel
   go_wp2_with fail
   go_ret
   exact ⟨rfl,rfl⟩
 ·rintro e w1 ⟨rfl,rfl⟩
  go_wp2_with fail
  go_ret
  exact ⟨rfl,zy _ _⟩
theorem gv {k:Int} {t:Tm}:pW k t=false↔af t=true∧t.kind≠7∧t.kind=k:=by
 unfold pW
 simp only [Bool.or_eq_false_iff,Bool.not_eq_false',decide_eq_false_iff_not,ne_eq,Classical.not_not,and_assoc]
theorem dQ {t:Tm} (h:af t=true) (h7:t.kind≠7):jc t:=by
 unfold af fy at h
 rw [if_neg h7,zC] at h
 exact fS h.2
theorem uf (xs:List TV) (k:Nat):atL noT (xs.map TV.t) k=(atL tv0 xs k).t:=by
 unfold atL
 rw [List.getD_eq_getElem?_getD,List.getD_eq_getElem?_getD,List.getElem?_map]
 cases xs[k]?<;>rfl
theorem kj {xs:List TV} {i n:Nat} (h:gK cTV (atL tv0 xs) i n):gK (aV 3) (atL noT (xs.map TV.t)) i n:=fun k h0 h1 h2=>by
 rw [uf,uf];exact h k h0 h1 h2
theorem ya {d B base:Nat} {T:TypeId} {w:World} {v:Value} {xs:List Tm} (h:am (TmR d) T w base B v xs) (hf:∀x∈xs,jc x) (h0:0<xs.length) :
 ∃(G c:Nat) (tvs:List TV) (cur:Array Value),v=.slice (some ⟨G,0,none⟩) xs.length c∧base≤G∧tvs.map TV.t=xs∧Blk w G cur∧rq cur tvs∧PRd w B d tvs∧xs.length≤c∧c≤9223372036854775807:=by
 obtain ⟨cells,h,hfl⟩:=h
 rcases h.2 with ⟨h1,h2⟩ | ⟨g,cap,cur,hv,hg,hh,k1,k2,k3,k4⟩
 ·omega
 ·have key:∀n,n≤xs.length→∃tvs:List TV,tvs.map TV.t=xs.take n∧(∀k (hk:k<n),∀b,b<4→cells[k*4+b]? = (atL tv0 tvs k).cs[b]?)∧PRd w B d tvs:=by
   intro n
   induction n with
   | zero=>intro _;exact ⟨[],by simp,fun k hk=>absurd hk (by omega),fun x hx=>by simp at hx⟩
   | succ n ih=>
     intro hn
     obtain ⟨tvs,e1,e2,e3⟩:=ih (by omega)
     have hr:RTm w B d xs[n] ((cells.drop (n*4)).take 4):=hfl.2 n (by omega)
     obtain ⟨A,c,e4,_⟩:=RTm.cells hr
     have hlf:xs[n].l=[]:=hf _ (List.getElem_mem _)
     rw [hlf] at e4
     have hlen:tvs.length=n:=by have:=congrArg List.length e1;rw [zB,zK] at this;omega
     have ea:atL tv0 (tvs++[⟨xs[n],A,c⟩]) n=⟨xs[n],A,c⟩:=by rw [bO (by simp;omega)];simp [hlen]
     refine ⟨tvs++[⟨xs[n],A,c⟩],?_,fun k hk b hb=>?_,fun x hx=>?_⟩
     ·rw [List.map_append,e1,List.take_succ_eq_append_getElem (by omega)];rfl
     ·by_cases hkn:k=n
      ·subst hkn
       rw [ea]
       have:=congrArg (fun l:List Value=>l[b]?) e4
       simp only [List.getElem?_take,if_pos hb,List.getElem?_drop] at this
       exact this
      ·rw [e2 k (by omega) b hb,bO (by omega),bO (by simp;omega),List.getElem_append_left (by omega)]
     ·rcases List.mem_append.1 hx with hx | hx
      ·exact e3 x hx
      ·obtain rfl:x=⟨xs[n],A,c⟩:=by simpa using hx
       show RTm w B d xs[n] [_,_,_,_]
       rw [e4] at hr
       exact hr
  obtain ⟨tvs,e1,e2,e3⟩:=key xs.length (zw _)
  rw [List.take_length] at e1
  have hlen:tvs.length=xs.length:=by rw [←e1,zB]
  refine ⟨g,cap,tvs,cur,hv,hg,e1,⟨T,hh⟩,fun k hk b hb=>?_,e3,k1,by unfold maxLen at k2;omega⟩
  have hk4:(TmR d).k=4:=rfl
  rw [←e2 k (by omega) b hb,←k4,List.getElem?_take,if_pos (by rw [hk4];omega),Array.getElem?_toList]
structure TmOwn (d base:Nat) (w:World) (t:Tm) (A:Option Addr) (c:Nat):Prop where
 own:am (TmR d) 29 w base 0 (.slice A t.l.length c) t.l
 k:I64 t.kind
 n:I64 t.n
 s:t.s.size≤140737488351232
 len:t.l.length≤1000000
def jf (d:Nat) (w w':World) (r:Tm × Int) (e:Ending):Prop:=(∃A c,e=.returned (.tuple #[.agg #[.int .i64 r.1.kind,.int .i64 r.1.n,.string r.1.s,.slice A r.1.l.length c],.int .i64 r.2])∧TmOwn d w.heap.size w' r.1 A c)∧Below w.heap.size w w'
section
variable {d base B:Nat} {w w':World} {t:Tm} {A:Option Addr} {c:Nat}
theorem TmOwn.rtm (h:TmOwn d base w t A c):RTm w w.heap.size (d+1) t [.int .i64 t.kind,.int .i64 t.n,.string t.s,.slice A t.l.length c]:=by
 obtain ⟨A3,c3,e3,r1,r2,r3⟩:=h.own.reads (zx _) (by have:=h.len;show t.l.length*(8*4)≤_;omega)
 simp only [zG] at e3
 obtain ⟨rfl,_,rfl⟩:=e3
 exact ⟨A,c,rfl,r1,⟨by have:=h.len;omega,r2.2⟩,h.s,h.k,h.n,r3⟩
theorem TmOwn.later (h:TmOwn d base w t A c) (hb:Below w.heap.size w w'):TmOwn d base w' t A c:=⟨h.own.later hb (zx _),h.k,h.n,h.s,h.len⟩
theorem TmOwn.far (h:TmOwn d base w t A c) {g i:Nat} (hg:g<base) (u:Value):TmOwn d base (w.setCell ⟨g,i,none⟩ u) t A c:=⟨h.own.far hg (zx _) u,h.k,h.n,h.s,h.len⟩
theorem am.lower {α:Type} {R:Reader α} {e:TypeId} {v:Value} {xs:List α} {b0:Nat} (h:am R e w base B v xs) (hb:b0≤base):am R e w b0 B v xs:=by
 obtain ⟨cells,h,hf⟩:=h
 refine ⟨cells,⟨h.1,?_⟩,hf⟩
 rcases h.2 with h2 | ⟨g,cap,cur,hv,hg,r⟩
 ·exact .inl h2
 ·exact .inr ⟨g,cap,cur,hv,zv hb hg,r⟩
theorem TmOwn.lower (h:TmOwn d base w t A c) {b0:Nat} (hb:b0≤base):TmOwn d b0 w t A c:=⟨h.own.lower hb,h.k,h.n,h.s,h.len⟩
theorem TmOwn.put4 (h:TmOwn d base w t A c) {g:Nat} (hg:g<base) (v0 v1 v2 v3:Value):TmOwn d base ((((w.setCell ⟨g,0,none⟩ v0).setCell ⟨g,1,none⟩ v1).setCell ⟨g,2,none⟩ v2).setCell ⟨g,3,none⟩ v3) t A c:=(((h.far hg v0).far hg v1).far hg v2).far hg v3
theorem vz {x:Tm} {vs:List Value} (hx:jc x) (h:RTm w B d x vs):RTm w 0 d x vs:=by
 cases d with
 | zero=>exact h.elim
 | succ d=>
   obtain ⟨A,c,e,h1,h2,h3,h4,h5,_⟩:=h
   have h0:x.l.length=0:=by rw [show x.l=[] from hx];rfl
   exact ⟨A,c,e,h1,h2,h3,h4,h5,fun hn=>absurd hn (by omega)⟩
theorem am.leaves {e:TypeId} {v:Value} {xs:List Tm} (h:am (TmR d) e w base B v xs) (hx:∀x∈xs,jc x):am (TmR d) e w base 0 v xs:=by
 obtain ⟨cells,h,hf⟩:=h
 exact ⟨cells,h,hf.1,fun i hi=>vz (hx _ (List.getElem_mem hi)) (hf.2 i hi)⟩
theorem TmOwn.flat {k n:Int} {s:ByteArray} (hk:I64 k) (hn:I64 n) (hs:s.size≤140737488351232):TmOwn d base w ⟨k,n,s,[]⟩ none 0:=⟨am.nil _ _ _ _ _,hk,hn,hs,by simp⟩
theorem TmOwn.no:TmOwn d base w noT none 0:=TmOwn.flat (by simp [I64]) (by simp [I64]) (by decide)
end
theorem dy {w:World} {g:Nat} {a b c d:Value} (h:Blk w g #[a,b,c,d]) (v0 v1 v2 v3:Value) :
 Blk ((((w.setCell ⟨g,0,none⟩ v0).setCell ⟨g,1,none⟩ v1).setCell ⟨g,2,none⟩ v2).setCell ⟨g,3,none⟩ v3) g #[v0,v1,v2,v3]:=(((h.set_ 0 v0).set_ 1 v1).set_ 2 v2).set_ 3 v3
theorem cB {w w2:World} {B g:Nat} (h:Below B w w2) (hg:B≤g) (v0 v1 v2 v3:Value) :
 Below B w ((((w2.setCell ⟨g,0,none⟩ v0).setCell ⟨g,1,none⟩ v1).setCell ⟨g,2,none⟩ v2).setCell ⟨g,3,none⟩ v3):=
 (((h.setCell (p:=⟨g,0,none⟩) hg v0).setCell (p:=⟨g,1,none⟩) hg v1).setCell (p:=⟨g,2,none⟩) hg v2).setCell (p:=⟨g,3,none⟩) hg v3
theorem ip {P:Program} {t xT:TypeId} {fs:Array Field} {v:Value} (hu:P.underlying t=some (.struct fs)) (w:World):(Instr.typeAssert (.iface t v) xT t true).run P w=.ok (.tuple #[v,.bool true]) w:=by
 unfold Instr.typeAssert
 simp [Sem.run_bind,run_underlying hu,Result.andThen]
abbrev wR:Array Value:=#[.int .i64 0,.int .i64 0,.string ⟨#[]⟩,.slice none 0 0]
abbrev set4 (A:Option Addr) (n c:Nat):Array Value:=#[.int .i64 7,.int .i64 0,.string ⟨#[]⟩,.slice A n c]
structure SetInv (d B P G O R cp:Nat) (l:List Tm) (wr:World) (out:List Tm) (xs:List TV) (A:Option Addr) (c:Nat):Prop where
 piled:Piled (aV 3) noT l out (xs.map TV.t)
 heap:gK cTV (atL tv0 xs) 0 xs.length
 rd:PRd wr B d xs
 pat:PAt wr P G xs cp
 res:Blk wr R wR
 set_:Blk wr O (set4 A out.length c)
 own:am (TmR d) 29 wr (O+1) B (.slice A out.length c) out
def nc (d B P G R cp n:Nat) (l:List Tm) (w:World) (out:List Tm) (xs:List TV) (x:TV) (rest:List TV):Prop:=
 (Piled (aV 3) noT l out (xs.map TV.t)∧xs.Perm (x::rest)∧rest.length=n∧gK cTV (atL tv0 rest) 0 n∧(∀b∈rest,cTV x b≤0))∧PRd w B d rest∧PAt w P G rest cp∧Blk w R wR
theorem nc.later {d B P G R cp n:Nat} {l:List Tm} {w w':World} {out:List Tm} {xs:List TV} {x:TV} {rest:List TV} (h:nc d B P G R cp n l w out xs x rest) (hb:Below w.heap.size w w') (hB:B≤w.heap.size):nc d B P G R cp n l w' out xs x rest:=
 ⟨h.1,h.2.1.below hb hB,h.2.2.1.later hb,h.2.2.2.later hb⟩
def pa (w:World) (P:Nat):Nat:=match w.cell? ⟨P,0,none⟩ with | some (.slice _ n _)=>n | _=>0
theorem eC {w:World} {P n c:Nat} {A:Option Addr} (h:Blk w P #[.slice A n c]):pa w P=n:=by
 unfold pa
 rw [h.cell 0];rfl
theorem lh {w:World} {P c:Nat} {A:Option Addr} (hP:Blk w P #[.slice A 0 c]) :
 Calls Tryz.prog 37 #[.iface 258 (.pointer (some ⟨P,0,none⟩))] w fun e w'=>e=.returned (.tuple #[])∧w=w':=by
 have i0:=fun fuel=>kp m_len fuel (hP.cell 0)
 go_enter Tryz.func37,Tryz.ntmps37
 go_wp2_with fail
 refine (eh _ _ _ _).mono ?_
 rintro e wz ⟨rfl,rfl⟩
 go_wp2_with fail
 go_loopw [3] (fun i wr=>i=.int .i64 (-1)∧w=wr) (fun i _=>0)
 case atStart=>exact ⟨rfl,rfl⟩
 case round=>
  obtain ⟨rfl,rfl⟩:=hrel
  go_wp2_with fail
  go_end0
  exact ⟨rfl,rfl⟩
theorem set_any {d B c:Nat} {l:List Tm} {A:Option Addr} {w:World} (hl:RL (TmR d) w B l A) (hB:B≤w.heap.size) (hn:l.length*56≤140737488351232) :
 Calls Tryz.prog 210 #[.slice A l.length c] w fun e w'=>jf d w w' (rh l) e:=by
 obtain ⟨i0,hi0,hz0,hz1,hz2⟩:=info_parts gS
 have HL:=zu hl
 clear hl
 by_cases h16:l.length≤16
 rotate_left
 ·have i1:¬(l.length:Int)≤16:=by omega
  have hbad:rh l=(noT,1):=by unfold rh nT;rw [decide_eq_false h16];rfl
  rw [hbad]
  go_enter Tryz.func210,Tryz.ntmps210
  go_wp2_with fail
  refine bodyPost_ret (al rfl rfl (n22 rfl) rfl) rfl ?_
  exact ⟨⟨_,_,rfl,TmOwn.no⟩,(al2 rfl).1⟩
 have i1:(l.length:Int)≤16:=by omega
 rcases Nat.eq_zero_or_pos l.length with h0 | h0
 ·obtain rfl:l=[]:=List.eq_nil_of_length_eq_zero h0
  have hset:rh []=(zt [],0):=rfl
  go_enter Tryz.func210,Tryz.ntmps210
  go_wp2_with fail
  generalize hW:World.alloc _ _=w1
  obtain ⟨hb,hz⟩:=al2 hW
  have b_l_1:=n21 hW
  have b_r_1:=n22 hW
  have HB1:=zu hb
  clear hW hz hb
  refine kJ.mono ?_
  rintro e w2 ⟨rfl,hb⟩
  have HB2:=zu (aa HB1.out hb)
  have b_l_2:=b_l_1.later hb
  have b_r_2:=b_r_1.later hb
  clear hb b_l_1 b_r_1
  have k_l:=b_l_2.cell
  have k_r:=b_r_2.cell
  go_wp2_with fail
  refine (bU (xs:=[]) (HL.out.keep HB2.out hB) (zv hB HB2.out.size) hn).mono ?_
  rintro e w3 ⟨⟨v,rfl,hv⟩,hb⟩
  obtain ⟨A3,c3,rfl⟩:=hv.form
  have HB3:=zu (aa HB2.out hb)
  have b_r_3:=b_r_2.later hb
  clear hb hv b_r_2 k_l k_r b_l_2
  simp only [List.length_nil] at *
  go_wp2_with fail
  generalize hW:World.alloc _ _=w4
  obtain ⟨hb,hz⟩:=al1 hW
  have b_p_4:=n11 hW
  have b_r_4:=b_r_3.later hb
  have HB4:=zu (aa HB3.out hb)
  clear hW hz hb b_r_3
  refine (lh b_p_4).mono ?_
  rintro e wz ⟨rfl,rfl⟩
  have k_p:=b_p_4.cell
  have l_p:=b_p_4.lt
  go_wp2_with fail
  generalize hW:World.alloc _ _=w5
  obtain ⟨hb,hz⟩:=al1 hW
  have b_o_5:=n11 hW
  have b_r_5:=b_r_4.later hb
  have b_p_5:=b_p_4.later hb
  have HB5:=zu (aa HB4.out hb)
  clear hW hz hb b_r_4 b_p_4 k_p
  go_loopw [] (fun wr=>w5=wr) (fun wr=>0)
  case atStart=>rfl
  case round=>
   subst hrel
   have k_p:=b_p_5.cell
   have k_o:=b_o_5.cell
   have k_r:=b_r_5.cell
   have f_r:=b_r_5.free
   go_wp2_with fail
   refine (eh _ _ _ _).mono ?_
   rintro e wz ⟨rfl,rfl⟩
   go_wp2_with fail
   have hbr:=dy b_r_5 (.int .i64 7) (.int .i64 0) (.string ⟨#[]⟩) (.slice none 0 0)
   refine bodyPost_ret (al rfl rfl hbr rfl) rfl ?_
   rw [hset]
   exact ⟨⟨_,_,rfl,TmOwn.flat (by simp [I64]) (by simp [I64]) (by decide)⟩,cB HB5.out (Nat.le_succ _) _ _ _ _⟩
 go_enter Tryz.func210,Tryz.ntmps210
 go_wp2_with fail
 generalize hW:World.alloc _ _=w1
 obtain ⟨hb,hz⟩:=al2 hW
 have b_l_1:=n21 hW
 have b_r_1:=n22 hW
 have HB1:=zu hb
 clear hW hz hb
 have hB1:=zv hB HB1.out.size
 refine (bz d 218 _ _ l A _ B w1 (ent Tryz.func218 (by kernel_rfl) rfl) (HL.out.keep HB1.out hB) hB1 (by omega) (tC b_l_1 (HL.out.keep HB1.out hB) hB1 h0 rfl h16)).mono ?_
 rintro e w2 ⟨rfl,hb⟩
 have HB2:=zu (aa HB1.out hb)
 have b_l_2:=b_l_1.later hb
 have b_r_2:=b_r_1.later hb
 have hB2:=zv hB1 hb.size
 clear hb b_l_1 b_r_1
 by_cases hany:l.any (pW (dH l))=true
 ·have hbad:rh l=(noT,1):=by unfold rh nT;rw [hany];simp
  rw [hany]
  have k_l:=b_l_2.cell
  have k_r:=b_r_2.cell
  have f_r:=b_r_2.free
  go_wp2_with fail
  have hb4:=dy b_r_2 (.int .i64 0) (.int .i64 0) (.string ⟨#[]⟩) (.slice none 0 0)
  refine bodyPost_ret (al rfl rfl hb4 rfl) rfl ?_
  rw [hbad]
  exact ⟨⟨_,_,rfl,TmOwn.no⟩,cB HB2.out (Nat.le_succ _) _ _ _ _⟩
 have hany':l.any (pW (dH l))=false:=by simpa using hany
 have k_l:=b_l_2.cell
 rw [hany']
 go_wp2_with fail
 refine (bU (HL.out.keep HB2.out hB) hB2 hn).mono ?_
 rintro e w3 ⟨⟨v,rfl,hv⟩,hb⟩
 have b_r_3:=b_r_2.later hb
 have HB3:=zu (aa HB2.out hb)
 have hB3:=zv hB2 hb.size
 have hRl:w.heap.size+1<w2.heap.size:=b_r_2.lt
 have hs23:=hb.size
 obtain ⟨G,cp,tvs,cur,rfl,hG,htv,b_g_3,hpr,hpd,hc1,hc2⟩:=ya hv (fun x hx=>by
  have hf:=gv.1 (show pW (dH l) x=false by simpa using List.any_eq_false.1 hany' x hx)
  exact dQ hf.1 hf.2.1) h0
 have HV:=zu (And.intro htv (And.intro hpr hpd))
 have htl:tvs.length=l.length:=by rw [←htv,zB]
 have hGl:=b_g_3.lt
 clear hv hb k_l b_l_2 b_r_2 htv hpr hpd
 go_wp2_with fail
 rw [←htl]
 generalize hW:World.alloc _ _=w4
 obtain ⟨hb,hz⟩:=al1 hW
 have hpat:PAt w4 w3.heap.size G tvs cp:=⟨n11 hW,cur,b_g_3.later hb,HV.out.2.1⟩
 have HPAT:=zu hpat
 have HPD4:=zu (HV.out.2.2.below hb hB3)
 have HB4:=zu (aa HB3.out hb)
 have b_r_4:=b_r_3.later hb
 have hB4:=zv hB3 hb.size
 have hs34:w4.heap.size=w3.heap.size+1:=hz
 clear hW hb hz hpat b_g_3 b_r_3
 generalize hP:w3.heap.size=P at *
 refine (oS HPAT.out HPD4.out hB4 (by omega) (by omega) (by omega)).mono ?_
 rintro e w5 ⟨rfl,he,ys,hpm,hheap,hpat⟩
 have HP5:=zu hpat
 have HM5:=zu hpm
 have HH5:=zu hheap
 have HB5:=zu (HB4.out.trans (he.1.mono (show w.heap.size≤G by omega)))
 have HE5:=zu he
 have b_r_5:=he.blk (by omega) b_r_4
 have hs45:=he.1.size
 clear hpat hpm hheap he b_r_4
 go_wp2_with fail
 generalize hW:World.alloc _ _=w6
 obtain ⟨hb,hz⟩:=al1 hW
 have b_o_6:=n11 hW
 have HB6:=zu (aa HB5.out hb)
 have hyl:ys.length=l.length:=HM5.out.length_eq.trans htl
 have hpd6:PRd w6 B d ys:=fun x hx=>((HPD4.out.below HE5.out.1 (by omega)).below hb (by omega)) x (HM5.out.subset hx)
 have HINV:=zu (show SetInv d B P G w5.heap.size (w.heap.size+1) cp l w6 [] ys none 0 from
  ⟨⟨by rw [zB];exact kj HH5.out,by simp,fun a ha=>absurd ha (by simp),fun t=>by rw [←HV.out.1,(HM5.out.map TV.t).mem_iff];simp,by simp [hyl]⟩,HH5.out,hpd6,HP5.out.later hb,b_r_5.later hb,b_o_6,am.nil _ _ _ _ _⟩)
 have hO:w5.heap.size<w6.heap.size:=by omega
 clear hW hb hpd6 b_r_5 b_o_6 HPAT HPD4 HB4
 generalize w5.heap.size=O at *
 go_loopw [] (fun wr=>∃out xs A2 c2,Hid (SetInv d B P G O (w.heap.size+1) cp l wr out xs A2 c2)∧Hid (Below w.heap.size w wr)∧O<wr.heap.size) (fun wr=>pa wr P)
 case atStart=>exact ⟨[],ys,none,0,HINV,HB6,hO⟩
 case round=>
  obtain ⟨out,xs,A2,c2,HI,HBr,hOr⟩:=hrel
  have hlen:=HI.out.piled.len
  rw [zB] at hlen
  have hBr:B≤wr.heap.size:=zv hB HBr.out.size
  have hme:pa wr P=xs.length:=eC HI.out.pat.1
  have HME:=zu hme
  clear hme
  rcases Nat.eq_zero_or_pos xs.length with hx0 | hx0
  ·have hxe:xs=[]:=List.eq_nil_of_length_eq_zero hx0
   have hout:out=setL (aV 3) l:=(hxe▸HI.out.piled).done (eZ 3) (fun a ha b hb h=>by
    have h1:=gv.1 (show pW (dH l) a=false by simpa using List.any_eq_false.1 hany' a ha)
    have h2:=gv.1 (show pW (dH l) b=false by simpa using List.any_eq_false.1 hany' b hb)
    exact qI (dQ h1.1 h1.2.1) (dQ h2.1 h2.2.1) h)
   have kP:=HI.out.pat.1.cell
   have kO:=HI.out.set_.cell
   have kR:=HI.out.res.cell
   have fR:=HI.out.res.free
   have HOUT:=zu hout
   rw [hx0] at kP
   clear hx0 hxe hout
   go_wp2_with fail
   refine (eh _ _ _ _).mono ?_
   rintro e wz ⟨rfl,rfl⟩
   go_wp2_with fail
   have hbr:=dy HI.out.res (.int .i64 7) (.int .i64 0) (.string ⟨#[]⟩) (.slice A2 out.length c2)
   have how:=(((HI.out.own.far (c:=w.heap.size+1) (i:=0) (by omega) (by omega) (.int .i64 7)).far (c:=w.heap.size+1) (i:=1) (by omega) (by omega) (.int .i64 0)).far (c:=w.heap.size+1) (i:=2) (by omega) (by omega) (.string ⟨#[]⟩)).far (c:=w.heap.size+1) (i:=3) (by omega) (by omega) (.slice A2 out.length c2)
   refine bodyPost_ret (al rfl rfl hbr rfl) rfl ?_
   have hset:rh l=(zt l,0):=by unfold rh nT;rw [decide_eq_true h16,hany'];rfl
   rw [hset]
   have hgl:∀t∈out,jc t:=fun t ht=>by
    have hm:t∈l:=(HI.out.piled.mem t).1 (.inl ht)
    have h1:=gv.1 (show pW (dH l) t=false by simpa using List.any_eq_false.1 hany' t hm)
    exact dQ h1.1 h1.2.1
   have hset2:(zt l)=⟨7,0,kM,out⟩:=by unfold zt;rw [HOUT.out]
   rw [hset2]
   exact ⟨⟨A2,c2,rfl,⟨(how.leaves hgl).lower (by omega),by simp [I64],by simp [I64],by show kM.size≤_;decide,by show out.length≤1000000;omega⟩⟩,cB HBr.out (Nat.le_succ _) _ _ _ _⟩
  obtain ⟨n,hn1⟩:∃n,xs.length=n+1:=⟨xs.length-1,by omega⟩
  have kP:=HI.out.pat.1.cell
  have HN1:=zu hn1
  rw [hn1] at kP
  clear hx0
  go_wp2_with fail
  refine (eh _ _ _ _).mono ?_
  rintro e wz ⟨rfl,rfl⟩
  clear hn1
  go_wp2_with fail
  refine (qE HI.out.pat HI.out.rd hBr (by omega) (by omega) HN1.out (by have:=HN1.out;omega) hc2 (by have:=HN1.out;omega) (HN1.out▸HI.out.heap)).mono ?_
  rintro e wa ⟨rfl,he,rest,hrl,hrp,hrh,hrm,hpa⟩
  have hxm:atL tv0 xs 0∈xs:=qd (by have:=HN1.out;omega)
  have hxrd:=(HI.out.rd _ hxm).below he.1 (by omega)
  have hrrd:PRd wa B d rest:=fun y hy=>(HI.out.rd y (hrp.symm.subset (List.mem_cons_of_mem _ hy))).below he.1 (by omega)
  have b_o_a:=he.blk (by omega) (by omega) HI.out.set_
  have b_r_a:=he.blk (by omega) (by omega) HI.out.res
  have how_a:=HI.out.own.exc2 he (by omega) (by omega) (by omega)
  have HBa:=zu (HBr.out.trans (he.1.mono (show w.heap.size≤min P G by omega)))
  have hsa:=he.1.size
  have HR:=zu (And.intro hrl (And.intro hrp (And.intro hrh (And.intro hrm (And.intro hpa (And.intro hrrd how_a))))))
  have HX:=zu hxrd
  clear hrl hrp hrh hrm hpa he hxm hrrd how_a hxrd kP
  generalize atL tv0 xs 0=x at *
  simp only [TV.cs] at HX ⊢
  have kO:=b_o_a.cell
  have lO:=b_o_a.lt
  have hta:=fun v wx=>ip (P:=Tryz.prog) (t:=29) (xT:=20) (v:=v) Tryz.underlying29 wx
  go_wp2_with fail
  -- REGION 9
  generalize hW:World.alloc _ _=wb
  obtain ⟨hb,hz⟩:=al1 hW
  have b_x_b:=n11 hW
  have b_o_b:=b_o_a.later hb
  have hBa:B≤wa.heap.size:=zv hBr hsa
  have HXb:Hid (RTm wb B d x.t x.cs):=zu (HX.out.below hb hBa)
  have HBb:=zu (aa HBa.out hb)
  have how_b:=HR.out.2.2.2.2.2.2.later hb hBa
  have HRr:=zu (show nc d B P G (w.heap.size+1) cp n l wb out xs x rest from
   ⟨⟨HI.out.piled,HR.out.2.1,HR.out.1,HR.out.2.2.1,HR.out.2.2.2.1⟩,HR.out.2.2.2.2.2.1.below hb hBa,HR.out.2.2.2.2.1.later hb,b_r_a.later hb⟩)
  have hBb:B≤wb.heap.size:=zv hBa hb.size
  have hszb:O+1≤wb.heap.size:=by omega
  clear hW hb b_o_a b_r_a HR HX kO lO
  rcases Nat.eq_zero_or_pos out.length with ho | ho
  ·obtain rfl:out=[]:=List.eq_nil_of_length_eq_zero ho
   have qx:=b_x_b.regrown
   have qo:=b_o_b.regrown
   go_wp2_with fail
   refine wp_region_quiet_below (by kernel_rfl) (by kernel_rfl) ?_
   repeat (go_big_quiet_step (fail))
   refine wpQuiet_nil ?_
   intro wc hw3
   have hb1:Below wb.heap.size wb wc:=by obtain ⟨p,rfl⟩:=hw3;exact below_regrown _ _ _
   have b_o_c:=b_o_b.later hb1
   have b_x_c:=b_x_b.later hb1
   clear hw3 qx qo b_o_b b_x_b
   have b_l_c:=b_x_c
   have HXc:=zu (HXb.out.below hb1 hBb)
   have HBc:=zu (aa HBb.out hb1)
   have hOWN:=how_b.later hb1 hBb
   have hRr:=HRr.out.later hb1 hBb
   have hBc:=zv hBb hb1.size
   have hOc:O+1≤wc.heap.size:=zv (by omega) hb1.size
   have HOW:=zu (And.intro (hOWN.later ((zy _ wc).alloc (zw _) (.cells x.cs.toArray 29)) hBc) (Blk.src (R:=TmR d) (B:=B) (x:=x.t) (Blk.new wc x.cs.toArray 29) ((HXc.out.below ((zy _ wc).alloc (zw _) (.cells x.cs.toArray 29)) hBc))))
   simp only [TV.cs] at HOW
   have HRR:=zu (And.intro hRr (And.intro b_o_c (And.intro hb1.size hBc)))
   clear hOWN hRr hb1
   have k_o:=b_o_c.cell
   have k_x:=b_x_c.cell
   have l_o:=b_o_c.lt
   have l_x:=b_x_c.lt
   go_wp2_with ((
    at_builtin
    refine aq (R:=TmR d) (e:=29) (base:=O+1) (B:=B) (xs:=[]) (ys:=[x.t]) rfl (.tmp 49) (.tmp 51) 24 rfl (bytes:=56) Tryz.underlying24 hi0 hz0 hz1 hz2 rfl (show 0<4 by omega) (ek d) rfl HOW.out.1 rfl HOW.out.2 rfl (by omega) (by simp only [zJ,List.length_nil];omega) (by omega) (by rw [World.size_alloc];omega) ?_
    intro v2 w7 hown2 hb2
    obtain ⟨A3,c3,rfl⟩:=hown2.form
    have hb3:=((zy (O+1) wc).alloc hOc (.cells #[.int .i64 x.t.kind,.int .i64 x.t.n,.string x.t.s,.slice x.a 0 x.c] 29)).trans hb2
    have b_o_7:=HRR.out.2.1.keep hb3 (Nat.lt_succ_self _)
    have H7:=zu (And.intro hown2 hb3)
    have B7:=zu b_o_7
    have f_7:=b_o_7.free
    have k_7:=b_o_7.cell
    clear hown2 hb2 hb3 b_o_7 k_o k_x l_o l_x b_o_c b_x_c b_l_c))
   go_roundw
   case rel=>
    have hb3:=H7.out.2
    have hR:=HRR.out.1
    have hxx:PRd w7 B d rest:=hR.2.1.below hb3 (by omega)
    have hle:=hb3.size
    refine ⟨[]++[x.t],rest,A3,c3,zu ⟨?_,?_,?_,?_,?_,?_,?_⟩,zu ((HBc.out.trans (hb3.mono (by omega))).setCell (by show w.heap.size≤O;omega) _),by simp only [World.size_setCell];omega⟩
    ·exact hR.1.1.more (eZ 3) (hR.1.2.1.map TV.t) (by rw [zB,hR.1.2.2.1];exact kj hR.1.2.2.2.1) (fun b hb=>by
      obtain ⟨y,hy,rfl⟩:=List.mem_map.1 hb
      exact hR.1.2.2.2.2 y hy) (fun y hy=>by simp at hy)
    ·rw [hR.1.2.2.1];exact hR.1.2.2.2.1
    ·exact hxx.below ((zy B w7).setCell (p:=⟨O,3,none⟩) (by show B≤O;omega) _) (zw _)
    ·obtain ⟨hpP,cur2,hpG,hpr⟩:=hR.2.2.1
     exact ⟨(hpP.keep hb3 (by omega)).far (by omega) _ _,cur2,(hpG.keep hb3 (by omega)).far (by omega) _ _,hpr⟩
    ·exact (hR.2.2.2.keep hb3 (by omega)).far (by omega) _ _
    ·rw [zA];exact B7.out.set_ 3 _
    ·have:=H7.out.1.far (c:=O) (i:=3) (Nat.lt_succ_self _) (by omega) (.slice A3 ([]++[x.t]).length c3)
     first
      | exact this
      | (simp only [zA,zJ,List.length_nil,Nat.zero_add] at this ⊢;exact this)
   case measure=>
    have hR:=HRR.out.1
    have h1:pa (w7.setCell ⟨O,3,none⟩ (.slice A3 ([]++[x.t]).length c3)) P=rest.length:=eC ((hR.2.2.1.1.keep H7.out.2 (by omega)).far (by omega) _ _)
    have h2:=HME.out
    have h3:=hR.1.2.2.1
    have h4:=HN1.out
    first
     | exact Nat.lt_of_le_of_lt (Nat.le_of_eq h1) (by omega)
     | (simp only [zA,zJ,List.length_nil,Nat.zero_add] at h1;omega)
  obtain ⟨m,hm⟩:∃m,out.length=m+1:=⟨out.length-1,by omega⟩
  obtain ⟨A9,c9,e9,r1,r2,r3⟩:=how_b.reads hBb (by show out.length*(8*4)≤_;omega)
  simp only [zG] at e9
  obtain ⟨rfl,_,rfl⟩:=e9
  obtain ⟨b,off,rfl,hbl⟩:=r3.base (zy _ _) (zw _) ho
  obtain ⟨y,vs,hy,hvl,hcell,hry⟩:=r3.at0 (k:=m) (zy _ _) (zw _) (by omega)
  obtain ⟨A8,c8,rfl,_⟩:=RTm.cells (show RTm wb wb.heap.size d y vs from hry)
  have hR4:(TmR d).k=4:=rfl
  rw [hR4] at hcell
  have g0:=cell_regrown (show wb.cell? ⟨b,off+m*4,none⟩=some _ from hcell 0 _ rfl)
  have g1:=cell_regrown (show wb.cell? ⟨b,off+m*4+1,none⟩=some _ from hcell 1 _ rfl)
  have g2:=cell_regrown (show wb.cell? ⟨b,off+m*4+2,none⟩=some _ from hcell 2 _ rfl)
  have g3:=cell_regrown (show wb.cell? ⟨b,off+m*4+3,none⟩=some _ from hcell 3 _ rfl)
  have HY:=zu (show RTm wb wb.heap.size d y _ from hry)
  have HLAST:=zu (show out.getLast? = some y by rw [List.getLast?_eq_getElem?,hm];exact hy)
  have qx:=b_x_b.regrown
  have qo:=b_o_b.regrown
  rw [hm] at qo
  clear hy hvl hcell hry r1 r2 r3 hR4
  have hgd:((m:Int)+1==0)=false:=by rw [beq_eq_false_iff_ne];omega
  by_cases hs:il y x.t=true
  ·go_wp2_with fail
   rw [hm]
   push_cast
   refine wp_region_quiet_below (by kernel_rfl) (by kernel_rfl) ?_
   repeat (go_big_quiet_step ((go_at_call 124;exact Calls.regrown_of (df hs (fm (HY.out.below (below_regrown _ _ _) (zw _)) ((HXb.out.more hBb).below (below_regrown _ _ _) (zw _)) (below_regrown _ _ _).size)))))
   refine wpQuiet_nil ?_
   intro wc hw3
   have hb1:Below wb.heap.size wb wc:=by obtain ⟨p,rfl⟩:=hw3;exact below_regrown _ _ _
   have b_o_c:=b_o_b.later hb1
   clear hw3 qx qo b_o_b b_x_b g0 g1 g2 g3
   have HRc:=zu (HRr.out.later hb1 hBb)
   have HBc:=zu (aa HBb.out hb1)
   have HOW:=zu (how_b.later hb1 hBb)
   have B7:=zu b_o_c
   have hle:=hb1.size
   clear hb1 b_o_c
   go_wp2_with fail
   go_roundw
   case rel=>
    have hR:=HRc.out
    have hyx:y=x.t:=by
     have hyl:y∈out:=List.mem_of_getLast? HLAST.out
     have hxl:x.t∈xs.map TV.t:=List.mem_map.2 ⟨x,hR.1.2.1.symm.subset (by simp),rfl⟩
     have h1:=gv.1 (show pW (dH l) y=false by simpa using List.any_eq_false.1 hany' y ((hR.1.1.mem y).1 (.inl hyl)))
     have h2:=gv.1 (show pW (dH l) x.t=false by simpa using List.any_eq_false.1 hany' x.t ((hR.1.1.mem x.t).1 (.inr hxl)))
     exact qI (dQ h1.1 h1.2.1) (dQ h2.1 h2.2.1) (by simpa [il] using hs)
    refine ⟨out,rest,_,c2,zu ⟨?_,?_,hR.2.1,hR.2.2.1,hR.2.2.2,B7.out,HOW.out⟩,HBc,by omega⟩
    ·exact hR.1.1.skip (x:=x.t) (y:=y) (hR.1.2.1.map TV.t) (by rw [zB,hR.1.2.2.1];exact kj hR.1.2.2.2.1) HLAST.out hyx
    ·rw [hR.1.2.2.1];exact hR.1.2.2.2.1
   case measure=>
    have hR:=HRc.out
    have h1:pa wc P=rest.length:=eC hR.2.2.1.1
    have h2:=HME.out
    have h3:=hR.1.2.2.1
    have h4:=HN1.out
    omega
  have hs:il y x.t=false:=by simpa using hs
  go_wp2_with fail
  rw [hm]
  push_cast
  refine wp_region_quiet_below (by kernel_rfl) (by kernel_rfl) ?_
  repeat (go_big_quiet_step ((go_at_call 124;exact Calls.regrown_of (df hs (fm (HY.out.below (below_regrown _ _ _) (zw _)) ((HXb.out.more hBb).below (below_regrown _ _ _) (zw _)) (below_regrown _ _ _).size)))))
  refine wpQuiet_nil ?_
  intro wc hw3
  have hb1:Below wb.heap.size wb wc:=by obtain ⟨p,rfl⟩:=hw3;exact below_regrown _ _ _
  have b_o_c:=b_o_b.later hb1
  have b_x_c:=b_x_b.later hb1
  have HSN:=zu (show ∀z,out.getLast? = some z→aV 3 z x.t≠0 by
   intro z hz
   rw [HLAST.out] at hz
   simp only [zE] at hz
   subst hz
   simpa [il] using hs)
  clear hw3 qx qo b_o_b b_x_b g0 g1 g2 g3 hm hgd
  have b_l_c:=b_x_c
  have HXc:=zu (HXb.out.below hb1 hBb)
  have HBc:=zu (aa HBb.out hb1)
  have hOWN:=how_b.later hb1 hBb
  have hRr:=HRr.out.later hb1 hBb
  have hBc:=zv hBb hb1.size
  have hOc:O+1≤wc.heap.size:=zv (by omega) hb1.size
  have HOW:=zu (And.intro (hOWN.later ((zy _ wc).alloc (zw _) (.cells x.cs.toArray 29)) hBc) (Blk.src (R:=TmR d) (B:=B) (x:=x.t) (Blk.new wc x.cs.toArray 29) ((HXc.out.below ((zy _ wc).alloc (zw _) (.cells x.cs.toArray 29)) hBc))))
  simp only [TV.cs] at HOW
  have HRR:=zu (And.intro hRr (And.intro b_o_c (And.intro hb1.size hBc)))
  clear hOWN hRr hb1
  have k_o:=b_o_c.cell
  have k_x:=b_x_c.cell
  have l_o:=b_o_c.lt
  have l_x:=b_x_c.lt
  go_wp2_with ((
   at_builtin
   refine aq (R:=TmR d) (e:=29) (base:=O+1) (B:=B) (xs:=out) (ys:=[x.t]) rfl (.tmp 49) (.tmp 51) 24 rfl (bytes:=56) Tryz.underlying24 hi0 hz0 hz1 hz2 rfl (show 0<4 by omega) (ek d) rfl HOW.out.1 rfl HOW.out.2 rfl (by omega) (by simp only [zJ,List.length_nil];omega) (by omega) (by rw [World.size_alloc];omega) ?_
   intro v2 w7 hown2 hb2
   obtain ⟨A3,c3,rfl⟩:=hown2.form
   have hb3:=((zy (O+1) wc).alloc hOc (.cells #[.int .i64 x.t.kind,.int .i64 x.t.n,.string x.t.s,.slice x.a 0 x.c] 29)).trans hb2
   have b_o_7:=HRR.out.2.1.keep hb3 (Nat.lt_succ_self _)
   have H7:=zu (And.intro hown2 hb3)
   have B7:=zu b_o_7
   have f_7:=b_o_7.free
   have k_7:=b_o_7.cell
   clear hown2 hb2 hb3 b_o_7 k_o k_x l_o l_x b_o_c b_x_c b_l_c))
  go_roundw
  case rel=>
   have hb3:=H7.out.2
   have hR:=HRR.out.1
   have hxx:PRd w7 B d rest:=hR.2.1.below hb3 (by omega)
   have hle:=hb3.size
   refine ⟨out++[x.t],rest,A3,c3,zu ⟨?_,?_,?_,?_,?_,?_,?_⟩,zu ((HBc.out.trans (hb3.mono (by omega))).setCell (by show w.heap.size≤O;omega) _),by simp only [World.size_setCell];omega⟩
   ·exact hR.1.1.more (eZ 3) (hR.1.2.1.map TV.t) (by rw [zB,hR.1.2.2.1];exact kj hR.1.2.2.2.1) (fun b hb=>by
     obtain ⟨y,hy,rfl⟩:=List.mem_map.1 hb
     exact hR.1.2.2.2.2 y hy) (fun z hz=>HSN.out z hz)
   ·rw [hR.1.2.2.1];exact hR.1.2.2.2.1
   ·exact hxx.below ((zy B w7).setCell (p:=⟨O,3,none⟩) (by show B≤O;omega) _) (zw _)
   ·obtain ⟨hpP,cur2,hpG,hpr⟩:=hR.2.2.1
    exact ⟨(hpP.keep hb3 (by omega)).far (by omega) _ _,cur2,(hpG.keep hb3 (by omega)).far (by omega) _ _,hpr⟩
   ·exact (hR.2.2.2.keep hb3 (by omega)).far (by omega) _ _
   ·rw [zA];exact B7.out.set_ 3 _
   ·have:=H7.out.1.far (c:=O) (i:=3) (Nat.lt_succ_self _) (by omega) (.slice A3 (out++[x.t]).length c3)
    first
     | exact this
     | (simp only [zA,zJ,List.length_nil,Nat.zero_add] at this ⊢;exact this)
  case measure=>
   have hR:=HRR.out.1
   have h1:pa (w7.setCell ⟨O,3,none⟩ (.slice A3 (out++[x.t]).length c3)) P=rest.length:=eC ((hR.2.2.1.1.keep H7.out.2 (by omega)).far (by omega) _ _)
   have h2:=HME.out
   have h3:=hR.1.2.2.1
   have h4:=HN1.out
   first
    | exact Nat.lt_of_le_of_lt (Nat.le_of_eq h1) (by omega)
    | (simp only [zA,zJ,List.length_nil,Nat.zero_add] at h1;omega)
structure Bd where
 names:List aY
 terms:List Tm
def cY (b:Bd) (name:aY):Option Tm:=if name∈b.names then b.terms[io b.names name]? else none
structure BdOk (b:Bd):Prop where
 len:b.names.length=b.terms.length
 few:b.names.length≤32
 rise:b.names.Pairwise (· < ·)
 fixed:∀t∈b.terms,af t=true
def bdV (An:Option Addr) (nn cn:Nat) (At:Option Addr) (nt ct:Nat):Array Value:=#[.slice An nn cn,.slice At nt ct]
theorem aN {t:Tm} (h:af t=true):(∀u∈t.l,jc u)∧t.l.length≤16:=by
 have:=kY h
 by_cases h7:t.kind=7
 ·rw [if_pos h7] at this
  exact ⟨(dA this.2.2).2,(dA this.2.2).1⟩
 ·rw [if_neg h7] at this
  rw [this];exact ⟨fun u hu=>(List.not_mem_nil hu).elim,by simp⟩
def my (d:Nat) (w w':World) (r:Option Tm) (z:Ending):Prop:=
 (∃A c,z=.returned (.tuple #[.agg #[.int .i64 (r.getD noT).kind,.int .i64 (r.getD noT).n,.string (r.getD noT).s,.slice A (r.getD noT).l.length c],.bool r.isSome])∧TmOwn d w.heap.size w' (r.getD noT) A c)∧Below w.heap.size w w'
theorem vT {L:List aY} {t:aY} (h:t∈L):io L t<L.length:=by
 unfold io
 rw [List.findIdx_lt_length]
 exact ⟨t,h,by simp [List.lt_irrefl]⟩
theorem lc {d B cn ct:Nat} {b:Bd} {An At:Option Addr} {name:ByteArray} {w:World} (hok:BdOk b) (hn:RL cV w B (b.names.map mkS) An) (ht:RL (TmR (d+1)) w B b.terms At) (hB:B≤w.heap.size) :
 Calls Tryz.prog 102 #[.agg (bdV An b.names.length cn At b.terms.length ct),.string name] w fun e w'=>my d w w' (cY b (bs name)) e:=by
 have HOK:=zu hok
 have HN:=zu hn
 have HT:=zu ht
 have hf:=hok.few
 have hlen:=hok.len
 have HLN:=zu hlen
 clear hok hn ht hlen
 unfold bdV
 go_enter Tryz.func102,Tryz.ntmps102
 go_wp2_with fail
 generalize hW:World.alloc _ _=w1
 obtain ⟨hb1,hz⟩:=al2 hW
 have b_b:=n21 hW
 have b_r:=n22 hW
 have HB1:=zu hb1
 clear hW hb1
 refine (gZ b.names An cn B name w1 (HN.out.keep HB1.out hB) (zv hB HB1.out.size) (by omega) HOK.out.rise).mono ?_
 rintro e w2 ⟨rfl,rfl⟩
 have BB:=zu b_b
 have BR:=zu b_r
 by_cases hm:bs name∈b.names
 ·have hp:=vT hm
  have hp2:io b.names (bs name)<b.terms.length:=by rw [←HLN.out];exact hp
  have HR:Hid (cY b (bs name)=some (b.terms[io b.names (bs name)])):=zu (by unfold cY;rw [if_pos hm,zD hp2])
  have hd:decide (bs name∈b.names)=true:=by simpa using hm
  rw [hd]
  have hB1:=zv hB HB1.out.size
  have HT1:=zu (HT.out.keep HB1.out hB)
  obtain ⟨b_,off,rfl,hob⟩:=HT1.out.base (zy _ _) hB1 (by omega)
  obtain ⟨x,vs,hx,hlen,hcell,hr⟩:=HT1.out.at_ (zy _ _) hB1 hp2
  obtain ⟨Ax,cx,rfl,g1,g2,g3,g4,g5,_⟩:=RTm.cells (show RTm w1 B (d+1) x vs from hr)
  have c0:w1.cell? ⟨b_,off+io b.names (bs name)*4,none⟩=some (.int .i64 x.kind):=hcell 0 _ rfl
  have c1:w1.cell? ⟨b_,off+io b.names (bs name)*4+1,none⟩=some (.int .i64 x.n):=hcell 1 _ rfl
  have c2:w1.cell? ⟨b_,off+io b.names (bs name)*4+2,none⟩=some (.string x.s):=hcell 2 _ rfl
  have c3:w1.cell? ⟨b_,off+io b.names (bs name)*4+3,none⟩=some (.slice Ax x.l.length cx):=hcell 3 _ rfl
  have hex:b.terms[io b.names (bs name)]=x:=by
   rw [zD hp2] at hx
   simpa using hx
  rw [hex] at HR
  have HF:Hid (af x=true):=zu (HOK.out.fixed x (List.mem_of_getElem? hx))
  have HXR:Hid (RL (TmR d) w1 B x.l Ax):=zu (jd.rl ‹jd w1 B (d+1-1) x.l Ax›)
  have HI:Hid (I64 x.kind∧I64 x.n∧x.s.size≤140737488351232):=zu ⟨‹_›,‹_›,‹_›⟩
  have k_b:=b_b.cell
  have l_b:=b_b.lt
  have l_r:=b_r.lt
  clear hcell hlen hx hr hex hm hd
  generalize io b.names (bs name)=p at *
  go_wp2_with fail
  generalize hW:World.alloc _ _=w2
  obtain ⟨hb2,hz2⟩:=al1 hW
  have b_x:=n11 hW
  rw [hz] at b_x
  have b_r2:=b_r.later hb2
  have HB2:=zu (aa HB1.out hb2)
  have HX2:=zu (HXR.out.keep hb2 hB1)
  clear hW
  obtain ⟨hle,hl16⟩:=aN HF.out
  have HLE:=zu hle
  clear hle
  refine (bU HX2.out (zv hB1 hb2.size) (by omega)).mono ?_
  rintro e w3 ⟨⟨v,rfl,hv⟩,hb⟩
  obtain ⟨A3,cc,rfl⟩:=hv.form
  have HV:=zu (hv.leaves HLE.out)
  have HB3:=zu (aa HB2.out hb)
  have b_r3:=b_r2.later hb
  have b_x3:=b_x.later hb
  clear hv hb
  have k_x:=b_x3.cell
  have l_x:=b_x3.lt
  have f_x:=b_x3.free
  have k_r:=b_r3.cell
  have f_r:=b_r3.free
  have l_r3:=b_r3.lt
  clear k_b l_b l_r c0 c1 c2 c3
  go_wp2_with fail
  have hbase:w2.heap.size=w.heap.size+1+1+1:=by omega
  have HO:TmOwn d w2.heap.size w3 x A3 cc:=⟨HV.out,HI.out.1,HI.out.2.1,HI.out.2.2,by omega⟩
  have HO4:=(HO.far (g:=w.heap.size+1+1) (i:=3) (by omega) (.slice A3 x.l.length cc)).put4 (g:=w.heap.size+1) (by omega) (.int .i64 x.kind) (.int .i64 x.n) (.string x.s) (.slice A3 x.l.length cc)
  have b_r4:=b_r3.far (c:=w.heap.size+1+1) (by omega) 3 (.slice A3 x.l.length cc)
  refine bodyPost_ret (al rfl rfl (dy b_r4 (.int .i64 x.kind) (.int .i64 x.n) (.string x.s) (.slice A3 x.l.length cc)) rfl) rfl ?_
  rw [HR.out]
  exact ⟨⟨A3,cc,rfl,HO4.lower (by omega)⟩,cB (HB3.out.setCell (p:=⟨w.heap.size+1+1,3,none⟩) (by show w.heap.size≤w.heap.size+1+1;omega) _) (by omega) _ _ _ _⟩
 ·have HR:Hid (cY b (bs name)=none):=zu (by unfold cY;rw [if_neg hm])
  have hd:decide (bs name∈b.names)=false:=by simpa using hm
  rw [hd]
  clear hm hd
  have k_r:=b_r.cell
  have f_r:=b_r.free
  go_wp2_with fail
  refine bodyPost_ret (al rfl rfl (dy BR.out (.int .i64 0) (.int .i64 0) (.string ⟨#[]⟩) (.slice none 0 0)) rfl) rfl ?_
  rw [HR.out]
  exact ⟨⟨none,0,rfl,TmOwn.no⟩,cB HB1.out (by omega) _ _ _ _⟩
end Go.Proofs.YtjpndglegpcdnaaGreat
