/-
  Plain data for the statements of this seat (terms, predicates, rules ..) and what it means that cells of memory read as such data. No Go text is walked here.
-/
import Derived.Test.YtjpndglegpcdnaaGreatRows
import Derived.WalkKit
import Derived.Lib.QuietBelow
import Derived.BigQuiet
import Derived.ProofKit
set_option linter.unusedVariables false
set_option linter.unusedSimpArgs false
set_option maxRecDepth 100000
set_option maxHeartbeats 8000000
namespace Go.Proofs.YtjpndglegpcdnaaGreat
open Go.RowKit
theorem yv {α:Type _}{x y:List α}:(x++y).length=x.length+y.length:=List.length_append
theorem yx(a b:Bool):((a&&b)=true)=(a=true∧b=true):=Bool.and_eq_true a b
def bH (o:Oper):Bool:=
 match o.op with
 | .move _ | .assign _ | .pick .. | .load .. | .binOp .. | .unOp .. | .convert .. | .fieldAddr .. | .field .. | .indexAddr .. | .index .. | .extract .. | .slice .. | .lookup .. | .makeInterface .. | .makeFunc .. | .typeAssert ..=>true
 | .call { callee:=.builtin .len,.. }=>true
 | _=>false
def ma (w:World) (v:Value) (r:Result Next):Prop:=r=.ok (.value v) w∨(r=.ok .skip w∧v=undef)
theorem ma.uniq {w:World} {v v':Value} {r:Result Next} (h:ma w v r) (h':ma w v' r):v=v':=by
 rcases h with h | ⟨h,e⟩<;>rcases h' with h' | ⟨h',e'⟩
 ·rw [h] at h';simp at h';exact h'
 ·rw [h] at h';simp at h'
 ·rw [h] at h';simp at h'
 ·rw [e,e']
theorem run_val {P:Program} (w:World) (s:Sem Value):((do pure (Next.value (←s)):Sem Next)).run P w=match s.run P w with | .ok x w'=>.ok (.value x) w' | .halt h w'=>.halt h w':=by
 rw [Sem.run_bind]
 cases s.run P w<;>simp [Result.andThen]
theorem bG {P:Program} {C:World→Prop} {w:World} {v:Value} (s:Sem Value) (h:Oper.quietUpon P C w v (((do pure (Next.value (←s)):Sem Next)).run P w)):ma w v (((do pure (Next.value (←s)):Sem Next)).run P w):=by
 rw [run_val] at h ⊢
 cases hs:s.run P w with
 | ok x w'=>
   rw [hs] at h
   simp only [Oper.quietUpon] at h
   obtain ⟨rfl,rfl⟩:=h
   exact .inl rfl
 | halt x w'=>rw [hs] at h;simp only [Oper.quietUpon] at h
theorem lq {P:Program} {C:World→Prop} {w:World} {v:Value} {ρ:Operand→Value} {o:Oper} (h:bH o=true) (hq:Oper.quietUpon P C w v ((execOp ρ o).run P w)):ma w v ((execOp ρ o).run P w):=by
 obtain ⟨dst,op,type,pos,after,guard⟩:=o
 cases op with
 | move x=>simp only [execOp,Sem.run_pure,Oper.quietUpon] at hq;simp only [execOp,Sem.run_pure];exact .inl (by rw [hq.2])
 | assign x=>simp only [execOp,Sem.run_pure,Oper.quietUpon] at hq;simp only [execOp,Sem.run_pure];exact .inl (by rw [hq.2])
 | pick c a b=>
   simp only [execOp,Sem.run_bind] at hq ⊢
   cases hs:(asBool (ρ c)).run P w with
   | ok x w'=>
     rw [hs] at hq
     simp only [Result.andThen,Sem.run_pure,Oper.quietUpon] at hq ⊢
     obtain ⟨rfl,rfl⟩:=hq
     exact .inl rfl
   | halt x w'=>rw [hs] at hq;simp [Result.andThen,Oper.quietUpon] at hq
 | load t a=>exact bG _ hq
 | binOp op xt x y yt=>exact bG _ hq
 | unOp op xt x=>exact bG _ hq
 | convert s d x=>exact bG _ hq
 | fieldAddr s x f=>exact bG _ hq
 | field s x f=>exact bG _ hq
 | indexAddr t x i=>exact bG _ hq
 | index t x i=>exact bG _ hq
 | extract x i=>exact bG _ hq
 | slice t x lo hi mx=>exact bG _ hq
 | lookup t x i ok=>exact bG _ hq
 | makeInterface t x=>exact bG _ hq
 | makeFunc f a b=>exact bG _ hq
 | typeAssert x t a ok=>exact bG _ hq
 | call c=>
   obtain ⟨callee,args,at_⟩:=c
   cases callee with
   | builtin b=>
     cases b with
     | len=>
       have e:(execOp ρ { dst:=dst,op:=Op.call { callee:=Callee.builtin Builtin.len,args:=args,argTypes:=at_ },type:=type,pos:=pos,after:=after,guard:=guard }).run P w
        = ((do pure (Next.value (←Builtin.len_ at_ type (args.map ρ))):Sem Next)).run P w:=by
        simp only [execOp,resolve,invoke,builtin,Sem.run_bind,Sem.run_pure,Result.andThen_ok]
       rw [e] at hq ⊢
       exact bG _ hq
     | _=>exact absurd h (by simp [bH])
   | value f=>exact absurd h (by simp [bH])
   | invoke r m=>exact absurd h (by simp [bH])
 | _=>exact absurd h (by simp [bH])
section
variable {P:Program} {ops:Array Oper} {C:World→Prop}
def Yld (P:Program) (ops:Array Oper) (C:World→Prop) (o:Oper) (v:Value) (a:Act):Prop:=
 (Region.wanted o (yielded ops a.tmps)=true∧∀w,C w→ma w v ((execOp a.eval o).run P w))∨(Region.wanted o (yielded ops a.tmps)=false∧v=undef)
theorem Yld.uniq {o:Oper} {v v':Value} {a:Act} {w:World} (hC:C w) (h:Yld P ops C o v a) (h':Yld P ops C o v' a):v=v':=by
 rcases h with ⟨h1,h2⟩ | ⟨h1,h2⟩<;>rcases h' with ⟨h3,h4⟩ | ⟨h3,h4⟩
 ·exact (h2 w hC).uniq (h4 w hC)
 ·rw [h1] at h3;cases h3
 ·rw [h1] at h3;cases h3
 ·rw [h2,h4]
theorem Yld.of_same {o:Oper} {v:Value} {a a':Act} (hy:Yld P ops C o v a) (he:execOp a'.eval o=execOp a.eval o)
 (hw:Region.wanted o (yielded ops a'.tmps)=Region.wanted o (yielded ops a.tmps)):Yld P ops C o v a':=by
 unfold Yld at *
 rw [he,hw]
 exact hy
def NoQ:Exit→Act→World→Prop:=fun _ _ _=>False
def nL (P:Program) (ops:Array Oper) (C:World→Prop) (o:Oper) (K:Act→World→Prop) (a:Act) (w:World):Prop:=
 if Region.wanted o (yielded ops a.tmps)=true then o.wp P a w (fun a' w'=>C w'∧K a' w') NoQ else K (a.put o.dst undef) w
def ed (P:Program) (ops:Array Oper) (C:World→Prop) (i:Nat) (K:Act→World→Prop) (a:Act) (w:World):Prop:=
 match ops[i]? with
 | none=>K a w
 | some o=>if bH o=true then ∃v,Yld P ops C o v a∧K (a.put o.dst v) w else nL P ops C o K a w
def iN (P:Program) (ops:Array Oper) (C:World→Prop) (Qf:Act→World→Prop):List Nat→Act→World→Prop
 | [],a,w=>Qf a w
 | i::rest,a,w=>ed P ops C i (iN P ops C Qf rest) a w
theorem nL.mono {o:Oper} {K K':Act→World→Prop} {a:Act} {w:World} (h:∀a w,(C w→K a w→K' a w)) (hC:C w) (hl:nL P ops C o K a w):nL P ops C o K' a w:=by
 unfold nL at *
 split
 ·rename_i hw
  rw [if_pos hw] at hl
  exact Oper.wp_mono (fun a w ⟨h1,h2⟩=>⟨h1,h a w h1 h2⟩) hl
 ·rename_i hw
  rw [if_neg hw] at hl
  exact h _ _ hC hl
theorem ed.mono {i:Nat} {K K':Act→World→Prop} {a:Act} {w:World} (h:∀a w,(C w→K a w→K' a w)) (hC:C w) (hm:ed P ops C i K a w):ed P ops C i K' a w:=by
 unfold ed at *
 split
 ·rename_i ho;rw [ho] at hm;exact h _ _ hC hm
 ·rename_i o ho
  rw [ho] at hm
  dsimp only at hm
  split
  ·rename_i hq
   rw [if_pos hq] at hm
   obtain ⟨v,h1,h2⟩:=hm
   exact ⟨v,h1,h _ _ hC h2⟩
  ·rename_i hq
   rw [if_neg hq] at hm
   exact nL.mono h hC hm
theorem sV {o:Oper} {a:Act} {w:World} {K:Act→World→Prop} (h:o.wp P a w K NoQ):∃(a0:Act) (u:Value) (w':World),a0.tmps=a.tmps∧K (a0.put o.dst u) w':=by
 unfold Oper.wp at h
 generalize (execOp a.eval o).run P w=r at h
 cases r with
 | ok n w'=>
   cases n<;>simp only [Oper.upon] at h
   case value u=>exact ⟨a,u,w',rfl,h⟩
   case skip=>exact ⟨a,undef,w',rfl,h⟩
   case defer d=>exact ⟨{ a with defers:=d::a.defers },undef,w',rfl,h⟩
   case enter f args=>
    obtain ⟨e,w'',fr,he,_⟩:=h []
    cases e with
    | returned u=>exact ⟨a,u,w'',rfl,he⟩
    | panicked c=>exact he.elim
    | outgrown=>obtain ⟨_,_,hf⟩:=he;exact hf.elim
   case row row args=>
    obtain ⟨u,w'',hr,_⟩:=h default []
    exact ⟨a,u,w'',rfl,hr⟩
 | halt x w'=>
   cases x<;>simp only [Oper.upon] at h
   case panic v=>exact h.elim
theorem wp_put {o:Oper} {a:Act} {w:World} {K:Act→World→Prop} {dst:Option Tmp} {v:Value} (hs:∀cs b,o.op≠.select cs b) (h1:∀d,dst=some d→d∉o.looksAt ops) (h2:∀d,dst=some d→o.dst≠some d)
 (h:o.wp P a w (fun a' w'=>K (a'.put dst v) w') NoQ):o.wp P (a.put dst v) w K NoQ:=by
 unfold Oper.wp at *
 rw [execOp_put o hs a dst v h1]
 generalize (execOp a.eval o).run P w=r at *
 cases r with
 | ok n w'=>
   cases n<;>simp only [Oper.upon] at h ⊢
   case value u=>rw [Act.put_comm a v u h2];exact h
   case skip=>rw [Act.put_comm a v undef h2];exact h
   case defer d=>
    have e:({ (a.put dst v) with defers:=d::(a.put dst v).defers }:Act)=({ a with defers:=d::a.defers }:Act).put dst v:=by cases dst<;>rfl
    rw [e,Act.put_comm _ v undef h2]
    exact h
   case enter f args=>
    refine Calls.mono h fun e w'' he=>?_
    cases e with
    | returned u=>show K _ _;rw [Act.put_comm a v u h2];exact he
    | panicked c=>exact he
    | outgrown=>exact he
   case row row args=>exact Rows.mono h fun u w'' he=>by rw [Act.put_comm a v u h2];exact he
 | halt x w'=>
   cases x<;>simp only [Oper.upon] at h ⊢
   case panic u=>exact h
theorem xE {o:Oper} {a:Act} {w:World} {K:Act→World→Prop} {dst:Option Tmp} {v:Value} (hs:∀cs b,o.op≠.select cs b) (h1:∀d,dst=some d→d∉o.looksAt ops) (h2:∀d,dst=some d→o.dst≠some d)
 (h:o.wp P (a.put dst v) w K NoQ):o.wp P a w (fun a' w'=>K (a'.put dst v) w') NoQ:=by
 unfold Oper.wp at *
 rw [execOp_put o hs a dst v h1] at h
 generalize (execOp a.eval o).run P w=r at *
 cases r with
 | ok n w'=>
   cases n<;>simp only [Oper.upon] at h ⊢
   case value u=>rw [Act.put_comm a v u h2] at h;exact h
   case skip=>rw [Act.put_comm a v undef h2] at h;exact h
   case defer d=>
    have e:({ (a.put dst v) with defers:=d::(a.put dst v).defers }:Act)=({ a with defers:=d::a.defers }:Act).put dst v:=by cases dst<;>rfl
    rw [e,Act.put_comm _ v undef h2] at h
    exact h
   case enter f args=>
    refine Calls.mono h fun e w'' he=>?_
    cases e with
    | returned u=>
      have he:K ((a.put dst v).put o.dst u) w'':=he
      rw [Act.put_comm a v u h2] at he;exact he
    | panicked c=>exact he
    | outgrown=>exact he
   case row row args=>exact Rows.mono h fun u w'' he=>by rw [Act.put_comm a v u h2] at he;exact he
 | halt x w'=>
   cases x<;>simp only [Oper.upon] at h ⊢
   case panic u=>exact h
theorem wp_noQ {o:Oper} {a:Act} {w:World} {K:Act→World→Prop} {Q:Exit→Act→World→Prop} (h:o.wp P a w K NoQ):o.wp P a w K Q:=by
 unfold Oper.wp at *
 generalize (execOp a.eval o).run P w=r at *
 cases r with
 | ok n w'=>
   cases n<;>simp only [Oper.upon] at h ⊢
   all_goals first
    | exact h
    | exact Calls.mono h (fun e w'' he=>by
     cases e with
     | returned u=>exact he
     | panicked c=>exact he.elim
     | outgrown=>obtain ⟨_,_,hf⟩:=he;exact hf.elim)
 | halt x w'=>
   cases x<;>simp only [Oper.upon] at h ⊢
   case panic u=>exact h.elim
theorem Yld.of_tmps {o:Oper} {v:Value} {a a':Act} (hy:Yld P ops C o v a) (h:a'.tmps=a.tmps):Yld P ops C o v a':=by
 have he:a'.eval=a.eval:=by funext x;cases x<;>simp [Act.eval,h]
 exact hy.of_same (by rw [he]) (by rw [h])
theorem vA {o:Oper} {a:Act} {w:World} {K:Act→World→Prop} {Y:Act→Prop} (hY:∀(a0:Act) (u:Value),a0.tmps=a.tmps→Y (a0.put o.dst u)) (h:o.wp P a w K NoQ):o.wp P a w (fun a' w'=>Y a'∧K a' w') NoQ:=by
 unfold Oper.wp at *
 generalize (execOp a.eval o).run P w=r at *
 cases r with
 | ok n w'=>
   cases n<;>simp only [Oper.upon] at h ⊢
   case value u=>exact ⟨hY a u rfl,h⟩
   case skip=>exact ⟨hY a undef rfl,h⟩
   case defer d=>exact ⟨hY { a with defers:=d::a.defers } undef rfl,h⟩
   case enter f args=>
    refine Calls.mono h fun e w'' he=>?_
    cases e with
    | returned u=>exact ⟨hY a u rfl,he⟩
    | panicked c=>exact he
    | outgrown=>exact he
   case row row args=>exact Rows.mono h fun u w'' he=>⟨hY a u rfl,he⟩
 | halt x w'=>
   cases x<;>simp only [Oper.upon] at h ⊢
   case panic u=>exact h
theorem sK {j:Nat} {oi oj:Oper} {v:Value} {K:Act→World→Prop} {a:Act} {w:World} (hj:ops[j]? = some oj) (hap:oi.apart ops oj=true)
 (hsi:∀cs b,oi.op≠.select cs b) (hsj:∀cs b,oj.op≠.select cs b) (hy:Yld P ops C oi v a) (h:ed P ops C j K (a.put oi.dst v) w) :
 ed P ops C j (fun a' w'=>Yld P ops C oi v a'∧K (a'.put oi.dst v) w') a w:=by
 obtain ⟨h1,h2,h3⟩:=Oper.apart_spec hap
 have keep:∀(a0:Act) (u:Value),a0.tmps=a.tmps→Yld P ops C oi v (a0.put oj.dst u):=fun a0 u e=>(hy.of_tmps e).of_same (execOp_put oi hsi a0 oj.dst u h3) (wanted_put oi a0 oj.dst u h3)
 unfold ed at *
 rw [hj] at h ⊢
 dsimp only at h ⊢
 split
 ·rename_i hq
  rw [if_pos hq] at h
  obtain ⟨u,hu,hk⟩:=h
  refine ⟨u,hu.of_same (execOp_put oj hsj a oi.dst v h1).symm (wanted_put oj a oi.dst v h1).symm,keep a u rfl,?_⟩
  rw [←Act.put_comm a v u h2];exact hk
 ·rename_i hq
  rw [if_neg hq] at h
  unfold nL at *
  rw [wanted_put oj a oi.dst v h1] at h
  split
  ·rename_i hw
   rw [if_pos hw] at h
   have h':=vA (Y:=fun a'=>Yld P ops C oi v a') (fun a0 u e=>keep a0 u e) (xE hsj h1 h2 h)
   exact Oper.wp_mono (fun a' w' ⟨x,y,z⟩=>⟨y,x,z⟩) h'
  ·rename_i hw
   rw [if_neg hw] at h
   refine ⟨keep a undef rfl,?_⟩
   rw [←Act.put_comm a v undef h2];exact h
theorem vh {oi oj:Oper} {R N:Act→World→Prop} {a:Act} {w:World} (hap:oi.apart ops oj=true)
 (hsi:∀cs b,oi.op≠.select cs b) (hsj:∀cs b,oj.op≠.select cs b) (hC:C w)
 (hR:∀a' w',C w'→R a' w'→∃v,Yld P ops C oj v a'∧N (a'.put oj.dst v) w') (h:nL P ops C oi R a w) :
 ∃v,Yld P ops C oj v a∧nL P ops C oi N (a.put oj.dst v) w:=by
 obtain ⟨h1,h2,h3⟩:=Oper.apart_spec hap
 have h2':∀d,oj.dst=some d→oi.dst≠some d:=fun d hd he=>h2 d he hd
 unfold nL at h
 by_cases hw:Region.wanted oi (yielded ops a.tmps)=true
 ·rw [if_pos hw] at h
  obtain ⟨a0,u,w0,e0,hC0,hr0⟩:=sV h
  obtain ⟨v,hv,_⟩:=hR _ _ hC0 hr0
  have hva0:Yld P ops C oj v a0:=hv.of_same (execOp_put oj hsj a0 oi.dst u h1).symm (wanted_put oj a0 oi.dst u h1).symm
  have hva:Yld P ops C oj v a:=hva0.of_tmps e0.symm
  refine ⟨v,hva,?_⟩
  unfold nL
  rw [wanted_put oi a oj.dst v h3,if_pos hw]
  refine wp_put hsi h3 h2' ?_
  have hY:∀(b0:Act) (u:Value),b0.tmps=a.tmps→Yld P ops C oj v (b0.put oi.dst u):=fun b0 u e=>(hva.of_tmps e).of_same (execOp_put oj hsj b0 oi.dst u h1) (wanted_put oj b0 oi.dst u h1)
  refine Oper.wp_mono (fun a' w' ⟨y,hc,hr⟩=>?_) (vA (Y:=fun a'=>Yld P ops C oj v a') hY h)
  obtain ⟨v',hv',hn⟩:=hR a' w' hc hr
  have:=y.uniq hc hv'
  subst this
  exact ⟨hc,hn⟩
 ·rw [if_neg hw] at h
  obtain ⟨v,hv,hn⟩:=hR _ _ hC h
  refine ⟨v,hv.of_same (execOp_put oj hsj a oi.dst undef h1).symm (wanted_put oj a oi.dst undef h1).symm,?_⟩
  unfold nL
  rw [wanted_put oi a oj.dst v h3,if_neg hw,Act.put_comm a v undef h2']
  exact hn
structure Graph (ops:Array Oper):Prop where
 sel:∀(j:Nat) (o:Oper) cs b,ops[j]? = some o→o.op≠.select cs b
 back:∀j o,ops[j]? = some o→∀e∈o.after,Region.binds .any e=true→e.on<j
 pair:∀i j oi oj,i<j→ops[i]? = some oi→ops[j]? = some oj→(∀e∈oj.after,Region.binds .any e=true→e.on≠i)→oi.apart ops oj=true
 chain:∀i j oi oj,i<j→ops[i]? = some oi→ops[j]? = some oj→bH oi=false→bH oj=false →
  ∀listed:Array Bool,(∀k ok,ops[k]? = some ok→listed.getD k false=true→∀e∈ok.after,Region.binds .any e=true→listed.getD e.on false=true) →
  (∀e∈oj.after,Region.binds .any e=true→listed.getD e.on false=true)→listed.getD i false=true
theorem rg (G:Graph ops) {Qf:Act→World→Prop} {j:Nat} {oj:Oper} (hj:ops[j]? = some oj):∀(R:List Nat) (a:Act) (w:World),R.Pairwise (· < ·)→(∀i∈R,∃o,ops[i]? = some o)→j∈R →
 (∀i∈R,∀e∈oj.after,Region.binds .any e=true→e.on≠i)→(bH oj=false→∀i∈R,i<j→∀oi,ops[i]? = some oi→bH oi=true)→C w →
 iN P ops C Qf R a w→ed P ops C j (fun a' w'=>iN P ops C Qf (R.erase j) a' w') a w
 | [],_,_,_,_,hjR,_,_,_,_=>by cases hjR
 | i::R,a,w,hs,hin,hjR,hno,hld,hC,h=>by
   by_cases hij:i=j
   ·subst hij
    rw [List.erase_cons_head]
    exact h
   ·have hjR':j∈R:=by
     rcases List.mem_cons.1 hjR with e | e
     ·exact absurd e.symm hij
     ·exact e
    rw [List.pairwise_cons] at hs
    have hlt:i<j:=hs.1 j hjR'
    obtain ⟨oi,hoi⟩:=hin i (by simp)
    have hap:=G.pair i j oi oj hlt hoi hj (hno i (by simp))
    have hsi:=fun cs b=>G.sel i oi cs b hoi
    have hsj:=fun cs b=>G.sel j oj cs b hj
    have herase:(i::R).erase j=i::R.erase j:=by rw [List.erase_cons_tail];simpa using hij
    rw [herase]
    have ih:=fun a' w' (hc:C w')=>rg G (Qf:=Qf) hj R a' w' hs.2 (fun k hk=>hin k (by simp [hk])) hjR' (fun k hk=>hno k (by simp [hk])) (fun hq k hk=>hld hq k (by simp [hk])) hc
    have h':ed P ops C i (iN P ops C Qf R) a w:=h
    unfold ed at h'
    rw [hoi] at h'
    dsimp only at h'
    by_cases hq:bH oi=true
    ·rw [if_pos hq] at h'
     obtain ⟨v,hy,hr⟩:=h'
     have h1:=ih _ _ hC hr
     have h2:=sK hj hap hsi hsj hy h1
     refine ed.mono (fun a' w' hc ⟨y,k⟩=>?_) hC h2
     show ed P ops C i _ a' w'
     unfold ed
     rw [hoi]
     dsimp only
     rw [if_pos hq]
     exact ⟨v,y,k⟩
    ·rw [if_neg hq] at h'
     have hqj:bH oj=true:=by
      cases hqj:bH oj with
      | true=>rfl
      | false=>exact absurd (hld hqj i (by simp) hlt oi hoi) hq
     obtain ⟨v,hv,hn⟩:=vh (N:=iN P ops C Qf (R.erase j)) hap hsi hsj hC (fun a' w' hc hr=>by
      have:=ih a' w' hc hr
      unfold ed at this
      rw [hj] at this
      dsimp only at this
      rw [if_pos hqj] at this
      exact this) h'
     unfold ed
     rw [hj]
     dsimp only
     rw [if_pos hqj]
     refine ⟨v,hv,?_⟩
     show ed P ops C i _ _ _
     unfold ed
     rw [hoi]
     dsimp only
     rw [if_neg hq]
     exact hn
theorem nE {Q:Exit→Act→World→Prop} {j:Nat} {oj:Oper} (hj:ops[j]? = some oj) {K K':Act→World→Prop} {a:Act} {w:World} (hC:C w) (h:∀a' w',C w'→K a' w'→K' a' w') (hm:ed P ops C j K a w):wpOp P ops Q j K' a w:=by
 unfold ed at hm
 unfold wpOp
 rw [hj] at hm ⊢
 dsimp only at hm ⊢
 split
 ·rename_i hw
  refine .inl ?_
  split at hm
  ·obtain ⟨v,hy,hk⟩:=hm
   rcases hy with ⟨_,hp⟩ | ⟨hw',_⟩
   ·unfold Oper.wp
    rcases hp w hC with e | ⟨e,e'⟩
    ·rw [e];exact h _ _ hC hk
    ·rw [e];subst e';exact h _ _ hC hk
   ·rw [hw] at hw';cases hw'
  ·unfold nL at hm
   rw [if_pos hw] at hm
   exact wp_noQ (Oper.wp_mono (fun a' w' ⟨hc,hk⟩=>h a' w' hc hk) hm)
 ·rename_i hw
  split at hm
  ·obtain ⟨v,hy,hk⟩:=hm
   rcases hy with ⟨hw',_⟩ | ⟨_,e⟩
   ·exact absurd hw' hw
   ·subst e;exact h _ _ hC hk
  ·unfold nL at hm
   rw [if_neg hw] at hm
   exact h _ _ hC hm
theorem mix_any (G:Graph ops) {Qf:Act→World→Prop} {Q:Exit→Act→World→Prop} (hQ:∀a w,C w→Qf a w→Q .normal a w):∀(R:List Nat) (listed:Array Bool) (a:Act) (w:World),R.Pairwise (· < ·) →
 (∀i,i∈R↔i<ops.size∧listed.getD i true=false)→listed.size=ops.size →
 (∀k ok,ops[k]? = some ok→listed.getD k false=true→∀e∈ok.after,Region.binds .any e=true→listed.getD e.on false=true)→C w →
 iN P ops C Qf R a w→wpAny P .any ops Q R.length listed a w:=by
 intro R
 generalize hn:R.length=n
 induction n generalizing R with
 | zero=>
   intro listed a w hs hR hsz hcl hC h
   obtain rfl:=List.eq_nil_of_length_eq_zero hn
   refine ⟨?_,hQ a w hC h⟩
   rw [List.eq_nil_iff_forall_not_mem]
   intro i hi
   obtain ⟨h1,o,ho,_⟩:=mem_ready.1 hi
   have:=(hR i).2 ⟨(Array.getElem?_eq_some_iff.1 ho).1,h1⟩
   cases this
 | succ n ih=>
   intro listed a w hs hR hsz hcl hC h
   have inb:∀i∈R,∃o,ops[i]? = some o:=fun i hi=>⟨_,Array.getElem?_eq_getElem ((hR i).1 hi).1⟩
   have two:∀k,k<ops.size→listed.getD k true=listed.getD k false:=fun k hk=>by
    have:k<listed.size:=by omega
    simp [this]
   refine ⟨fun hr=>?_,fun j hjr=>?_⟩
   ·exfalso
    match R,hn with
    | i::R',_=>
      have hi:=(hR i).1 (by simp)
      obtain ⟨o,ho⟩:=inb i (by simp)
      have:i∈Region.ready .any ops listed:=mem_ready.2 ⟨hi.2,o,ho,fun e he hb=>by
       have hlt:=G.back i o ho e he hb
       have hnot:e.on∉i::R':=fun hm=>by
        rcases List.mem_cons.1 hm with e1 | e1
        ·omega
        ·have:=(List.pairwise_cons.1 hs).1 _ e1;omega
       have:=mt (hR e.on).2 hnot
       have hsz':e.on<ops.size:=by have:=hi.1;omega
       rw [←two _ hsz']
       cases hh:listed.getD e.on true with
       | true=>rfl
       | false=>exact absurd ⟨hsz',hh⟩ this⟩
      rw [hr] at this
      cases this
   ·obtain ⟨hun,oj,hoj,hall⟩:=mem_ready.1 hjr
    have hjs:j<ops.size:=(Array.getElem?_eq_some_iff.1 hoj).1
    have hjR:j∈R:=(hR j).2 ⟨hjs,hun⟩
    have hlst:∀i∈R,listed.getD i false=false:=fun i hi=>by rw [←two i ((hR i).1 hi).1];exact ((hR i).1 hi).2
    have h1:=rg G hoj R a w hs inb hjR (fun i hi e he hb heq=>by
     have:=hall e he hb
     rw [heq,hlst i hi] at this
     cases this) (fun hq i hi hlt oi hoi=>by
     cases hqi:bH oi with
     | true=>rfl
     | false=>
       have:=G.chain i j oi oj hlt hoi hoj hqi hq listed hcl hall
       rw [hlst i hi] at this
       cases this) hC h
    refine nE hoj hC (fun a' w' hc hk=>?_) h1
    refine ih (R.erase j) (by rw [List.length_erase_of_mem hjR,hn];rfl) (listed.setIfInBounds j true) a' w' (hs.sublist List.erase_sublist) (fun i=>?_) (by simp [hsz]) (fun k ok hok hl e he hb=>?_) hc hk
    ·have hnd:R.Nodup:=hs.imp (fun h=>Nat.ne_of_lt h)
     rw [hnd.mem_erase_iff,hR]
     by_cases hij:i=j
     ·subst hij
      simp [hsz]
     ·rw [getD_set_ne true (Ne.symm hij)]
      simp [hij]
    ·by_cases hkj:k=j
     ·subst hkj
      rw [hoj] at hok
      obtain rfl:=Option.some.inj hok
      exact getD_set_true (hall e he hb)
     ·rw [getD_set_ne false (Ne.symm hkj)] at hl
      exact getD_set_true (hcl k ok hok hl e he hb)
end
def oE (o:Oper) (acc:List Nat):Nat:=o.after.toList.foldl (fun s e=>if Region.binds .any e then s ||| 2 ^ e.on ||| acc.getD e.on 0 else s) 0
def ya:List Oper→List Nat→List Nat
 | [],acc=>acc
 | o::r,acc=>ya r (acc++[oE o acc])
def tV (ops:Array Oper):Bool:=
 Region.noSelect ops &&
 (List.range ops.size).all (fun j=>match ops[j]? with | some o=>o.after.all (fun e=>!Region.binds .any e||decide (e.on<j)) | none=>true) &&
 (List.range ops.size).all (fun j=>(List.range j).all fun i=>match ops[i]?,ops[j]? with
  | some oi,some oj=>(oj.after.any fun e=>Region.binds .any e&&e.on==i)||oi.apart ops oj
  | _,_=>true) &&
 (let m:=ya ops.toList []
  (List.range ops.size).all fun j=>(List.range j).all fun i=>match ops[i]?,ops[j]? with
   | some oi,some oj=>bH oi||bH oj||(m.getD j 0).testBit i
   | _,_=>true)
def Closed (ops:Array Oper) (listed:Array Bool):Prop:=∀k ok,ops[k]? = some ok→listed.getD k false=true→∀e∈ok.after,Region.binds .any e=true→listed.getD e.on false=true
def qB (ops:Array Oper) (o:Oper) (i:Nat):Prop:=∀listed,Closed ops listed→(∀e∈o.after,Region.binds .any e=true→listed.getD e.on false=true)→listed.getD i false=true
theorem qb {ops:Array Oper} {o:Oper} {acc:List Nat} (hacc:∀k ok i,ops[k]? = some ok→k<acc.length→(acc.getD k 0).testBit i=true→qB ops ok i) (hb:∀e∈o.after,Region.binds .any e=true→e.on<acc.length∧∃ok,ops[e.on]? = some ok)
 {i:Nat} (h:(oE o acc).testBit i=true):qB ops o i:=by
 intro listed hcl hdep
 have key:∀(l:List Edge) (s:Nat),(∀e∈l,e∈o.after.toList)→(s.testBit i=true→listed.getD i false=true)→(l.foldl (fun s e=>if Region.binds .any e then s ||| 2 ^ e.on ||| acc.getD e.on 0 else s) s).testBit i=true→listed.getD i false=true:=by
  intro l
  induction l with
  | nil=>intro s _ hs h;exact hs h
  | cons e l ih=>
    intro s hl hs h
    refine ih _ (fun e' h'=>hl e' (by simp [h'])) ?_ h
    intro h2
    have he:e∈o.after:=by simpa using hl e (by simp)
    dsimp only at h2
    split at h2
    ·rename_i hbind
     rw [Nat.testBit_or,Nat.testBit_or,Bool.or_eq_true,Bool.or_eq_true] at h2
     have hdl:=hdep e he hbind
     rcases h2 with (h2 | h2) | h2
     ·exact hs h2
     ·rw [Nat.testBit_two_pow] at h2
      have:e.on=i:=by simpa using h2
      rw [←this];exact hdl
     ·obtain ⟨h3,ok,h4⟩:=hb e he hbind
      exact hacc e.on ok i h4 h3 h2 listed hcl (hcl e.on ok h4 hdl)
    ·exact hs h2
 exact key o.after.toList 0 (fun e h=>h) (by simp) h
theorem mu {ops:Array Oper} (hb:∀j o,ops[j]? = some o→∀e∈o.after,Region.binds .any e=true→e.on<j):∀(l:List Oper) (acc:List Nat),(∀j,l[j]? = ops[acc.length+j]?) →
 (∀k ok i,ops[k]? = some ok→k<acc.length→(acc.getD k 0).testBit i=true→qB ops ok i) →
 ∀k ok i,ops[k]? = some ok→k<acc.length+l.length→((ya l acc).getD k 0).testBit i=true→qB ops ok i
 | [],acc,_,hacc,k,ok,i,hk,hlt,h=>hacc k ok i hk (by simpa using hlt) h
 | o::l,acc,hl,hacc,k,ok,i,hk,hlt,h=>by
   have h0:ops[acc.length]? = some o:=by simpa using (hl 0).symm
   refine mu hb l (acc++[oE o acc]) (fun j=>?_) ?_ k ok i hk (by simp at hlt ⊢;omega) h
   ·have:=hl (j+1)
    simpa [Nat.add_assoc,Nat.add_comm 1 j] using this
   ·intro k ok i hk hlt h
    simp only [yv,List.length_singleton] at hlt
    rcases Nat.lt_or_ge k acc.length with h1 | h1
    ·rw [List.getD_eq_getElem?_getD,List.getElem?_append_left h1,←List.getD_eq_getElem?_getD] at h
     exact hacc k ok i hk h1 h
    ·obtain rfl:k=acc.length:=by omega
     rw [h0] at hk
     obtain rfl:=Option.some.inj hk
     have:(acc++[oE o acc]).getD acc.length 0=oE o acc:=by simp
     rw [this] at h
     refine qb hacc (fun e he hbind=>?_) h
     have h2:=hb acc.length o h0 e he hbind
     refine ⟨h2,?_⟩
     have:acc.length<ops.size:=(Array.getElem?_eq_some_iff.1 h0).1
     exact ⟨_,Array.getElem?_eq_getElem (by omega)⟩
theorem wB {ops:Array Oper} (h:tV ops=true):Graph ops:=by
 unfold tV at h
 simp only [yx] at h
 obtain ⟨⟨⟨h1,h2⟩,h3⟩,h4⟩:=h
 have hback:∀j o,ops[j]? = some o→∀e∈o.after,Region.binds .any e=true→e.on<j:=by
  intro j o hj e he hb
  have:=List.all_eq_true.1 h2 j (List.mem_range.2 (Array.getElem?_eq_some_iff.1 hj).1)
  rw [hj] at this
  have:=Array.all_eq_true'.1 this e he
  simpa [hb] using this
 refine ⟨fun j o cs b hj=>Region.noSelect_spec h1 j o cs b hj,hback,?_,?_⟩
 ·intro i j oi oj hij hi hj hno
  have:=List.all_eq_true.1 h3 j (List.mem_range.2 (Array.getElem?_eq_some_iff.1 hj).1)
  have:=List.all_eq_true.1 this i (List.mem_range.2 hij)
  rw [hi,hj] at this
  simp only [Bool.or_eq_true] at this
  rcases this with h | h
  ·obtain ⟨e,he,hb⟩:=Array.any_eq_true'.1 h
   simp only [yx,beq_iff_eq] at hb
   exact absurd hb.2 (hno e he hb.1)
  ·exact h
 ·intro i j oi oj hij hi hj hqi hqj listed hcl hdep
  have:=List.all_eq_true.1 h4 j (List.mem_range.2 (Array.getElem?_eq_some_iff.1 hj).1)
  have:=List.all_eq_true.1 this i (List.mem_range.2 hij)
  rw [hi,hj] at this
  simp only [hqi,hqj,Bool.false_or] at this
  have hB:=mu hback ops.toList [] (fun j=>by simp) (fun k ok i _ hlt=>absurd hlt (by simp)) j oj i hj (by simpa using (Array.getElem?_eq_some_iff.1 hj).1) this
  exact hB listed hcl hdep
section
variable {P:Program} {ops:Array Oper} {C:World→Prop} {Qf:Act→World→Prop}
def gG (P:Program) (ops:Array Oper) (C:World→Prop) (Qf:Act→World→Prop):List Oper→Act→World→Prop
 | [],a,w=>Qf a w
 | o::rest,a,w=>if bH o=true then ∃v,Yld P ops C o v a∧gG P ops C Qf rest (a.put o.dst v) w else nL P ops C o (gG P ops C Qf rest) a w
theorem vz (l:List Oper):∀k,(∀j,l[j]? = ops[k+j]?)→iN P ops C Qf (List.range' k l.length)=gG P ops C Qf l:=by
 induction l with
 | nil=>intro k _;rfl
 | cons o l ih=>
   intro k h
   have h0:ops[k]? = some o:=by simpa using (h 0).symm
   have ih':=ih (k+1) (fun j=>by have:=h (j+1);simpa [Nat.add_assoc,Nat.add_comm 1 j] using this)
   funext a w
   show ed P ops C k (iN P ops C Qf (List.range' (k+1) l.length)) a w=_
   rw [ih']
   unfold ed
   rw [h0]
   rfl
theorem uO (m j:Nat):(Array.replicate m false).getD j false=false:=by
 rcases Nat.lt_or_ge j m with h | h
 ·simp [h]
 ·simp [h]
theorem cP {id:Nat} {Q:Exit→Act→World→Prop} {a:Act} {w:World} {l:List Oper} (C:World→Prop) (hm:P.follows .mixedOrders=true) (hB:tV l.toArray=true) (hC:C w.drew)
 (h:gG P l.toArray C (fun a' w'=>C w'→Q .normal a' w') l a w.drew):(Code.region id l.toArray true).wp P Q a w:=by
 have G:=wB hB
 refine wp_region_any hm ?_
 have h1:iN P l.toArray C (fun a' w'=>C w'→Q .normal a' w') (List.range l.length) a w.drew:=by
  rw [List.range_eq_range',vz l 0 (by simp)]
  exact h
 have:=mix_any G (Q:=Q) (fun a w hc h=>h hc) (List.range l.length) (Array.replicate l.toArray.size false) a w.drew List.pairwise_lt_range (fun i=>by
  rw [List.mem_range]
  constructor
  ·intro hi
   exact ⟨by simpa using hi,by simp [hi]⟩
  ·intro hi
   simpa using hi.1) (by simp) (fun k ok hk hl=>by
    have:(Array.replicate l.toArray.size false).getD k false=false:=by
     exact uO _ _
    rw [this] at hl
    cases hl) hC h1
 simpa using this
theorem ld {a:Act} {w:World} (h:Qf a w):gG P ops C Qf [] a w:=h
theorem wQ {o:Oper} {rest:List Oper} {a:Act} {w:World} (hw:Region.wanted o (yielded ops a.tmps)=false) (h:gG P ops C Qf rest (a.put o.dst undef) w):gG P ops C Qf (o::rest) a w:=by
 unfold gG
 split
 ·exact ⟨undef,.inr ⟨hw,rfl⟩,h⟩
 ·unfold nL
  rw [hw,if_neg (by simp)]
  exact h
theorem aV {o:Oper} {rest:List Oper} {a:Act} {w:World} (hq:bH o=true) (hw:Region.wanted o (yielded ops a.tmps)=true) (h:∀K:Act→Prop,(∀a',gG P ops C Qf rest a' w→K a')→o.quiet P a C K):gG P ops C Qf (o::rest) a w:=by
 unfold gG
 rw [if_pos hq]
 obtain ⟨v,h1,h2⟩:=h _ (fun _ h=>h)
 exact ⟨v,.inl ⟨hw,fun w hc=>lq hq (h1 w hc)⟩,h2⟩
theorem cw {o:Oper} {rest:List Oper} {a:Act} {w:World} (hq:bH o=false) (hw:Region.wanted o (yielded ops a.tmps)=true) (h:∀K:Act→World→Prop,(∀a' w',(C w'∧gG P ops C Qf rest a' w')→K a' w')→o.wp P a w K NoQ):gG P ops C Qf (o::rest) a w:=by
 unfold gG
 rw [if_neg (by rw [hq];simp)]
 unfold nL
 rw [if_pos hw]
 exact h _ (fun _ _ h=>h)
def eh (w:World):World→Prop:=fun w'=>∃p:Regrown,w'=Sort.grow (redrawn w p.d) p.os
theorem eh.drew (w:World):eh w w.drew:=⟨⟨w.drawn+1,#[]⟩,by rw [Sort.grow_empty];rfl⟩
theorem eh.of {w w':World} (h:Below w.heap.size w w'):eh w w':=regrown_of_below h
theorem eh.below {w w':World} (h:eh w w'):Below w.heap.size w w':=by obtain ⟨p,rfl⟩:=h;exact below_regrown _ _ _
end
open Go.ChangeShapes Go.WideShapes Go.ChangeAt Go.RowKit
theorem ent {P:Program} {f:FuncId} {fn:Func} {c:Code} (hf:P.funcs[f]? = some fn) (hname:(fn.name == "runtime.NumGoroutine")=false) (hb:fn.body=some c) (args:Array Value) (w:World) :
 (callFunc f args).run P w=.ok (.enter f args) w:=by
 have h1:fn.name ≠ "runtime.NumGoroutine":=by simpa using hname
 simp [callFunc,hf,h1,hb,mark]
structure Tm where
 kind:Int
 n:Int
 s:ByteArray
 l:List Tm
def eN (w:World) (B k:Nat) (A:Option Addr) (n:Nat) (P:Nat→List Value→Prop):Prop:=
 0<n→∃b off,A=some ⟨b,off,none⟩∧b<B∧∀i,i<n→∃vs:List Value,vs.length=k∧P i vs∧∀j v,vs[j]? = some v→w.cell? ⟨b,off+i*k+j,none⟩=some v
theorem eN.mono {w:World} {B k n:Nat} {A:Option Addr} {P Q:Nat→List Value→Prop} (h:eN w B k A n P) (hpq:∀i vs,i<n→P i vs→Q i vs):eN w B k A n Q:=fun hn=>by
 obtain ⟨b,off,e,hb,hc⟩:=h hn
 refine ⟨b,off,e,hb,fun i hi=>?_⟩
 obtain ⟨vs,hl,hp,hv⟩:=hc i hi
 exact ⟨vs,hl,hpq i vs hi hp,hv⟩
theorem eN.more {w:World} {B B' k n:Nat} {A:Option Addr} {P:Nat→List Value→Prop} (h:eN w B k A n P) (hB:B≤B'):eN w B' k A n P:=fun hn=>by
 obtain ⟨b,off,e,hb,hc⟩:=h hn
 exact ⟨b,off,e,by omega,hc⟩
theorem eN.below {w w':World} {B C k n:Nat} {A:Option Addr} {P:Nat→List Value→Prop} (h:eN w B k A n P) (hw:Below C w w') (hB:B≤C):eN w' B k A n P:=fun hn=>by
 obtain ⟨b,off,e,hb,hc⟩:=h hn
 refine ⟨b,off,e,hb,fun i hi=>?_⟩
 obtain ⟨vs,hl,hp,hv⟩:=hc i hi
 exact ⟨vs,hl,hp,fun j v hj=>(hw.cell (p:=⟨b,off+i*k+j,none⟩) (by show b<C;omega)).trans (hv j v hj)⟩
theorem eN.tail {w:World} {B k n:Nat} {A:Option Addr} {P:Nat→List Value→Prop} (h:eN w B k A n P) {m:Nat} (hm:m≤n):eN w B k A m P:=fun hn=>by
 obtain ⟨b,off,e,hb,hc⟩:=h (by omega)
 exact ⟨b,off,e,hb,fun i hi=>hc i (by omega)⟩
def I64 (n:Int):Prop:=-9223372036854775808≤n∧n≤9223372036854775807
def RTm (w:World) (B:Nat):Nat→Tm→List Value→Prop
 | 0,_,_=>False
 | d+1,t,vs=>∃A c,vs=[.int .i64 t.kind,.int .i64 t.n,.string t.s,.slice A t.l.length c]∧t.l.length≤c∧(t.l.length*40≤140737488351232∧c≤9223372036854775807)∧t.s.size≤140737488351232∧I64 t.kind∧I64 t.n ∧
  eN w B 4 A t.l.length (fun i vs=>∃x,t.l[i]? = some x∧RTm w B d x vs)
def jJ (w:World) (B d:Nat) (ts:List Tm) (A:Option Addr):Prop:=eN w B 4 A ts.length (fun i vs=>∃x,ts[i]? = some x∧RTm w B d x vs)
theorem RTm.below {w w':World} {B C:Nat} (hw:Below C w w') (hB:B≤C):∀{d:Nat} {t:Tm} {vs:List Value},RTm w B d t vs→RTm w' B d t vs
 | 0,_,_,h=>h.elim
 | d+1,t,vs,⟨A,c,e,h1,h2,h3,h4,h5,h6⟩=>⟨A,c,e,h1,h2,h3,h4,h5,(h6.below hw hB).mono fun i vs _ ⟨x,hx,hr⟩=>⟨x,hx,RTm.below hw hB hr⟩⟩
theorem RTm.more {w:World} {B B':Nat} (hB:B≤B'):∀{d:Nat} {t:Tm} {vs:List Value},RTm w B d t vs→RTm w B' d t vs
 | 0,_,_,h=>h.elim
 | d+1,t,vs,⟨A,c,e,h1,h2,h3,h4,h5,h6⟩=>⟨A,c,e,h1,h2,h3,h4,h5,(h6.more hB).mono fun i vs _ ⟨x,hx,hr⟩=>⟨x,hx,RTm.more hB hr⟩⟩
theorem jJ.below {w w':World} {B C d:Nat} {ts:List Tm} {A:Option Addr} (h:jJ w B d ts A) (hw:Below C w w') (hB:B≤C):jJ w' B d ts A:=
 (eN.below h hw hB).mono fun i vs _ ⟨x,hx,hr⟩=>⟨x,hx,RTm.below hw hB hr⟩
theorem jJ.more {w:World} {B B' d:Nat} {ts:List Tm} {A:Option Addr} (h:jJ w B d ts A) (hB:B≤B'):jJ w B' d ts A:=
 (eN.more h hB).mono fun i vs _ ⟨x,hx,hr⟩=>⟨x,hx,RTm.more hB hr⟩
end Go.Proofs.YtjpndglegpcdnaaGreat
