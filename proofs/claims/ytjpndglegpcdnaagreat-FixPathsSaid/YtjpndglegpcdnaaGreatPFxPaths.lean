/- FixPaths: for every input the call returns true, and each argument reads afterwards as it read before. No conditions: every input of the given row. -/
import Derived.Test.YtjpndglegpcdnaaGreatLit
import Derived.Test.YtjpndglegpcdnaaGreatRule1
import Derived.Test.YtjpndglegpcdnaaGreatFx1
import Derived.Test.YtjpndglegpcdnaaGreatLFxPaths
import Derived.Test.YtjpndglegpcdnaaGreatLFxTurned
import Derived.HandedShaped
import Derived.Shelf.Vars
import Derived.ChangeMaps5
import Derived.Test.YtjpndglegpcdnaaGreatRows
import Derived.ProofKit
set_option linter.unusedVariables false
set_option linter.unusedSimpArgs false
set_option maxRecDepth 100000
set_option maxHeartbeats 8000000
namespace Go.Proofs.YtjpndglegpcdnaaGreat
open Go.ChangeShapes Go.WideShapes Go.ChangeAt Go.RowKit
section
variable {H:Type} {enc:TypeId × Value→H} {w:World} {base:Nat} {held:Bool}
end
section
variable {H:Type} {enc:TypeId × Value→H} {w:World} {base:Nat} {held:Bool}
end
theorem own:ownKnob Tryz.prog.godebug=none:=by kernel_rfl
theorem laidOut:laidOutB Tryz.prog=true:=by kernel_rfl
theorem ok_of {H:Type} {P:Program} {ts:List TypeId} {ds:List (DataW H)} (h:(DataW.weightsEach P ts ds).all (·≤reachBytes)=true) {j:Nat} {t:TypeId} {d:DataW H} (ht:ts[j]? = some t) (hd:ds[j]? = some d):Ok P t d:=fun n hn=>by
 have:=List.all_eq_true.1 h n (DataW.weights_mem_each ht hd n hn)
 simpa using this
theorem kK (os:Os) (started:os.Started) (H:Type) (enc:TypeId × Value→H) :
 ReturnsInHanded {} Tryz.checked os 3 .any (Rows.fixPathsSpec.pre6 enc Tryz.prog Tryz.f3 Rows.fixPathsRow.domain false) (Rows.fixPathsSpec.post enc Tryz.prog Tryz.f3 false true false false):=by
 refine returnsInHanded_of_change_shaped (C:=Tryz.checked) own started (by kernel_rfl) Tryz.func3
  (ChangeSpec.witness6 (enc:=enc) (C:=Tryz.checked) false ⟨#[],#[.int .i64 0,.bool false],[]⟩ 8 (by kernel_rfl) (by kernel_rfl) (by kernel_rfl) (by kernel_rfl)) ?_
 intro W base args ds gs before hval0 hW _ hsz0 hsh _
 have hsz:(DataW.weightsEach Tryz.prog (Tryz.f3.params.toList++Rows.fixPathsSpec.plain.varTypes Tryz.prog) (ds++gs)).all (·≤reachBytes)=true:=hsz0
 clear hsz0
 have hval:∀(j:Nat) t v,Tryz.f3.params[j]? = some t→args[j]? = some v→Value.okWide Tryz.prog W .any base t v:=hval0
 have hW':=hW
 obtain ⟨p,q,hA0,hV,rfl,hfz,hnd⟩:=hW
 have hA:DataW.TrodAll enc Tryz.prog W 0 (fun _=>true) true Tryz.f3.params.toList args.toList ds p:=hA0
 rw [Tryz.params3] at hA hval hsz
 obtain ⟨v0,v1,d0,d1,p0,p1,rfl,rfl,rfl,h0,h1⟩:=trodAll_two hA
 obtain ⟨rfl,rfl⟩:=trodVars_none hV
 obtain ⟨x0,rfl,rfl,rfl,hx0⟩:=Go.ChangeShapes.open_int Tryz.underlying3 (hval 0 3 v0 rfl rfl) h0
 obtain ⟨x1,rfl,rfl,rfl⟩:=Go.RowKit.open_bool Tryz.underlying4 (hval 1 4 v1 rfl rfl) h1
 obtain ⟨m0,hm0⟩:=cell_of_shapedOpen_int (g:=0) (t:=3) (zero:=#[.int .i64 0]) hsh (of_decide_eq_true (by kernel_rfl)) (by kernel_rfl) rfl (by kernel_rfl) (by kernel_rfl) Tryz.underlying3
 have h00:0<W.heap.size:=block_lt_of_cell hm0
 clear hA0 hval0
 refine (pQ (fun w1 hb1=>px ((hb1.cell (p:=⟨0,0,none⟩) h00).trans hm0) (yr h00 hb1.size))  hm0 h00).mono fun e W' ⟨he,bel⟩=>?_
 subst he
 exact ⟨_,rfl,_,_,_,[],_,[],hW',trodAll_mk1 (shut_bool Tryz.underlying4 _),trodAll_mk2 (shut_int Tryz.underlying3 hx0) (shut_bool Tryz.underlying4 _),rfl,bel.frame _,fun h=>by cases h⟩
theorem jf_a:(Rows.fixPathsRow.inPlace==Tryz.prog.inPlace 3)=true:=by kernel_rfl
theorem jf_b:(Rows.fixPathsRow.unfollowed==Tryz.prog.unfollowed 3)=true:=by kernel_rfl
theorem jf_c:(Rows.fixPathsRow.recurses==Tryz.prog.recurses 3)=true:=by kernel_rfl
theorem jf_d:(Rows.fixPathsRow.named==Tryz.prog.varsNamed 3)=true:=by kernel_rfl
theorem jf_all:joinedFacts Tryz.prog 3 Tryz.f3 Rows.fixPathsSpec Rows.fixPathsRow=true:=by
 unfold joinedFacts
 rw [jf_a,jf_b,jf_c,jf_d]
 kernel_rfl
theorem na:Rows.fixPathsRow.holds Tryz.pinned (OpenSpec.ofChange Rows.fixPathsSpec):=
 OpenClaim.holds_of_wide 3 Tryz.f3 rfl rfl rfl rfl rfl rfl rfl ⟨rfl,rfl,rfl,rfl,rfl⟩ rfl rfl rfl rfl rfl (by kernel_rfl) Tryz.func3 jf_all
  (of_decide_eq_true (by kernel_rfl)) (by unfold Func.isWrapper;first | (rw [if_pos (by decide +kernel)];kernel_rfl) | (rw [if_neg (by decide +kernel)];exact ⟨rfl,rfl⟩))
  (fun os started H enc _=>kK os started H enc)
theorem fixPaths_holds:Rows.FixPathsSaid:=na
end Go.Proofs.YtjpndglegpcdnaaGreat
