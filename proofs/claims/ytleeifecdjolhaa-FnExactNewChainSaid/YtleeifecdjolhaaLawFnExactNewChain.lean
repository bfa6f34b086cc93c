/- The row of the law FnExactNewChain: its arguments are taken apart, the walk (text YtleeifecdjolhaaPureFnExactNewChain) says that it returns true and changes nothing that was there; so the row holds. -/
import Derived.Test.YtleeifecdjolhaaRows
import Derived.Test.YtleeifecdjolhaaOpen
import Derived.Test.YtleeifecdjolhaaPureFnExactNewChain
import Derived.WalkKit
import Derived.ProofKit
import Derived.OpenShut
import Derived.ShutString
import Derived.ChangeOld
import Derived.Below
import Derived.SizedLaws
namespace Go.Proofs.Ytleeifecdjolhaa.fnExactNewChain
open Go.ChangeShapes Go.WideShapes Go.ChangeAt Go.RowKit Go.Proofs.YtleeifecdjolhaaW.PrintWords Go.Proofs.Ytleeifecdjolhaa.Open Go.Proofs.Ytleeifecdjolhaa.Pure
open Go.ChangeMaps (open_string shut_string)
set_option linter.unusedVariables false
theorem own : ownKnob Try.prog.godebug = none := by kernel_rfl
theorem laidOut : laidOutB Try.prog = true := by kernel_rfl
set_option maxRecDepth 100000 in
theorem lifted (os : Os) (started : os.Started) (H : Type) (enc : TypeId × Value → H) :
    ReturnsInHanded {} Try.checked os 8 .any (Rows.fnExactNewChainSpec.pre6 enc Try.prog Try.f8 Rows.fnExactNewChainRow.domain false) (Rows.fnExactNewChainSpec.post enc Try.prog Try.f8 false true false false) := by
  refine returnsInHanded_of_change_sized (C := Try.checked) own started (by kernel_rfl) Try.func8
    (ChangeSpec.witness6 (enc := enc) (C := Try.checked) false ⟨#[], #[.int .i64 0], []⟩ 8 (by kernel_rfl) (by kernel_rfl) (by kernel_rfl) (by kernel_rfl)) ?_
  intro W base args ds gs before hval0 hW hcnd hsz0 _
  have hval : ∀ (j : Nat) t v, Try.f8.params[j]? = some t → args[j]? = some v → Value.okWide Try.prog W .any base t v := hval0
  have hW' := hW
  obtain ⟨p, q, hA0, hV, rfl, hfz, hnd⟩ := hW
  have hA : DataW.TrodAll enc Try.prog W 0 (fun _ => true) true Try.f8.params.toList args.toList ds p := hA0
  rw [Try.params8] at hA hval
  have hAll := hA
  obtain ⟨v0, vs0, d0, ds0, p0, q0, hargs, rfl, rfl, h0, r0⟩ := trodAll_cons hA
  obtain ⟨rfl, rfl, rfl⟩ := trodAll_nil r0
  obtain rfl : args = #[v0] := by cases args; simp_all
  obtain ⟨rfl, rfl⟩ := trodVars_none hV
  obtain ⟨fu0, hf0⟩ := h0
  obtain ⟨a0, hK0, w0⟩ := ((opens_int Try.underlying2 (by kernel_rfl))).op enc W fu0 _ _ hf0
  obtain rfl : v0 = .int .i64 a0 := by
    have z := (hval 0 2 v0 rfl rfl); unfold Value.okWide at z; rw [Try.underlying2] at z
    exact one_cell hK0 (by rintro cs rfl; exact z)
  refine (Pure.FnExactNewChain a0 W w0).mono fun e W' ⟨he, bel⟩ => ?_
  subst he
  exact ⟨_, rfl, _, _, _, [], _, [], hW', trodAll_mk1 (shut_bool Try.underlying4 _), below_all laidOut bel (by intro t ht; rw [Try.params8] at ht; simp only [List.mem_cons, List.not_mem_nil, or_false] at ht; subst ht; exact ⟨by kernel_rfl, of_decide_eq_true (by kernel_rfl)⟩) hAll, rfl, bel.frame _, fun h => by cases h⟩
theorem over : Rows.fnExactNewChainRow.holds Try.pinned (OpenSpec.ofChange Rows.fnExactNewChainSpec) :=
  OpenClaim.holds_of_wide 8 Try.f8 rfl rfl rfl rfl rfl rfl rfl ⟨rfl, rfl, rfl, rfl, rfl⟩ rfl rfl rfl rfl rfl (by kernel_rfl) Try.func8 (by kernel_rfl)
    (of_decide_eq_true (by kernel_rfl)) (by unfold Func.isWrapper; first | (rw [if_pos (by decide +kernel)]; kernel_rfl) | (rw [if_neg (by decide +kernel)]; exact ⟨rfl, rfl⟩))
    (fun os started H enc _ => lifted os started H enc)
theorem proved : Rows.FnExactNewChainSaid := over
#print axioms proved
end Go.Proofs.Ytleeifecdjolhaa.fnExactNewChain
namespace Go.Proofs.Ytleeifecdjolhaa
/-- The row, under a short name, for the claim. -/
theorem fnExactNewChain_holds : Rows.FnExactNewChainSaid := fnExactNewChain.proved
end Go.Proofs.Ytleeifecdjolhaa
