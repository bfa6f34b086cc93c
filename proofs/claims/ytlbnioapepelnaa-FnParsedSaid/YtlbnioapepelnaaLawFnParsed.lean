/- The row of the law FnParsed: its arguments are told as data, the text YtlbnioapepelnaaRFnParsed says that it returns true for all data, on a machine of this session's own that was proved to answer as the model does; so the row holds. No condition. -/
import Derived.Test.YtlbnioapepelnaaRows
import Derived.Test.YtlbnioapepelnaaZa3f2fb2e
import Derived.Test.YtlbnioapepelnaaZ9d46b518
import Derived.WalkKit
import Derived.ProofKit
import Derived.OpenShut
import Derived.ShutString
import Derived.ChangeOld
import Derived.Below
import Derived.SizedLaws
set_option linter.unusedVariables false
namespace Go.Proofs.Ytlbnioapepelnaa.fnParsed
open Go.ChangeShapes Go.WideShapes Go.ChangeAt Go.RowKit Go.Proofs.Ytlbnioapepelnaa.G
theorem own : ownKnob Try.prog.godebug = none := by kernel_rfl
theorem laidOut : laidOutB Try.prog = true := by kernel_rfl
theorem names : NameOk Try.prog := nameOk (by kernel_rfl)
set_option maxRecDepth 100000 in
theorem lifted (os : Os) (started : os.Started) (H : Type) (enc : TypeId × Value → H) :
    ReturnsInHanded {} Try.checked os 13 .any (Rows.fnParsedSpec.pre6 enc Try.prog Try.f13 Rows.fnParsedRow.domain false) (Rows.fnParsedSpec.post enc Try.prog Try.f13 false true false false) := by
  refine returnsInHanded_of_change_sized (C := Try.checked) own started (by kernel_rfl) Try.func13
    (ChangeSpec.witness6 (enc := enc) (C := Try.checked) false ⟨#[], #[.slice none 0 0], []⟩ 8 (by kernel_rfl) (by kernel_rfl) (by kernel_rfl) (by kernel_rfl)) ?_
  intro W base args ds gs before hval0 hW hcnd hsz0 _
  have T37 := (tells_sl (es := 1) Try.underlying37 (by kernel_rfl) (by kernel_rfl) (tells_int Try.underlying5 (by kernel_rfl)))
  have hval : ∀ (j : Nat) t v, Try.f13.params[j]? = some t → args[j]? = some v → Value.okWide Try.prog W .any base t v := hval0
  have hW' := hW
  obtain ⟨p, q, hA0, hV, rfl, hfz, hnd⟩ := hW
  have hA : DataW.TrodAll enc Try.prog W 0 (fun _ => true) true Try.f13.params.toList args.toList ds p := hA0
  rw [Try.params13] at hA hval
  have hAll := hA
  obtain ⟨v0, vs0, d0, ds0, p0, q0, hargs, rfl, rfl, h0, r0⟩ := trodAll_cons hA
  obtain ⟨rfl, rfl, rfl⟩ := trodAll_nil r0
  obtain rfl : args = #[v0] := by cases args; simp_all
  obtain ⟨rfl, rfl⟩ := trodVars_none hV
  obtain ⟨fu0, hf0⟩ := h0
  obtain ⟨a0, hT0, i0⟩ := (T37).op enc W fu0 _ _ hf0
  have e0 := told_one (g := fzl true 1 (fun x1 : Int => [GV.int .u8 x1]) a0) hT0 (by have z := (hval 0 37 v0 rfl rfl); unfold Value.okWide at z; rw [Try.underlying37] at z; rintro cs rfl; exact z)
  refine (law_N (us := [v0]) (by kernel_rfl) names (noExt (C := cfg) (fun _ => rfl)) (by kernel_rfl) (FnParsed_row a0 i0) (GL.start trivial fun _ => rfl) ⟨_, _, rfl, e0, rfl⟩).mono fun e W' ⟨he, bel⟩ => ?_
  subst he
  exact ⟨_, rfl, _, _, _, [], _, [], hW', trodAll_mk1 (shut_bool Try.underlying4 _), below_allT laidOut bel (by intro t ht; rw [Try.params13] at ht; simp only [List.mem_cons, List.not_mem_nil, or_false] at ht; subst ht; exact ⟨by kernel_rfl, of_decide_eq_true (by kernel_rfl)⟩) hAll, rfl, bel.frame _, fun h => by cases h⟩
theorem fact_inPlace : (Rows.fnParsedRow.inPlace == Try.prog.inPlace 13) = true := by kernel_rfl
theorem fact_unfollowed : (Rows.fnParsedRow.unfollowed == Try.prog.unfollowed 13) = true := by kernel_rfl
theorem fact_recurses : (Rows.fnParsedRow.recurses == Try.prog.recurses 13) = true := by kernel_rfl
theorem fact_named : (Rows.fnParsedRow.named == Try.prog.varsNamed 13) = true := by kernel_rfl
theorem fact_enters : Try.prog.mayEnter = true := by kernel_rfl
theorem fact_lifts : (Rows.fnParsedRow.lifted == Try.prog.liftsFinal) = true := by kernel_rfl
theorem fact_make : (Try.prog.make == some Rows.fnParsedRow.make) = true := by kernel_rfl
theorem facts : joinedFacts Try.prog 13 Try.f13 Rows.fnParsedSpec Rows.fnParsedRow = true := by
  unfold joinedFacts
  rw [laidOut, fact_inPlace, fact_unfollowed, fact_recurses, fact_named, fact_enters, fact_lifts, fact_make]
  kernel_rfl
theorem named : Try.prog.funcNamed Rows.fnParsedRow.func = some 13 := by kernel_rfl
theorem wrap : Try.f13.isWrapper Try.prog Rows.fnParsedRow.wrapper Rows.fnParsedRow.mainSum := by unfold Func.isWrapper; first | (rw [if_pos (by decide +kernel)]; kernel_rfl) | (rw [if_neg (by decide +kernel)]; exact ⟨rfl, rfl⟩)
theorem over : Rows.fnParsedRow.holds Try.pinned (OpenSpec.ofChange Rows.fnParsedSpec) :=
  OpenClaim.holds_of_wide 13 Try.f13 rfl rfl rfl rfl rfl rfl rfl ⟨rfl, rfl, rfl, rfl, rfl⟩ rfl rfl rfl rfl rfl named Try.func13 facts
    (of_decide_eq_true (by kernel_rfl)) wrap
    (fun os started H enc _ => lifted os started H enc)
theorem proved : Rows.FnParsedSaid := over
#print axioms proved
end Go.Proofs.Ytlbnioapepelnaa.fnParsed
namespace Go.Proofs.Ytlbnioapepelnaa
theorem fnParsed_holds : Rows.FnParsedSaid := fnParsed.proved
end Go.Proofs.Ytlbnioapepelnaa
