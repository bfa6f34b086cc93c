/- The row of the law FnExactUp: its arguments are told as data, the text YtlbnioapepelnaaRFnExactUp says that it returns true for all data, on a machine of this session's own that was proved to answer as the model does; so the row holds. No condition. -/
import Derived.Test.YtlbnioapepelnaaRows
import Derived.Test.YtlbnioapepelnaaZdbf69e18
import Derived.Test.YtlbnioapepelnaaZ5e0fc355
import Derived.WalkKit
import Derived.ProofKit
import Derived.OpenShut
import Derived.ShutString
import Derived.ChangeOld
import Derived.Below
import Derived.SizedLaws
namespace Go.Proofs.Ytlbnioapepelnaa.fnExactUp
open Go.ChangeShapes Go.WideShapes Go.ChangeAt Go.RowKit Go.Proofs.Ytlbnioapepelnaa.G
set_option linter.unusedVariables false
theorem own : ownKnob Try.prog.godebug = none := by kernel_rfl
theorem laidOut : laidOutB Try.prog = true := by kernel_rfl
theorem names : NameOk Try.prog := nameOk (by kernel_rfl)
set_option maxRecDepth 100000 in
theorem lifted (os : Os) (started : os.Started) (H : Type) (enc : TypeId × Value → H) :
    ReturnsInHanded {} Try.checked os 12 .any (Rows.fnExactUpSpec.pre6 enc Try.prog Try.f12 Rows.fnExactUpRow.domain false) (Rows.fnExactUpSpec.post enc Try.prog Try.f12 false true false false) := by
  refine returnsInHanded_of_change_sized (C := Try.checked) own started (by kernel_rfl) Try.func12
    (ChangeSpec.witness6 (enc := enc) (C := Try.checked) false ⟨#[], #[.agg #[.int .i64 0, .slice none 0 0], .int .i64 0, .int .i64 0, .int .i64 0, .agg #[.int .i64 0, .int .i64 0, .bool false, .bool false, .bool false]], []⟩ 8 (by kernel_rfl) (by kernel_rfl) (by kernel_rfl) (by kernel_rfl)) ?_
  intro W base args ds gs before hval0 hW hcnd hsz0 _
  have T101 := (tells_st Try.underlying101 rfl (tells_more (tells_int Try.underlying2 (by kernel_rfl)) (tells_more (tells_int Try.underlying2 (by kernel_rfl)) (tells_more (tells_bool Try.underlying4 (by kernel_rfl)) (tells_more (tells_bool Try.underlying4 (by kernel_rfl)) (tells_last (tells_bool Try.underlying4 (by kernel_rfl))))))) (by kernel_rfl) (by kernel_rfl))
  have T253 := (tells_st Try.underlying253 rfl (tells_more (tells_int Try.underlying2 (by kernel_rfl)) (tells_more T101 (tells_last (tells_int Try.underlying2 (by kernel_rfl))))) (by kernel_rfl) (by kernel_rfl))
  have T219 := (tells_sl (es := 7) Try.underlying219 (by kernel_rfl) (by kernel_rfl) T253)
  have T97 := (tells_sl (es := 1) Try.underlying97 (by kernel_rfl) (by kernel_rfl) T219)
  have T99 := (tells_st Try.underlying99 rfl (tells_more (tells_int Try.underlying2 (by kernel_rfl)) (tells_last T97)) (by kernel_rfl) (by kernel_rfl))
  have hval : ∀ (j : Nat) t v, Try.f12.params[j]? = some t → args[j]? = some v → Value.okWide Try.prog W .any base t v := hval0
  have hW' := hW
  obtain ⟨p, q, hA0, hV, rfl, hfz, hnd⟩ := hW
  have hA : DataW.TrodAll enc Try.prog W 0 (fun _ => true) true Try.f12.params.toList args.toList ds p := hA0
  rw [Try.params12] at hA hval
  have hAll := hA
  obtain ⟨v0, vs0, d0, ds0, p0, q0, hargs, rfl, rfl, h0, r0⟩ := trodAll_cons hA
  obtain ⟨v1, vs1, d1, ds1, p1, q1, rfl, rfl, rfl, h1, r1⟩ := trodAll_cons r0
  obtain ⟨v2, vs2, d2, ds2, p2, q2, rfl, rfl, rfl, h2, r2⟩ := trodAll_cons r1
  obtain ⟨v3, vs3, d3, ds3, p3, q3, rfl, rfl, rfl, h3, r3⟩ := trodAll_cons r2
  obtain ⟨v4, vs4, d4, ds4, p4, q4, rfl, rfl, rfl, h4, r4⟩ := trodAll_cons r3
  obtain ⟨rfl, rfl, rfl⟩ := trodAll_nil r4
  obtain rfl : args = #[v0, v1, v2, v3, v4] := by cases args; simp_all
  obtain ⟨rfl, rfl⟩ := trodVars_none hV
  obtain ⟨fu0, hf0⟩ := h0
  obtain ⟨a0, hT0, i0⟩ := (T99).op enc W fu0 _ _ hf0
  have e0 := told_agg (cs := [GV.int .i64 a0.1, fzl true 1 (fun x1 : List ((Int × (Int × Int × Bool × Bool × Bool) × Int)) => [fzl true 7 (fun x2 : (Int × (Int × Int × Bool × Bool × Bool) × Int) => [GV.int .i64 x2.1, GV.int .i64 x2.2.1.1, GV.int .i64 x2.2.1.2.1, GV.bool x2.2.1.2.2.1, GV.bool x2.2.1.2.2.2.1, GV.bool x2.2.1.2.2.2.2, GV.int .i64 x2.2.2]) x1]) a0.2]) hT0 (by have z := (hval 0 99 v0 rfl rfl); unfold Value.okWide at z; rw [Try.underlying99] at z; obtain ⟨cs, hz, _⟩ := z; exact ⟨cs, hz⟩)
  obtain ⟨fu1, hf1⟩ := h1
  obtain ⟨a1, hT1, i1⟩ := ((tells_int Try.underlying2 (by kernel_rfl))).op enc W fu1 _ _ hf1
  have e1 := told_one (g := GV.int .i64 a1) hT1 (by have z := (hval 1 2 v1 rfl rfl); unfold Value.okWide at z; rw [Try.underlying2] at z; rintro cs rfl; exact z)
  obtain ⟨fu2, hf2⟩ := h2
  obtain ⟨a2, hT2, i2⟩ := ((tells_int Try.underlying2 (by kernel_rfl))).op enc W fu2 _ _ hf2
  have e2 := told_one (g := GV.int .i64 a2) hT2 (by have z := (hval 2 2 v2 rfl rfl); unfold Value.okWide at z; rw [Try.underlying2] at z; rintro cs rfl; exact z)
  obtain ⟨fu3, hf3⟩ := h3
  obtain ⟨a3, hT3, i3⟩ := ((tells_int Try.underlying2 (by kernel_rfl))).op enc W fu3 _ _ hf3
  have e3 := told_one (g := GV.int .i64 a3) hT3 (by have z := (hval 3 2 v3 rfl rfl); unfold Value.okWide at z; rw [Try.underlying2] at z; rintro cs rfl; exact z)
  obtain ⟨fu4, hf4⟩ := h4
  obtain ⟨a4, hT4, i4⟩ := (T101).op enc W fu4 _ _ hf4
  have e4 := told_agg (cs := [GV.int .i64 a4.1, GV.int .i64 a4.2.1, GV.bool a4.2.2.1, GV.bool a4.2.2.2.1, GV.bool a4.2.2.2.2]) hT4 (by have z := (hval 4 101 v4 rfl rfl); unfold Value.okWide at z; rw [Try.underlying101] at z; obtain ⟨cs, hz, _⟩ := z; exact ⟨cs, hz⟩)
  refine (law_N (us := [v0, v1, v2, v3, v4]) (by kernel_rfl) names (noExt (C := cfg) (fun _ => rfl)) (by kernel_rfl) (FnExactUp_row a0 i0 a1 i1 a2 i2 a3 i3 a4 i4) (GL.start trivial fun _ => rfl) ⟨_, _, rfl, e0, ⟨_, _, rfl, e1, ⟨_, _, rfl, e2, ⟨_, _, rfl, e3, ⟨_, _, rfl, e4, rfl⟩⟩⟩⟩⟩).mono fun e W' ⟨he, bel⟩ => ?_
  subst he
  exact ⟨_, rfl, _, _, _, [], _, [], hW', trodAll_mk1 (shut_bool Try.underlying4 _), below_allT laidOut bel (by intro t ht; rw [Try.params12] at ht; simp only [List.mem_cons, List.not_mem_nil, or_false] at ht; rcases ht with rfl | rfl | rfl | rfl | rfl <;> exact ⟨by kernel_rfl, of_decide_eq_true (by kernel_rfl)⟩) hAll, rfl, bel.frame _, fun h => by cases h⟩
theorem fact_inPlace : (Rows.fnExactUpRow.inPlace == Try.prog.inPlace 12) = true := by kernel_rfl
theorem fact_unfollowed : (Rows.fnExactUpRow.unfollowed == Try.prog.unfollowed 12) = true := by kernel_rfl
theorem fact_recurses : (Rows.fnExactUpRow.recurses == Try.prog.recurses 12) = true := by kernel_rfl
theorem fact_named : (Rows.fnExactUpRow.named == Try.prog.varsNamed 12) = true := by kernel_rfl
theorem fact_enters : Try.prog.mayEnter = true := by kernel_rfl
theorem fact_lifts : (Rows.fnExactUpRow.lifted == Try.prog.liftsFinal) = true := by kernel_rfl
theorem fact_make : (Try.prog.make == some Rows.fnExactUpRow.make) = true := by kernel_rfl
theorem facts : joinedFacts Try.prog 12 Try.f12 Rows.fnExactUpSpec Rows.fnExactUpRow = true := by
  unfold joinedFacts
  rw [laidOut, fact_inPlace, fact_unfollowed, fact_recurses, fact_named, fact_enters, fact_lifts, fact_make]
  kernel_rfl
theorem named : Try.prog.funcNamed Rows.fnExactUpRow.func = some 12 := by kernel_rfl
theorem wrap : Try.f12.isWrapper Try.prog Rows.fnExactUpRow.wrapper Rows.fnExactUpRow.mainSum := by unfold Func.isWrapper; first | (rw [if_pos (by decide +kernel)]; kernel_rfl) | (rw [if_neg (by decide +kernel)]; exact ⟨rfl, rfl⟩)
theorem over : Rows.fnExactUpRow.holds Try.pinned (OpenSpec.ofChange Rows.fnExactUpSpec) :=
  OpenClaim.holds_of_wide 12 Try.f12 rfl rfl rfl rfl rfl rfl rfl ⟨rfl, rfl, rfl, rfl, rfl⟩ rfl rfl rfl rfl rfl named Try.func12 facts
    (of_decide_eq_true (by kernel_rfl)) wrap
    (fun os started H enc _ => lifted os started H enc)
theorem proved : Rows.FnExactUpSaid := over
#print axioms proved
end Go.Proofs.Ytlbnioapepelnaa.fnExactUp
namespace Go.Proofs.Ytlbnioapepelnaa
/-- The row, under a short name, for the claim. -/
theorem fnExactUp_holds : Rows.FnExactUpSaid := fnExactUp.proved
end Go.Proofs.Ytlbnioapepelnaa
