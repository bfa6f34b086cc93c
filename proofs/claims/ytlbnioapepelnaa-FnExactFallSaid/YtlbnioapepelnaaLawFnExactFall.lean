/- The row of the law FnExactFall: its arguments are told as data, the text YtlbnioapepelnaaRFnExactFall says that it returns true for all data, on a machine of this session's own that was proved to answer as the model does; so the row holds. No condition. -/
import Derived.Test.YtlbnioapepelnaaRows
import Derived.Test.YtlbnioapepelnaaZ0b7b8c65
import Derived.WalkKit
import Derived.ProofKit
import Derived.OpenShut
import Derived.ShutString
import Derived.ChangeOld
import Derived.Below
import Derived.SizedLaws
set_option linter.unusedVariables false
namespace Go.Proofs.Ytlbnioapepelnaa.fnExactFall
open Go.ChangeShapes Go.WideShapes Go.ChangeAt Go.RowKit Go.Proofs.Ytlbnioapepelnaa.G
theorem own : ownKnob Try.prog.godebug = none := by kernel_rfl
theorem laidOut : laidOutB Try.prog = true := by kernel_rfl
theorem names : NameOk Try.prog := nameOk (by kernel_rfl)
set_option maxRecDepth 100000 in
theorem lifted (os : Os) (started : os.Started) (H : Type) (enc : TypeId × Value → H) :
    ReturnsInHanded {} Try.checked os 3 .any (Rows.fnExactFallSpec.pre6 enc Try.prog Try.f3 Rows.fnExactFallRow.domain false) (Rows.fnExactFallSpec.post enc Try.prog Try.f3 false true false false) := by
  refine returnsInHanded_of_change_sized (C := Try.checked) own started (by kernel_rfl) Try.func3
    (ChangeSpec.witness6 (enc := enc) (C := Try.checked) false ⟨#[], #[.agg #[.slice none 0 0, .slice none 0 0, .slice none 0 0], .int .i64 0], []⟩ 8 (by kernel_rfl) (by kernel_rfl) (by kernel_rfl) (by kernel_rfl)) ?_
  intro W base args ds gs before hval0 hW hcnd hsz0 _
  have T41 := (tells_sl (es := 1) Try.underlying41 (by kernel_rfl) (by kernel_rfl) (tells_string Try.underlying9 (by kernel_rfl)))
  have T184 := (tells_st Try.underlying184 rfl (tells_more T41 (tells_last (tells_int Try.underlying2 (by kernel_rfl)))) (by kernel_rfl) (by kernel_rfl))
  have T22 := (tells_sl (es := 2) Try.underlying22 (by kernel_rfl) (by kernel_rfl) T184)
  have T23 := (tells_sl (es := 1) Try.underlying23 (by kernel_rfl) (by kernel_rfl) T41)
  have T55 := (tells_sl (es := 1) Try.underlying55 (by kernel_rfl) (by kernel_rfl) (tells_int Try.underlying2 (by kernel_rfl)))
  have T24 := (tells_sl (es := 1) Try.underlying24 (by kernel_rfl) (by kernel_rfl) T55)
  have T26 := (tells_st Try.underlying26 rfl (tells_more T22 (tells_more T23 (tells_last T24))) (by kernel_rfl) (by kernel_rfl))
  have hval : ∀ (j : Nat) t v, Try.f3.params[j]? = some t → args[j]? = some v → Value.okWide Try.prog W .any base t v := hval0
  have hW' := hW
  obtain ⟨p, q, hA0, hV, rfl, hfz, hnd⟩ := hW
  have hA : DataW.TrodAll enc Try.prog W 0 (fun _ => true) true Try.f3.params.toList args.toList ds p := hA0
  rw [Try.params3] at hA hval
  have hAll := hA
  obtain ⟨v0, vs0, d0, ds0, p0, q0, hargs, rfl, rfl, h0, r0⟩ := trodAll_cons hA
  obtain ⟨v1, vs1, d1, ds1, p1, q1, rfl, rfl, rfl, h1, r1⟩ := trodAll_cons r0
  obtain ⟨rfl, rfl, rfl⟩ := trodAll_nil r1
  obtain rfl : args = #[v0, v1] := by cases args; simp_all
  obtain ⟨rfl, rfl⟩ := trodVars_none hV
  obtain ⟨fu0, hf0⟩ := h0
  obtain ⟨a0, hT0, i0⟩ := (T26).op enc W fu0 _ _ hf0
  have e0 := told_agg (cs := [fzl true 2 (fun x1 : (List (ByteArray) × Int) => [fzl true 1 (fun x2 : ByteArray => [GV.str x2]) x1.1, GV.int .i64 x1.2]) a0.1, fzl true 1 (fun x1 : List (ByteArray) => [fzl true 1 (fun x2 : ByteArray => [GV.str x2]) x1]) a0.2.1, fzl true 1 (fun x1 : List (Int) => [fzl true 1 (fun x2 : Int => [GV.int .i64 x2]) x1]) a0.2.2]) hT0 (by have z := (hval 0 26 v0 rfl rfl); unfold Value.okWide at z; rw [Try.underlying26] at z; obtain ⟨cs, hz, _⟩ := z; exact ⟨cs, hz⟩)
  obtain ⟨fu1, hf1⟩ := h1
  obtain ⟨a1, hT1, i1⟩ := ((tells_int Try.underlying2 (by kernel_rfl))).op enc W fu1 _ _ hf1
  have e1 := told_one (g := GV.int .i64 a1) hT1 (by have z := (hval 1 2 v1 rfl rfl); unfold Value.okWide at z; rw [Try.underlying2] at z; rintro cs rfl; exact z)
  refine (law_N (us := [v0, v1]) (by kernel_rfl) names (noExt (C := cfg) (fun _ => rfl)) (by kernel_rfl) (FnExactFall_row a0 i0 a1 i1) (GL.start trivial fun _ => rfl) ⟨_, _, rfl, e0, ⟨_, _, rfl, e1, rfl⟩⟩).mono fun e W' ⟨he, bel⟩ => ?_
  subst he
  exact ⟨_, rfl, _, _, _, [], _, [], hW', trodAll_mk1 (shut_bool Try.underlying4 _), below_allT laidOut bel (by intro t ht; rw [Try.params3] at ht; simp only [List.mem_cons, List.not_mem_nil, or_false] at ht; rcases ht with rfl | rfl <;> exact ⟨by kernel_rfl, of_decide_eq_true (by kernel_rfl)⟩) hAll, rfl, bel.frame _, fun h => by cases h⟩
theorem fact_inPlace : (Rows.fnExactFallRow.inPlace == Try.prog.inPlace 3) = true := by kernel_rfl
theorem fact_unfollowed : (Rows.fnExactFallRow.unfollowed == Try.prog.unfollowed 3) = true := by kernel_rfl
theorem fact_recurses : (Rows.fnExactFallRow.recurses == Try.prog.recurses 3) = true := by kernel_rfl
theorem fact_named : (Rows.fnExactFallRow.named == Try.prog.varsNamed 3) = true := by kernel_rfl
theorem fact_enters : Try.prog.mayEnter = true := by kernel_rfl
theorem fact_lifts : (Rows.fnExactFallRow.lifted == Try.prog.liftsFinal) = true := by kernel_rfl
theorem fact_make : (Try.prog.make == some Rows.fnExactFallRow.make) = true := by kernel_rfl
theorem facts : joinedFacts Try.prog 3 Try.f3 Rows.fnExactFallSpec Rows.fnExactFallRow = true := by
  unfold joinedFacts
  rw [laidOut, fact_inPlace, fact_unfollowed, fact_recurses, fact_named, fact_enters, fact_lifts, fact_make]
  kernel_rfl
theorem named : Try.prog.funcNamed Rows.fnExactFallRow.func = some 3 := by kernel_rfl
theorem wrap : Try.f3.isWrapper Try.prog Rows.fnExactFallRow.wrapper Rows.fnExactFallRow.mainSum := by unfold Func.isWrapper; first | (rw [if_pos (by decide +kernel)]; kernel_rfl) | (rw [if_neg (by decide +kernel)]; exact ⟨rfl, rfl⟩)
theorem over : Rows.fnExactFallRow.holds Try.pinned (OpenSpec.ofChange Rows.fnExactFallSpec) :=
  OpenClaim.holds_of_wide 3 Try.f3 rfl rfl rfl rfl rfl rfl rfl ⟨rfl, rfl, rfl, rfl, rfl⟩ rfl rfl rfl rfl rfl named Try.func3 facts
    (of_decide_eq_true (by kernel_rfl)) wrap
    (fun os started H enc _ => lifted os started H enc)
theorem proved : Rows.FnExactFallSaid := over
#print axioms proved
end Go.Proofs.Ytlbnioapepelnaa.fnExactFall
namespace Go.Proofs.Ytlbnioapepelnaa
theorem fnExactFall_holds : Rows.FnExactFallSaid := fnExactFall.proved
end Go.Proofs.Ytlbnioapepelnaa
