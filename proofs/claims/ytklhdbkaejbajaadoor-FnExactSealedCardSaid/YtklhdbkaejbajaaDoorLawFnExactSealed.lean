/- The card of the law FnExactSealed: its arguments are told as data, the text YtklhdbkaejbajaaDoorRFnExactSealed says that it returns true for all data, on a machine of this session's own that was proved to answer as the model does; the listed package-level variables are read as they are listed; so the row holds, and the card. No condition. -/
import Derived.Test.YtklhdbkaejbajaaDoorRows
import Derived.Test.YtklhdbkaejbajaaDoorCards
import Derived.Test.YtklhdbkaejbajaaDoorTie
import Derived.Test.YtklhdbkaejbajaaDoorRFnExactSealed
import Derived.Test.YtklhdbkaejbajaaDoorTXX
import Derived.WalkKit
import Derived.ProofKit
import Derived.OpenShut
import Derived.ShutString
import Derived.ChangeOld
import Derived.Below
import Derived.SizedLaws
import Derived.LaidMore
import Derived.Lay
import Derived.SevenTiedAt
import Derived.Stop.Joined
namespace Go.Proofs.YtklhdbkaejbajaaDoor.fnExactSealed
open Go.ChangeShapes Go.WideShapes Go.ChangeAt Go.RowKit Go.Proofs.YtklhdbkaejbajaaDoor.G
set_option linter.unusedVariables false
theorem own : ownKnob Tryd.prog.godebug = none := by kernel_rfl
theorem laidOut : laidOutB Tryd.prog = true := by kernel_rfl
theorem names : NameOk Tryd.prog := nameOk (by kernel_rfl)
theorem base_of {W : World} (h : laidMetH Tryd.prog Rows.fnExactSealedRow.laid W) (hs : W.ShapedOpen Tryd.prog) : Base W := by
  rw [MakeChecks.laidMetH_plain _ _ _ (by kernel_rfl)] at h
  have h2 := laidMet.filter (fun x => x.1 == "internal/strconv.uint64pow10") h
  exact Lib.tabIs_of_head (t := 251) (rest := []) (show Tryd.prog.globalNamed "internal/strconv.uint64pow10" = some 5 by kernel_rfl) (by kernel_rfl) Tryd.underlying251 Tryd.underlying202 (by kernel_rfl) (by kernel_rfl) h2
set_option maxRecDepth 100000 in
theorem lifted (os : Os) (started : os.Started) (H : Type) (enc : TypeId × Value → H) :
    ReturnsInHanded {} Tryd.checked os 4 .any (fun w args => (Rows.fnExactSealedSpec.pre enc Tryd.prog Tryd.f4 Rows.fnExactSealedRow.domain false w args ∧ laidMetH Tryd.prog Rows.fnExactSealedRow.laid w) ∧ sizedMet enc Tryd.prog Tryd.f4 (OpenSpec.ofChange Rows.fnExactSealedSpec) false w args) (Rows.fnExactSealedSpec.post enc Tryd.prog Tryd.f4 false true false false) := by
  refine ret_laid (C := Tryd.checked) own started (by kernel_rfl) Tryd.func4
    (ChangeSpec.witness_shaped (enc := enc) (C := Tryd.checked) (os := os) (X := fun w _ => laidMetH Tryd.prog Rows.fnExactSealedRow.laid w) false (World.laidAll Tryd.prog os Rows.fnExactSealedRow.laid) #[.string ByteArray.empty, .int .i64 0, .string ByteArray.empty] 8 (World.laidAll_os _ _ _) (World.shaped_of_ZipB (by kernel_rfl) (by kernel_rfl)) (by kernel_rfl) (by kernel_rfl) (by kernel_rfl) (by rw [MakeChecks.laidMetH_plain _ _ _ (by kernel_rfl)]; exact laidMet_laidAll _ (by kernel_rfl) (by kernel_rfl))) ?_
  intro W base args ds gs before hval0 hW hLaid hShape
  have hval : ∀ (j : Nat) t v, Tryd.f4.params[j]? = some t → args[j]? = some v → Value.okWide Tryd.prog W .any base t v := hval0
  have hW' := hW
  obtain ⟨p, q, hA0, hV, rfl, hfz, hnd⟩ := hW
  have hA : DataW.TrodAll enc Tryd.prog W 0 (fun _ => true) true Tryd.f4.params.toList args.toList ds p := hA0
  rw [Tryd.params4] at hA hval
  have hAll := hA
  obtain ⟨v0, vs0, d0, ds0, p0, q0, hargs, rfl, rfl, h0, r0⟩ := trodAll_cons hA
  obtain ⟨v1, vs1, d1, ds1, p1, q1, rfl, rfl, rfl, h1, r1⟩ := trodAll_cons r0
  obtain ⟨v2, vs2, d2, ds2, p2, q2, rfl, rfl, rfl, h2, r2⟩ := trodAll_cons r1
  obtain ⟨rfl, rfl, rfl⟩ := trodAll_nil r2
  obtain rfl : args = #[v0, v1, v2] := by cases args; simp_all
  obtain ⟨rfl, rfl⟩ := trodVars_none hV
  obtain ⟨fu0, hf0⟩ := h0
  obtain ⟨a0, hT0, i0⟩ := ((tells_string Tryd.underlying9 (by kernel_rfl))).op enc W fu0 _ _ hf0
  have e0 := told_one (g := GV.str a0) hT0 (by have z := (hval 0 9 v0 rfl rfl); unfold Value.okWide at z; rw [Tryd.underlying9] at z; rintro cs rfl; exact z)
  obtain ⟨fu1, hf1⟩ := h1
  obtain ⟨a1, hT1, i1⟩ := ((tells_int Tryd.underlying2 (by kernel_rfl))).op enc W fu1 _ _ hf1
  have e1 := told_one (g := GV.int .i64 a1) hT1 (by have z := (hval 1 2 v1 rfl rfl); unfold Value.okWide at z; rw [Tryd.underlying2] at z; rintro cs rfl; exact z)
  obtain ⟨fu2, hf2⟩ := h2
  obtain ⟨a2, hT2, i2⟩ := ((tells_string Tryd.underlying9 (by kernel_rfl))).op enc W fu2 _ _ hf2
  have e2 := told_one (g := GV.str a2) hT2 (by have z := (hval 2 9 v2 rfl rfl); unfold Value.okWide at z; rw [Tryd.underlying9] at z; rintro cs rfl; exact z)
  refine (law_N (us := [v0, v1, v2]) (by kernel_rfl) names xsound (by kernel_rfl) (FnExactSealed_row a0 i0 a1 i1 a2 i2) (GL.start (base_of hLaid hShape) fun _ => rfl) ⟨_, _, rfl, e0, ⟨_, _, rfl, e1, ⟨_, _, rfl, e2, rfl⟩⟩⟩).mono fun e W' ⟨he, bel⟩ => ?_
  subst he
  exact ⟨_, rfl, _, _, _, [], _, [], hW', trodAll_mk1 (shut_bool Tryd.underlying4 _), below_allT laidOut bel (by intro t ht; rw [Tryd.params4] at ht; simp only [List.mem_cons, List.not_mem_nil, or_false] at ht; rcases ht with rfl | rfl | rfl <;> exact ⟨by kernel_rfl, of_decide_eq_true (by kernel_rfl)⟩) hAll, rfl, bel.frame _, fun h => by cases h⟩
theorem over : Rows.fnExactSealedRow.holds Tryd.pinned (OpenSpec.ofChange Rows.fnExactSealedSpec) :=
  OpenClaim.holds_of_wide 4 Tryd.f4 rfl rfl rfl rfl rfl rfl rfl ⟨rfl, rfl, rfl, rfl, rfl⟩ rfl rfl rfl rfl rfl (by kernel_rfl) Tryd.func4 (by kernel_rfl)
    (of_decide_eq_true (by kernel_rfl)) (by unfold Func.isWrapper; first | (rw [if_pos (by decide +kernel)]; kernel_rfl) | (rw [if_neg (by decide +kernel)]; exact ⟨rfl, rfl⟩))
    (fun os started H enc _ => lifted os started H enc)
theorem proved : Rows.FnExactSealedCardSaid :=
  Claim7.holds_tied_plain_at .later [] [.data, .data, .data] true (true, "2ea897f03287066f9ee72b7da1ce0d0fb8db96078aa9be931caa2e1cf572ed10") true over (fun _ h => by cases h) (by kernel_rfl) (fun _ h => by cases h) fnExactSealed_row_tie rfl ⟨rfl, rfl⟩ (by kernel_rfl) rfl
    (fun f fn hf hfn => by
      obtain rfl : f = 4 := Option.some.inj ((show Tryd.prog.funcNamed "loop.example/g00215/laws.FnExactSealed" = some 4 by kernel_rfl).symm.trans hf) |>.symm
      obtain rfl : fn = Tryd.f4 := (Option.some.inj (Tryd.func4.symm.trans hfn)).symm
      exact ⟨by kernel_rfl, fun j t ht => by
        rw [Tryd.params4] at ht
        have hm : t ∈ [9, 2, 9] := by simpa using Array.mem_of_getElem? ht
        have hall : ([9, 2, 9].all fun u => !Tryd.prog.wantsStandIn u) = true := by kernel_rfl
        exact (show Tryd.prog.wantsStandIn t = false by simpa using List.all_eq_true.1 hall t hm)⟩)
    (by kernel_rfl)
#print axioms proved
end Go.Proofs.YtklhdbkaejbajaaDoor.fnExactSealed
namespace Go.Proofs.YtklhdbkaejbajaaDoor
/-- The card, under a short name, for the claim. -/
theorem fnExactSealed_holds : Rows.FnExactSealedCardSaid := fnExactSealed.proved
end Go.Proofs.YtklhdbkaejbajaaDoor
