/- The card of the law FnExactShowFrame: its arguments are told as data, the text YtklhdbkaejbajaaDoorRFnExactShowFrame says that it returns true for all data, on a machine of this session's own that was proved to answer as the model does; the listed package-level variables are read as they are listed; so the row holds, and the card. No condition. -/
import Derived.Test.YtklhdbkaejbajaaDoorRows
import Derived.Test.YtklhdbkaejbajaaDoorCards
import Derived.Test.YtklhdbkaejbajaaDoorTie
import Derived.Test.YtklhdbkaejbajaaDoorRFnExactShowFrame
import Derived.Test.YtklhdbkaejbajaaDoorTXX
import Derived.Test.YtklhdbkaejbajaaDoorTRk
import Derived.WalkKit
import Derived.Stop.LaidErr
import Derived.ProofKit
import Derived.OpenShut
import Derived.ShutString
import Derived.ChangeOld
import Derived.Below
import Derived.SizedLaws
import Derived.LaidMore
import Derived.Lay
import Derived.SevenTiedAt
import Derived.Stop.Joined
namespace Go.Proofs.YtklhdbkaejbajaaDoor.fnExactShowFrame
open Go.ChangeShapes Go.WideShapes Go.ChangeAt Go.RowKit Go.Proofs.YtklhdbkaejbajaaDoor.G
set_option linter.unusedVariables false
theorem own : ownKnob Tryd.prog.godebug = none := by kernel_rfl
theorem laidOut : laidOutB Tryd.prog = true := by kernel_rfl
theorem names : NameOk Tryd.prog := nameOk (by kernel_rfl)
theorem base_of {W : World} (h : laidMetH Tryd.prog Rows.fnExactShowFrameRow.laid W) (hs : W.ShapedOpen Tryd.prog) : Base W := by
  rw [MakeChecks.laidMetH_plain _ _ _ (by kernel_rfl)] at h
  have h2 := laidMet.filter (fun x => x.1 == "internal/strconv.uint64pow10") h
  exact Lib.tabIs_of_head (t := 251) (rest := []) (show Tryd.prog.globalNamed "internal/strconv.uint64pow10" = some 5 by kernel_rfl) (by kernel_rfl) Tryd.underlying251 Tryd.underlying202 (by kernel_rfl) (by kernel_rfl) h2
set_option maxRecDepth 100000 in
theorem lifted (os : Os) (started : os.Started) (H : Type) (enc : TypeId × Value → H) :
    ReturnsInHanded {} Tryd.checked os 12 .any (fun w args => (Rows.fnExactShowFrameSpec.pre enc Tryd.prog Tryd.f12 Rows.fnExactShowFrameRow.domain false w args ∧ laidMetH Tryd.prog Rows.fnExactShowFrameRow.laid w) ∧ sizedMet enc Tryd.prog Tryd.f12 (OpenSpec.ofChange Rows.fnExactShowFrameSpec) false w args) (Rows.fnExactShowFrameSpec.post enc Tryd.prog Tryd.f12 false true false false) := by
  refine ret_laid (C := Tryd.checked) own started (by kernel_rfl) Tryd.func12
    (ChangeSpec.witness_shaped (enc := enc) (C := Tryd.checked) (os := os) (X := fun w _ => laidMetH Tryd.prog Rows.fnExactShowFrameRow.laid w) false (World.laidAll Tryd.prog os Rows.fnExactShowFrameRow.laid) #[.agg #[.int .i64 0, .int .i64 0, .int .i64 0, .int .i64 0, .int .i64 0, .slice none 0 0]] 8 (World.laidAll_os _ _ _) (World.shaped_of_ZipB (by kernel_rfl) (by kernel_rfl)) (by kernel_rfl) (by kernel_rfl) (by kernel_rfl) (by rw [MakeChecks.laidMetH_plain _ _ _ (by kernel_rfl)]; exact laidMet_laidAll _ (by kernel_rfl) (by kernel_rfl))) ?_
  intro W base args ds gs before hval0 hW hLaid hShape
  have T84 := (tells_st Tryd.underlying84 rfl (tells_more (tells_int Tryd.underlying2 (by kernel_rfl)) (tells_more (tells_int Tryd.underlying2 (by kernel_rfl)) (tells_more (tells_bool Tryd.underlying4 (by kernel_rfl)) (tells_more (tells_bool Tryd.underlying4 (by kernel_rfl)) (tells_last (tells_bool Tryd.underlying4 (by kernel_rfl))))))) (by kernel_rfl) (by kernel_rfl))
  have T244 := (tells_st Tryd.underlying244 rfl (tells_more (tells_int Tryd.underlying2 (by kernel_rfl)) (tells_more T84 (tells_last (tells_int Tryd.underlying2 (by kernel_rfl))))) (by kernel_rfl) (by kernel_rfl))
  have T212 := (tells_sl (es := 7) Tryd.underlying212 (by kernel_rfl) (by kernel_rfl) T244)
  have T214 := (tells_st Tryd.underlying214 rfl (tells_more (tells_int Tryd.underlying2 (by kernel_rfl)) (tells_more (tells_int Tryd.underlying2 (by kernel_rfl)) (tells_last T212))) (by kernel_rfl) (by kernel_rfl))
  have T65 := (tells_sl (es := 3) Tryd.underlying65 (by kernel_rfl) (by kernel_rfl) T214)
  have T67 := (tells_st Tryd.underlying67 rfl (tells_more (tells_int Tryd.underlying2 (by kernel_rfl)) (tells_more (tells_int Tryd.underlying2 (by kernel_rfl)) (tells_last T65))) (by kernel_rfl) (by kernel_rfl))
  have T69 := (tells_st Tryd.underlying69 rfl (tells_more (tells_int Tryd.underlying2 (by kernel_rfl)) (tells_more (tells_int Tryd.underlying2 (by kernel_rfl)) (tells_more (tells_int Tryd.underlying2 (by kernel_rfl)) (tells_last T67)))) (by kernel_rfl) (by kernel_rfl))
  have hval : ∀ (j : Nat) t v, Tryd.f12.params[j]? = some t → args[j]? = some v → Value.okWide Tryd.prog W .any base t v := hval0
  have hW' := hW
  obtain ⟨p, q, hA0, hV, rfl, hfz, hnd⟩ := hW
  have hA : DataW.TrodAll enc Tryd.prog W 0 (fun _ => true) true Tryd.f12.params.toList args.toList ds p := hA0
  rw [Tryd.params12] at hA hval
  have hAll := hA
  obtain ⟨v0, vs0, d0, ds0, p0, q0, hargs, rfl, rfl, h0, r0⟩ := trodAll_cons hA
  obtain ⟨rfl, rfl, rfl⟩ := trodAll_nil r0
  obtain rfl : args = #[v0] := by cases args; simp_all
  obtain ⟨rfl, rfl⟩ := trodVars_none hV
  obtain ⟨fu0, hf0⟩ := h0
  obtain ⟨a0, hT0, i0⟩ := (T69).op enc W fu0 _ _ hf0
  have e0 := told_agg (cs := [GV.int .i64 a0.1, GV.int .i64 a0.2.1, GV.int .i64 a0.2.2.1, GV.int .i64 a0.2.2.2.1, GV.int .i64 a0.2.2.2.2.1, fzl true 3 (fun x1 : (Int × Int × List ((Int × (Int × Int × Bool × Bool × Bool) × Int))) => [GV.int .i64 x1.1, GV.int .i64 x1.2.1, fzl true 7 (fun x2 : (Int × (Int × Int × Bool × Bool × Bool) × Int) => [GV.int .i64 x2.1, GV.int .i64 x2.2.1.1, GV.int .i64 x2.2.1.2.1, GV.bool x2.2.1.2.2.1, GV.bool x2.2.1.2.2.2.1, GV.bool x2.2.1.2.2.2.2, GV.int .i64 x2.2.2]) x1.2.2]) a0.2.2.2.2.2]) hT0 (by have z := (hval 0 69 v0 rfl rfl); unfold Value.okWide at z; rw [Tryd.underlying69] at z; obtain ⟨cs, hz, _⟩ := z; exact ⟨cs, hz⟩)
  refine (law_N (us := [v0]) (by kernel_rfl) names xsound (by kernel_rfl) (FnExactShowFrame_row a0 i0) (GL.start (base_of hLaid hShape) fun _ => rfl) ⟨_, _, rfl, e0, rfl⟩).mono fun e W' ⟨he, bel⟩ => ?_
  subst he
  exact ⟨_, rfl, _, _, _, [], _, [], hW', trodAll_mk1 (shut_bool Tryd.underlying4 _), below_allT laidOut bel (by intro t ht; rw [Tryd.params12] at ht; simp only [List.mem_cons, List.not_mem_nil, or_false] at ht; subst ht; exact ⟨by kernel_rfl, of_decide_eq_true (by kernel_rfl)⟩) hAll, rfl, bel.frame _, fun h => by cases h⟩
theorem unf : Tryd.prog.unfollowed 12 = true := by kernel_rfl
theorem rec_false : Tryd.prog.recurses 12 = true := by
  unfold Program.recurses
  rw [unf, Bool.true_or]
theorem facts : joinedFacts Tryd.prog 12 Tryd.f12 Rows.fnExactShowFrameSpec Rows.fnExactShowFrameRow = true := by
  unfold joinedFacts
  rw [rec_false]
  kernel_rfl
theorem over : Rows.fnExactShowFrameRow.holds Tryd.pinned (OpenSpec.ofChange Rows.fnExactShowFrameSpec) :=
  OpenClaim.holds_of_wide 12 Tryd.f12 rfl rfl rfl rfl rfl rfl rfl ⟨rfl, rfl, rfl, rfl, rfl⟩ rfl rfl rfl rfl rfl (by kernel_rfl) Tryd.func12 facts
    (of_decide_eq_true (by kernel_rfl)) (by unfold Func.isWrapper; first | (rw [if_pos (by decide +kernel)]; kernel_rfl) | (rw [if_neg (by decide +kernel)]; exact ⟨rfl, rfl⟩))
    (fun os started H enc _ => lifted os started H enc)
theorem proved : Rows.FnExactShowFrameCardSaid :=
  Claim7.holds_tied_plain_at .later [] [.data, .data, .data] true (true, "2ea897f03287066f9ee72b7da1ce0d0fb8db96078aa9be931caa2e1cf572ed10") true over (fun _ h => by cases h) (by kernel_rfl) (fun _ h => by cases h) fnExactShowFrame_row_tie rfl ⟨rfl, rfl⟩ (by kernel_rfl) rfl
    (fun f fn hf hfn => by
      obtain rfl : f = 12 := Option.some.inj ((show Tryd.prog.funcNamed "loop.example/g00215/laws.FnExactShowFrame" = some 12 by kernel_rfl).symm.trans hf) |>.symm
      obtain rfl : fn = Tryd.f12 := (Option.some.inj (Tryd.func12.symm.trans hfn)).symm
      exact ⟨by kernel_rfl, fun j t ht => by
        rw [Tryd.params12] at ht
        have hm : t ∈ [69] := by simpa using Array.mem_of_getElem? ht
        have hall : ([69].all fun u => !Tryd.prog.wantsStandIn u) = true := by kernel_rfl
        exact (show Tryd.prog.wantsStandIn t = false by simpa using List.all_eq_true.1 hall t hm)⟩)
    (by kernel_rfl)
#print axioms proved
end Go.Proofs.YtklhdbkaejbajaaDoor.fnExactShowFrame
namespace Go.Proofs.YtklhdbkaejbajaaDoor
/-- The card, under a short name, for the claim. -/
theorem fnExactShowFrame_holds : Rows.FnExactShowFrameCardSaid := fnExactShowFrame.proved
end Go.Proofs.YtklhdbkaejbajaaDoor
