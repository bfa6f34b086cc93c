/- The card of the law FnRecords: its arguments are told as data, the text YtklhdbkaejbajaaDoorRFnRecords says that it returns true for all data, on a machine of this session's own that was proved to answer as the model does; the listed package-level variables are read as they are listed; so the row holds, and the card. No condition. -/
import Derived.Test.YtklhdbkaejbajaaDoorRows
import Derived.Test.YtklhdbkaejbajaaDoorCards
import Derived.Test.YtklhdbkaejbajaaDoorTie
import Derived.Test.YtklhdbkaejbajaaDoorRFnRecords
import Derived.Test.YtklhdbkaejbajaaDoorTXX
import Derived.Test.YtklhdbkaejbajaaDoorTRk
import Derived.WalkKit
import Derived.Stop.LaidErr
import Derived.ProofKit
import Derived.OpenShut
import Derived.ShutString
import Derived.ChangeOld
import Derived.Below
import Derived.SizedLaws
import Derived.LaidMore
import Derived.Lay
import Derived.SevenTiedAt
import Derived.Stop.Joined
namespace Go.Proofs.YtklhdbkaejbajaaDoor.fnRecords
open Go.ChangeShapes Go.WideShapes Go.ChangeAt Go.RowKit Go.Proofs.YtklhdbkaejbajaaDoor.G
set_option linter.unusedVariables false
theorem own : ownKnob Tryd.prog.godebug = none := by kernel_rfl
theorem laidOut : laidOutB Tryd.prog = true := by kernel_rfl
theorem names : NameOk Tryd.prog := nameOk (by kernel_rfl)
theorem base_of {W : World} (h : laidMetH Tryd.prog Rows.fnRecordsRow.laid W) (hs : W.ShapedOpen Tryd.prog) : Base W := by
  rw [MakeChecks.laidMetH_plain _ _ _ (by kernel_rfl)] at h
  have star : "*" ++ "errors.errorString" = "*errors.errorString" := by decide
  have hrow : ∀ u, Tryd.prog.typeName? 3 u = some "*errors.errorString" → u = 261 := fun u h =>
    typeName_ptr_named (nm := "errors.errorString") (by rw [star]; kernel_rfl) (by kernel_rfl) (by decide) u (by rw [star]; exact h)
  have c263 : Tryd.prog.cellsOf 263 = 1 := by kernel_rfl
  have c9 : Tryd.prog.cellsOf 9 = 1 := by kernel_rfl
  have g1 : Tryd.prog.globalNamed "strconv.ErrSyntax" = some 1 := by kernel_rfl
  have g2 : Tryd.prog.globalNamed "strconv.ErrRange" = some 2 := by kernel_rfl
  have h2 := laidMet.filter (fun x => x.1 == "internal/strconv.uint64pow10") h
  have h3 := laidMet.filter (fun x => x.1 == "strconv.ErrSyntax") h
  have h4 := laidMet.filter (fun x => x.1 == "strconv.ErrRange") h
  refine ⟨Lib.tabIs_of_head (t := 251) (rest := []) (show Tryd.prog.globalNamed "internal/strconv.uint64pow10" = some 5 by kernel_rfl) (by kernel_rfl) Tryd.underlying251 Tryd.underlying202 (by kernel_rfl) (by kernel_rfl) h2,
    Tryd.laysM145.s1_3 W hs, ?_, ?_⟩
  · obtain ⟨a, s, hv, _⟩ := laid_sentinel (r := []) h3 g1 (by kernel_rfl) Tryd.underlying113 hrow Tryd.underlying261 Tryd.underlying263 rfl rfl Tryd.underlying9 c263 c9
    exact ⟨_, (World.var?_cell g1 hv 0).trans rfl, .inr ⟨_, _, rfl⟩⟩
  · obtain ⟨a, s, hv, _⟩ := laid_sentinel (r := []) h4 g2 (by kernel_rfl) Tryd.underlying113 hrow Tryd.underlying261 Tryd.underlying263 rfl rfl Tryd.underlying9 c263 c9
    exact ⟨_, (World.var?_cell g2 hv 0).trans rfl, .inr ⟨_, _, rfl⟩⟩
set_option maxRecDepth 100000 in
theorem lifted (os : Os) (started : os.Started) (H : Type) (enc : TypeId × Value → H) :
    ReturnsInHanded {} Tryd.checked os 10 .any (fun w args => (Rows.fnRecordsSpec.pre enc Tryd.prog Tryd.f10 Rows.fnRecordsRow.domain false w args ∧ laidMetH Tryd.prog Rows.fnRecordsRow.laid w) ∧ sizedMet enc Tryd.prog Tryd.f10 (OpenSpec.ofChange Rows.fnRecordsSpec) false w args) (Rows.fnRecordsSpec.post enc Tryd.prog Tryd.f10 false true false false) := by
  refine ret_laid (C := Tryd.checked) own started (by kernel_rfl) Tryd.func10
    (ChangeSpec.witness_shaped (enc := enc) (C := Tryd.checked) (os := os) (X := fun w _ => laidMetH Tryd.prog Rows.fnRecordsRow.laid w) false (World.laidAll Tryd.prog os Rows.fnRecordsRow.laid) #[.slice none 0 0] 8 (World.laidAll_os _ _ _) (World.shaped_of_ZipB (by kernel_rfl) (by kernel_rfl)) (by kernel_rfl) (by kernel_rfl) (by kernel_rfl) (by rw [MakeChecks.laidMetH_plain _ _ _ (by kernel_rfl)]; exact laidMet_laidAll _ (by kernel_rfl) (by kernel_rfl))) ?_
  intro W base args ds gs before hval0 hW hLaid hShape
  have T44 := (tells_sl (es := 1) Tryd.underlying44 (by kernel_rfl) (by kernel_rfl) (tells_int Tryd.underlying5 (by kernel_rfl)))
  have hval : ∀ (j : Nat) t v, Tryd.f10.params[j]? = some t → args[j]? = some v → Value.okWide Tryd.prog W .any base t v := hval0
  have hW' := hW
  obtain ⟨p, q, hA0, hV, rfl, hfz, hnd⟩ := hW
  have hA : DataW.TrodAll enc Tryd.prog W 0 (fun _ => true) true Tryd.f10.params.toList args.toList ds p := hA0
  rw [Tryd.params10] at hA hval
  have hAll := hA
  obtain ⟨v0, vs0, d0, ds0, p0, q0, hargs, rfl, rfl, h0, r0⟩ := trodAll_cons hA
  obtain ⟨rfl, rfl, rfl⟩ := trodAll_nil r0
  obtain rfl : args = #[v0] := by cases args; simp_all
  obtain ⟨rfl, rfl⟩ := trodVars_none hV
  obtain ⟨fu0, hf0⟩ := h0
  obtain ⟨a0, hT0, i0⟩ := (T44).op enc W fu0 _ _ hf0
  have e0 := told_one (g := fzl true 1 (fun x1 : Int => [GV.int .u8 x1]) a0) hT0 (by have z := (hval 0 44 v0 rfl rfl); unfold Value.okWide at z; rw [Tryd.underlying44] at z; rintro cs rfl; exact z)
  refine (law_N (us := [v0]) (by kernel_rfl) names xsound (by kernel_rfl) (FnRecords_row a0 i0) (GL.start (base_of hLaid hShape) fun _ => rfl) ⟨_, _, rfl, e0, rfl⟩).mono fun e W' ⟨he, bel⟩ => ?_
  subst he
  exact ⟨_, rfl, _, _, _, [], _, [], hW', trodAll_mk1 (shut_bool Tryd.underlying4 _), below_allT laidOut bel (by intro t ht; rw [Tryd.params10] at ht; simp only [List.mem_cons, List.not_mem_nil, or_false] at ht; subst ht; exact ⟨by kernel_rfl, of_decide_eq_true (by kernel_rfl)⟩) hAll, rfl, bel.frame _, fun h => by cases h⟩
theorem unf : Tryd.prog.unfollowed 10 = false := by kernel_rfl
theorem rec_false : Tryd.prog.recurses 10 = false := recurses_false [10, 53, 52, 49, 102, 153, 48, 47, 101, 46, 100, 45, 44, 99, 152, 193, 151, 192, 163, 43, 98, 97, 93, 150, 90, 32, 25, 80, 146, 104, 87, 149, 191, 186, 78, 144, 185, 184, 225, 243, 224, 183, 182, 223, 143, 181, 222, 221, 77, 142, 180, 220, 242, 219, 218, 190, 229, 24, 79, 145, 83, 96, 15, 68, 139, 176, 215, 239, 246, 245, 238, 214, 213, 237, 236, 235, 212, 50, 38, 14, 67, 51, 39, 95] (by kernel_rfl) (by kernel_rfl) unf
theorem facts : joinedFacts Tryd.prog 10 Tryd.f10 Rows.fnRecordsSpec Rows.fnRecordsRow = true := by
  unfold joinedFacts
  rw [rec_false]
  kernel_rfl
theorem over : Rows.fnRecordsRow.holds Tryd.pinned (OpenSpec.ofChange Rows.fnRecordsSpec) :=
  OpenClaim.holds_of_wide 10 Tryd.f10 rfl rfl rfl rfl rfl rfl rfl ⟨rfl, rfl, rfl, rfl, rfl⟩ rfl rfl rfl rfl rfl (by kernel_rfl) Tryd.func10 facts
    (of_decide_eq_true (by kernel_rfl)) (by unfold Func.isWrapper; first | (rw [if_pos (by decide +kernel)]; kernel_rfl) | (rw [if_neg (by decide +kernel)]; exact ⟨rfl, rfl⟩))
    (fun os started H enc _ => lifted os started H enc)
theorem proved : Rows.FnRecordsCardSaid :=
  Claim7.holds_tied_plain_at .later [] [.data, .data, .data, .sentinel, .sentinel] true (true, "2ea897f03287066f9ee72b7da1ce0d0fb8db96078aa9be931caa2e1cf572ed10") true over (fun _ h => by cases h) (by kernel_rfl) (fun _ h => by cases h) fnRecords_row_tie rfl ⟨rfl, rfl⟩ (by kernel_rfl) rfl
    (fun f fn hf hfn => by
      obtain rfl : f = 10 := Option.some.inj ((show Tryd.prog.funcNamed "loop.example/g00215/laws.FnRecords" = some 10 by kernel_rfl).symm.trans hf) |>.symm
      obtain rfl : fn = Tryd.f10 := (Option.some.inj (Tryd.func10.symm.trans hfn)).symm
      exact ⟨by kernel_rfl, fun j t ht => by
        rw [Tryd.params10] at ht
        have hm : t ∈ [44] := by simpa using Array.mem_of_getElem? ht
        have hall : ([44].all fun u => !Tryd.prog.wantsStandIn u) = true := by kernel_rfl
        exact (show Tryd.prog.wantsStandIn t = false by simpa using List.all_eq_true.1 hall t hm)⟩)
    (by kernel_rfl)
#print axioms proved
end Go.Proofs.YtklhdbkaejbajaaDoor.fnRecords
namespace Go.Proofs.YtklhdbkaejbajaaDoor
/-- The card, under a short name, for the claim. -/
theorem fnRecords_holds : Rows.FnRecordsCardSaid := fnRecords.proved
end Go.Proofs.YtklhdbkaejbajaaDoor
