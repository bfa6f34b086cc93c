/- Frames as texts: both sides. -/
import Derived.Test.YtklhdbkaejbajaaDoorTPat6
namespace Go.Proofs.YtklhdbkaejbajaaDoor.G
open Go.RowKit Go.Lib
set_option linter.unusedVariables false
set_option linter.unusedSimpArgs false

abbrev FrameT := Int × Int × Int × Pat
def rngB (a b c : Int) : Bool := decide (b ≤ a) && decide (a ≤ c)
def frmP (f : FrameT) : Bool := rngB f.1 0 60 && (rngB f.2.1 0 60 && (rngB f.2.2.1 0 10000 && !decide (((showPM f.2.2.2).length : Int) = 0)))
def frmT (f : FrameT) : List UInt8 := itoa f.1 ++ [32] ++ itoa f.2.1 ++ [32] ++ itoa f.2.2.1 ++ [32] ++ showPM f.2.2.2
def showFM (f : FrameT) : List UInt8 := if frmP f = true then frmT f else []
theorem showPM_len (p : Pat) : (showPM p).length ≤ 2545242 := by
  unfold showPM
  by_cases h : p.2.2.length ≤ 400 ∧ patP p = true
  · rw [if_pos h]
    have h2 := h.2
    unfold patP at h2
    rw [Bool.and_eq_true] at h2
    have := spcM_len h2.2
    have := patN_len h.1 h2.1
    omega
  · rw [if_neg h]; exact Nat.zero_le _
theorem spcM_three (a b c : Int) : spcM [a, b, c] = itoa a ++ [32] ++ itoa b ++ [32] ++ itoa c := by
  unfold spcM
  rw [List.map_cons, List.map_cons, List.map_cons, List.map_nil, join_cons, join_cons, join_one]
  simp
theorem spaced_three {a b c : Int} (hb : ∀ n ∈ [a, b, c], -9223372036854775808 ≤ n ∧ n ≤ 9223372036854775807) (B : List GV) : kN NN fn.impl_spaced [.sl 1 0 3 3 1] [B, [.int .i64 a, .int .i64 b, .int .i64 c]] = some (.str (bs (spcM [a, b, c]))) := by
  obtain ⟨r, hr⟩ := bor_sl (mk := ci) (fun _ => rfl) (fun _ => rfl) (l := [a, b, c]) (h := [B, [.int .i64 a, .int .i64 b, .int .i64 c]]) (b := 1) rfl
  refine kN_at (xs := [fzl true 1 ci [a, b, c]]) ?_ (impl_spaced_spec [a, b, c] (by simp) hb)
  have hr' : bor 9 [B, [.int .i64 a, .int .i64 b, .int .i64 c]] (.sl 1 0 3 3 1) = some (fzl true 1 ci [a, b, c], r) := hr
  rw [bors_cons, hr']; rfl
theorem rngB_b {a b c : Int} (h : rngB a b c = true) : b ≤ a ∧ a ≤ c := by
  unfold rngB at h
  simpa only [Bool.and_eq_true, decide_eq_true_eq] using h
theorem impl_ShowFrame_spec (f : FrameT) : NN fn.impl_ShowFrame [.agg (mFrame true f)] = some (.str (bs (showFM f))) := by
  apply S.impl_ShowFrame.gives (k := 0)
  have hbo : ∀ {Q : Type} (K : GV → Heap → Option Q), kbox (.agg (mFrame true f)) [] K = K (.ptr 0 0 6) [mFrame true f] := fun K => rfl
  have lA : kloadA 3 [mFrame true f] (.ptr 0 3 6) = some (.agg (mPatch true f.2.2.2)) := kpartA_at (cells := mFrame true f) rfl rfl rfl (by simp)
  have l0 : kload1 [mFrame true f] (.ptr 0 0 6) = some (.int .i64 f.1) := var_get (c := mFrame true f) rfl rfl
  have l1 : kload1 [mFrame true f] (.ptr 0 1 6) = some (.int .i64 f.2.1) := var_get (c := mFrame true f) rfl rfl
  have l2 : kload1 [mFrame true f] (.ptr 0 2 6) = some (.int .i64 f.2.2.1) := var_get (c := mFrame true f) rfl rfl
  have kp : kN NN fn.impl_ShowPatch [.agg (mPatch true f.2.2.2)] [mFrame true f] = some (.str (bs (showPM f.2.2.2))) := kN_at (by simp) (impl_ShowPatch_spec _)
  have ki : ∀ (a b c : Int) H, kN NN fn.impl_in [.int .i64 a, .int .i64 b, .int .i64 c] H = some (.bool (rngB a b c)) := fun a b c H => kN_at (by simp) (impl_in_spec a b c)
  have ke := bs_nil_len (l := showPM f.2.2.2)
  have k1 := ki f.1 0 60
  have k2 := ki f.2.1 0 60
  have k3 := ki f.2.2.1 0 10000
  clear ki
  have gf := gf3 (a := f.1) (b := f.2.1) (c := f.2.2.1)
  have sp := fun hb => spaced_three (a := f.1) (b := f.2.1) (c := f.2.2.1) hb (mFrame true f)
  have hln := showPM_len f.2.2.2
  have ho : [mFrame true f] ++ [[GV.int .i64 f.1, .int .i64 f.2.1, .int .i64 f.2.2.1]] = [mFrame true f, [GV.int .i64 f.1, .int .i64 f.2.1, .int .i64 f.2.2.1]] := rfl
  unfold showFM frmP
  cases c1 : rngB f.1 0 60
  · rw [c1] at k1
    generalize mFrame true f = C at *
    generalize GV.agg (mPatch true f.2.2.2) = P at *
    generalize GV.str (bs (showPM f.2.2.2)) = X at *
    simp [S.impl_ShowFrame.run, hbo, lA, l0, kp, k1, -kbox_agg, -kload1_ptr, -kloadA_ptr, -kN_eq]
  cases c2 : rngB f.2.1 0 60
  · rw [c1] at k1
    rw [c2] at k2
    generalize mFrame true f = C at *
    generalize GV.agg (mPatch true f.2.2.2) = P at *
    generalize GV.str (bs (showPM f.2.2.2)) = X at *
    simp [S.impl_ShowFrame.run, hbo, lA, l0, l1, kp, k1, k2, -kbox_agg, -kload1_ptr, -kloadA_ptr, -kN_eq]
  cases c3 : rngB f.2.2.1 0 10000
  · rw [c1] at k1
    rw [c2] at k2
    rw [c3] at k3
    generalize mFrame true f = C at *
    generalize GV.agg (mPatch true f.2.2.2) = P at *
    generalize GV.str (bs (showPM f.2.2.2)) = X at *
    simp [S.impl_ShowFrame.run, hbo, lA, l0, l1, l2, kp, k1, k2, k3, -kbox_agg, -kload1_ptr, -kloadA_ptr, -kN_eq]
  rw [c1] at k1
  rw [c2] at k2
  rw [c3] at k3
  cases c4 : decide (((showPM f.2.2.2).length : Int) = 0)
  · rw [c4] at ke
    have r1 := rngB_b c1
    have r2 := rngB_b c2
    have r3 := rngB_b c3
    have sp := sp (fun n hn => by
      simp only [List.mem_cons, List.not_mem_nil, or_false] at hn
      rcases hn with rfl | rfl | rfl <;> omega)
    have z1 := itoa_len (n := f.1) (by omega) (by omega)
    have z2 := itoa_len (n := f.2.1) (by omega) (by omega)
    have z3 := itoa_len (n := f.2.2.1) (by omega) (by omega)
    have e3 := spcM_three f.1 f.2.1 f.2.2.1
    have zl : (spcM [f.1, f.2.1, f.2.2.1]).length ≤ 62 := by
      rw [e3]
      simp only [List.length_append, List.length_singleton]
      omega
    have a1 : kbin .add (.str (bs (spcM [f.1, f.2.1, f.2.2.1]))) (.str { data := #[32] }) = some (.str (bs (spcM [f.1, f.2.1, f.2.2.1] ++ [32]))) := kadd_c (B := [32]) rfl (by simp only [List.length_cons, List.length_nil, maxLen]; omega)
    have a2 := kadd_bs (a := spcM [f.1, f.2.1, f.2.2.1] ++ [32]) (b := showPM f.2.2.2) (by simp only [List.length_append, List.length_cons, List.length_nil, maxLen]; omega)
    have fT := fun h => finN_bs (spcM [f.1, f.2.1, f.2.2.1] ++ [32] ++ showPM f.2.2.2) h
    have eT : frmT f = spcM [f.1, f.2.1, f.2.2.1] ++ [32] ++ showPM f.2.2.2 := by unfold frmT; rw [e3]
    show _ = some (GV.str (bs (frmT f)))
    rw [eT]
    generalize GV.str (bs (spcM [f.1, f.2.1, f.2.2.1] ++ [32] ++ showPM f.2.2.2)) = Y at *
    generalize GV.str (bs (spcM [f.1, f.2.1, f.2.2.1] ++ [32])) = Y1 at *
    generalize GV.str (bs (spcM [f.1, f.2.1, f.2.2.1])) = Y0 at *
    generalize mFrame true f = C at *
    generalize GV.agg (mPatch true f.2.2.2) = P at *
    generalize GV.str (bs (showPM f.2.2.2)) = X at *
    generalize GV.int .i64 f.1 = x1 at *
    generalize GV.int .i64 f.2.1 = x2 at *
    generalize GV.int .i64 f.2.2.1 = x3 at *
    simp [S.impl_ShowFrame.run, hbo, lA, l0, l1, l2, kp, k1, k2, k3, ke, gf, kbs_eq, sp, a1, a2, fT, -kbox_agg, -kload1_ptr, -kloadA_ptr, -kN_eq]
  · rw [c4] at ke
    generalize mFrame true f = C at *
    generalize GV.agg (mPatch true f.2.2.2) = P at *
    generalize GV.str (bs (showPM f.2.2.2)) = X at *
    simp [S.impl_ShowFrame.run, hbo, lA, l0, l1, l2, kp, k1, k2, k3, ke, -kbox_agg, -kload1_ptr, -kloadA_ptr, -kN_eq]
theorem spec_ShowFrame_spec (f : FrameT) : NN fn.spec_ShowFrame [.agg (mFrame true f)] = some (.str (bs (showFM f))) := by
  apply S.spec_ShowFrame.gives (k := 0)
  have hbo : ∀ {Q : Type} (K : GV → Heap → Option Q), kbox (.agg (mFrame true f)) [] K = K (.ptr 0 0 6) [mFrame true f] := fun K => rfl
  have lA : kloadA 3 [mFrame true f] (.ptr 0 3 6) = some (.agg (mPatch true f.2.2.2)) := kpartA_at (cells := mFrame true f) rfl rfl rfl (by simp)
  have l0 : kload1 [mFrame true f] (.ptr 0 0 6) = some (.int .i64 f.1) := var_get (c := mFrame true f) rfl rfl
  have l1 : kload1 [mFrame true f] (.ptr 0 1 6) = some (.int .i64 f.2.1) := var_get (c := mFrame true f) rfl rfl
  have l2 : kload1 [mFrame true f] (.ptr 0 2 6) = some (.int .i64 f.2.2.1) := var_get (c := mFrame true f) rfl rfl
  have kp : kN NN fn.spec_ShowPatch [.agg (mPatch true f.2.2.2)] [mFrame true f] = some (.str (bs (showPM f.2.2.2))) := kN_at (by simp) (spec_ShowPatch_spec _)
  have ki : ∀ (a b c : Int) H, kN NN fn.spec_l1In [.int .i64 a, .int .i64 b, .int .i64 c] H = some (.bool (rngB a b c)) := fun a b c H => kN_at (by simp) (spec_l1In_spec a b c)
  have ke := bs_nil_len (l := showPM f.2.2.2)
  have k1 := ki f.1 0 60
  have k2 := ki f.2.1 0 60
  have k3 := ki f.2.2.1 0 10000
  clear ki
  have hln := showPM_len f.2.2.2
  unfold showFM frmP
  cases c1 : rngB f.1 0 60
  · rw [c1] at k1
    generalize mFrame true f = C at *
    generalize GV.agg (mPatch true f.2.2.2) = P at *
    generalize GV.str (bs (showPM f.2.2.2)) = X at *
    simp [S.spec_ShowFrame.run, hbo, lA, l0, kp, k1, -kbox_agg, -kload1_ptr, -kloadA_ptr, -kN_eq]
  cases c2 : rngB f.2.1 0 60
  · rw [c1] at k1
    rw [c2] at k2
    generalize mFrame true f = C at *
    generalize GV.agg (mPatch true f.2.2.2) = P at *
    generalize GV.str (bs (showPM f.2.2.2)) = X at *
    simp [S.spec_ShowFrame.run, hbo, lA, l0, l1, kp, k1, k2, -kbox_agg, -kload1_ptr, -kloadA_ptr, -kN_eq]
  cases c3 : rngB f.2.2.1 0 10000
  · rw [c1] at k1
    rw [c2] at k2
    rw [c3] at k3
    generalize mFrame true f = C at *
    generalize GV.agg (mPatch true f.2.2.2) = P at *
    generalize GV.str (bs (showPM f.2.2.2)) = X at *
    simp [S.spec_ShowFrame.run, hbo, lA, l0, l1, l2, kp, k1, k2, k3, -kbox_agg, -kload1_ptr, -kloadA_ptr, -kN_eq]
  rw [c1] at k1
  rw [c2] at k2
  rw [c3] at k3
  cases c4 : decide (((showPM f.2.2.2).length : Int) = 0)
  · rw [c4] at ke
    have r1 := rngB_b c1
    have r2 := rngB_b c2
    have r3 := rngB_b c3
    have d1 : ∀ H, kN NN fn.spec_l3Int [.int .i64 f.1] H = some (.str (bs (itoa f.1))) := fun H => kN_at (by simp) (spec_l3Int_spec _ (by omega) (by omega))
    have d2 : ∀ H, kN NN fn.spec_l3Int [.int .i64 f.2.1] H = some (.str (bs (itoa f.2.1))) := fun H => kN_at (by simp) (spec_l3Int_spec _ (by omega) (by omega))
    have d3 : ∀ H, kN NN fn.spec_l3Int [.int .i64 f.2.2.1] H = some (.str (bs (itoa f.2.2.1))) := fun H => kN_at (by simp) (spec_l3Int_spec _ (by omega) (by omega))
    have z1 := itoa_len (n := f.1) (by omega) (by omega)
    have z2 := itoa_len (n := f.2.1) (by omega) (by omega)
    have z3 := itoa_len (n := f.2.2.1) (by omega) (by omega)
    have a1 : kbin .add (.str (bs (itoa f.1))) (.str { data := #[32] }) = some (.str (bs (itoa f.1 ++ [32]))) := kadd_c (B := [32]) rfl (by simp only [List.length_cons, List.length_nil, maxLen]; omega)
    have a2 := kadd_bs (a := itoa f.1 ++ [32]) (b := itoa f.2.1) (by simp only [List.length_append, List.length_cons, List.length_nil, maxLen]; omega)
    have a3 : kbin .add (.str (bs (itoa f.1 ++ [32] ++ itoa f.2.1))) (.str { data := #[32] }) = some (.str (bs (itoa f.1 ++ [32] ++ itoa f.2.1 ++ [32]))) := kadd_c (B := [32]) rfl (by simp only [List.length_append, List.length_cons, List.length_nil, maxLen]; omega)
    have a4 := kadd_bs (a := itoa f.1 ++ [32] ++ itoa f.2.1 ++ [32]) (b := itoa f.2.2.1) (by simp only [List.length_append, List.length_cons, List.length_nil, maxLen]; omega)
    have a5 : kbin .add (.str (bs (itoa f.1 ++ [32] ++ itoa f.2.1 ++ [32] ++ itoa f.2.2.1))) (.str { data := #[32] }) = some (.str (bs (itoa f.1 ++ [32] ++ itoa f.2.1 ++ [32] ++ itoa f.2.2.1 ++ [32]))) := kadd_c (B := [32]) rfl (by simp only [List.length_append, List.length_cons, List.length_nil, maxLen]; omega)
    have a6 := kadd_bs (a := itoa f.1 ++ [32] ++ itoa f.2.1 ++ [32] ++ itoa f.2.2.1 ++ [32]) (b := showPM f.2.2.2) (by simp only [List.length_append, List.length_cons, List.length_nil, maxLen]; omega)
    have fT : ∀ h, finN (.str (bs (frmT f))) h = some (.str (bs (frmT f))) := fun h => finN_bs _ h
    have a6' : kbin .add (.str (bs (itoa f.1 ++ [32] ++ itoa f.2.1 ++ [32] ++ itoa f.2.2.1 ++ [32]))) (.str (bs (showPM f.2.2.2))) = some (.str (bs (frmT f))) := a6
    show _ = some (GV.str (bs (frmT f)))
    clear a6
    generalize GV.str (bs (frmT f)) = Y7 at *
    generalize GV.str (bs (itoa f.1 ++ [32] ++ itoa f.2.1 ++ [32] ++ itoa f.2.2.1 ++ [32])) = Y6 at *
    generalize GV.str (bs (itoa f.1 ++ [32] ++ itoa f.2.1 ++ [32] ++ itoa f.2.2.1)) = Y5 at *
    generalize GV.str (bs (itoa f.1 ++ [32] ++ itoa f.2.1 ++ [32])) = Y4 at *
    generalize GV.str (bs (itoa f.1 ++ [32] ++ itoa f.2.1)) = Y3 at *
    generalize GV.str (bs (itoa f.1 ++ [32])) = Y2 at *
    generalize GV.str (bs (itoa f.1)) = Y1 at *
    generalize GV.str (bs (itoa f.2.1)) = Z2 at *
    generalize GV.str (bs (itoa f.2.2.1)) = Z3 at *
    generalize mFrame true f = C at *
    generalize GV.agg (mPatch true f.2.2.2) = P at *
    generalize GV.str (bs (showPM f.2.2.2)) = X at *
    generalize GV.int .i64 f.1 = x1 at *
    generalize GV.int .i64 f.2.1 = x2 at *
    generalize GV.int .i64 f.2.2.1 = x3 at *
    simp [S.spec_ShowFrame.run, hbo, lA, l0, l1, l2, kp, k1, k2, k3, ke, d1, d2, d3, a1, a2, a3, a4, a5, a6', fT, -kbox_agg, -kload1_ptr, -kloadA_ptr, -kN_eq]
  · rw [c4] at ke
    generalize mFrame true f = C at *
    generalize GV.agg (mPatch true f.2.2.2) = P at *
    generalize GV.str (bs (showPM f.2.2.2)) = X at *
    simp [S.spec_ShowFrame.run, hbo, lA, l0, l1, l2, kp, k1, k2, k3, ke, -kbox_agg, -kload1_ptr, -kloadA_ptr, -kN_eq]

end Go.Proofs.YtklhdbkaejbajaaDoor.G
