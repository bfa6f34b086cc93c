/- What is certain of a chain. -/
import Derived.Test.YtopmnigfklgnkaaTChain3
import Derived.Test.YtopmnigfklgnkaaTL
namespace Go.Proofs.Ytopmnigfklgnkaa.G
open Go.RowKit
set_option linter.unusedVariables false
set_option linter.unusedSimpArgs false

abbrev ChainT := CServers × List (List ByteArray) × List (List Int)
open Classical in
/-- What is certain. -/
noncomputable def certM (a : ChainT) : List ByteArray := if ChainP a.1 a.2.1 a.2.2 then (a.1[0]?.getD ([], 0)).1.take (a.1[0]?.getD ([], 0)).2.toNat else []
theorem server0 {xs : CServers} {ds : List (List ByteArray)} {us : List (List Int)} (h : ChainP xs ds us) : ∃ h0 : 0 < xs.length, xs[0]?.getD ([], 0) = xs[0] ∧ 0 ≤ xs[0].2 ∧ xs[0].2 ≤ xs[0].1.length ∧ xs[0].1.length ≤ 60 := by
  have h0 : 0 < xs.length := by have := h.1.1; omega
  have hs := h.2.2.2.1 xs[0] (List.getElem_mem h0)
  exact ⟨h0, by rw [get_of h0]; rfl, hs.2.1.1, hs.2.1.2, hs.1⟩
open Classical in
theorem spec_Certain_spec (a : ChainT) (hm : okChain a) : NN fn.spec_Certain [.agg (mChain true a)] = some (fzl false 1 cs (certM a)) := by
  obtain ⟨xs, ds, us⟩ := a
  apply S.spec_Certain.gives (k := 0)
  have hc := spec_ChainOk_spec xs ds us hm
  by_cases h : ChainP xs ds us
  · rw [decide_eq_true h] at hc
    obtain ⟨h0, e0, e1, e2, e3⟩ := server0 h
    have hcm : certM (xs, ds, us) = xs[0].1.take xs[0].2.toNat := by unfold certM; rw [if_pos h, e0]
    have hl : NN fn.spec_l17Certain [.agg (mChain true (xs, ds, us))] = some (fzl false 1 cs (xs[0].1.take xs[0].2.toNat)) := by
      apply S.spec_l17Certain.gives (k := 0)
      have ks := ksl_fzl (es := 1) (t := true) (mk := cs) (fun _ => rfl) e1 e2
      have ht := spec_l17Texts_spec (xs[0].1.take xs[0].2.toNat) (by rw [List.length_take]; omega)
      by_cases hz : (xs[0].1.take xs[0].2.toNat).length = 0
      · simp only [hz, if_true] at ht
        have hz' := List.eq_nil_of_length_eq_zero hz
        simp [S.spec_l17Certain.run, h0, get_of h0, ks, ht, -List.length_take, -List.take_eq_nil_iff]
        rw [hz']
        exact finN_of frz_emp
      · simp only [hz, if_false] at ht
        simp [S.spec_l17Certain.run, h0, get_of h0, ks, ht, -List.length_take]
        exact finN_of (frz_sl (mk := cs) (mk' := cs) (rest := []) (fun _ => rfl) (by simp) (by rw [List.append_nil]; exact len_flat (mk := cs) (es := 1) (fun _ => rfl) _) (Nat.le_refl _) (fun a _ => .cs))
    rw [hcm]
    have hl' := hl
    simp only [mChain] at hl'
    simp [S.spec_Certain.run, hc, hl']
    exact finN_of frz_fzl
  · rw [decide_eq_false h] at hc
    have hcm : certM (xs, ds, us) = [] := by unfold certM; rw [if_neg h]
    rw [hcm]
    simp [S.spec_Certain.run, hc]
    exact finN_of frz_emp
theorem clone_split : ksplit HH fn.slices_Clone_string = true := by
  have h1 : HH fn.slices_Clone_string [.nils] [] = some (.nils, []) := kω_of ((S.slices_Clone_string.run_eq 0 .nils [] finH).trans (by kernel_rfl))
  have h2 : HH fn.slices_Clone_string [.fz true 0 1 []] [] = some (.emp, []) := kω_of ((S.slices_Clone_string.run_eq 0 (.fz true 0 1 []) [] finH).trans (by kernel_rfl))
  unfold ksplit
  rw [h1, h2]
theorem slices_Clone_string_spec (xs : List ByteArray) (hm : xs.length ≤ 4194304) (b : Nat) (h0 : xs.length ≠ 0) : OO fn.slices_Clone_string [fzl true 1 cs xs] b = some (.sl b 0 xs.length xs.length 1, [xs.flatMap cs]) := by
  apply S.slices_Clone_string.gives (k := 0)
  have hg : gbinop PP .eql 28 (.tmp 3) (.const (.slice none 0 0)) (fzl true 1 cs xs) .nils = some (.bool false) := by
    cases xs with
    | nil => exact absurd rfl h0
    | cons x xs => kernel_rfl
  simp [S.slices_Clone_string.run, hg, kapp_emp (mk := cs) (es := 1) (b := 16) (z := [.str { data := #[] }]) (fun _ => rfl) (fun _ => rfl) rfl (by omega) hm, h0]
  have hl : (xs.flatMap cs).length = xs.length * 1 := len_flat (mk := cs) (es := 1) (fun _ => rfl) xs
  rw [finO_sl_pl (cs := xs.flatMap cs) (by simp) hl (Nat.le_refl _) (by rw [List.take_of_length_le (by omega)]; exact all_flat (fun _ => rfl) xs)]
  rw [List.take_of_length_le (by omega)]
/-- A text list in new memory. -/
theorem clone_call {v : GV} (xs : List ByteArray) (hm : xs.length ≤ 4194304) (H : Heap) (hv : ∃ R, bor 9 H v = some (fzl true 1 cs xs, R)) : kF true HH fn.slices_Clone_string [v] H = if xs.length = 0 then some (.emp, H) else some (.sl H.length 0 xs.length xs.length 1, H ++ [xs.flatMap cs]) := by
  obtain ⟨R, hv⟩ := hv
  unfold kF
  simp only [bors_cons, hv, bors_nil, Option.bind_some]
  by_cases h0 : xs.length = 0
  · have : xs = [] := List.eq_nil_of_length_eq_zero h0
    subst this
    simp [emptyArg, mt, clone_split]
  · rw [if_neg h0]
    have he : emptyArg [fzl true 1 cs xs] = false := by
      cases xs with
      | nil => exact absurd rfl h0
      | cons x xs => rfl
    rw [he]
    simp only [Bool.and_false, cond_false]
    have := slices_Clone_string_spec xs hm H.length h0
    have h2 : (HH fn.slices_Clone_string [fzl true 1 cs xs] []).bind (fun r => (ownOk r H.length).bind fun q => some (q.1, H ++ q.2)) = ((HH fn.slices_Clone_string [fzl true 1 cs xs] []).bind fun r => ownOk r H.length).bind fun q => some (q.1, H ++ q.2) := by rw [Option.bind_assoc]
    rw [h2]
    show (OO fn.slices_Clone_string [fzl true 1 cs xs] H.length).bind _ = _
    rw [this]
    rfl
theorem rStringS_new {xs : List ByteArray} {H : Heap} {b : Nat} (h : H[b]? = some (xs.flatMap cs)) : rStringS H [.sl b 0 xs.length xs.length 1] xs [b] := by
  refine Or.inr ⟨b, xs.map cs, xs.map fun _ => [], rfl, by rw [h, List.flatMap_def], ?_, ?_⟩
  · clear h
    induction xs with
    | nil => exact .nil
    | cons x xs ih => exact .cons ⟨rfl, rfl⟩ ih
  · have : (xs.map fun _ => ([] : List Nat)).flatten = [] := by
      clear h
      induction xs with
      | nil => rfl
      | cons x xs ih => rw [List.map_cons, List.flatten_cons, ih]; rfl
    rw [this]
theorem rStringS_emp {H : Heap} : rStringS H [.emp] [] [] := Or.inl ⟨rfl, rfl, Or.inl rfl⟩
theorem rStringS_nils {H : Heap} : rStringS H [.nils] [] [] := Or.inl ⟨rfl, rfl, Or.inr (Or.inl rfl)⟩
open Classical in
theorem impl_Certain_spec (a : ChainT) (hm : okChain a) (b : Nat) : ∃ v bl, OO fn.impl_Certain [.agg (mChain true a)] b = some (v, bl) ∧ ∀ H T, H.length = b → rStringS (H ++ bl ++ T) [v] (certM a) (List.range' b bl.length) := by
  obtain ⟨xs, ds, us⟩ := a
  have hc := impl_ChainOk_spec xs ds us hm
  by_cases h : ChainP xs ds us
  · rw [decide_eq_true h] at hc
    obtain ⟨h0, e0, e1, e2, e3⟩ := server0 h
    have hcm : certM (xs, ds, us) = xs[0].1.take xs[0].2.toNat := by unfold certM; rw [if_pos h, e0]
    rw [hcm]
    have ks := ksl_fzl (es := 1) (t := true) (mk := cs) (fun _ => rfl) e1 e2
    have hk := clone_call (v := fzl true 1 cs (xs[0].1.take xs[0].2.toNat)) (xs[0].1.take xs[0].2.toNat) (by rw [List.length_take]; omega) [mChain true (xs, ds, us)] ⟨_, bor_cs⟩
    by_cases hz : (xs[0].1.take xs[0].2.toNat).length = 0
    · rw [if_pos hz] at hk
      have hz' := List.eq_nil_of_length_eq_zero hz
      refine ⟨.emp, [], S.impl_Certain.gives (k := 0) ?_, fun H T hH => by rw [hz']; exact rStringS_emp⟩
      simp [S.impl_Certain.run, hc, h0, get_of h0, ks, hk, -kF_OO, -List.length_take]
    · rw [if_neg hz] at hk
      obtain ⟨v, bl, f1, f2⟩ := goodStringS.fin (by omega) (h := [mChain true (xs, ds, us), (xs[0].1.take xs[0].2.toNat).flatMap cs]) (rStringS_new (b := 1) rfl) (by simp) b
      refine ⟨v, bl, S.impl_Certain.gives (k := 0) ?_, f2⟩
      simp only [List.length_cons, List.length_nil, Nat.zero_add, List.cons_append, List.nil_append] at hk
      simp only [mChain] at hk f1
      simp [S.impl_Certain.run, hc, h0, get_of h0, ks, hk, f1, -kF_OO, -List.length_take]
  · rw [decide_eq_false h] at hc
    have hcm : certM (xs, ds, us) = [] := by unfold certM; rw [if_neg h]
    rw [hcm]
    refine ⟨.nils, [], S.impl_Certain.gives (k := 0) ?_, fun H T hH => rStringS_nils⟩
    simp [S.impl_Certain.run, hc]
end Go.Proofs.Ytopmnigfklgnkaa.G
