/- Patches and frames as texts. -/
import Derived.Test.YtklhdbkaejbajaaDoorTPat4
import Derived.Test.YtklhdbkaejbajaaDoorTShow
namespace Go.Proofs.YtklhdbkaejbajaaDoor.G
open Go.RowKit Go.Lib
set_option linter.unusedVariables false
set_option linter.unusedSimpArgs false

theorem kloadA_elf {α : Type} {es n off : Nat} {mk : α → List GV} (hm : ∀ a, (mk a).length = es) (h0 : off + n ≤ es) {h : Heap} {t : Bool} {xs : List α} {j : Nat} (hj : j < xs.length) : kloadA n h (elf t mk xs j off) = some (.agg (((mk xs[j]).drop off).take n)) := by
  unfold kloadA elf kread
  rw [drop_flat_cons hj]
  simp only
  rw [List.drop_append_of_le_length (by rw [hm]; omega), if_pos (by rw [List.length_append, List.length_drop, hm]; omega), List.take_append_of_le_length (by rw [List.length_drop, hm]; omega)]
  rfl
def patP (p : Pat) : Bool := p.2.2.all chgP && (patN p).all numP
def showPM (p : Pat) : List UInt8 := if p.2.2.length ≤ 400 ∧ patP p = true then spcM (patN p) else []
theorem numP_b {ns : List Int} (h : ns.all numP = true) : ∀ n ∈ ns, 0 ≤ n ∧ n ≤ 9999999 := fun n hn => by
  have := List.all_eq_true.1 h n hn
  unfold numP at this
  simp only [Bool.and_eq_true, decide_eq_true_eq] at this
  exact this
theorem any_all {ns : List Int} : (!ns.any fun n => !numP n) = ns.all numP := by
  induction ns with
  | nil => rfl
  | cons x ns ih =>
    rw [List.any_cons, List.all_cons, Bool.not_or, ih, Bool.not_not]
theorem patN_ne (p : Pat) : patN p ≠ [] := by unfold patN; simp

/-! The program's text of a patch. -/
theorem impl_ShowPatch_spec (p : Pat) : NN fn.impl_ShowPatch [.agg (mPatch true p)] = some (.str (bs (showPM p))) := by
  apply S.impl_ShowPatch.gives (k := 0)
  have hbo : ∀ {Q : Type} (K : GV → Heap → Option Q), kbox (.agg (mPatch true p)) [] K = K (.ptr 0 0 3) [mPatch true p] := fun K => rfl
  have l2 : kload1 [mPatch true p] (.ptr 0 2 3) = some (fzl true 3 (mChange true) p.2.2) := var_get (c := mPatch true p) rfl rfl
  have lA : kloadA 3 [mPatch true p] (.ptr 0 0 3) = some (.agg (mPatch true p)) := kpartA_at (c := mPatch true p) rfl rfl rfl (by simp)
  have kn := klen_fzl (t := true) (es := 3) (mk := mChange true) (xs := p.2.2)
  unfold showPM
  by_cases hc : p.2.2.length ≤ 400
  case neg =>
    rw [if_neg (fun h => hc h.1)]
    have g : (400 : Int) < p.2.2.length := by omega
    have fin := finN_bs [] [mPatch true p]
    generalize mPatch true p = C at *
    generalize fzl true 3 (mChange true) p.2.2 = V at *
    simp [S.impl_ShowPatch.run, hbo, l2, kn, g, -kbox_agg, -kload1_ptr]
  have g : ¬ ((400 : Int) < p.2.2.length) := by omega
  have kp : kN NN fn.impl_Patch_numbers [.agg (mPatch true p)] [mPatch true p] = _ := kN_at (by simp) (impl_Patch_numbers_spec p hc)
  cases hr : p.2.2.all chgP
  · rw [if_neg (fun h => by have := h.2; unfold patP at this; rw [hr] at this; cases this)]
    rw [hr] at kp
    have kp' : kN NN fn.impl_Patch_numbers [.agg (mPatch true p)] [mPatch true p] = some (.tup [mt, .bool false]) := kp
    generalize mPatch true p = C at *
    generalize fzl true 3 (mChange true) p.2.2 = V at *
    simp [S.impl_ShowPatch.run, hbo, l2, lA, kn, g, kp', kxt, -kbox_agg, -kload1_ptr, -kloadA_ptr, -kN_eq]
  · rw [hr] at kp
    have kp' : kN NN fn.impl_Patch_numbers [.agg (mPatch true p)] [mPatch true p] = some (.tup [fzl false 1 ci (patN p), .bool ((patN p).all numP)]) := by rw [kp, any_all]; rfl
    have hp : patP p = (patN p).all numP := by unfold patP; rw [hr]; rfl
    rw [hp]
    cases hq : (patN p).all numP
    · rw [if_neg (fun h => by cases h.2)]
      rw [hq] at kp'
      generalize mPatch true p = C at *
      generalize fzl true 3 (mChange true) p.2.2 = V at *
      generalize fzl false 1 ci (patN p) = W at *
      simp [S.impl_ShowPatch.run, hbo, l2, lA, kn, g, kp', kxt, -kbox_agg, -kload1_ptr, -kloadA_ptr, -kN_eq]
    · rw [if_pos ⟨hc, rfl⟩]
      rw [hq] at kp'
      have hL := patN_len hc hr
      have hb := numP_b hq
      have ks : kN NN fn.impl_spaced [fzl false 1 ci (patN p)] [mPatch true p] = some (.str (bs (spcM (patN p)))) := kN_at (xs := [fzl true 1 ci (patN p)]) (by simp) (impl_spaced_spec _ (by omega) (fun n hn => by have := hb n hn; omega))
      have fin := finN_bs (spcM (patN p)) [mPatch true p]
      generalize mPatch true p = C at *
      generalize fzl true 3 (mChange true) p.2.2 = V at *
      generalize fzl false 1 ci (patN p) = W at *
      generalize GV.str (bs (spcM (patN p))) = X at *
      simp [S.impl_ShowPatch.run, hbo, l2, lA, kn, g, kp', kxt, ks, fin, -kbox_agg, -kload1_ptr, -kloadA_ptr, -kN_eq]

/-! The reference's text of a patch. -/
theorem chk_cells (R : Type) (k : Nat) (v1 v2 v3 : GV) (h : Heap) (cs : List Cel) (hc : cs.length ≤ 60) {m : Nat} (hm : cs.length < m) :
    ∀ G : KT3 R, S.spec_ShowPatch.l34 k G m v1 v2 v3 (fzl true 7 (mCell true) cs) (.int .i64 0) h = bif cs.all celP then G (.ext 2) v1 v2 v3 h else G .ret v1 (.str { data := #[] }) v3 h := by
  refine loop_post (T := Unit) (n := cs.length) (Post := fun (Q : KT3 R → Option R) => ∀ G, Q G = bif cs.all celP then G (.ext 2) v1 v2 v3 h else G .ret v1 (.str { data := #[] }) v3 h)
    (Inv := fun j _ => (cs.take j).all celP = true)
    (f := fun r j _ G => S.spec_ShowPatch.l34 k G r v1 v2 v3 (fzl true 7 (mCell true) cs) (.int .i64 (j : Int)) h)
    (fun j r y hj hi => ?_) (fun r y hi => ?_) (s := ()) rfl hm
  · have g1 : (j : Int) < cs.length := by omega
    have w := wrap_succ (n := j) (by simp only [maxLen]; omega)
    have kn : klen (fzl true 7 (mCell true) cs) = some (.int .i64 (cs.length : Nat)) := klen_fzl
    have ki : kia 7 (fzl true 7 (mCell true) cs) (.int .i64 (j : Int)) = some (elp true (mCell true) cs j) := by rw [kia_Cell, if_pos ⟨by omega, g1⟩]; simp
    have ld : kloadA 5 h (elf true (mCell true) cs j 1) = some (.agg (mStyle true cs[j].2.1)) := by rw [kloadA_elf (es := 7) (fun _ => rfl) (by omega) hj]; rfl
    have ko : kN NN fn.spec_StyleOk [.agg (mStyle true cs[j].2.1)] h = some (.bool (styP cs[j].2.1)) := kN_at (by simp) (spec_StyleOk_spec _)
    have hp : celP cs[j] = styP cs[j].2.1 := rfl
    cases hq : styP cs[j].2.1
    · refine .inr fun G => ?_
      rw [all_not hj (hp.trans hq)]
      rw [hq] at ko
      generalize fzl true 7 (mCell true) cs = V at *
      generalize GV.agg (mStyle true cs[j].2.1) = D at *
      simp [S.spec_ShowPatch.l34, g1, kn, ki, ld, ko, -kN_eq]
    · refine .inl ⟨(), funext fun G => ?_, ?_⟩
      · rw [hq] at ko
        generalize fzl true 7 (mCell true) cs = V at *
        generalize GV.agg (mStyle true cs[j].2.1) = D at *
        simp [S.spec_ShowPatch.l34, g1, kn, ki, ld, ko, w, -kN_eq]
      · rw [all_snoc hj, hi, hp, hq]; rfl
  · rw [List.take_length] at hi
    intro G
    rw [hi]
    have kn : klen (fzl true 7 (mCell true) cs) = some (.int .i64 (cs.length : Nat)) := klen_fzl
    generalize fzl true 7 (mCell true) cs = V at *
    simp [S.spec_ShowPatch.l34, kn]
theorem chk_changes (R : Type) {k : Nat} (hk : 60 < k) (p : Pat) (v2 : GV) (hc : p.2.2.length ≤ 400) {m : Nat} (hm : p.2.2.length < m) :
    ∀ G : KT2 R, S.spec_ShowPatch.l25 k G m (.ptr 0 0 3) v2 (.int .i64 0) [mPatch true p] = bif p.2.2.all chgP then G (.ext 0) (.ptr 0 0 3) v2 [mPatch true p] else G .ret (.ptr 0 0 3) (.str { data := #[] }) [mPatch true p] := by
  have l2 : kload1 [mPatch true p] (.ptr 0 2 3) = some (fzl true 3 (mChange true) p.2.2) := var_get (c := mPatch true p) rfl rfl
  obtain ⟨cs, hcs⟩ : ∃ cs, cs = p.2.2 := ⟨_, rfl⟩
  rw [← hcs] at l2 hc hm ⊢
  have kn : klen (fzl true 3 (mChange true) cs) = some (.int .i64 (cs.length : Nat)) := klen_fzl
  refine loop_post (T := Unit) (n := cs.length) (Post := fun (Q : KT2 R → Option R) => ∀ G, Q G = bif cs.all chgP then G (.ext 0) (.ptr 0 0 3) v2 [mPatch true p] else G .ret (.ptr 0 0 3) (.str { data := #[] }) [mPatch true p])
    (Inv := fun j _ => (cs.take j).all chgP = true)
    (f := fun r j _ G => S.spec_ShowPatch.l25 k G r (.ptr 0 0 3) v2 (.int .i64 (j : Int)) [mPatch true p])
    (fun j r y hj hi => ?_) (fun r y hi => ?_) (s := ()) rfl hm
  · have g1 : (j : Int) < cs.length := by omega
    have w := wrap_succ (n := j) (by simp only [maxLen]; omega)
    have ki : kia 3 (fzl true 3 (mChange true) cs) (.int .i64 (j : Int)) = some (elp true (mChange true) cs j) := by rw [kia_Change, if_pos ⟨by omega, g1⟩]; simp
    have ld : ∀ H, kload1 H (elf true (mChange true) cs j 2) = some (fzl true 7 (mCell true) cs[j].2.2) := fun H => by rw [kload1_Change_2, get_of hj]; rfl
    have kn2 := klen_fzl (t := true) (es := 7) (mk := mCell true) (xs := cs[j].2.2)
    have hp : chgP cs[j] = ((decide (1 ≤ (cs[j].2.2.length : Int)) && decide ((cs[j].2.2.length : Int) ≤ 60)) && cs[j].2.2.all celP) := rfl
    by_cases q1 : (cs[j].2.2.length : Int) < 1
    · refine .inr fun G => ?_
      rw [all_not hj (by rw [hp, decide_eq_false (by omega : ¬ (1 : Int) ≤ _)]; rfl)]
      generalize mPatch true p = C at *
      generalize fzl true 3 (mChange true) cs = V at *
      generalize fzl true 7 (mCell true) cs[j].2.2 = D at *
      simp [S.spec_ShowPatch.l25, g1, l2, kn, ki, ld, kn2, q1, -kN_eq, -kload1_ptr]
    by_cases q2 : (60 : Int) < cs[j].2.2.length
    · refine .inr fun G => ?_
      rw [all_not hj (by rw [hp, decide_eq_false (by omega : ¬ (cs[j].2.2.length : Int) ≤ 60)]; simp)]
      generalize mPatch true p = C at *
      generalize fzl true 3 (mChange true) cs = V at *
      generalize fzl true 7 (mCell true) cs[j].2.2 = D at *
      simp [S.spec_ShowPatch.l25, g1, l2, kn, ki, ld, kn2, q1, q2, -kN_eq, -kload1_ptr]
    have hp' : chgP cs[j] = cs[j].2.2.all celP := by rw [hp, decide_eq_true (by omega : (1 : Int) ≤ _), decide_eq_true (by omega : (cs[j].2.2.length : Int) ≤ 60)]; rfl
    have ck := chk_cells R k (.ptr 0 0 3) v2 (.int .i64 (j : Int)) [mPatch true p] cs[j].2.2 (by omega) (m := k) (by omega)
    cases hq : cs[j].2.2.all celP
    · refine .inr fun G => ?_
      rw [all_not hj (hp'.trans hq)]
      rw [hq] at ck
      generalize mPatch true p = C at *
      generalize fzl true 3 (mChange true) cs = V at *
      generalize fzl true 7 (mCell true) cs[j].2.2 = D at *
      simp [S.spec_ShowPatch.l25, g1, l2, kn, ki, ld, kn2, q1, q2, ck, -kN_eq, -kload1_ptr]
    · refine .inl ⟨(), funext fun G => ?_, ?_⟩
      · rw [hq] at ck
        generalize mPatch true p = C at *
        generalize fzl true 3 (mChange true) cs = V at *
        generalize fzl true 7 (mCell true) cs[j].2.2 = D at *
        simp [S.spec_ShowPatch.l25, g1, l2, kn, ki, ld, kn2, q1, q2, ck, w, -kN_eq, -kload1_ptr]
      · rw [all_snoc hj, hi, hp', hq]; rfl
  · rw [List.take_length] at hi
    intro G
    rw [hi]
    generalize mPatch true p = C at *
    generalize fzl true 3 (mChange true) cs = V at *
    simp [S.spec_ShowPatch.l25, l2, kn, -kload1_ptr]

end Go.Proofs.YtklhdbkaejbajaaDoor.G
