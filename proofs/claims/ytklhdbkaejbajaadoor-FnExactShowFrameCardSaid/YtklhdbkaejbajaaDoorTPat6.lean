/- Frames as texts. -/
import Derived.Test.YtklhdbkaejbajaaDoorTPat5
namespace Go.Proofs.YtklhdbkaejbajaaDoor.G
open Go.RowKit Go.Lib
set_option linter.unusedVariables false
set_option linter.unusedSimpArgs false

theorem gcells_str {l : List UInt8} {h : Heap} : gcells h 1 (.str (bs l)) = some (l.length, l.flatMap cy, []) := by
  show (if 1 = 1 then some ((bs l).size, (bs l).toList.map fun b => GV.int .u8 b.toNat, []) else none) = _
  rw [if_pos rfl, bs_size, ByteArray.toList_eq]
  congr 3
  show l.map _ = _
  induction l with
  | nil => rfl
  | cons x l ih => rw [List.map_cons, List.flatMap_cons, ih]; rfl
theorem join_snoc (sep y : List UInt8) : ∀ (x : List UInt8) (xs : List (List UInt8)), Lib.join (x :: xs ++ [y]) sep = Lib.join (x :: xs) sep ++ sep ++ y
  | x, [] => by rw [List.singleton_append, join_cons, join_one, join_one]
  | x, z :: xs => by
    rw [List.cons_append, List.cons_append, join_cons, ← List.cons_append, join_snoc sep y z xs, join_cons]
    simp
theorem spcM_snoc (ns : List Int) (n : Int) : spcM (ns ++ [n]) = if ns = [] then itoa n else spcM ns ++ [32] ++ itoa n := by
  unfold spcM
  cases ns with
  | nil => rw [if_pos rfl, List.nil_append]; exact join_one _ _
  | cons x ns =>
    rw [if_neg (by simp), List.map_append, List.map_cons]
    exact join_snoc _ _ _ _
theorem spcM_len {ns : List Int} (h : ns.all numP = true) : (spcM ns).length ≤ ns.length * 21 := by
  have := join_len [32] 20 (ns.map itoa) (fun x hx => by
    obtain ⟨n, hn, rfl⟩ := List.mem_map.1 hx
    have := numP_b h n hn
    exact itoa_len (by omega) (by omega))
  simpa [spcM] using this
theorem take_one {α : Type} {l : List α} {j : Nat} (h : j < l.length) : l.take (j + 1) = l.take j ++ [l[j]] := by
  rw [List.take_add_one, List.getElem?_eq_getElem h]; rfl
theorem spell_numbers (R : Type) (k : Nat) (ns : List Int) (hc : ns.length ≤ 121202) {m : Nat} (hm : ns.length < m) {H0 : Heap} :
    (ns.all numP = true → ∃ y : GV × Heap, Buf y.1 (spcM ns) y.2 ∧ ∀ G : KT2 R, S.spec_ShowPatch.l9 k G m (.str { data := #[] }) .emp (fzl false 1 ci ns) (.int .i64 0) H0 = G (.ext 4) (.str { data := #[] }) y.1 y.2) ∧
    (ns.all numP = false → ∃ v H, ∀ G : KT2 R, S.spec_ShowPatch.l9 k G m (.str { data := #[] }) .emp (fzl false 1 ci ns) (.int .i64 0) H0 = G .ret (.str { data := #[] }) v H) := by
  have kn : klen (fzl false 1 ci ns) = some (.int .i64 (ns.length : Nat)) := klen_fzl
  refine loop_post (T := GV × Heap) (n := ns.length) (Post := fun (Q : KT2 R → Option R) => (ns.all numP = true → ∃ y : GV × Heap, Buf y.1 (spcM ns) y.2 ∧ ∀ G, Q G = G (.ext 4) (.str { data := #[] }) y.1 y.2) ∧ (ns.all numP = false → ∃ v H, ∀ G, Q G = G .ret (.str { data := #[] }) v H))
    (Inv := fun j y => (ns.take j).all numP = true ∧ Buf y.1 (spcM (ns.take j)) y.2)
    (f := fun r j y G => S.spec_ShowPatch.l9 k G r (.str { data := #[] }) y.1 (fzl false 1 ci ns) (.int .i64 (j : Int)) y.2)
    (fun j r y hj hi => ?_) (fun r y hi => ?_) (s := (.emp, H0)) ⟨rfl, .inl ⟨rfl, rfl⟩⟩ hm
  · obtain ⟨v, H⟩ := y
    obtain ⟨hi1, hi2⟩ := hi
    have g1 : (j : Int) < ns.length := by omega
    have w := wrap_succ (n := j) (by simp only [maxLen]; omega)
    have ki : kia 1 (fzl false 1 ci ns) (.int .i64 (j : Int)) = some (elp false ci ns j) := by rw [kia_ci, if_pos ⟨by omega, g1⟩]; simp
    have ld : ∀ H, kload1 H (elp false ci ns j) = some (.int .i64 ns[j]) := fun H => by rw [kload1_ci, get_of hj]; rfl
    have ko : ∀ H, kN NN fn.spec_l1In [.int .i64 ns[j], .int .i64 0, .int .i64 9999999] H = some (.bool (numP ns[j])) := fun H => kN_at (by simp) (spec_l1In_spec _ 0 9999999)
    have hlen := spcM_len hi1
    rw [List.length_take, Nat.min_eq_left (by omega)] at hlen
    cases hq : numP ns[j]
    · refine .inr ⟨fun h => ?_, fun _ => ⟨v, H, fun G => ?_⟩⟩
      · rw [all_not hj hq] at h; cases h
      · rw [hq] at ko
        generalize fzl false 1 ci ns = V at *
        simp [S.spec_ShowPatch.l9, g1, kn, ki, ld, ko, -kN_eq]
    · have hb : 0 ≤ ns[j] ∧ ns[j] ≤ 9999999 := by
        unfold numP at hq
        simp only [Bool.and_eq_true, decide_eq_true_eq] at hq
        exact hq
      have hil := itoa_len (n := ns[j]) (by omega) (by omega)
      have d1 : ∀ H, kN NN fn.spec_l3Int [.int .i64 ns[j]] H = some (.str (bs (itoa ns[j]))) := fun H => kN_at (by simp) (spec_l3Int_spec _ (by omega) (by omega))
      rw [hq] at ko
      have ha : (ns.take (j + 1)).all numP = true := by rw [all_snoc hj, hi1, hq]; rfl
      by_cases h0 : j = 0
      · subst h0
        obtain ⟨v', H', a1, a2, _, _⟩ := BufG.add (mk := cy) (fun _ => rfl) (fun _ => rfl) (z := [.int .u8 0]) rfl (sz := 1) (by omega) hi2 (gcells_str (l := itoa ns[0])) (by omega)
        refine .inl ⟨(v', H'), funext fun G => ?_, ha, ?_⟩
        · generalize fzl false 1 ci ns = V at *
          generalize GV.str (bs (itoa ns[0])) = X at *
          have w1 : IntKind.i64.wrap 1 = 1 := by decide
          have ki' : kia 1 V (.int .i64 0) = some (elp false ci ns 0) := ki
          simp [S.spec_ShowPatch.l9, hj, kn, ki', ld, ko, d1, a1, w1, -kN_eq]
        · rw [take_one hj, spcM_snoc, if_pos (by simp)]
          have : spcM (ns.take 0) ++ itoa ns[0] = itoa ns[0] := by simp [spcM, Lib.join, List.intercalate]
          rw [this] at a2
          exact a2
      · obtain ⟨v1, H1, c1, c2⟩ := hi2.app (m := [32]) (by simp) (by simp; omega)
        have c1' : kapp [.int .u8 0] 1 1 v (.sl H.length 0 1 1 1) (H ++ [[.int .u8 32]]) = some (v1, H1) := c1
        obtain ⟨v', H', a1, a2, _, _⟩ := BufG.add (mk := cy) (fun _ => rfl) (fun _ => rfl) (z := [.int .u8 0]) rfl (sz := 1) (by omega) c2 (gcells_str (l := itoa ns[j])) (by rw [List.length_append]; simp; omega)
        have gf := gfill_one' (v := .int .u8 32) (z := [.int .u8 0]) rfl rfl
        have gj : 0 < j := by omega
        refine .inl ⟨(v', H'), funext fun G => ?_, ha, ?_⟩
        · generalize fzl false 1 ci ns = V at *
          generalize GV.str (bs (itoa ns[j])) = X at *
          simp [S.spec_ShowPatch.l9, g1, gj, kn, ki, ld, ko, d1, gf, kbs_eq, c1', a1, w, -kN_eq]
        · rw [take_one hj, spcM_snoc, if_neg (by intro h; have := congrArg List.length h; rw [List.length_take] at this; simp only [List.length_nil] at this; omega)]
          exact a2
  · obtain ⟨v, H⟩ := y
    obtain ⟨hi1, hi2⟩ := hi
    rw [List.take_length] at hi1 hi2
    refine ⟨fun _ => ⟨(v, H), hi2, fun G => ?_⟩, fun h => by rw [hi1] at h; cases h⟩
    generalize fzl false 1 ci ns = V at *
    simp [S.spec_ShowPatch.l9, kn]
theorem spec_ShowPatch_spec (p : Pat) : NN fn.spec_ShowPatch [.agg (mPatch true p)] = some (.str (bs (showPM p))) := by
  apply S.spec_ShowPatch.gives (k := p.2.2.length + 121203)
  obtain ⟨k, hk⟩ : ∃ k, k = p.2.2.length + 121203 := ⟨_, rfl⟩
  rw [← hk]
  have hbo : ∀ {Q : Type} (K : GV → Heap → Option Q), kbox (.agg (mPatch true p)) [] K = K (.ptr 0 0 3) [mPatch true p] := fun K => rfl
  have l2 : kload1 [mPatch true p] (.ptr 0 2 3) = some (fzl true 3 (mChange true) p.2.2) := var_get (c := mPatch true p) rfl rfl
  have lA : kloadA 3 [mPatch true p] (.ptr 0 0 3) = some (.agg (mPatch true p)) := kpartA_at (c := mPatch true p) rfl rfl rfl (by simp)
  have kn := klen_fzl (t := true) (es := 3) (mk := mChange true) (xs := p.2.2)
  unfold showPM
  by_cases hc : p.2.2.length ≤ 400
  case neg =>
    rw [if_neg (fun h => hc h.1)]
    have g : (400 : Int) < p.2.2.length := by omega
    generalize mPatch true p = C at *
    generalize fzl true 3 (mChange true) p.2.2 = V at *
    simp [S.spec_ShowPatch.run, hbo, l2, kn, g, -kbox_agg, -kload1_ptr]
  have g : ¬ ((400 : Int) < p.2.2.length) := by omega
  have ck := chk_changes GV (k := k) (by omega) p (.str { data := #[] }) hc (m := k) (by omega)
  cases hr : p.2.2.all chgP
  · rw [if_neg (fun h => by have := h.2; unfold patP at this; rw [hr] at this; cases this)]
    rw [hr] at ck
    generalize mPatch true p = C at *
    generalize fzl true 3 (mChange true) p.2.2 = V at *
    simp [S.spec_ShowPatch.run, hbo, l2, kn, g, ck, -kbox_agg, -kload1_ptr]
  · rw [hr] at ck
    have hp : patP p = (patN p).all numP := by unfold patP; rw [hr]; rfl
    have hL := patN_len hc hr
    have kp : kN NN fn.spec_l10Numbers [.agg (mPatch true p)] [mPatch true p] = some (fzl false 1 ci (patN p)) := kN_at (by simp) (spec_l10Numbers_spec p hc hr)
    obtain ⟨s1, s2⟩ := spell_numbers GV k (patN p) hL (m := k) (by omega) (H0 := [mPatch true p])
    rw [hp]
    cases hq : (patN p).all numP
    · rw [if_neg (fun h => by cases h.2)]
      obtain ⟨v, H, e⟩ := s2 hq
      generalize mPatch true p = C at *
      generalize fzl true 3 (mChange true) p.2.2 = V at *
      generalize fzl false 1 ci (patN p) = W at *
      simp [S.spec_ShowPatch.run, hbo, l2, lA, kn, g, ck, kp, e, -kbox_agg, -kload1_ptr, -kloadA_ptr, -kN_eq]
    · rw [if_pos ⟨hc, rfl⟩]
      obtain ⟨⟨v, H⟩, b, e⟩ := s1 hq
      have bst : kbstr H v = some (.str (bs (spcM (patN p)))) := b.str
      have fin := finN_bs (spcM (patN p)) H
      simp only at e
      generalize mPatch true p = C at *
      generalize fzl true 3 (mChange true) p.2.2 = V at *
      generalize fzl false 1 ci (patN p) = W at *
      generalize GV.str (bs (spcM (patN p))) = X at *
      simp [S.spec_ShowPatch.run, hbo, l2, lA, kn, g, ck, kp, e, bst, fin, -kbox_agg, -kload1_ptr, -kloadA_ptr, -kN_eq]

end Go.Proofs.YtklhdbkaejbajaaDoor.G
