/- Patches as numbers: the program's own gathering. -/
import Derived.Test.YtklhdbkaejbajaaDoorTPat
namespace Go.Proofs.YtklhdbkaejbajaaDoor.G
open Go.RowKit Go.Lib
set_option linter.unusedVariables false
set_option linter.unusedSimpArgs false

abbrev z7 : List GV := [.int .i64 0, .int .i64 0, .int .i64 0, .bool false, .bool false, .bool false, .int .i64 0]
theorem kalloc_new {Q : Type} {z : List GV} {H : Heap} {K : GV → Heap → Option Q} : kalloc z H K = K (.ptr H.length 0 z.length) (H ++ [z]) := rfl
/-- What is read of a variable for a cell. -/
theorem cel_var {H : Heap} {p : Nat} {y : Cel} (h : H[p]? = some (mCell true y)) :
    kload1 H (.ptr p 0 7) = some (.int .i64 y.1) ∧ kload1 H (.ptr p 1 7) = some (.int .i64 y.2.1.1) ∧ kload1 H (.ptr p 2 7) = some (.int .i64 y.2.1.2.1) ∧ kload1 H (.ptr p 6 7) = some (.int .i64 y.2.2) ∧ kloadA 5 H (.ptr p 1 7) = some (.agg (mStyle true y.2.1)) :=
  ⟨var_get h rfl, var_get h rfl, var_get h rfl, var_get h rfl, kpartA_at h rfl rfl (by simp)⟩
theorem gf5 {a b c d e : Int} : gfill (fun i => some (i, 1)) (zeros [GV.int .i64 0] 5) [(0, .int .i64 a), (1, .int .i64 b), (2, .int .i64 c), (3, .int .i64 d), (4, .int .i64 e)] = some [.int .i64 a, .int .i64 b, .int .i64 c, .int .i64 d, .int .i64 e] := rfl
theorem gf3 {a b c : Int} : gfill (fun i => some (i, 1)) (zeros [GV.int .i64 0] 3) [(0, .int .i64 a), (1, .int .i64 b), (2, .int .i64 c)] = some [.int .i64 a, .int .i64 b, .int .i64 c] := rfl
theorem gf2 {a b : Int} : gfill (fun i => some (i, 1)) (zeros [GV.int .i64 0] 2) [(0, .int .i64 a), (1, .int .i64 b)] = some [.int .i64 a, .int .i64 b] := rfl

theorem in_cells (R : Type) (k : Nat) {K : List (Nat × List GV)} {l : List Int} {cs : List Cel} (v15 v16 v17 : GV) {x : GV × Heap} (hs : St K l x) (hc : cs.length ≤ 60) (hl : l.length + 5 * cs.length ≤ 4194304) {m : Nat} (hm : cs.length < m) :
    (cs.all celP = true → ∃ y, St K (l ++ cs.flatMap celN) y ∧ ∀ G : KT6 R, S.impl_Patch_numbers.l17 k G m .nils (.bool false) x.1 v15 v16 v17 (fzl true 7 (mCell true) cs) (.int .i64 (cs.length : Nat)) (.int .i64 0) x.2 = G (.ext 2) .nils (.bool false) y.1 v15 v16 v17 y.2) ∧
    (cs.all celP = false → ∃ v H, ∀ G : KT6 R, S.impl_Patch_numbers.l17 k G m .nils (.bool false) x.1 v15 v16 v17 (fzl true 7 (mCell true) cs) (.int .i64 (cs.length : Nat)) (.int .i64 0) x.2 = G .ret .nils (.bool false) v v15 v16 v17 H) := by
  refine loop_post (T := GV × Heap) (n := cs.length) (Post := fun (Q : KT6 R → Option R) => (cs.all celP = true → ∃ y, St K (l ++ cs.flatMap celN) y ∧ ∀ G, Q G = G (.ext 2) .nils (.bool false) y.1 v15 v16 v17 y.2) ∧ (cs.all celP = false → ∃ v H, ∀ G, Q G = G .ret .nils (.bool false) v v15 v16 v17 H))
    (Inv := fun j y => (cs.take j).all celP = true ∧ St K (l ++ (cs.take j).flatMap celN) y)
    (f := fun r j y G => S.impl_Patch_numbers.l17 k G r .nils (.bool false) y.1 v15 v16 v17 (fzl true 7 (mCell true) cs) (.int .i64 (cs.length : Nat)) (.int .i64 (j : Int)) y.2)
    (fun j r y hj hi => ?_) (fun r y hi => ?_) (s := x) ⟨rfl, by simpa using hs⟩ hm
  · obtain ⟨v, H⟩ := y
    obtain ⟨hi1, hi2⟩ := hi
    have g1 : (j : Int) < cs.length := by omega
    have w := wrap_succ (n := j) (by simp only [maxLen]; omega)
    have ki : kia 7 (fzl true 7 (mCell true) cs) (.int .i64 (j : Int)) = some (elp true (mCell true) cs j) := by rw [kia_Cell, if_pos ⟨by omega, g1⟩]; simp
    have ld : kloadA 7 H (elp true (mCell true) cs j) = some (.agg (mCell true cs[j])) := by rw [kloadA_Cell, get_of hj]; rfl
    have vn : kstore 7 (H ++ [z7]) (.ptr H.length 0 7) (.agg (mCell true cs[j])) = some (H ++ [mCell true cs[j]]) := var_new rfl rfl rfl
    have h1 := hi2.new (mCell true cs[j])
    obtain ⟨H1, hH1⟩ : ∃ H1, H1 = H ++ [mCell true cs[j]] := ⟨_, rfl⟩
    rw [← hH1] at vn h1
    have hb := (h1.2 _ (List.mem_cons_self ..)).1
    obtain ⟨l0, l1, l2, l6, lA⟩ := cel_var hb
    have ko : kN NN fn.impl_StyleOk [.agg (mStyle true cs[j].2.1)] H1 = some (.bool (styP cs[j].2.1)) := kN_at (by simp) (impl_StyleOk_spec _)
    have kf : kN NN fn.impl_Style_flags [.agg (mStyle true cs[j].2.1)] H1 = some (.int .i64 (flagsM cs[j].2.1)) := kN_at (by simp) (impl_Style_flags_spec _)
    have hlen := celN_len (cs.take j)
    rw [List.length_take, Nat.min_eq_left (by omega)] at hlen
    obtain ⟨v', H', a1, a2⟩ := h1.add (celN cs[j]) (by rw [List.length_append, hlen]; simp [celN]; omega)
    have a1' : kapp [.int .i64 0] 1 8 v (.sl H1.length 0 5 5 1) (H1 ++ [[.int .i64 cs[j].1, .int .i64 cs[j].2.1.1, .int .i64 cs[j].2.1.2.1, .int .i64 (flagsM cs[j].2.1), .int .i64 cs[j].2.2]]) = some (v', H') := a1
    have gf := gf5 (a := cs[j].1) (b := cs[j].2.1.1) (c := cs[j].2.1.2.1) (d := flagsM cs[j].2.1) (e := cs[j].2.2)
    have hp : celP cs[j] = styP cs[j].2.1 := rfl
    cases hq : styP cs[j].2.1
    · refine .inr ⟨fun h => ?_, fun _ => ⟨v, H1, fun G => ?_⟩⟩
      · rw [all_not hj (hp.trans hq)] at h; cases h
      · rw [hq] at ko
        generalize fzl true 7 (mCell true) cs = V at *
        generalize GV.agg (mCell true cs[j]) = C at *
        generalize GV.agg (mStyle true cs[j].2.1) = D at *
        simp [S.impl_Patch_numbers.l17, g1, ki, ld, vn, lA, ko, -kN_eq, -kstore_ptr, -kload1_ptr, -kloadA_ptr]
    · refine .inl ⟨(v', H'), funext fun G => ?_, ?_, ?_⟩
      · rw [hq] at ko
        generalize fzl true 7 (mCell true) cs = V at *
        generalize GV.agg (mCell true cs[j]) = C at *
        generalize GV.agg (mStyle true cs[j].2.1) = D at *
        generalize GV.int .i64 cs[j].1 = x1 at *
        generalize GV.int .i64 cs[j].2.1.1 = x2 at *
        generalize GV.int .i64 cs[j].2.1.2.1 = x3 at *
        generalize GV.int .i64 (flagsM cs[j].2.1) = x4 at *
        generalize GV.int .i64 cs[j].2.2 = x5 at *
        simp [S.impl_Patch_numbers.l17, g1, ki, ld, vn, l0, l1, l2, l6, lA, ko, kf, gf, a1', w, kbs_eq, -kN_eq, -kstore_ptr, -kload1_ptr, -kloadA_ptr]
      · rw [all_snoc hj, hi1, hp, hq]; rfl
      · rw [take_snoc hj, ← List.append_assoc]
        exact a2.drop
  · obtain ⟨v, H⟩ := y
    obtain ⟨hi1, hi2⟩ := hi
    rw [List.take_length] at hi1 hi2
    refine ⟨fun _ => ⟨(v, H), hi2, fun G => ?_⟩, fun h => by rw [hi1] at h; cases h⟩
    simp [S.impl_Patch_numbers.l17]

theorem chg_var {H : Heap} {p : Nat} {y : Chg} (h : H[p]? = some (mChange true y)) :
    kload1 H (.ptr p 0 3) = some (.int .i64 y.1) ∧ kload1 H (.ptr p 1 3) = some (.int .i64 y.2.1) ∧ kload1 H (.ptr p 2 3) = some (fzl true 7 (mCell true) y.2.2) :=
  ⟨var_get h rfl, var_get h rfl, var_get h rfl⟩
theorem chg_cell (y : Chg) : (mChange true y).all GV.isCell = true := by simp
theorem in_changes (R : Type) {k : Nat} (hk : 60 < k) {K : List (Nat × List GV)} {l : List Int} {cs : List Chg} {x : GV × Heap} (hs : St K l x) (hc : cs.length ≤ 400) (hl : l.length ≤ 2) {m : Nat} (hm : cs.length < m) :
    (cs.all chgP = true → ∃ y, St K (l ++ cs.flatMap chgN) y ∧ ∀ G : KT3 R, S.impl_Patch_numbers.l6 k G m .nils (.bool false) x.1 (fzl true 3 (mChange true) cs) (.int .i64 (cs.length : Nat)) (.int .i64 0) x.2 = G (.ext 0) .nils (.bool false) y.1 y.2) ∧
    (cs.all chgP = false → ∃ v H, ∀ G : KT3 R, S.impl_Patch_numbers.l6 k G m .nils (.bool false) x.1 (fzl true 3 (mChange true) cs) (.int .i64 (cs.length : Nat)) (.int .i64 0) x.2 = G .ret .nils (.bool false) v H) := by
  refine loop_post (T := GV × Heap) (n := cs.length) (Post := fun (Q : KT3 R → Option R) => (cs.all chgP = true → ∃ y, St K (l ++ cs.flatMap chgN) y ∧ ∀ G, Q G = G (.ext 0) .nils (.bool false) y.1 y.2) ∧ (cs.all chgP = false → ∃ v H, ∀ G, Q G = G .ret .nils (.bool false) v H))
    (Inv := fun j y => (cs.take j).all chgP = true ∧ St K (l ++ (cs.take j).flatMap chgN) y)
    (f := fun r j y G => S.impl_Patch_numbers.l6 k G r .nils (.bool false) y.1 (fzl true 3 (mChange true) cs) (.int .i64 (cs.length : Nat)) (.int .i64 (j : Int)) y.2)
    (fun j r y hj hi => ?_) (fun r y hi => ?_) (s := x) ⟨rfl, by simpa using hs⟩ hm
  · obtain ⟨v, H⟩ := y
    obtain ⟨hi1, hi2⟩ := hi
    have g1 : (j : Int) < cs.length := by omega
    have w := wrap_succ (n := j) (by simp only [maxLen]; omega)
    have ki : kia 3 (fzl true 3 (mChange true) cs) (.int .i64 (j : Int)) = some (elp true (mChange true) cs j) := by rw [kia_Change, if_pos ⟨by omega, g1⟩]; simp
    have ld : kloadA 3 H (elp true (mChange true) cs j) = some (.agg (mChange true cs[j])) := by rw [kloadA_Change, get_of hj]; rfl
    have vn : kstore 3 (H ++ [[.int .i64 0, .int .i64 0, .nils]]) (.ptr H.length 0 3) (.agg (mChange true cs[j])) = some (H ++ [mChange true cs[j]]) := var_new rfl rfl (chg_cell _)
    have h1 := hi2.new (mChange true cs[j])
    obtain ⟨H1, hH1⟩ : ∃ H1, H1 = H ++ [mChange true cs[j]] := ⟨_, rfl⟩
    rw [← hH1] at vn h1
    obtain ⟨l0, l1, l2⟩ := chg_var (h1.2 _ (List.mem_cons_self ..)).1
    have kn := klen_fzl (t := true) (es := 7) (mk := mCell true) (xs := cs[j].2.2)
    have ko : kN NN fn.impl_in [.int .i64 (cs[j].2.2.length : Nat), .int .i64 1, .int .i64 60] H1 = some (.bool (decide (1 ≤ (cs[j].2.2.length : Int)) && decide ((cs[j].2.2.length : Int) ≤ 60))) := kN_at (by simp) (impl_in_spec _ 1 60)
    have hlen := chgN_len hi1
    rw [List.length_take, Nat.min_eq_left (by omega)] at hlen
    obtain ⟨v1, H2, a1, a2⟩ := h1.add [cs[j].1, cs[j].2.1, (cs[j].2.2.length : Int)] (by rw [List.length_append]; show _ + 3 ≤ _; omega)
    have a1' : kapp [.int .i64 0] 1 8 v (.sl H1.length 0 3 3 1) (H1 ++ [[.int .i64 cs[j].1, .int .i64 cs[j].2.1, .int .i64 (cs[j].2.2.length : Nat)]]) = some (v1, H2) := a1
    have gf := gf3 (a := cs[j].1) (b := cs[j].2.1) (c := (cs[j].2.2.length : Int))
    obtain ⟨_, _, l2'⟩ := chg_var (a2.2 _ (List.mem_cons_self ..)).1
    have hp : chgP cs[j] = ((decide (1 ≤ (cs[j].2.2.length : Int)) && decide ((cs[j].2.2.length : Int) ≤ 60)) && cs[j].2.2.all celP) := rfl
    cases hq : (decide (1 ≤ (cs[j].2.2.length : Int)) && decide ((cs[j].2.2.length : Int) ≤ 60))
    · rw [hq] at ko hp
      refine .inr ⟨fun h => ?_, fun _ => ⟨v, H1, fun G => ?_⟩⟩
      · rw [all_not hj hp] at h; cases h
      · generalize fzl true 3 (mChange true) cs = V at *
        generalize GV.agg (mChange true cs[j]) = C at *
        generalize fzl true 7 (mCell true) cs[j].2.2 = D at *
        simp [S.impl_Patch_numbers.l6, g1, ki, ld, vn, l2, kn, ko, -kN_eq, -kstore_ptr, -kload1_ptr, -kloadA_ptr]
    · rw [hq] at ko hp
      have hL : (l ++ (cs.take j).flatMap chgN ++ [cs[j].1, cs[j].2.1, (cs[j].2.2.length : Int)]).length = l.length + ((cs.take j).flatMap chgN).length + 3 := by rw [List.length_append, List.length_append]; rfl
      have hlc : cs[j].2.2.length ≤ 60 := by simp only [Bool.and_eq_true, decide_eq_true_eq] at hq; omega
      obtain ⟨in1, in2⟩ := in_cells R k (cs := cs[j].2.2) (fzl true 3 (mChange true) cs) (.int .i64 (cs.length : Nat)) (.int .i64 (j : Int)) a2 hlc (by rw [hL]; omega) (m := k) (by omega)
      cases hr : cs[j].2.2.all celP
      · obtain ⟨v9, H9, e⟩ := in2 hr
        rw [hr] at hp
        refine .inr ⟨fun h => ?_, fun _ => ⟨v9, H9, fun G => ?_⟩⟩
        · rw [all_not hj hp] at h; cases h
        · generalize fzl true 3 (mChange true) cs = V at *
          generalize GV.agg (mChange true cs[j]) = C at *
          generalize fzl true 7 (mCell true) cs[j].2.2 = D at *
          generalize GV.int .i64 (cs[j].2.2.length : Nat) = NL at *
          generalize GV.int .i64 cs[j].1 = x1 at *
          generalize GV.int .i64 cs[j].2.1 = x2 at *
          simp [S.impl_Patch_numbers.l6, g1, ki, ld, vn, l0, l1, l2, kn, ko, gf, a1', kbs_eq, l2', e, -kN_eq, -kstore_ptr, -kload1_ptr, -kloadA_ptr]
      · obtain ⟨⟨v9, H9⟩, b1, e⟩ := in1 hr
        refine .inl ⟨(v9, H9), funext fun G => ?_, ?_, ?_⟩
        · generalize fzl true 3 (mChange true) cs = V at *
          generalize GV.agg (mChange true cs[j]) = C at *
          generalize fzl true 7 (mCell true) cs[j].2.2 = D at *
          generalize GV.int .i64 (cs[j].2.2.length : Nat) = NL at *
          generalize GV.int .i64 cs[j].1 = x1 at *
          generalize GV.int .i64 cs[j].2.1 = x2 at *
          simp [S.impl_Patch_numbers.l6, g1, ki, ld, vn, l0, l1, l2, kn, ko, gf, a1', kbs_eq, l2', e, w, -kN_eq, -kstore_ptr, -kload1_ptr, -kloadA_ptr]
        · rw [all_snoc hj, hi1, hp, hr]; rfl
        · rw [take_snoc hj]
          have := b1.drop
          rw [List.append_assoc, List.append_assoc] at this
          exact this
  · obtain ⟨v, H⟩ := y
    obtain ⟨hi1, hi2⟩ := hi
    rw [List.take_length] at hi1 hi2
    refine ⟨fun _ => ⟨(v, H), hi2, fun G => ?_⟩, fun h => by rw [hi1] at h; cases h⟩
    simp [S.impl_Patch_numbers.l6]

end Go.Proofs.YtklhdbkaejbajaaDoor.G
