/- Written by tgen.py: types and what the functions of the laws that go over them answer. -/
import Derived.Test.YtklhdbkaejbajaaDoorT4
import Derived.Test.YtklhdbkaejbajaaDoorSF0
namespace Go.Proofs.YtklhdbkaejbajaaDoor.G
open Go.RowKit
set_option linter.unusedVariables false
set_option linter.unusedSimpArgs false

/-! Style -/
abbrev mStyle (t : Bool) (a : (Int × Int × Bool × Bool × Bool)) : List GV := [.int .i64 a.1, .int .i64 a.2.1, .bool a.2.2.1, .bool a.2.2.2.1, .bool a.2.2.2.2]
def zStyle (a : (Int × Int × Bool × Bool × Bool)) : Nat := 0
def okStyle (a : (Int × Int × Bool × Bool × Bool)) : Prop := True
theorem okStyle_of {a : (Int × Int × Bool × Bool × Bool)} (h : zStyle a ≤ 1048576) : okStyle a := by
  unfold zStyle at h
  exact trivial
@[simp] theorem kloadA_Style {h : Heap} {t : Bool} {xs : List (Int × Int × Bool × Bool × Bool)} {j : Nat} : kloadA 5 h (elp t (mStyle t) xs j) = xs[j]?.map fun a => .agg (mStyle t a) := kloadA_elp (mk := mStyle t) (es := 5) (fun _ => rfl) (by omega)
@[simp] theorem kload1_Style_0 {h : Heap} {t : Bool} {xs : List ((Int × Int × Bool × Bool × Bool))} {j : Nat} : kload1 h (elf t (mStyle t) xs j 0) = xs[j]?.bind fun a => (mStyle t a)[0]? := kload1_elf (mk := mStyle t) (es := 5) (fun _ => rfl) (by omega)
@[simp] theorem kload1_Style_1 {h : Heap} {t : Bool} {xs : List ((Int × Int × Bool × Bool × Bool))} {j : Nat} : kload1 h (elf t (mStyle t) xs j 1) = xs[j]?.bind fun a => (mStyle t a)[1]? := kload1_elf (mk := mStyle t) (es := 5) (fun _ => rfl) (by omega)
@[simp] theorem kload1_Style_2 {h : Heap} {t : Bool} {xs : List ((Int × Int × Bool × Bool × Bool))} {j : Nat} : kload1 h (elf t (mStyle t) xs j 2) = xs[j]?.bind fun a => (mStyle t a)[2]? := kload1_elf (mk := mStyle t) (es := 5) (fun _ => rfl) (by omega)
@[simp] theorem kload1_Style_3 {h : Heap} {t : Bool} {xs : List ((Int × Int × Bool × Bool × Bool))} {j : Nat} : kload1 h (elf t (mStyle t) xs j 3) = xs[j]?.bind fun a => (mStyle t a)[3]? := kload1_elf (mk := mStyle t) (es := 5) (fun _ => rfl) (by omega)
@[simp] theorem kload1_Style_4 {h : Heap} {t : Bool} {xs : List ((Int × Int × Bool × Bool × Bool))} {j : Nat} : kload1 h (elf t (mStyle t) xs j 4) = xs[j]?.bind fun a => (mStyle t a)[4]? := kload1_elf (mk := mStyle t) (es := 5) (fun _ => rfl) (by omega)
@[simp] theorem kia_Style {t : Bool} {xs : List ((Int × Int × Bool × Bool × Bool))} {k : IntKind} {i : Int} : kia 5 (fzl t 5 (mStyle t) xs) (.int k i) = if 0 ≤ i ∧ i < xs.length then some (elp t (mStyle t) xs i.toNat) else none := kia_fzl (es := 5) (fun _ => rfl)
theorem ld_Style {d : Nat} {t : Bool} (a : (Int × Int × Bool × Bool × Bool)) : (mStyle t a).map (lend d) = mStyle true a := map_cons' lend_int (map_cons' lend_int (map_cons' lend_bool (map_cons' lend_bool (map_cons' lend_bool (rfl)))))
@[simp] theorem bor_Style {d : Nat} {h : Heap} {t : Bool} {xs : List ((Int × Int × Bool × Bool × Bool))} : bor (d + 2) h (fzl t 5 (mStyle t) xs) = some (fzl true 5 (mStyle true) xs, []) := bor_fzl (d := d + 1) (fun a => ld_Style (d := d + 1) a) xs
theorem laws_toStyle_spec (a_1 : Int) (a_2 : Int) (a_3 : Bool) (a_4 : Bool) (a_5 : Bool) (hm : okStyle (a_1, a_2, a_3, a_4, a_5)) : NN fn.laws_toStyle [.agg [.int .i64 a_1, .int .i64 a_2, .bool a_3, .bool a_4, .bool a_5]] = some (.agg [.int .i64 a_1, .int .i64 a_2, .bool a_3, .bool a_4, .bool a_5]) := by
  apply S.laws_toStyle.gives (k := 0)
  unfold okStyle at hm
  simp [S.laws_toStyle.run]
  try exact finN_of (frz_agg (.cons frz_int (.cons frz_int (.cons frz_bool (.cons frz_bool (.cons frz_bool (.nil)))))))
open Classical in
theorem laws_eqStyle_spec (a_1 b_1 : Int) (a_2 b_2 : Int) (a_3 b_3 : Bool) (a_4 b_4 : Bool) (a_5 b_5 : Bool) (hm : okStyle (a_1, a_2, a_3, a_4, a_5)) : NN fn.laws_eqStyle [.agg [.int .i64 a_1, .int .i64 a_2, .bool a_3, .bool a_4, .bool a_5], .agg [.int .i64 b_1, .int .i64 b_2, .bool b_3, .bool b_4, .bool b_5]] = some (.bool (decide ((a_1, a_2, a_3, a_4, a_5) = (b_1, b_2, b_3, b_4, b_5)))) := by
  apply S.laws_eqStyle.gives (k := 0)
  unfold okStyle at hm
  by_cases c0 : a_1 = b_1
  rotate_left
  · have e : ¬ ((a_1, a_2, a_3, a_4, a_5) = (b_1, b_2, b_3, b_4, b_5)) := fun e => c0 (by simp only [Prod.mk.injEq] at e ⊢; simp [e])
    rw [decide_eq_false e]
    simp [S.laws_eqStyle.run, c0]
  by_cases c1 : a_2 = b_2
  rotate_left
  · have e : ¬ ((a_1, a_2, a_3, a_4, a_5) = (b_1, b_2, b_3, b_4, b_5)) := fun e => c1 (by simp only [Prod.mk.injEq] at e ⊢; simp [e])
    rw [decide_eq_false e]
    simp [S.laws_eqStyle.run, c0, c1]
  by_cases c2 : a_3 = b_3
  rotate_left
  · have e : ¬ ((a_1, a_2, a_3, a_4, a_5) = (b_1, b_2, b_3, b_4, b_5)) := fun e => c2 (by simp only [Prod.mk.injEq] at e ⊢; simp [e])
    rw [decide_eq_false e]
    simp [S.laws_eqStyle.run, c0, c1, beq_eq_false_iff_ne.2 c2]
  by_cases c3 : a_4 = b_4
  rotate_left
  · have e : ¬ ((a_1, a_2, a_3, a_4, a_5) = (b_1, b_2, b_3, b_4, b_5)) := fun e => c3 (by simp only [Prod.mk.injEq] at e ⊢; simp [e])
    rw [decide_eq_false e]
    simp [S.laws_eqStyle.run, c0, c1, c2, beq_eq_false_iff_ne.2 c3]
  by_cases c4 : a_5 = b_5
  rotate_left
  · have e : ¬ ((a_1, a_2, a_3, a_4, a_5) = (b_1, b_2, b_3, b_4, b_5)) := fun e => c4 (by simp only [Prod.mk.injEq] at e ⊢; simp [e])
    rw [decide_eq_false e]
    simp [S.laws_eqStyle.run, c0, c1, c2, c3, beq_eq_false_iff_ne.2 c4]
  have e : (a_1, a_2, a_3, a_4, a_5) = (b_1, b_2, b_3, b_4, b_5) := by rw [c0, c1, c2, c3, c4]
  rw [decide_eq_true e]
  simp [S.laws_eqStyle.run, c0, c1, c2, c3, c4]

/-! Cell -/
abbrev mCell (t : Bool) (a : (Int × (Int × Int × Bool × Bool × Bool) × Int)) : List GV := [.int .i64 a.1, .int .i64 a.2.1.1, .int .i64 a.2.1.2.1, .bool a.2.1.2.2.1, .bool a.2.1.2.2.2.1, .bool a.2.1.2.2.2.2, .int .i64 a.2.2]
def zCell (a : (Int × (Int × Int × Bool × Bool × Bool) × Int)) : Nat := 0
def okCell (a : (Int × (Int × Int × Bool × Bool × Bool) × Int)) : Prop := True
theorem okCell_of {a : (Int × (Int × Int × Bool × Bool × Bool) × Int)} (h : zCell a ≤ 1048576) : okCell a := by
  unfold zCell at h
  exact trivial
@[simp] theorem kloadA_Cell {h : Heap} {t : Bool} {xs : List (Int × (Int × Int × Bool × Bool × Bool) × Int)} {j : Nat} : kloadA 7 h (elp t (mCell t) xs j) = xs[j]?.map fun a => .agg (mCell t a) := kloadA_elp (mk := mCell t) (es := 7) (fun _ => rfl) (by omega)
@[simp] theorem kload1_Cell_0 {h : Heap} {t : Bool} {xs : List ((Int × (Int × Int × Bool × Bool × Bool) × Int))} {j : Nat} : kload1 h (elf t (mCell t) xs j 0) = xs[j]?.bind fun a => (mCell t a)[0]? := kload1_elf (mk := mCell t) (es := 7) (fun _ => rfl) (by omega)
@[simp] theorem kload1_Cell_1 {h : Heap} {t : Bool} {xs : List ((Int × (Int × Int × Bool × Bool × Bool) × Int))} {j : Nat} : kload1 h (elf t (mCell t) xs j 1) = xs[j]?.bind fun a => (mCell t a)[1]? := kload1_elf (mk := mCell t) (es := 7) (fun _ => rfl) (by omega)
@[simp] theorem kload1_Cell_2 {h : Heap} {t : Bool} {xs : List ((Int × (Int × Int × Bool × Bool × Bool) × Int))} {j : Nat} : kload1 h (elf t (mCell t) xs j 2) = xs[j]?.bind fun a => (mCell t a)[2]? := kload1_elf (mk := mCell t) (es := 7) (fun _ => rfl) (by omega)
@[simp] theorem kload1_Cell_3 {h : Heap} {t : Bool} {xs : List ((Int × (Int × Int × Bool × Bool × Bool) × Int))} {j : Nat} : kload1 h (elf t (mCell t) xs j 3) = xs[j]?.bind fun a => (mCell t a)[3]? := kload1_elf (mk := mCell t) (es := 7) (fun _ => rfl) (by omega)
@[simp] theorem kload1_Cell_4 {h : Heap} {t : Bool} {xs : List ((Int × (Int × Int × Bool × Bool × Bool) × Int))} {j : Nat} : kload1 h (elf t (mCell t) xs j 4) = xs[j]?.bind fun a => (mCell t a)[4]? := kload1_elf (mk := mCell t) (es := 7) (fun _ => rfl) (by omega)
@[simp] theorem kload1_Cell_5 {h : Heap} {t : Bool} {xs : List ((Int × (Int × Int × Bool × Bool × Bool) × Int))} {j : Nat} : kload1 h (elf t (mCell t) xs j 5) = xs[j]?.bind fun a => (mCell t a)[5]? := kload1_elf (mk := mCell t) (es := 7) (fun _ => rfl) (by omega)
@[simp] theorem kload1_Cell_6 {h : Heap} {t : Bool} {xs : List ((Int × (Int × Int × Bool × Bool × Bool) × Int))} {j : Nat} : kload1 h (elf t (mCell t) xs j 6) = xs[j]?.bind fun a => (mCell t a)[6]? := kload1_elf (mk := mCell t) (es := 7) (fun _ => rfl) (by omega)
@[simp] theorem kia_Cell {t : Bool} {xs : List ((Int × (Int × Int × Bool × Bool × Bool) × Int))} {k : IntKind} {i : Int} : kia 7 (fzl t 7 (mCell t) xs) (.int k i) = if 0 ≤ i ∧ i < xs.length then some (elp t (mCell t) xs i.toNat) else none := kia_fzl (es := 7) (fun _ => rfl)
theorem ld_Cell {d : Nat} {t : Bool} (a : (Int × (Int × Int × Bool × Bool × Bool) × Int)) : (mCell t a).map (lend d) = mCell true a := map_cons' lend_int (map_cons' lend_int (map_cons' lend_int (map_cons' lend_bool (map_cons' lend_bool (map_cons' lend_bool (map_cons' lend_int (rfl)))))))
@[simp] theorem bor_Cell {d : Nat} {h : Heap} {t : Bool} {xs : List ((Int × (Int × Int × Bool × Bool × Bool) × Int))} : bor (d + 2) h (fzl t 7 (mCell t) xs) = some (fzl true 7 (mCell true) xs, []) := bor_fzl (d := d + 1) (fun a => ld_Cell (d := d + 1) a) xs
theorem laws_toCell_spec (a_1 : Int) (a_2_1 : Int) (a_2_2 : Int) (a_2_3 : Bool) (a_2_4 : Bool) (a_2_5 : Bool) (a_3 : Int) (hm : okCell (a_1, (a_2_1, a_2_2, a_2_3, a_2_4, a_2_5), a_3)) : NN fn.laws_toCell [.agg [.int .i64 a_1, .int .i64 a_2_1, .int .i64 a_2_2, .bool a_2_3, .bool a_2_4, .bool a_2_5, .int .i64 a_3]] = some (.agg [.int .i64 a_1, .int .i64 a_2_1, .int .i64 a_2_2, .bool a_2_3, .bool a_2_4, .bool a_2_5, .int .i64 a_3]) := by
  apply S.laws_toCell.gives (k := 0)
  unfold okCell at hm
  simp [S.laws_toCell.run, laws_toStyle_spec a_2_1 a_2_2 a_2_3 a_2_4 a_2_5 trivial]
  try exact finN_of (frz_agg (.cons frz_int (.cons frz_int (.cons frz_int (.cons frz_bool (.cons frz_bool (.cons frz_bool (.cons frz_int (.nil)))))))))
open Classical in
theorem laws_eqCell_spec (a_1 b_1 : Int) (a_2_1 b_2_1 : Int) (a_2_2 b_2_2 : Int) (a_2_3 b_2_3 : Bool) (a_2_4 b_2_4 : Bool) (a_2_5 b_2_5 : Bool) (a_3 b_3 : Int) (hm : okCell (a_1, (a_2_1, a_2_2, a_2_3, a_2_4, a_2_5), a_3)) : NN fn.laws_eqCell [.agg [.int .i64 a_1, .int .i64 a_2_1, .int .i64 a_2_2, .bool a_2_3, .bool a_2_4, .bool a_2_5, .int .i64 a_3], .agg [.int .i64 b_1, .int .i64 b_2_1, .int .i64 b_2_2, .bool b_2_3, .bool b_2_4, .bool b_2_5, .int .i64 b_3]] = some (.bool (decide ((a_1, (a_2_1, a_2_2, a_2_3, a_2_4, a_2_5), a_3) = (b_1, (b_2_1, b_2_2, b_2_3, b_2_4, b_2_5), b_3)))) := by
  apply S.laws_eqCell.gives (k := 0)
  unfold okCell at hm
  by_cases c0 : a_1 = b_1
  rotate_left
  · have e : ¬ ((a_1, (a_2_1, a_2_2, a_2_3, a_2_4, a_2_5), a_3) = (b_1, (b_2_1, b_2_2, b_2_3, b_2_4, b_2_5), b_3)) := fun e => c0 (by simp only [Prod.mk.injEq] at e ⊢; simp [e])
    rw [decide_eq_false e]
    simp [S.laws_eqCell.run, c0]
  have s1 := laws_eqStyle_spec a_2_1 b_2_1 a_2_2 b_2_2 a_2_3 b_2_3 a_2_4 b_2_4 a_2_5 b_2_5 trivial
  by_cases c1 : (a_2_1, a_2_2, a_2_3, a_2_4, a_2_5) = (b_2_1, b_2_2, b_2_3, b_2_4, b_2_5)
  rotate_left
  · have e : ¬ ((a_1, (a_2_1, a_2_2, a_2_3, a_2_4, a_2_5), a_3) = (b_1, (b_2_1, b_2_2, b_2_3, b_2_4, b_2_5), b_3)) := fun e => c1 (by simp only [Prod.mk.injEq] at e ⊢; simp [e])
    rw [decide_eq_false e]
    rw [decide_eq_false c1] at s1
    simp [S.laws_eqCell.run, c0, s1]
  rw [decide_eq_true c1] at s1
  by_cases c2 : a_3 = b_3
  rotate_left
  · have e : ¬ ((a_1, (a_2_1, a_2_2, a_2_3, a_2_4, a_2_5), a_3) = (b_1, (b_2_1, b_2_2, b_2_3, b_2_4, b_2_5), b_3)) := fun e => c2 (by simp only [Prod.mk.injEq] at e ⊢; simp [e])
    rw [decide_eq_false e]
    simp [S.laws_eqCell.run, c0, s1, c2]
  have e : (a_1, (a_2_1, a_2_2, a_2_3, a_2_4, a_2_5), a_3) = (b_1, (b_2_1, b_2_2, b_2_3, b_2_4, b_2_5), b_3) := by
    simp only [Prod.mk.injEq] at *
    simp [c0, c1, c2]
  rw [decide_eq_true e]
  simp [S.laws_eqCell.run, c0, s1, c2]

/-! CellS -/
abbrev mCellS (t : Bool) (a : List ((Int × (Int × Int × Bool × Bool × Bool) × Int))) : List GV := [fzl t 7 (mCell t) a]
abbrev zCellS (a : List ((Int × (Int × Int × Bool × Bool × Bool) × Int))) : Nat := a.length
abbrev okCellS (a : List ((Int × (Int × Int × Bool × Bool × Bool) × Int))) : Prop := a.length ≤ 1048576
theorem okCellS_of {a : List ((Int × (Int × Int × Bool × Bool × Bool) × Int))} (h : zCellS a ≤ 1048576) : okCellS a := h
@[simp] theorem kload1_CellS {h : Heap} {t : Bool} {xs : List (List ((Int × (Int × Int × Bool × Bool × Bool) × Int)))} {j : Nat} : kload1 h (elp t (mCellS t) xs j) = xs[j]?.map fun a => fzl t 7 (mCell t) a := kload1_elp _ (fun _ => rfl)
@[simp] theorem kia_CellS {t : Bool} {xs : List (List ((Int × (Int × Int × Bool × Bool × Bool) × Int)))} {k : IntKind} {i : Int} : kia 1 (fzl t 1 (mCellS t) xs) (.int k i) = if 0 ≤ i ∧ i < xs.length then some (elp t (mCellS t) xs i.toNat) else none := kia_fzl (es := 1) (fun _ => rfl)
theorem ld_CellS {d : Nat} {t : Bool} (a : List ((Int × (Int × Int × Bool × Bool × Bool) × Int))) : (mCellS t a).map (lend (d + 1)) = mCellS true a := map_cons' (lend_fzl (d := d) (mk := (mCell t)) (mk' := (mCell true)) (fun a => ld_Cell (d := d) a) a) (rfl)
@[simp] theorem bor_CellS {d : Nat} {h : Heap} {t : Bool} {xs : List (List ((Int × (Int × Int × Bool × Bool × Bool) × Int)))} : bor (d + 3) h (fzl t 1 (mCellS t) xs) = some (fzl true 1 (mCellS true) xs, []) := bor_fzl (d := d + 2) (fun a => ld_CellS (d := d + 1) a) xs
theorem laws_szCellS_spec (xs : List ((Int × (Int × Int × Bool × Bool × Bool) × Int))) (left : Int) (hm : xs.length ≤ maxLen) (hl : 0 ≤ left) (hl' : left ≤ 1048576) : NN fn.laws_szCellS [fzl true 7 (mCell true) xs, .int .i64 left] = some (.int .i64 (if left < (zCellS xs : Int) then -1 else left - zCellS xs)) := by
  apply S.laws_szCellS.gives (k := 0)
  have w := wrap_sub hl hl' hm
  simp [S.laws_szCellS.run, w]
  by_cases h : left < xs.length
  · have : left - xs.length < 0 := by omega
    simp [h, this]
  · have : ¬ (left - xs.length < 0) := by omega
    simp [h, this]
theorem laws_toCellS_spec (xs : List ((Int × (Int × Int × Bool × Bool × Bool) × Int))) (hm : okCellS xs) : NN fn.laws_toCellS [fzl true 7 (mCell true) xs] = some (fzl false 7 (mCell false) xs) := by
  apply S.laws_toCellS.gives (k := xs.length + 1)
  have hm' : xs.length ≤ 1048576 := hm
  have hk := kmake_eq (z := [(.int .i64 0), (.int .i64 0), (.int .i64 0), (.bool false), (.bool false), (.bool false), (.int .i64 0)]) (es := 7) (b := 40) (h := []) hm' (by omega) rfl
  simp [S.laws_toCellS.run, hk]
  refine (loop_to (f := fun r j => S.laws_toCellS.l6 _ _ r _ _ _ (.int .i64 (j : Int)) [fill (mCell false) [(.int .i64 0), (.int .i64 0), (.int .i64 0), (.bool false), (.bool false), (.bool false), (.int .i64 0)] xs j]) (A := some (fzl false 7 (mCell false) xs)) (n := xs.length) (fun j r hj => ?_) (fun r => ?_) (xs.length + 1) 0 (by omega) (by omega))
  · have g1 : (j : Int) < xs.length := by omega
    have w := wrap_succ (n := j) (by simp only [maxLen]; omega)
    have fl := fill_len (mk := (mCell false)) (z := [(.int .i64 0), (.int .i64 0), (.int .i64 0), (.bool false), (.bool false), (.bool false), (.int .i64 0)]) (es := 7) (fun _ => rfl) rfl xs j (by omega)
    have fs := fill_step (mk := (mCell false)) (z := [(.int .i64 0), (.int .i64 0), (.int .i64 0), (.bool false), (.bool false), (.bool false), (.int .i64 0)]) (es := 7) (fun _ => rfl) rfl xs j hj
    try simp only [Nat.mul_one] at fl fs
    have hj' : j * 7 + 7 ≤ xs.length * 7 := by omega
    have hj2 : j + 1 ≤ xs.length := hj
    simp [S.laws_toCellS.l6, g1, get_of hj, hj, hj', hj2, w, fl, laws_toCell_spec xs[j].1 xs[j].2.1.1 xs[j].2.1.2.1 xs[j].2.1.2.2.1 xs[j].2.1.2.2.2.1 xs[j].2.1.2.2.2.2 xs[j].2.2 trivial, fs, -splice]
  · simp [S.laws_toCellS.l6]
    exact finN_of (frz_sl (mk := (mCell false)) (mk' := (mCell false)) (rest := []) (fun _ => rfl) (by simp) (by rw [List.append_nil]; exact len_flat (mk := (mCell false)) (es := 7) (fun _ => rfl) xs) (Nat.le_refl _) (fun a _ => .cons frz_int (.cons frz_int (.cons frz_int (.cons frz_bool (.cons frz_bool (.cons frz_bool (.cons frz_int (.nil)))))))))
open Classical in
theorem laws_eqCellS_spec (xs ys : List ((Int × (Int × Int × Bool × Bool × Bool) × Int))) (hm : okCellS xs) : NN fn.laws_eqCellS [fzl true 7 (mCell true) xs, fzl true 7 (mCell true) ys] = some (.bool (decide (xs = ys))) := by
  apply S.laws_eqCellS.gives (k := xs.length + 1)
  have hm' : xs.length ≤ 1048576 := hm
  simp [S.laws_eqCellS.run]
  by_cases hl : xs.length = ys.length
  · have hi : (xs.length : Int) = ys.length := by omega
    simp [hi]
    refine (loop_all (f := fun r j => S.laws_eqCellS.l6 _ _ r _ _ _ (.int .i64 (j : Int)) _) (A := some (GV.bool true)) (B := some (GV.bool false)) (n := xs.length) (P := fun j => xs[j]? = ys[j]?) (fun j r hj => ?_) (fun r => ?_) (xs.length + 1) 0 (by omega) (by omega)).trans ?_
    · have h1 : (j : Int) < xs.length := by omega
      have h2 : (j : Int) < ys.length := by omega
      have h3 : j < ys.length := by omega
      have w := wrap_succ (n := j) (by simp only [maxLen]; omega)
      have sp := laws_eqCell_spec xs[j].1 ys[j].1 xs[j].2.1.1 ys[j].2.1.1 xs[j].2.1.2.1 ys[j].2.1.2.1 xs[j].2.1.2.2.1 ys[j].2.1.2.2.1 xs[j].2.1.2.2.2.1 ys[j].2.1.2.2.2.1 xs[j].2.1.2.2.2.2 ys[j].2.1.2.2.2.2 xs[j].2.2 ys[j].2.2  trivial
      by_cases hc : xs[j] = ys[j]
      · have e1 : (xs[j].1, (xs[j].2.1.1, xs[j].2.1.2.1, xs[j].2.1.2.2.1, xs[j].2.1.2.2.2.1, xs[j].2.1.2.2.2.2), xs[j].2.2) = (ys[j].1, (ys[j].2.1.1, ys[j].2.1.2.1, ys[j].2.1.2.2.1, ys[j].2.1.2.2.2.1, ys[j].2.1.2.2.2.2), ys[j].2.2) := hc
        rw [decide_eq_true e1] at sp
        refine Eq.trans ?_ (if_pos (by rw [get_of hj, get_of h3, hc])).symm
        simp [S.laws_eqCellS.l6, h1, h2, get_of hj, get_of h3, w, sp]
      · have e1 : ¬ ((xs[j].1, (xs[j].2.1.1, xs[j].2.1.2.1, xs[j].2.1.2.2.1, xs[j].2.1.2.2.2.1, xs[j].2.1.2.2.2.2), xs[j].2.2) = (ys[j].1, (ys[j].2.1.1, ys[j].2.1.2.1, ys[j].2.1.2.2.1, ys[j].2.1.2.2.2.1, ys[j].2.1.2.2.2.2), ys[j].2.2)) := hc
        rw [decide_eq_false e1] at sp
        refine Eq.trans ?_ (if_neg (by rw [get_of hj, get_of h3]; exact fun h => hc (Option.some.inj h))).symm
        simp [S.laws_eqCellS.l6, h1, h2, get_of hj, get_of h3, w, sp]
    · simp [S.laws_eqCellS.l6]
    · simp [list_eq_iff hl]
      by_cases hx : xs = ys <;> simp [hx]
  · have : ¬ ((xs.length : Int) = ys.length) := by omega
    have hne : xs ≠ ys := fun h => hl (by rw [h])
    simp [this, hne]

/-! Change -/
abbrev mChange (t : Bool) (a : (Int × Int × List ((Int × (Int × Int × Bool × Bool × Bool) × Int)))) : List GV := [.int .i64 a.1, .int .i64 a.2.1, fzl t 7 (mCell t) a.2.2]
def zChange (a : (Int × Int × List ((Int × (Int × Int × Bool × Bool × Bool) × Int)))) : Nat := zCellS a.2.2
def okChange (a : (Int × Int × List ((Int × (Int × Int × Bool × Bool × Bool) × Int)))) : Prop := okCellS a.2.2
theorem okChange_of {a : (Int × Int × List ((Int × (Int × Int × Bool × Bool × Bool) × Int)))} (h : zChange a ≤ 1048576) : okChange a := by
  unfold zChange at h
  exact (show zCellS a.2.2 ≤ 1048576 by omega)
@[simp] theorem kloadA_Change {h : Heap} {t : Bool} {xs : List (Int × Int × List ((Int × (Int × Int × Bool × Bool × Bool) × Int)))} {j : Nat} : kloadA 3 h (elp t (mChange t) xs j) = xs[j]?.map fun a => .agg (mChange t a) := kloadA_elp (mk := mChange t) (es := 3) (fun _ => rfl) (by omega)
@[simp] theorem kload1_Change_0 {h : Heap} {t : Bool} {xs : List ((Int × Int × List ((Int × (Int × Int × Bool × Bool × Bool) × Int))))} {j : Nat} : kload1 h (elf t (mChange t) xs j 0) = xs[j]?.bind fun a => (mChange t a)[0]? := kload1_elf (mk := mChange t) (es := 3) (fun _ => rfl) (by omega)
@[simp] theorem kload1_Change_1 {h : Heap} {t : Bool} {xs : List ((Int × Int × List ((Int × (Int × Int × Bool × Bool × Bool) × Int))))} {j : Nat} : kload1 h (elf t (mChange t) xs j 1) = xs[j]?.bind fun a => (mChange t a)[1]? := kload1_elf (mk := mChange t) (es := 3) (fun _ => rfl) (by omega)
@[simp] theorem kload1_Change_2 {h : Heap} {t : Bool} {xs : List ((Int × Int × List ((Int × (Int × Int × Bool × Bool × Bool) × Int))))} {j : Nat} : kload1 h (elf t (mChange t) xs j 2) = xs[j]?.bind fun a => (mChange t a)[2]? := kload1_elf (mk := mChange t) (es := 3) (fun _ => rfl) (by omega)
@[simp] theorem kia_Change {t : Bool} {xs : List ((Int × Int × List ((Int × (Int × Int × Bool × Bool × Bool) × Int))))} {k : IntKind} {i : Int} : kia 3 (fzl t 3 (mChange t) xs) (.int k i) = if 0 ≤ i ∧ i < xs.length then some (elp t (mChange t) xs i.toNat) else none := kia_fzl (es := 3) (fun _ => rfl)
theorem ld_Change {d : Nat} {t : Bool} (a : (Int × Int × List ((Int × (Int × Int × Bool × Bool × Bool) × Int)))) : (mChange t a).map (lend (d + 1)) = mChange true a := map_cons' lend_int (map_cons' lend_int (map_cons' (lend_fzl (d := d) (mk := (mCell t)) (mk' := (mCell true)) (fun a => ld_Cell (d := d) a) a.2.2) (rfl)))
@[simp] theorem bor_Change {d : Nat} {h : Heap} {t : Bool} {xs : List ((Int × Int × List ((Int × (Int × Int × Bool × Bool × Bool) × Int))))} : bor (d + 3) h (fzl t 3 (mChange t) xs) = some (fzl true 3 (mChange true) xs, []) := bor_fzl (d := d + 2) (fun a => ld_Change (d := d + 1) a) xs
theorem laws_szChange_spec (a_1 : Int) (a_2 : Int) (a_3 : List ((Int × (Int × Int × Bool × Bool × Bool) × Int))) (left : Int) (hi : ((Lit.int .i64 a_1).wf = true) ∧ (((Lit.int .i64 a_2).wf = true) ∧ (inSl (fun x1 : (Int × (Int × Int × Bool × Bool × Bool) × Int) => ((Lit.int .i64 x1.1).wf = true) ∧ ((((Lit.int .i64 x1.2.1.1).wf = true) ∧ (((Lit.int .i64 x1.2.1.2.1).wf = true) ∧ ((True) ∧ ((True) ∧ (True))))) ∧ ((Lit.int .i64 x1.2.2).wf = true))) a_3))) (hl : 0 ≤ left) (hl' : left ≤ 1048576) : NN fn.laws_szChange [.agg [.int .i64 a_1, .int .i64 a_2, fzl true 7 (mCell true) a_3], .int .i64 left] = some (.int .i64 (if left < (zChange (a_1, a_2, a_3) : Int) then -1 else left - zChange (a_1, a_2, a_3))) := by
  apply S.laws_szChange.gives (k := 0)
  show _ = some (GV.int .i64 (if left < ((zCellS a_3 : Nat) : Int) then -1 else left - ((zCellS a_3 : Nat) : Int)))
  have s0 := laws_szCellS_spec a_3 (left) hi.2.2.1 (by omega) (by omega)
  by_cases c0 : left < ((zCellS a_3 : Nat) : Int)
  · have d0 : left - ((zCellS a_3 : Nat) : Int) < 0 := by omega
    rw [if_pos (by omega : left < ((zCellS a_3 : Nat) : Int))]
    simp [S.laws_szChange.run, s0, c0, d0]
  have d0 : ¬ (left - ((zCellS a_3 : Nat) : Int) < 0) := by omega
  rw [if_neg (by omega)]
  simp [S.laws_szChange.run, s0, c0, d0]
  try omega
theorem laws_toChange_spec (a_1 : Int) (a_2 : Int) (a_3 : List ((Int × (Int × Int × Bool × Bool × Bool) × Int))) (hm : okChange (a_1, a_2, a_3)) : NN fn.laws_toChange [.agg [.int .i64 a_1, .int .i64 a_2, fzl true 7 (mCell true) a_3]] = some (.agg [.int .i64 a_1, .int .i64 a_2, fzl false 7 (mCell false) a_3]) := by
  apply S.laws_toChange.gives (k := 0)
  unfold okChange at hm
  simp [S.laws_toChange.run, laws_toCellS_spec a_3 hm]
  try exact finN_of (frz_agg (.cons frz_int (.cons frz_int (.cons frz_fzl (.nil)))))
open Classical in
theorem laws_eqChange_spec (a_1 b_1 : Int) (a_2 b_2 : Int) (a_3 b_3 : List ((Int × (Int × Int × Bool × Bool × Bool) × Int))) (hm : okChange (a_1, a_2, a_3)) : NN fn.laws_eqChange [.agg [.int .i64 a_1, .int .i64 a_2, fzl true 7 (mCell true) a_3], .agg [.int .i64 b_1, .int .i64 b_2, fzl true 7 (mCell true) b_3]] = some (.bool (decide ((a_1, a_2, a_3) = (b_1, b_2, b_3)))) := by
  apply S.laws_eqChange.gives (k := 0)
  unfold okChange at hm
  by_cases c0 : a_1 = b_1
  rotate_left
  · have e : ¬ ((a_1, a_2, a_3) = (b_1, b_2, b_3)) := fun e => c0 (by simp only [Prod.mk.injEq] at e ⊢; simp [e])
    rw [decide_eq_false e]
    simp [S.laws_eqChange.run, c0]
  by_cases c1 : a_2 = b_2
  rotate_left
  · have e : ¬ ((a_1, a_2, a_3) = (b_1, b_2, b_3)) := fun e => c1 (by simp only [Prod.mk.injEq] at e ⊢; simp [e])
    rw [decide_eq_false e]
    simp [S.laws_eqChange.run, c0, c1]
  have s2 := laws_eqCellS_spec a_3 b_3 hm
  by_cases c2 : a_3 = b_3
  rotate_left
  · have e : ¬ ((a_1, a_2, a_3) = (b_1, b_2, b_3)) := fun e => c2 (by simp only [Prod.mk.injEq] at e ⊢; simp [e])
    rw [decide_eq_false e]
    rw [decide_eq_false c2] at s2
    simp [S.laws_eqChange.run, c0, c1, s2]
  rw [decide_eq_true c2] at s2
  have e : (a_1, a_2, a_3) = (b_1, b_2, b_3) := by rw [c0, c1, c2]
  rw [decide_eq_true e]
  simp [S.laws_eqChange.run, c0, c1, s2]

/-! ChangeS -/
abbrev mChangeS (t : Bool) (a : List ((Int × Int × List ((Int × (Int × Int × Bool × Bool × Bool) × Int))))) : List GV := [fzl t 3 (mChange t) a]
def zChangeS (a : List ((Int × Int × List ((Int × (Int × Int × Bool × Bool × Bool) × Int))))) : Nat := a.length + (a.map fun x => zChange x).sum
def okChangeS (a : List ((Int × Int × List ((Int × (Int × Int × Bool × Bool × Bool) × Int))))) : Prop := a.length ≤ 1048576 ∧ ∀ x ∈ a, okChange x
theorem okChangeS_of {a : List ((Int × Int × List ((Int × (Int × Int × Bool × Bool × Bool) × Int))))} (h : zChangeS a ≤ 1048576) : okChangeS a := by
  unfold zChangeS at h
  refine ⟨by omega, fun x hx => ?_⟩
  have : zChange x ≤ _ := sum_mem (c := fun x => zChange x) hx
  exact okChange_of (by omega)
@[simp] theorem kload1_ChangeS {h : Heap} {t : Bool} {xs : List (List ((Int × Int × List ((Int × (Int × Int × Bool × Bool × Bool) × Int)))))} {j : Nat} : kload1 h (elp t (mChangeS t) xs j) = xs[j]?.map fun a => fzl t 3 (mChange t) a := kload1_elp _ (fun _ => rfl)
@[simp] theorem kia_ChangeS {t : Bool} {xs : List (List ((Int × Int × List ((Int × (Int × Int × Bool × Bool × Bool) × Int)))))} {k : IntKind} {i : Int} : kia 1 (fzl t 1 (mChangeS t) xs) (.int k i) = if 0 ≤ i ∧ i < xs.length then some (elp t (mChangeS t) xs i.toNat) else none := kia_fzl (es := 1) (fun _ => rfl)
theorem ld_ChangeS {d : Nat} {t : Bool} (a : List ((Int × Int × List ((Int × (Int × Int × Bool × Bool × Bool) × Int))))) : (mChangeS t a).map (lend (d + 2)) = mChangeS true a := map_cons' (lend_fzl (d := d + 1) (mk := (mChange t)) (mk' := (mChange true)) (fun a => ld_Change (d := d) a) a) (rfl)
@[simp] theorem bor_ChangeS {d : Nat} {h : Heap} {t : Bool} {xs : List (List ((Int × Int × List ((Int × (Int × Int × Bool × Bool × Bool) × Int)))))} : bor (d + 4) h (fzl t 1 (mChangeS t) xs) = some (fzl true 1 (mChangeS true) xs, []) := bor_fzl (d := d + 3) (fun a => ld_ChangeS (d := d + 1) a) xs
theorem laws_szChangeS_spec (xs : List ((Int × Int × List ((Int × (Int × Int × Bool × Bool × Bool) × Int))))) (left : Int) (hi : inSl (fun x1 : (Int × Int × List ((Int × (Int × Int × Bool × Bool × Bool) × Int))) => ((Lit.int .i64 x1.1).wf = true) ∧ (((Lit.int .i64 x1.2.1).wf = true) ∧ (inSl (fun x2 : (Int × (Int × Int × Bool × Bool × Bool) × Int) => ((Lit.int .i64 x2.1).wf = true) ∧ ((((Lit.int .i64 x2.2.1.1).wf = true) ∧ (((Lit.int .i64 x2.2.1.2.1).wf = true) ∧ ((True) ∧ ((True) ∧ (True))))) ∧ ((Lit.int .i64 x2.2.2).wf = true))) x1.2.2))) xs) (hl : 0 ≤ left) (hl' : left ≤ 1048576) : NN fn.laws_szChangeS [fzl true 3 (mChange true) xs, .int .i64 left] = some (.int .i64 (if left < (zChangeS xs : Int) then -1 else left - zChangeS xs)) := by
  apply S.laws_szChangeS.gives (k := xs.length + 1)
  have w := wrap_sub hl hl' hi.1
  simp [S.laws_szChangeS.run, w]
  by_cases h : left < xs.length
  · have h1 : left - xs.length < 0 := by omega
    have h2 : left < (zChangeS xs : Int) := by unfold zChangeS; omega
    simp [h, h1, h2]
  · have h1 : ¬ (left - xs.length < 0) := by omega
    simp [h, h1]
    refine (loop_sz (xs := xs) (c := fun x => zChange x) (f := fun r j l => S.laws_szChangeS.l7 _ _ r _ (.int .i64 l) _ (.int .i64 (j : Int)) _) (A := fun l => some (GV.int .i64 l)) (B := some (GV.int .i64 (-1))) (fun j r l hj h0 h0' => ?_) (fun r l => ?_) (xs.length + 1) 0 _ (by omega) (by omega) (by omega) (by omega)).trans ?_
    · have g1 : (j : Int) < xs.length := by omega
      have ws := wrap_succ (n := j) (by have := hi.1; omega)
      have sp := laws_szChange_spec xs[j].1 xs[j].2.1 xs[j].2.2 l (hi.2 _ (List.getElem_mem hj)) h0 h0'
      by_cases hc : l < ((zChange xs[j] : Nat) : Int)
      · have hc' : l - ((zChange xs[j] : Nat) : Int) < 0 := by omega
        simp [S.laws_szChangeS.l7, g1, get_of hj, ws, sp, hc, hc']
      · have hc' : ¬ (l - ((zChange xs[j] : Nat) : Int) < 0) := by omega
        simp [S.laws_szChangeS.l7, g1, get_of hj, ws, sp, hc, hc']
    · simp [S.laws_szChangeS.l7]
    · simp only [List.drop_zero]
      have e : ((zChangeS xs : Nat) : Int) = (xs.length : Int) + ((xs.map fun x => zChange x).sum : Nat) := by unfold zChangeS; omega
      by_cases hc : left < (zChangeS xs : Int)
      · rw [if_pos hc, if_pos (by omega)]
      · rw [if_neg hc, if_neg (by omega)]
        congr 2; omega
theorem laws_toChangeS_spec (xs : List ((Int × Int × List ((Int × (Int × Int × Bool × Bool × Bool) × Int))))) (hm : okChangeS xs) : NN fn.laws_toChangeS [fzl true 3 (mChange true) xs] = some (fzl false 3 (mChange false) xs) := by
  apply S.laws_toChangeS.gives (k := xs.length + 1)
  have hm' : xs.length ≤ 1048576 := hm.1
  have hk := kmake_eq (z := [(.int .i64 0), (.int .i64 0), .nils]) (es := 3) (b := 40) (h := []) hm' (by omega) rfl
  simp [S.laws_toChangeS.run, hk]
  refine (loop_to (f := fun r j => S.laws_toChangeS.l6 _ _ r _ _ _ (.int .i64 (j : Int)) [fill (mChange false) [(.int .i64 0), (.int .i64 0), .nils] xs j]) (A := some (fzl false 3 (mChange false) xs)) (n := xs.length) (fun j r hj => ?_) (fun r => ?_) (xs.length + 1) 0 (by omega) (by omega))
  · have g1 : (j : Int) < xs.length := by omega
    have w := wrap_succ (n := j) (by simp only [maxLen]; omega)
    have fl := fill_len (mk := (mChange false)) (z := [(.int .i64 0), (.int .i64 0), .nils]) (es := 3) (fun _ => rfl) rfl xs j (by omega)
    have fs := fill_step (mk := (mChange false)) (z := [(.int .i64 0), (.int .i64 0), .nils]) (es := 3) (fun _ => rfl) rfl xs j hj
    try simp only [Nat.mul_one] at fl fs
    have hj' : j * 3 + 3 ≤ xs.length * 3 := by omega
    have hj2 : j + 1 ≤ xs.length := hj
    simp [S.laws_toChangeS.l6, g1, get_of hj, hj, hj', hj2, w, fl, laws_toChange_spec xs[j].1 xs[j].2.1 xs[j].2.2 (hm.2 _ (List.getElem_mem hj)), fs, -splice]
  · simp [S.laws_toChangeS.l6]
    exact finN_of (frz_sl (mk := (mChange false)) (mk' := (mChange false)) (rest := []) (fun _ => rfl) (by simp) (by rw [List.append_nil]; exact len_flat (mk := (mChange false)) (es := 3) (fun _ => rfl) xs) (Nat.le_refl _) (fun a _ => .cons frz_int (.cons frz_int (.cons frz_fzl (.nil)))))
open Classical in
theorem laws_eqChangeS_spec (xs ys : List ((Int × Int × List ((Int × (Int × Int × Bool × Bool × Bool) × Int))))) (hm : okChangeS xs) : NN fn.laws_eqChangeS [fzl true 3 (mChange true) xs, fzl true 3 (mChange true) ys] = some (.bool (decide (xs = ys))) := by
  apply S.laws_eqChangeS.gives (k := xs.length + 1)
  have hm' : xs.length ≤ 1048576 := hm.1
  simp [S.laws_eqChangeS.run]
  by_cases hl : xs.length = ys.length
  · have hi : (xs.length : Int) = ys.length := by omega
    simp [hi]
    refine (loop_all (f := fun r j => S.laws_eqChangeS.l6 _ _ r _ _ _ (.int .i64 (j : Int)) _) (A := some (GV.bool true)) (B := some (GV.bool false)) (n := xs.length) (P := fun j => xs[j]? = ys[j]?) (fun j r hj => ?_) (fun r => ?_) (xs.length + 1) 0 (by omega) (by omega)).trans ?_
    · have h1 : (j : Int) < xs.length := by omega
      have h2 : (j : Int) < ys.length := by omega
      have h3 : j < ys.length := by omega
      have w := wrap_succ (n := j) (by simp only [maxLen]; omega)
      have sp := laws_eqChange_spec xs[j].1 ys[j].1 xs[j].2.1 ys[j].2.1 xs[j].2.2 ys[j].2.2  (hm.2 _ (List.getElem_mem hj))
      by_cases hc : xs[j] = ys[j]
      · have e1 : (xs[j].1, xs[j].2.1, xs[j].2.2) = (ys[j].1, ys[j].2.1, ys[j].2.2) := hc
        rw [decide_eq_true e1] at sp
        refine Eq.trans ?_ (if_pos (by rw [get_of hj, get_of h3, hc])).symm
        simp [S.laws_eqChangeS.l6, h1, h2, get_of hj, get_of h3, w, sp]
      · have e1 : ¬ ((xs[j].1, xs[j].2.1, xs[j].2.2) = (ys[j].1, ys[j].2.1, ys[j].2.2)) := hc
        rw [decide_eq_false e1] at sp
        refine Eq.trans ?_ (if_neg (by rw [get_of hj, get_of h3]; exact fun h => hc (Option.some.inj h))).symm
        simp [S.laws_eqChangeS.l6, h1, h2, get_of hj, get_of h3, w, sp]
    · simp [S.laws_eqChangeS.l6]
    · simp [list_eq_iff hl]
      by_cases hx : xs = ys <;> simp [hx]
  · have : ¬ ((xs.length : Int) = ys.length) := by omega
    have hne : xs ≠ ys := fun h => hl (by rw [h])
    simp [this, hne]

/-! Patch -/
abbrev mPatch (t : Bool) (a : (Int × Int × List ((Int × Int × List ((Int × (Int × Int × Bool × Bool × Bool) × Int)))))) : List GV := [.int .i64 a.1, .int .i64 a.2.1, fzl t 3 (mChange t) a.2.2]
def zPatch (a : (Int × Int × List ((Int × Int × List ((Int × (Int × Int × Bool × Bool × Bool) × Int)))))) : Nat := zChangeS a.2.2
def okPatch (a : (Int × Int × List ((Int × Int × List ((Int × (Int × Int × Bool × Bool × Bool) × Int)))))) : Prop := okChangeS a.2.2
theorem okPatch_of {a : (Int × Int × List ((Int × Int × List ((Int × (Int × Int × Bool × Bool × Bool) × Int)))))} (h : zPatch a ≤ 1048576) : okPatch a := by
  unfold zPatch at h
  exact okChangeS_of (by omega)
@[simp] theorem kloadA_Patch {h : Heap} {t : Bool} {xs : List (Int × Int × List ((Int × Int × List ((Int × (Int × Int × Bool × Bool × Bool) × Int)))))} {j : Nat} : kloadA 3 h (elp t (mPatch t) xs j) = xs[j]?.map fun a => .agg (mPatch t a) := kloadA_elp (mk := mPatch t) (es := 3) (fun _ => rfl) (by omega)
@[simp] theorem kload1_Patch_0 {h : Heap} {t : Bool} {xs : List ((Int × Int × List ((Int × Int × List ((Int × (Int × Int × Bool × Bool × Bool) × Int))))))} {j : Nat} : kload1 h (elf t (mPatch t) xs j 0) = xs[j]?.bind fun a => (mPatch t a)[0]? := kload1_elf (mk := mPatch t) (es := 3) (fun _ => rfl) (by omega)
@[simp] theorem kload1_Patch_1 {h : Heap} {t : Bool} {xs : List ((Int × Int × List ((Int × Int × List ((Int × (Int × Int × Bool × Bool × Bool) × Int))))))} {j : Nat} : kload1 h (elf t (mPatch t) xs j 1) = xs[j]?.bind fun a => (mPatch t a)[1]? := kload1_elf (mk := mPatch t) (es := 3) (fun _ => rfl) (by omega)
@[simp] theorem kload1_Patch_2 {h : Heap} {t : Bool} {xs : List ((Int × Int × List ((Int × Int × List ((Int × (Int × Int × Bool × Bool × Bool) × Int))))))} {j : Nat} : kload1 h (elf t (mPatch t) xs j 2) = xs[j]?.bind fun a => (mPatch t a)[2]? := kload1_elf (mk := mPatch t) (es := 3) (fun _ => rfl) (by omega)
@[simp] theorem kia_Patch {t : Bool} {xs : List ((Int × Int × List ((Int × Int × List ((Int × (Int × Int × Bool × Bool × Bool) × Int))))))} {k : IntKind} {i : Int} : kia 3 (fzl t 3 (mPatch t) xs) (.int k i) = if 0 ≤ i ∧ i < xs.length then some (elp t (mPatch t) xs i.toNat) else none := kia_fzl (es := 3) (fun _ => rfl)
theorem ld_Patch {d : Nat} {t : Bool} (a : (Int × Int × List ((Int × Int × List ((Int × (Int × Int × Bool × Bool × Bool) × Int)))))) : (mPatch t a).map (lend (d + 2)) = mPatch true a := map_cons' lend_int (map_cons' lend_int (map_cons' (lend_fzl (d := d + 1) (mk := (mChange t)) (mk' := (mChange true)) (fun a => ld_Change (d := d) a) a.2.2) (rfl)))
@[simp] theorem bor_Patch {d : Nat} {h : Heap} {t : Bool} {xs : List ((Int × Int × List ((Int × Int × List ((Int × (Int × Int × Bool × Bool × Bool) × Int))))))} : bor (d + 4) h (fzl t 3 (mPatch t) xs) = some (fzl true 3 (mPatch true) xs, []) := bor_fzl (d := d + 3) (fun a => ld_Patch (d := d + 1) a) xs
theorem laws_szPatch_spec (a_1 : Int) (a_2 : Int) (a_3 : List ((Int × Int × List ((Int × (Int × Int × Bool × Bool × Bool) × Int))))) (left : Int) (hi : ((Lit.int .i64 a_1).wf = true) ∧ (((Lit.int .i64 a_2).wf = true) ∧ (inSl (fun x1 : (Int × Int × List ((Int × (Int × Int × Bool × Bool × Bool) × Int))) => ((Lit.int .i64 x1.1).wf = true) ∧ (((Lit.int .i64 x1.2.1).wf = true) ∧ (inSl (fun x2 : (Int × (Int × Int × Bool × Bool × Bool) × Int) => ((Lit.int .i64 x2.1).wf = true) ∧ ((((Lit.int .i64 x2.2.1.1).wf = true) ∧ (((Lit.int .i64 x2.2.1.2.1).wf = true) ∧ ((True) ∧ ((True) ∧ (True))))) ∧ ((Lit.int .i64 x2.2.2).wf = true))) x1.2.2))) a_3))) (hl : 0 ≤ left) (hl' : left ≤ 1048576) : NN fn.laws_szPatch [.agg [.int .i64 a_1, .int .i64 a_2, fzl true 3 (mChange true) a_3], .int .i64 left] = some (.int .i64 (if left < (zPatch (a_1, a_2, a_3) : Int) then -1 else left - zPatch (a_1, a_2, a_3))) := by
  apply S.laws_szPatch.gives (k := 0)
  show _ = some (GV.int .i64 (if left < ((zChangeS a_3 : Nat) : Int) then -1 else left - ((zChangeS a_3 : Nat) : Int)))
  have s0 := laws_szChangeS_spec a_3 (left) hi.2.2 (by omega) (by omega)
  by_cases c0 : left < ((zChangeS a_3 : Nat) : Int)
  · have d0 : left - ((zChangeS a_3 : Nat) : Int) < 0 := by omega
    rw [if_pos (by omega : left < ((zChangeS a_3 : Nat) : Int))]
    simp [S.laws_szPatch.run, s0, c0, d0]
  have d0 : ¬ (left - ((zChangeS a_3 : Nat) : Int) < 0) := by omega
  rw [if_neg (by omega)]
  simp [S.laws_szPatch.run, s0, c0, d0]
  try omega
theorem laws_toPatch_spec (a_1 : Int) (a_2 : Int) (a_3 : List ((Int × Int × List ((Int × (Int × Int × Bool × Bool × Bool) × Int))))) (hm : okPatch (a_1, a_2, a_3)) : NN fn.laws_toPatch [.agg [.int .i64 a_1, .int .i64 a_2, fzl true 3 (mChange true) a_3]] = some (.agg [.int .i64 a_1, .int .i64 a_2, fzl false 3 (mChange false) a_3]) := by
  apply S.laws_toPatch.gives (k := 0)
  unfold okPatch at hm
  simp [S.laws_toPatch.run, laws_toChangeS_spec a_3 hm]
  try exact finN_of (frz_agg (.cons frz_int (.cons frz_int (.cons frz_fzl (.nil)))))
open Classical in
theorem laws_eqPatch_spec (a_1 b_1 : Int) (a_2 b_2 : Int) (a_3 b_3 : List ((Int × Int × List ((Int × (Int × Int × Bool × Bool × Bool) × Int))))) (hm : okPatch (a_1, a_2, a_3)) : NN fn.laws_eqPatch [.agg [.int .i64 a_1, .int .i64 a_2, fzl true 3 (mChange true) a_3], .agg [.int .i64 b_1, .int .i64 b_2, fzl true 3 (mChange true) b_3]] = some (.bool (decide ((a_1, a_2, a_3) = (b_1, b_2, b_3)))) := by
  apply S.laws_eqPatch.gives (k := 0)
  unfold okPatch at hm
  by_cases c0 : a_1 = b_1
  rotate_left
  · have e : ¬ ((a_1, a_2, a_3) = (b_1, b_2, b_3)) := fun e => c0 (by simp only [Prod.mk.injEq] at e ⊢; simp [e])
    rw [decide_eq_false e]
    simp [S.laws_eqPatch.run, c0]
  by_cases c1 : a_2 = b_2
  rotate_left
  · have e : ¬ ((a_1, a_2, a_3) = (b_1, b_2, b_3)) := fun e => c1 (by simp only [Prod.mk.injEq] at e ⊢; simp [e])
    rw [decide_eq_false e]
    simp [S.laws_eqPatch.run, c0, c1]
  have s2 := laws_eqChangeS_spec a_3 b_3 hm
  by_cases c2 : a_3 = b_3
  rotate_left
  · have e : ¬ ((a_1, a_2, a_3) = (b_1, b_2, b_3)) := fun e => c2 (by simp only [Prod.mk.injEq] at e ⊢; simp [e])
    rw [decide_eq_false e]
    rw [decide_eq_false c2] at s2
    simp [S.laws_eqPatch.run, c0, c1, s2]
  rw [decide_eq_true c2] at s2
  have e : (a_1, a_2, a_3) = (b_1, b_2, b_3) := by rw [c0, c1, c2]
  rw [decide_eq_true e]
  simp [S.laws_eqPatch.run, c0, c1, s2]

/-! Frame -/
abbrev mFrame (t : Bool) (a : (Int × Int × Int × (Int × Int × List ((Int × Int × List ((Int × (Int × Int × Bool × Bool × Bool) × Int))))))) : List GV := [.int .i64 a.1, .int .i64 a.2.1, .int .i64 a.2.2.1, .int .i64 a.2.2.2.1, .int .i64 a.2.2.2.2.1, fzl t 3 (mChange t) a.2.2.2.2.2]
def zFrame (a : (Int × Int × Int × (Int × Int × List ((Int × Int × List ((Int × (Int × Int × Bool × Bool × Bool) × Int))))))) : Nat := zPatch a.2.2.2
def okFrame (a : (Int × Int × Int × (Int × Int × List ((Int × Int × List ((Int × (Int × Int × Bool × Bool × Bool) × Int))))))) : Prop := okPatch a.2.2.2
theorem okFrame_of {a : (Int × Int × Int × (Int × Int × List ((Int × Int × List ((Int × (Int × Int × Bool × Bool × Bool) × Int))))))} (h : zFrame a ≤ 1048576) : okFrame a := by
  unfold zFrame at h
  exact okPatch_of (by omega)
@[simp] theorem kloadA_Frame {h : Heap} {t : Bool} {xs : List (Int × Int × Int × (Int × Int × List ((Int × Int × List ((Int × (Int × Int × Bool × Bool × Bool) × Int))))))} {j : Nat} : kloadA 6 h (elp t (mFrame t) xs j) = xs[j]?.map fun a => .agg (mFrame t a) := kloadA_elp (mk := mFrame t) (es := 6) (fun _ => rfl) (by omega)
@[simp] theorem kload1_Frame_0 {h : Heap} {t : Bool} {xs : List ((Int × Int × Int × (Int × Int × List ((Int × Int × List ((Int × (Int × Int × Bool × Bool × Bool) × Int)))))))} {j : Nat} : kload1 h (elf t (mFrame t) xs j 0) = xs[j]?.bind fun a => (mFrame t a)[0]? := kload1_elf (mk := mFrame t) (es := 6) (fun _ => rfl) (by omega)
@[simp] theorem kload1_Frame_1 {h : Heap} {t : Bool} {xs : List ((Int × Int × Int × (Int × Int × List ((Int × Int × List ((Int × (Int × Int × Bool × Bool × Bool) × Int)))))))} {j : Nat} : kload1 h (elf t (mFrame t) xs j 1) = xs[j]?.bind fun a => (mFrame t a)[1]? := kload1_elf (mk := mFrame t) (es := 6) (fun _ => rfl) (by omega)
@[simp] theorem kload1_Frame_2 {h : Heap} {t : Bool} {xs : List ((Int × Int × Int × (Int × Int × List ((Int × Int × List ((Int × (Int × Int × Bool × Bool × Bool) × Int)))))))} {j : Nat} : kload1 h (elf t (mFrame t) xs j 2) = xs[j]?.bind fun a => (mFrame t a)[2]? := kload1_elf (mk := mFrame t) (es := 6) (fun _ => rfl) (by omega)
@[simp] theorem kload1_Frame_3 {h : Heap} {t : Bool} {xs : List ((Int × Int × Int × (Int × Int × List ((Int × Int × List ((Int × (Int × Int × Bool × Bool × Bool) × Int)))))))} {j : Nat} : kload1 h (elf t (mFrame t) xs j 3) = xs[j]?.bind fun a => (mFrame t a)[3]? := kload1_elf (mk := mFrame t) (es := 6) (fun _ => rfl) (by omega)
@[simp] theorem kload1_Frame_4 {h : Heap} {t : Bool} {xs : List ((Int × Int × Int × (Int × Int × List ((Int × Int × List ((Int × (Int × Int × Bool × Bool × Bool) × Int)))))))} {j : Nat} : kload1 h (elf t (mFrame t) xs j 4) = xs[j]?.bind fun a => (mFrame t a)[4]? := kload1_elf (mk := mFrame t) (es := 6) (fun _ => rfl) (by omega)
@[simp] theorem kload1_Frame_5 {h : Heap} {t : Bool} {xs : List ((Int × Int × Int × (Int × Int × List ((Int × Int × List ((Int × (Int × Int × Bool × Bool × Bool) × Int)))))))} {j : Nat} : kload1 h (elf t (mFrame t) xs j 5) = xs[j]?.bind fun a => (mFrame t a)[5]? := kload1_elf (mk := mFrame t) (es := 6) (fun _ => rfl) (by omega)
@[simp] theorem kia_Frame {t : Bool} {xs : List ((Int × Int × Int × (Int × Int × List ((Int × Int × List ((Int × (Int × Int × Bool × Bool × Bool) × Int)))))))} {k : IntKind} {i : Int} : kia 6 (fzl t 6 (mFrame t) xs) (.int k i) = if 0 ≤ i ∧ i < xs.length then some (elp t (mFrame t) xs i.toNat) else none := kia_fzl (es := 6) (fun _ => rfl)
theorem ld_Frame {d : Nat} {t : Bool} (a : (Int × Int × Int × (Int × Int × List ((Int × Int × List ((Int × (Int × Int × Bool × Bool × Bool) × Int))))))) : (mFrame t a).map (lend (d + 2)) = mFrame true a := map_cons' lend_int (map_cons' lend_int (map_cons' lend_int (map_cons' lend_int (map_cons' lend_int (map_cons' (lend_fzl (d := d + 1) (mk := (mChange t)) (mk' := (mChange true)) (fun a => ld_Change (d := d) a) a.2.2.2.2.2) (rfl))))))
@[simp] theorem bor_Frame {d : Nat} {h : Heap} {t : Bool} {xs : List ((Int × Int × Int × (Int × Int × List ((Int × Int × List ((Int × (Int × Int × Bool × Bool × Bool) × Int)))))))} : bor (d + 4) h (fzl t 6 (mFrame t) xs) = some (fzl true 6 (mFrame true) xs, []) := bor_fzl (d := d + 3) (fun a => ld_Frame (d := d + 1) a) xs
theorem laws_szFrame_spec (a_1 : Int) (a_2 : Int) (a_3 : Int) (a_4_1 : Int) (a_4_2 : Int) (a_4_3 : List ((Int × Int × List ((Int × (Int × Int × Bool × Bool × Bool) × Int))))) (left : Int) (hi : ((Lit.int .i64 a_1).wf = true) ∧ (((Lit.int .i64 a_2).wf = true) ∧ (((Lit.int .i64 a_3).wf = true) ∧ (((Lit.int .i64 a_4_1).wf = true) ∧ (((Lit.int .i64 a_4_2).wf = true) ∧ (inSl (fun x1 : (Int × Int × List ((Int × (Int × Int × Bool × Bool × Bool) × Int))) => ((Lit.int .i64 x1.1).wf = true) ∧ (((Lit.int .i64 x1.2.1).wf = true) ∧ (inSl (fun x2 : (Int × (Int × Int × Bool × Bool × Bool) × Int) => ((Lit.int .i64 x2.1).wf = true) ∧ ((((Lit.int .i64 x2.2.1.1).wf = true) ∧ (((Lit.int .i64 x2.2.1.2.1).wf = true) ∧ ((True) ∧ ((True) ∧ (True))))) ∧ ((Lit.int .i64 x2.2.2).wf = true))) x1.2.2))) a_4_3)))))) (hl : 0 ≤ left) (hl' : left ≤ 1048576) : NN fn.laws_szFrame [.agg [.int .i64 a_1, .int .i64 a_2, .int .i64 a_3, .int .i64 a_4_1, .int .i64 a_4_2, fzl true 3 (mChange true) a_4_3], .int .i64 left] = some (.int .i64 (if left < (zFrame (a_1, a_2, a_3, (a_4_1, a_4_2, a_4_3)) : Int) then -1 else left - zFrame (a_1, a_2, a_3, (a_4_1, a_4_2, a_4_3)))) := by
  apply S.laws_szFrame.gives (k := 0)
  show _ = some (GV.int .i64 (if left < ((zPatch (a_4_1, a_4_2, a_4_3) : Nat) : Int) then -1 else left - ((zPatch (a_4_1, a_4_2, a_4_3) : Nat) : Int)))
  have s0 := laws_szPatch_spec a_4_1 a_4_2 a_4_3 (left) hi.2.2.2 (by omega) (by omega)
  by_cases c0 : left < ((zPatch (a_4_1, a_4_2, a_4_3) : Nat) : Int)
  · have d0 : left - ((zPatch (a_4_1, a_4_2, a_4_3) : Nat) : Int) < 0 := by omega
    rw [if_pos (by omega : left < ((zPatch (a_4_1, a_4_2, a_4_3) : Nat) : Int))]
    simp [S.laws_szFrame.run, s0, c0, d0]
  have d0 : ¬ (left - ((zPatch (a_4_1, a_4_2, a_4_3) : Nat) : Int) < 0) := by omega
  rw [if_neg (by omega)]
  simp [S.laws_szFrame.run, s0, c0, d0]
  try omega
theorem laws_toFrame_spec (a_1 : Int) (a_2 : Int) (a_3 : Int) (a_4_1 : Int) (a_4_2 : Int) (a_4_3 : List ((Int × Int × List ((Int × (Int × Int × Bool × Bool × Bool) × Int))))) (hm : okFrame (a_1, a_2, a_3, (a_4_1, a_4_2, a_4_3))) : NN fn.laws_toFrame [.agg [.int .i64 a_1, .int .i64 a_2, .int .i64 a_3, .int .i64 a_4_1, .int .i64 a_4_2, fzl true 3 (mChange true) a_4_3]] = some (.agg [.int .i64 a_1, .int .i64 a_2, .int .i64 a_3, .int .i64 a_4_1, .int .i64 a_4_2, fzl false 3 (mChange false) a_4_3]) := by
  apply S.laws_toFrame.gives (k := 0)
  unfold okFrame at hm
  simp [S.laws_toFrame.run, laws_toPatch_spec a_4_1 a_4_2 a_4_3 hm]
  try exact finN_of (frz_agg (.cons frz_int (.cons frz_int (.cons frz_int (.cons frz_int (.cons frz_int (.cons frz_fzl (.nil))))))))
open Classical in
theorem laws_eqFrame_spec (a_1 b_1 : Int) (a_2 b_2 : Int) (a_3 b_3 : Int) (a_4_1 b_4_1 : Int) (a_4_2 b_4_2 : Int) (a_4_3 b_4_3 : List ((Int × Int × List ((Int × (Int × Int × Bool × Bool × Bool) × Int))))) (hm : okFrame (a_1, a_2, a_3, (a_4_1, a_4_2, a_4_3))) : NN fn.laws_eqFrame [.agg [.int .i64 a_1, .int .i64 a_2, .int .i64 a_3, .int .i64 a_4_1, .int .i64 a_4_2, fzl true 3 (mChange true) a_4_3], .agg [.int .i64 b_1, .int .i64 b_2, .int .i64 b_3, .int .i64 b_4_1, .int .i64 b_4_2, fzl true 3 (mChange true) b_4_3]] = some (.bool (decide ((a_1, a_2, a_3, (a_4_1, a_4_2, a_4_3)) = (b_1, b_2, b_3, (b_4_1, b_4_2, b_4_3))))) := by
  apply S.laws_eqFrame.gives (k := 0)
  unfold okFrame at hm
  by_cases c0 : a_1 = b_1
  rotate_left
  · have e : ¬ ((a_1, a_2, a_3, (a_4_1, a_4_2, a_4_3)) = (b_1, b_2, b_3, (b_4_1, b_4_2, b_4_3))) := fun e => c0 (by simp only [Prod.mk.injEq] at e ⊢; simp [e])
    rw [decide_eq_false e]
    simp [S.laws_eqFrame.run, c0]
  by_cases c1 : a_2 = b_2
  rotate_left
  · have e : ¬ ((a_1, a_2, a_3, (a_4_1, a_4_2, a_4_3)) = (b_1, b_2, b_3, (b_4_1, b_4_2, b_4_3))) := fun e => c1 (by simp only [Prod.mk.injEq] at e ⊢; simp [e])
    rw [decide_eq_false e]
    simp [S.laws_eqFrame.run, c0, c1]
  by_cases c2 : a_3 = b_3
  rotate_left
  · have e : ¬ ((a_1, a_2, a_3, (a_4_1, a_4_2, a_4_3)) = (b_1, b_2, b_3, (b_4_1, b_4_2, b_4_3))) := fun e => c2 (by simp only [Prod.mk.injEq] at e ⊢; simp [e])
    rw [decide_eq_false e]
    simp [S.laws_eqFrame.run, c0, c1, c2]
  have s3 := laws_eqPatch_spec a_4_1 b_4_1 a_4_2 b_4_2 a_4_3 b_4_3 hm
  by_cases c3 : (a_4_1, a_4_2, a_4_3) = (b_4_1, b_4_2, b_4_3)
  rotate_left
  · have e : ¬ ((a_1, a_2, a_3, (a_4_1, a_4_2, a_4_3)) = (b_1, b_2, b_3, (b_4_1, b_4_2, b_4_3))) := fun e => c3 (by simp only [Prod.mk.injEq] at e ⊢; simp [e])
    rw [decide_eq_false e]
    rw [decide_eq_false c3] at s3
    simp [S.laws_eqFrame.run, c0, c1, c2, s3]
  rw [decide_eq_true c3] at s3
  have e : (a_1, a_2, a_3, (a_4_1, a_4_2, a_4_3)) = (b_1, b_2, b_3, (b_4_1, b_4_2, b_4_3)) := by
    simp only [Prod.mk.injEq] at *
    simp [c0, c1, c2, c3]
  rw [decide_eq_true e]
  simp [S.laws_eqFrame.run, c0, c1, c2, s3]
end Go.Proofs.YtklhdbkaejbajaaDoor.G
