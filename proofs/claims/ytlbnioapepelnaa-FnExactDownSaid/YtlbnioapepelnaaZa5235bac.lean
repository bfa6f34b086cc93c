/- Written by mgen.py: types, and what the functions of the laws that go over them answer; how such data lie in memory, their marks. -/
import Derived.Test.YtlbnioapepelnaaZfe0b0506
import Derived.Test.YtlbnioapepelnaaZ7df1697c
namespace Go.Proofs.Ytlbnioapepelnaa.G
open Go.RowKit
set_option linter.unusedVariables false
set_option linter.unusedSimpArgs false

/-! Style -/
abbrev mStyle (t : Bool) (a : (Int × Int × Bool × Bool × Bool)) : List GV := [.int .i64 a.1, .int .i64 a.2.1, .bool a.2.2.1, .bool a.2.2.2.1, .bool a.2.2.2.2]
def zStyle (a : (Int × Int × Bool × Bool × Bool)) : Nat := 0
def okStyle (a : (Int × Int × Bool × Bool × Bool)) : Prop := True
theorem okStyle_of {a : (Int × Int × Bool × Bool × Bool)} (h : zStyle a ≤ 1048576) : okStyle a := by
  unfold zStyle at h
  exact trivial
@[simp] theorem kloadA_Style {h : Heap} {t : Bool} {xs : List (Int × Int × Bool × Bool × Bool)} {j : Nat} : kloadA 5 h (elp t (mStyle t) xs j) = xs[j]?.map fun a => .agg (mStyle t a) := kloadA_elp (mk := mStyle t) (es := 5) (fun _ => rfl) (by omega)
@[simp] theorem kload1_Style_0 {h : Heap} {t : Bool} {xs : List ((Int × Int × Bool × Bool × Bool))} {j : Nat} : kload1 h (elf t (mStyle t) xs j 0) = xs[j]?.bind fun a => (mStyle t a)[0]? := kload1_elf (mk := mStyle t) (es := 5) (fun _ => rfl) (by omega)
@[simp] theorem kload1_Style_1 {h : Heap} {t : Bool} {xs : List ((Int × Int × Bool × Bool × Bool))} {j : Nat} : kload1 h (elf t (mStyle t) xs j 1) = xs[j]?.bind fun a => (mStyle t a)[1]? := kload1_elf (mk := mStyle t) (es := 5) (fun _ => rfl) (by omega)
@[simp] theorem kload1_Style_2 {h : Heap} {t : Bool} {xs : List ((Int × Int × Bool × Bool × Bool))} {j : Nat} : kload1 h (elf t (mStyle t) xs j 2) = xs[j]?.bind fun a => (mStyle t a)[2]? := kload1_elf (mk := mStyle t) (es := 5) (fun _ => rfl) (by omega)
@[simp] theorem kload1_Style_3 {h : Heap} {t : Bool} {xs : List ((Int × Int × Bool × Bool × Bool))} {j : Nat} : kload1 h (elf t (mStyle t) xs j 3) = xs[j]?.bind fun a => (mStyle t a)[3]? := kload1_elf (mk := mStyle t) (es := 5) (fun _ => rfl) (by omega)
@[simp] theorem kload1_Style_4 {h : Heap} {t : Bool} {xs : List ((Int × Int × Bool × Bool × Bool))} {j : Nat} : kload1 h (elf t (mStyle t) xs j 4) = xs[j]?.bind fun a => (mStyle t a)[4]? := kload1_elf (mk := mStyle t) (es := 5) (fun _ => rfl) (by omega)
@[simp] theorem kia_Style {t : Bool} {xs : List ((Int × Int × Bool × Bool × Bool))} {k : IntKind} {i : Int} : kia 5 (fzl t 5 (mStyle t) xs) (.int k i) = if 0 ≤ i ∧ i < xs.length then some (elp t (mStyle t) xs i.toNat) else none := kia_fzl (es := 5) (fun _ => rfl)
theorem ld_Style {d : Nat} {t : Bool} (a : (Int × Int × Bool × Bool × Bool)) : (mStyle t a).map (lend d) = mStyle true a := map_cons' lend_int (map_cons' lend_int (map_cons' lend_bool (map_cons' lend_bool (map_cons' lend_bool (rfl)))))
@[simp] theorem bor_Style {d : Nat} {h : Heap} {t : Bool} {xs : List ((Int × Int × Bool × Bool × Bool))} : bor (d + 2) h (fzl t 5 (mStyle t) xs) = some (fzl true 5 (mStyle true) xs, []) := bor_fzl (d := d + 1) (fun a => ld_Style (d := d + 1) a) xs
open Classical in
theorem laws_eqStyle_spec (a_1 b_1 : Int) (a_2 b_2 : Int) (a_3 b_3 : Bool) (a_4 b_4 : Bool) (a_5 b_5 : Bool) (hm : okStyle (a_1, a_2, a_3, a_4, a_5)) : NN fn.laws_eqStyle [.agg [.int .i64 a_1, .int .i64 a_2, .bool a_3, .bool a_4, .bool a_5], .agg [.int .i64 b_1, .int .i64 b_2, .bool b_3, .bool b_4, .bool b_5]] = some (.bool (decide ((a_1, a_2, a_3, a_4, a_5) = (b_1, b_2, b_3, b_4, b_5)))) := by
  apply S.laws_eqStyle.gives (k := 0)
  unfold okStyle at hm
  by_cases c0 : a_1 = b_1
  rotate_left
  · have e : ¬ ((a_1, a_2, a_3, a_4, a_5) = (b_1, b_2, b_3, b_4, b_5)) := fun e => c0 (by simp only [Prod.mk.injEq] at e ⊢; simp [e])
    rw [decide_eq_false e]
    simp [S.laws_eqStyle.run, c0]
  by_cases c1 : a_2 = b_2
  rotate_left
  · have e : ¬ ((a_1, a_2, a_3, a_4, a_5) = (b_1, b_2, b_3, b_4, b_5)) := fun e => c1 (by simp only [Prod.mk.injEq] at e ⊢; simp [e])
    rw [decide_eq_false e]
    simp [S.laws_eqStyle.run, c0, c1]
  by_cases c2 : a_3 = b_3
  rotate_left
  · have e : ¬ ((a_1, a_2, a_3, a_4, a_5) = (b_1, b_2, b_3, b_4, b_5)) := fun e => c2 (by simp only [Prod.mk.injEq] at e ⊢; simp [e])
    rw [decide_eq_false e]
    simp [S.laws_eqStyle.run, c0, c1, beq_eq_false_iff_ne.2 c2]
  by_cases c3 : a_4 = b_4
  rotate_left
  · have e : ¬ ((a_1, a_2, a_3, a_4, a_5) = (b_1, b_2, b_3, b_4, b_5)) := fun e => c3 (by simp only [Prod.mk.injEq] at e ⊢; simp [e])
    rw [decide_eq_false e]
    simp [S.laws_eqStyle.run, c0, c1, c2, beq_eq_false_iff_ne.2 c3]
  by_cases c4 : a_5 = b_5
  rotate_left
  · have e : ¬ ((a_1, a_2, a_3, a_4, a_5) = (b_1, b_2, b_3, b_4, b_5)) := fun e => c4 (by simp only [Prod.mk.injEq] at e ⊢; simp [e])
    rw [decide_eq_false e]
    simp [S.laws_eqStyle.run, c0, c1, c2, c3, beq_eq_false_iff_ne.2 c4]
  have e : (a_1, a_2, a_3, a_4, a_5) = (b_1, b_2, b_3, b_4, b_5) := by rw [c0, c1, c2, c3, c4]
  rw [decide_eq_true e]
  simp [S.laws_eqStyle.run, c0, c1, c2, c3, c4]
theorem laws_toStyle_spec (a_1 : Int) (a_2 : Int) (a_3 : Bool) (a_4 : Bool) (a_5 : Bool) (hm : okStyle (a_1, a_2, a_3, a_4, a_5)) : NN fn.laws_toStyle [.agg [.int .i64 a_1, .int .i64 a_2, .bool a_3, .bool a_4, .bool a_5]] = some (.agg [.int .i64 a_1, .int .i64 a_2, .bool a_3, .bool a_4, .bool a_5]) := by
  apply S.laws_toStyle.gives (k := 0)
  unfold okStyle at hm
  simp [S.laws_toStyle.run]
  try exact finN_of (frz_agg (.cons frz_int (.cons frz_int (.cons frz_bool (.cons frz_bool (.cons frz_bool (.nil)))))))

/-! Cell -/
abbrev mCell (t : Bool) (a : (Int × (Int × Int × Bool × Bool × Bool) × Int)) : List GV := [.int .i64 a.1, .int .i64 a.2.1.1, .int .i64 a.2.1.2.1, .bool a.2.1.2.2.1, .bool a.2.1.2.2.2.1, .bool a.2.1.2.2.2.2, .int .i64 a.2.2]
def zCell (a : (Int × (Int × Int × Bool × Bool × Bool) × Int)) : Nat := 0
def okCell (a : (Int × (Int × Int × Bool × Bool × Bool) × Int)) : Prop := True
theorem okCell_of {a : (Int × (Int × Int × Bool × Bool × Bool) × Int)} (h : zCell a ≤ 1048576) : okCell a := by
  unfold zCell at h
  exact trivial
@[simp] theorem kloadA_Cell {h : Heap} {t : Bool} {xs : List (Int × (Int × Int × Bool × Bool × Bool) × Int)} {j : Nat} : kloadA 7 h (elp t (mCell t) xs j) = xs[j]?.map fun a => .agg (mCell t a) := kloadA_elp (mk := mCell t) (es := 7) (fun _ => rfl) (by omega)
@[simp] theorem kload1_Cell_0 {h : Heap} {t : Bool} {xs : List ((Int × (Int × Int × Bool × Bool × Bool) × Int))} {j : Nat} : kload1 h (elf t (mCell t) xs j 0) = xs[j]?.bind fun a => (mCell t a)[0]? := kload1_elf (mk := mCell t) (es := 7) (fun _ => rfl) (by omega)
@[simp] theorem kload1_Cell_1 {h : Heap} {t : Bool} {xs : List ((Int × (Int × Int × Bool × Bool × Bool) × Int))} {j : Nat} : kload1 h (elf t (mCell t) xs j 1) = xs[j]?.bind fun a => (mCell t a)[1]? := kload1_elf (mk := mCell t) (es := 7) (fun _ => rfl) (by omega)
@[simp] theorem kload1_Cell_2 {h : Heap} {t : Bool} {xs : List ((Int × (Int × Int × Bool × Bool × Bool) × Int))} {j : Nat} : kload1 h (elf t (mCell t) xs j 2) = xs[j]?.bind fun a => (mCell t a)[2]? := kload1_elf (mk := mCell t) (es := 7) (fun _ => rfl) (by omega)
@[simp] theorem kload1_Cell_3 {h : Heap} {t : Bool} {xs : List ((Int × (Int × Int × Bool × Bool × Bool) × Int))} {j : Nat} : kload1 h (elf t (mCell t) xs j 3) = xs[j]?.bind fun a => (mCell t a)[3]? := kload1_elf (mk := mCell t) (es := 7) (fun _ => rfl) (by omega)
@[simp] theorem kload1_Cell_4 {h : Heap} {t : Bool} {xs : List ((Int × (Int × Int × Bool × Bool × Bool) × Int))} {j : Nat} : kload1 h (elf t (mCell t) xs j 4) = xs[j]?.bind fun a => (mCell t a)[4]? := kload1_elf (mk := mCell t) (es := 7) (fun _ => rfl) (by omega)
@[simp] theorem kload1_Cell_5 {h : Heap} {t : Bool} {xs : List ((Int × (Int × Int × Bool × Bool × Bool) × Int))} {j : Nat} : kload1 h (elf t (mCell t) xs j 5) = xs[j]?.bind fun a => (mCell t a)[5]? := kload1_elf (mk := mCell t) (es := 7) (fun _ => rfl) (by omega)
@[simp] theorem kload1_Cell_6 {h : Heap} {t : Bool} {xs : List ((Int × (Int × Int × Bool × Bool × Bool) × Int))} {j : Nat} : kload1 h (elf t (mCell t) xs j 6) = xs[j]?.bind fun a => (mCell t a)[6]? := kload1_elf (mk := mCell t) (es := 7) (fun _ => rfl) (by omega)
@[simp] theorem kia_Cell {t : Bool} {xs : List ((Int × (Int × Int × Bool × Bool × Bool) × Int))} {k : IntKind} {i : Int} : kia 7 (fzl t 7 (mCell t) xs) (.int k i) = if 0 ≤ i ∧ i < xs.length then some (elp t (mCell t) xs i.toNat) else none := kia_fzl (es := 7) (fun _ => rfl)
theorem ld_Cell {d : Nat} {t : Bool} (a : (Int × (Int × Int × Bool × Bool × Bool) × Int)) : (mCell t a).map (lend d) = mCell true a := map_cons' lend_int (map_cons' lend_int (map_cons' lend_int (map_cons' lend_bool (map_cons' lend_bool (map_cons' lend_bool (map_cons' lend_int (rfl)))))))
@[simp] theorem bor_Cell {d : Nat} {h : Heap} {t : Bool} {xs : List ((Int × (Int × Int × Bool × Bool × Bool) × Int))} : bor (d + 2) h (fzl t 7 (mCell t) xs) = some (fzl true 7 (mCell true) xs, []) := bor_fzl (d := d + 1) (fun a => ld_Cell (d := d + 1) a) xs
open Classical in
theorem laws_eqCell_spec (a_1 b_1 : Int) (a_2_1 b_2_1 : Int) (a_2_2 b_2_2 : Int) (a_2_3 b_2_3 : Bool) (a_2_4 b_2_4 : Bool) (a_2_5 b_2_5 : Bool) (a_3 b_3 : Int) (hm : okCell (a_1, (a_2_1, a_2_2, a_2_3, a_2_4, a_2_5), a_3)) : NN fn.laws_eqCell [.agg [.int .i64 a_1, .int .i64 a_2_1, .int .i64 a_2_2, .bool a_2_3, .bool a_2_4, .bool a_2_5, .int .i64 a_3], .agg [.int .i64 b_1, .int .i64 b_2_1, .int .i64 b_2_2, .bool b_2_3, .bool b_2_4, .bool b_2_5, .int .i64 b_3]] = some (.bool (decide ((a_1, (a_2_1, a_2_2, a_2_3, a_2_4, a_2_5), a_3) = (b_1, (b_2_1, b_2_2, b_2_3, b_2_4, b_2_5), b_3)))) := by
  apply S.laws_eqCell.gives (k := 0)
  unfold okCell at hm
  by_cases c0 : a_1 = b_1
  rotate_left
  · have e : ¬ ((a_1, (a_2_1, a_2_2, a_2_3, a_2_4, a_2_5), a_3) = (b_1, (b_2_1, b_2_2, b_2_3, b_2_4, b_2_5), b_3)) := fun e => c0 (by simp only [Prod.mk.injEq] at e ⊢; simp [e])
    rw [decide_eq_false e]
    simp [S.laws_eqCell.run, c0]
  have s1 := laws_eqStyle_spec a_2_1 b_2_1 a_2_2 b_2_2 a_2_3 b_2_3 a_2_4 b_2_4 a_2_5 b_2_5 trivial
  by_cases c1 : (a_2_1, a_2_2, a_2_3, a_2_4, a_2_5) = (b_2_1, b_2_2, b_2_3, b_2_4, b_2_5)
  rotate_left
  · have e : ¬ ((a_1, (a_2_1, a_2_2, a_2_3, a_2_4, a_2_5), a_3) = (b_1, (b_2_1, b_2_2, b_2_3, b_2_4, b_2_5), b_3)) := fun e => c1 (by simp only [Prod.mk.injEq] at e ⊢; simp [e])
    rw [decide_eq_false e]
    rw [decide_eq_false c1] at s1
    simp [S.laws_eqCell.run, c0, s1]
  rw [decide_eq_true c1] at s1
  by_cases c2 : a_3 = b_3
  rotate_left
  · have e : ¬ ((a_1, (a_2_1, a_2_2, a_2_3, a_2_4, a_2_5), a_3) = (b_1, (b_2_1, b_2_2, b_2_3, b_2_4, b_2_5), b_3)) := fun e => c2 (by simp only [Prod.mk.injEq] at e ⊢; simp [e])
    rw [decide_eq_false e]
    simp [S.laws_eqCell.run, c0, s1, c2]
  have e : (a_1, (a_2_1, a_2_2, a_2_3, a_2_4, a_2_5), a_3) = (b_1, (b_2_1, b_2_2, b_2_3, b_2_4, b_2_5), b_3) := by
    simp only [Prod.mk.injEq] at *
    simp [c0, c1, c2]
  rw [decide_eq_true e]
  simp [S.laws_eqCell.run, c0, s1, c2]
theorem laws_toCell_spec (a_1 : Int) (a_2_1 : Int) (a_2_2 : Int) (a_2_3 : Bool) (a_2_4 : Bool) (a_2_5 : Bool) (a_3 : Int) (hm : okCell (a_1, (a_2_1, a_2_2, a_2_3, a_2_4, a_2_5), a_3)) : NN fn.laws_toCell [.agg [.int .i64 a_1, .int .i64 a_2_1, .int .i64 a_2_2, .bool a_2_3, .bool a_2_4, .bool a_2_5, .int .i64 a_3]] = some (.agg [.int .i64 a_1, .int .i64 a_2_1, .int .i64 a_2_2, .bool a_2_3, .bool a_2_4, .bool a_2_5, .int .i64 a_3]) := by
  apply S.laws_toCell.gives (k := 0)
  unfold okCell at hm
  simp [S.laws_toCell.run, laws_toStyle_spec a_2_1 a_2_2 a_2_3 a_2_4 a_2_5 trivial]
  try exact finN_of (frz_agg (.cons frz_int (.cons frz_int (.cons frz_int (.cons frz_bool (.cons frz_bool (.cons frz_bool (.cons frz_int (.nil)))))))))

/-! CellS -/
abbrev mCellS (t : Bool) (a : List ((Int × (Int × Int × Bool × Bool × Bool) × Int))) : List GV := [fzl t 7 (mCell t) a]
abbrev zCellS (a : List ((Int × (Int × Int × Bool × Bool × Bool) × Int))) : Nat := a.length
abbrev okCellS (a : List ((Int × (Int × Int × Bool × Bool × Bool) × Int))) : Prop := a.length ≤ 1048576
theorem okCellS_of {a : List ((Int × (Int × Int × Bool × Bool × Bool) × Int))} (h : zCellS a ≤ 1048576) : okCellS a := h
@[simp] theorem kload1_CellS {h : Heap} {t : Bool} {xs : List (List ((Int × (Int × Int × Bool × Bool × Bool) × Int)))} {j : Nat} : kload1 h (elp t (mCellS t) xs j) = xs[j]?.map fun a => fzl t 7 (mCell t) a := kload1_elp _ (fun _ => rfl)
@[simp] theorem kia_CellS {t : Bool} {xs : List (List ((Int × (Int × Int × Bool × Bool × Bool) × Int)))} {k : IntKind} {i : Int} : kia 1 (fzl t 1 (mCellS t) xs) (.int k i) = if 0 ≤ i ∧ i < xs.length then some (elp t (mCellS t) xs i.toNat) else none := kia_fzl (es := 1) (fun _ => rfl)
theorem ld_CellS {d : Nat} {t : Bool} (a : List ((Int × (Int × Int × Bool × Bool × Bool) × Int))) : (mCellS t a).map (lend (d + 1)) = mCellS true a := map_cons' (lend_fzl (d := d) (mk := (mCell t)) (mk' := (mCell true)) (fun a => ld_Cell (d := d) a) a) (rfl)
@[simp] theorem bor_CellS {d : Nat} {h : Heap} {t : Bool} {xs : List (List ((Int × (Int × Int × Bool × Bool × Bool) × Int)))} : bor (d + 3) h (fzl t 1 (mCellS t) xs) = some (fzl true 1 (mCellS true) xs, []) := bor_fzl (d := d + 2) (fun a => ld_CellS (d := d + 1) a) xs
open Classical in
theorem laws_eqCellS_spec (xs ys : List ((Int × (Int × Int × Bool × Bool × Bool) × Int))) (hm : okCellS xs) : NN fn.laws_eqCellS [fzl true 7 (mCell true) xs, fzl true 7 (mCell true) ys] = some (.bool (decide (xs = ys))) := by
  apply S.laws_eqCellS.gives (k := xs.length + 1)
  have hm' : xs.length ≤ 1048576 := hm
  simp [S.laws_eqCellS.run]
  by_cases hl : xs.length = ys.length
  · have hi : (xs.length : Int) = ys.length := by omega
    simp [hi]
    refine (loop_all (f := fun r j => S.laws_eqCellS.l6 _ _ r _ _ _ (.int .i64 (j : Int)) _) (A := some (GV.bool true)) (B := some (GV.bool false)) (n := xs.length) (P := fun j => xs[j]? = ys[j]?) (fun j r hj => ?_) (fun r => ?_) (xs.length + 1) 0 (by omega) (by omega)).trans ?_
    · have h1 : (j : Int) < xs.length := by omega
      have h2 : (j : Int) < ys.length := by omega
      have h3 : j < ys.length := by omega
      have w := wrap_succ (n := j) (by simp only [maxLen]; omega)
      have sp := laws_eqCell_spec xs[j].1 ys[j].1 xs[j].2.1.1 ys[j].2.1.1 xs[j].2.1.2.1 ys[j].2.1.2.1 xs[j].2.1.2.2.1 ys[j].2.1.2.2.1 xs[j].2.1.2.2.2.1 ys[j].2.1.2.2.2.1 xs[j].2.1.2.2.2.2 ys[j].2.1.2.2.2.2 xs[j].2.2 ys[j].2.2  trivial
      by_cases hc : xs[j] = ys[j]
      · have e1 : (xs[j].1, (xs[j].2.1.1, xs[j].2.1.2.1, xs[j].2.1.2.2.1, xs[j].2.1.2.2.2.1, xs[j].2.1.2.2.2.2), xs[j].2.2) = (ys[j].1, (ys[j].2.1.1, ys[j].2.1.2.1, ys[j].2.1.2.2.1, ys[j].2.1.2.2.2.1, ys[j].2.1.2.2.2.2), ys[j].2.2) := hc
        rw [decide_eq_true e1] at sp
        refine Eq.trans ?_ (if_pos (by rw [get_of hj, get_of h3, hc])).symm
        simp [S.laws_eqCellS.l6, h1, h2, get_of hj, get_of h3, w, sp]
      · have e1 : ¬ ((xs[j].1, (xs[j].2.1.1, xs[j].2.1.2.1, xs[j].2.1.2.2.1, xs[j].2.1.2.2.2.1, xs[j].2.1.2.2.2.2), xs[j].2.2) = (ys[j].1, (ys[j].2.1.1, ys[j].2.1.2.1, ys[j].2.1.2.2.1, ys[j].2.1.2.2.2.1, ys[j].2.1.2.2.2.2), ys[j].2.2)) := hc
        rw [decide_eq_false e1] at sp
        refine Eq.trans ?_ (if_neg (by rw [get_of hj, get_of h3]; exact fun h => hc (Option.some.inj h))).symm
        simp [S.laws_eqCellS.l6, h1, h2, get_of hj, get_of h3, w, sp]
    · simp [S.laws_eqCellS.l6]
    · simp [list_eq_iff hl]
      by_cases hx : xs = ys <;> simp [hx]
  · have : ¬ ((xs.length : Int) = ys.length) := by omega
    have hne : xs ≠ ys := fun h => hl (by rw [h])
    simp [this, hne]
abbrev rCellS : Rel (List ((Int × (Int × Int × Bool × Bool × Bool) × Int))) := RSl 7 (RFl (mCell true))
theorem goodCellS : Good 1 2 (mCellS true) rCellS := RSl.good (RFl.good (es := 7) (mk := (mCell true)) (fun _ => rfl) (fun _ => rfl))
def cCellS (xs : List ((Int × (Int × Int × Bool × Bool × Bool) × Int))) : Nat := cntL (fun x => 1 + 1 + 1 + 1 + 1 + 1 + 1) xs
noncomputable def kCellS (xs : List ((Int × (Int × Int × Bool × Bool × Bool) × Int))) (k : Nat) : List ((Int × (Int × Int × Bool × Bool × Bool) × Int)) := markL (fun x k => (((k : Nat) : Int), (((k + 1 : Nat) : Int), ((k + 1 + 1 : Nat) : Int), decide ((k + 1 + 1 + 1) % 3 = 0), decide ((k + 1 + 1 + 1 + 1) % 3 = 0), decide ((k + 1 + 1 + 1 + 1 + 1) % 3 = 0)), ((k + 1 + 1 + 1 + 1 + 1 + 1 : Nat) : Int))) (fun x => 1 + 1 + 1 + 1 + 1 + 1 + 1) xs k
theorem cCellS_le {xs : List ((Int × (Int × Int × Bool × Bool × Bool) × Int))} (h : okCellS xs) : cCellS xs ≤ 7340032 := cntL_bound (M := 1048576) (B := 7) (h) (fun x hx => by show _ ≤ _; omega)
theorem laws_heldCellS_spec (xs : List ((Int × (Int × Int × Bool × Bool × Bool) × Int))) (k : Nat) (hok : okCellS xs) (hk : k + cCellS xs ≤ 4611686018427387904) : NN fn.laws_heldCellS [(fzl true 7 (mCell true) (kCellS xs k)), .int .i64 (k : Int)] = some (.int .i64 ((k + cCellS xs : Nat) : Int)) := by
  have hlim : k + cntL (fun x => 1 + 1 + 1 + 1 + 1 + 1 + 1) xs ≤ 4611686018427387904 := hk
  have hlen : xs.length ≤ 1048576 := hok
  obtain ⟨ys, hys⟩ : ∃ ys, kCellS xs k = ys := ⟨_, rfl⟩
  have hl : ys.length = xs.length := by rw [← hys]; exact markL_len _ _
  have hg : ∀ j (hj : j < xs.length), ys[j]? = some (((((k + cntL (fun x => 1 + 1 + 1 + 1 + 1 + 1 + 1) (xs.take j)) : Nat) : Int), ((((k + cntL (fun x => 1 + 1 + 1 + 1 + 1 + 1 + 1) (xs.take j)) + 1 : Nat) : Int), (((k + cntL (fun x => 1 + 1 + 1 + 1 + 1 + 1 + 1) (xs.take j)) + 1 + 1 : Nat) : Int), decide (((k + cntL (fun x => 1 + 1 + 1 + 1 + 1 + 1 + 1) (xs.take j)) + 1 + 1 + 1) % 3 = 0), decide (((k + cntL (fun x => 1 + 1 + 1 + 1 + 1 + 1 + 1) (xs.take j)) + 1 + 1 + 1 + 1) % 3 = 0), decide (((k + cntL (fun x => 1 + 1 + 1 + 1 + 1 + 1 + 1) (xs.take j)) + 1 + 1 + 1 + 1 + 1) % 3 = 0)), (((k + cntL (fun x => 1 + 1 + 1 + 1 + 1 + 1 + 1) (xs.take j)) + 1 + 1 + 1 + 1 + 1 + 1 : Nat) : Int))) := fun j hj => by rw [← hys]; exact markL_get xs k j hj
  rw [hys]
  apply S.laws_heldCellS.gives (k := xs.length + 1)
  have key := loop_to (f := fun r j => fun (G : GX → GV → GV → Heap → Option GV) => S.laws_heldCellS.l5 (xs.length + 1) G r (fzl true 7 (mCell true) ys) (.int .i64 ((k + cntL (fun x => 1 + 1 + 1 + 1 + 1 + 1 + 1) (xs.take j) : Nat) : Int)) (.int .i64 0) (.int .i64 (j : Int)) []) (A := fun G => G (.ext 0) (.int .i64 ((k + cCellS xs : Nat) : Int)) (.int .i64 0) []) (n := xs.length) ?_ ?_ (xs.length + 1) 0 (by omega) (by omega)
  · have key' := fun G => congrFun key G
    simp only [List.take_zero, cntL, List.map_nil, List.sum_nil, Nat.add_zero, show ((0 : Nat) : Int) = 0 from rfl] at key'
    simp [S.laws_heldCellS.run, key', -Int.natCast_add]
  · intro j r hj
    have g1 : (j : Int) < (ys.length : Int) := by omega
    have kj := kadd1 (n := j) (by omega)
    have q1 := cntL_take (c := (fun x => 1 + 1 + 1 + 1 + 1 + 1 + 1)) hj
    have q2 := cntL_le (c := (fun x => 1 + 1 + 1 + 1 + 1 + 1 + 1)) (xs := xs) (j + 1)
    have hgj := hg j hj
    try simp only at q1
    rw [q1, ← Nat.add_assoc]
    obtain ⟨K, hK⟩ : ∃ K, k + cntL (fun x => 1 + 1 + 1 + 1 + 1 + 1 + 1) (xs.take j) = K := ⟨_, rfl⟩
    have hKb : K + (1 + 1 + 1 + 1 + 1 + 1 + 1) ≤ 4611686018427387904 := by omega
    rw [hK] at hgj ⊢
    have ka0 := kadd1 (n := K) (by omega)
    have ka1 := kadd1 (n := K + 1) (by omega)
    have ka2 := kadd1 (n := K + 1 + 1) (by omega)
    have ka3 := kadd1 (n := K + 1 + 1 + 1) (by omega)
    have kr3 := krem3 (n := K + 1 + 1 + 1)
    have ka4 := kadd1 (n := K + 1 + 1 + 1 + 1) (by omega)
    have kr4 := krem3 (n := K + 1 + 1 + 1 + 1)
    have ka5 := kadd1 (n := K + 1 + 1 + 1 + 1 + 1) (by omega)
    have kr5 := krem3 (n := K + 1 + 1 + 1 + 1 + 1)
    have ka6 := kadd1 (n := K + 1 + 1 + 1 + 1 + 1 + 1) (by omega)
    rw [show K + (1 + 1 + 1 + 1 + 1 + 1 + 1) = K + 1 + 1 + 1 + 1 + 1 + 1 + 1 from by omega]
    funext G
    simp only [S.laws_heldCellS.l5]
    simp [g1, hgj, kj, ka0, ka1, ka2, ka3, kr3, kdec3, ka4, kr4, kdec3, ka5, kr5, kdec3, ka6, -Int.natCast_add, -kbin_add]
    try rfl
  · intro r
    funext G
    have g1 : ¬ ((xs.length : Int) < (ys.length : Int)) := by omega
    simp only [S.laws_heldCellS.l5, List.take_length]
    simp [g1, -Int.natCast_add]
    try rfl
theorem laws_markCellS_spec (h : Heap) (v : GV) (xs : List ((Int × (Int × Int × Bool × Bool × Bool) × Int))) (R : List Nat) (k : Nat) (hok : okCellS xs) (he : rCellS h [v] xs R) (nd : R.Nodup) (hk : k + cCellS xs ≤ 4611686018427387904) : ∃ h', HH fn.laws_markCellS [v, .int .i64 (k : Int)] h = some (.int .i64 ((k + cCellS xs : Nat) : Int), h') ∧ rCellS h' [v] (kCellS xs k) R ∧ Fr R h h' := by
  have hlim : k + cntL (fun x => 1 + 1 + 1 + 1 + 1 + 1 + 1) xs ≤ 4611686018427387904 := hk
  have hlen : xs.length ≤ 1048576 := hok
  have key := mark_loop (E := (RFl (mCell true))) (RFl.good (es := 7) (mk := (mCell true)) (fun _ => rfl) (fun _ => rfl)) (m := (fun x k => (((k : Nat) : Int), (((k + 1 : Nat) : Int), ((k + 1 + 1 : Nat) : Int), decide ((k + 1 + 1 + 1) % 3 = 0), decide ((k + 1 + 1 + 1 + 1) % 3 = 0), decide ((k + 1 + 1 + 1 + 1 + 1) % 3 = 0)), ((k + 1 + 1 + 1 + 1 + 1 + 1 : Nat) : Int)))) (c := (fun x => 1 + 1 + 1 + 1 + 1 + 1 + 1)) (v := v) (xs := xs) (R := R) (k := k) nd (f := fun r j k h => fun (G : GX → GV → GV → Heap → Option (GV × Heap)) => S.laws_markCellS.l5 (xs.length + 1) G r v (.int .i64 (k : Int)) (.int .i64 0) (.int .i64 (j : Int)) h) (A := fun k h => fun G => G (.ext 0) (.int .i64 (k : Int)) (.int .i64 0) h) ?_ ?_ he (xs.length + 1) (by omega)
  · obtain ⟨h', a1, a2, a3⟩ := key
    refine ⟨h', S.laws_markCellS.gives (k := xs.length + 1) ?_, a2, a3⟩
    have a1' := fun G => congrFun a1 G
    simp only [show ((0 : Nat) : Int) = 0 from rfl] at a1'
    simp [S.laws_markCellS.run, a1', -Int.natCast_add]
    rfl
  · intro j r h ys he hl hj hy
    obtain ⟨b, css, c, r0, hv, hb, fl, hcn, hc, fe, hE, hbr, hbR, hrR, nd0, hup⟩ := RSl.focus (RFl.good (es := 7) (mk := (mCell true)) (fun _ => rfl) (fun _ => rfl)) he nd (j := j) (by omega)
    have ey : ys[j]'(by omega) = xs[j] := by rw [List.getElem?_eq_getElem (by omega)] at hy; exact Option.some.inj hy
    rw [ey] at hE
    rw [hl] at hv hcn
    have hcl := fe c (List.mem_of_getElem? hc)
    have hb0 : h[b]? = some (css.set j c).flatten := by rw [set_get_self hc]; exact hb
    have q1 := cntL_take (c := (fun x => 1 + 1 + 1 + 1 + 1 + 1 + 1)) hj
    have q2 := cntL_le (c := (fun x => 1 + 1 + 1 + 1 + 1 + 1 + 1)) (xs := xs) (j + 1)
    try simp only at q1
    obtain ⟨K, hK⟩ : ∃ K, k + cntL (fun x => 1 + 1 + 1 + 1 + 1 + 1 + 1) (xs.take j) = K := ⟨_, rfl⟩
    have hKb : K + (1 + 1 + 1 + 1 + 1 + 1 + 1) ≤ 4611686018427387904 := by omega
    rw [hK]
    clear hK q1 q2
    have hm := (RSl.good (RFl.good (es := 7) (mk := (mCell true)) (fun _ => rfl) (fun _ => rfl))).mem he
    have hbl := (List.getElem?_eq_some_iff.1 hb).1
    have kj := kadd1 (n := j) (by omega)
    have k0 : kia 7 (.sl b 0 xs.length xs.length 7) (.int .i64 (j : Int)) = some (.ptr b (j * 7) (xs.length * 7)) := kia_at hj (by omega) (by omega)
    obtain ⟨rfl, rfl⟩ := hE
    obtain ⟨H1, m1, hb1, f1⟩ := st_leaf (es := 7) (off := 0) (x := (.int .i64 ((K : Nat) : Int))) (o := j * 7) (tot := xs.length * 7) hb0 fe hcn hj hcl (by omega) rfl rfl (by omega) (by omega)
    have g1 : Fr R h H1 := f1.sub (fun i hi => by rw [List.mem_singleton] at hi; rw [hi]; exact hbR)
    have ka0 := kadd1 (n := K) (by omega)
    have hcl1 : (((mCell true) xs[j]).set 0 (.int .i64 ((K : Nat) : Int))).length = 7 := by rw [List.length_set]; exact hcl
    obtain ⟨H2, m2, hb2, f2⟩ := st_leaf (es := 7) (off := 1) (x := (.int .i64 ((K + 1 : Nat) : Int))) (o := j * 7 + 1) (tot := xs.length * 7) hb1 fe hcn hj hcl1 (by omega) rfl rfl (by omega) (by omega)
    have g2 : Fr R H1 H2 := f2.sub (fun i hi => by rw [List.mem_singleton] at hi; rw [hi]; exact hbR)
    have ka1 := kadd1 (n := K + 1) (by omega)
    have hcl2 : ((((mCell true) xs[j]).set 0 (.int .i64 ((K : Nat) : Int))).set 1 (.int .i64 ((K + 1 : Nat) : Int))).length = 7 := by rw [List.length_set]; exact hcl1
    obtain ⟨H3, m3, hb3, f3⟩ := st_leaf (es := 7) (off := 2) (x := (.int .i64 ((K + 1 + 1 : Nat) : Int))) (o := j * 7 + 2) (tot := xs.length * 7) hb2 fe hcn hj hcl2 (by omega) rfl rfl (by omega) (by omega)
    have g3 : Fr R H2 H3 := f3.sub (fun i hi => by rw [List.mem_singleton] at hi; rw [hi]; exact hbR)
    have ka2 := kadd1 (n := K + 1 + 1) (by omega)
    have hcl3 : (((((mCell true) xs[j]).set 0 (.int .i64 ((K : Nat) : Int))).set 1 (.int .i64 ((K + 1 : Nat) : Int))).set 2 (.int .i64 ((K + 1 + 1 : Nat) : Int))).length = 7 := by rw [List.length_set]; exact hcl2
    obtain ⟨H4, m4, hb4, f4⟩ := st_leaf (es := 7) (off := 3) (x := (.bool (decide ((K + 1 + 1 + 1) % 3 = 0)))) (o := j * 7 + 3) (tot := xs.length * 7) hb3 fe hcn hj hcl3 (by omega) rfl rfl (by omega) (by omega)
    have g4 : Fr R H3 H4 := f4.sub (fun i hi => by rw [List.mem_singleton] at hi; rw [hi]; exact hbR)
    have ka3 := kadd1 (n := K + 1 + 1 + 1) (by omega)
    have kr3 := krem3 (n := K + 1 + 1 + 1)
    have hcl4 : ((((((mCell true) xs[j]).set 0 (.int .i64 ((K : Nat) : Int))).set 1 (.int .i64 ((K + 1 : Nat) : Int))).set 2 (.int .i64 ((K + 1 + 1 : Nat) : Int))).set 3 (.bool (decide ((K + 1 + 1 + 1) % 3 = 0)))).length = 7 := by rw [List.length_set]; exact hcl3
    obtain ⟨H5, m5, hb5, f5⟩ := st_leaf (es := 7) (off := 4) (x := (.bool (decide ((K + 1 + 1 + 1 + 1) % 3 = 0)))) (o := j * 7 + 4) (tot := xs.length * 7) hb4 fe hcn hj hcl4 (by omega) rfl rfl (by omega) (by omega)
    have g5 : Fr R H4 H5 := f5.sub (fun i hi => by rw [List.mem_singleton] at hi; rw [hi]; exact hbR)
    have ka4 := kadd1 (n := K + 1 + 1 + 1 + 1) (by omega)
    have kr4 := krem3 (n := K + 1 + 1 + 1 + 1)
    have hcl5 : (((((((mCell true) xs[j]).set 0 (.int .i64 ((K : Nat) : Int))).set 1 (.int .i64 ((K + 1 : Nat) : Int))).set 2 (.int .i64 ((K + 1 + 1 : Nat) : Int))).set 3 (.bool (decide ((K + 1 + 1 + 1) % 3 = 0)))).set 4 (.bool (decide ((K + 1 + 1 + 1 + 1) % 3 = 0)))).length = 7 := by rw [List.length_set]; exact hcl4
    obtain ⟨H6, m6, hb6, f6⟩ := st_leaf (es := 7) (off := 5) (x := (.bool (decide ((K + 1 + 1 + 1 + 1 + 1) % 3 = 0)))) (o := j * 7 + 5) (tot := xs.length * 7) hb5 fe hcn hj hcl5 (by omega) rfl rfl (by omega) (by omega)
    have g6 : Fr R H5 H6 := f6.sub (fun i hi => by rw [List.mem_singleton] at hi; rw [hi]; exact hbR)
    have ka5 := kadd1 (n := K + 1 + 1 + 1 + 1 + 1) (by omega)
    have kr5 := krem3 (n := K + 1 + 1 + 1 + 1 + 1)
    have hcl6 : ((((((((mCell true) xs[j]).set 0 (.int .i64 ((K : Nat) : Int))).set 1 (.int .i64 ((K + 1 : Nat) : Int))).set 2 (.int .i64 ((K + 1 + 1 : Nat) : Int))).set 3 (.bool (decide ((K + 1 + 1 + 1) % 3 = 0)))).set 4 (.bool (decide ((K + 1 + 1 + 1 + 1) % 3 = 0)))).set 5 (.bool (decide ((K + 1 + 1 + 1 + 1 + 1) % 3 = 0)))).length = 7 := by rw [List.length_set]; exact hcl5
    obtain ⟨H7, m7, hb7, f7⟩ := st_leaf (es := 7) (off := 6) (x := (.int .i64 ((K + 1 + 1 + 1 + 1 + 1 + 1 : Nat) : Int))) (o := j * 7 + 6) (tot := xs.length * 7) hb6 fe hcn hj hcl6 (by omega) rfl rfl (by omega) (by omega)
    have g7 : Fr R H6 H7 := f7.sub (fun i hi => by rw [List.mem_singleton] at hi; rw [hi]; exact hbR)
    have ka6 := kadd1 (n := K + 1 + 1 + 1 + 1 + 1 + 1) (by omega)
    have hcl7 : (((((((((mCell true) xs[j]).set 0 (.int .i64 ((K : Nat) : Int))).set 1 (.int .i64 ((K + 1 : Nat) : Int))).set 2 (.int .i64 ((K + 1 + 1 : Nat) : Int))).set 3 (.bool (decide ((K + 1 + 1 + 1) % 3 = 0)))).set 4 (.bool (decide ((K + 1 + 1 + 1 + 1) % 3 = 0)))).set 5 (.bool (decide ((K + 1 + 1 + 1 + 1 + 1) % 3 = 0)))).set 6 (.int .i64 ((K + 1 + 1 + 1 + 1 + 1 + 1 : Nat) : Int))).length = 7 := by rw [List.length_set]; exact hcl6
    refine ⟨H7, ?_, hup H7 (((((((((mCell true) xs[j]).set 0 (.int .i64 ((K : Nat) : Int))).set 1 (.int .i64 ((K + 1 : Nat) : Int))).set 2 (.int .i64 ((K + 1 + 1 : Nat) : Int))).set 3 (.bool (decide ((K + 1 + 1 + 1) % 3 = 0)))).set 4 (.bool (decide ((K + 1 + 1 + 1 + 1) % 3 = 0)))).set 5 (.bool (decide ((K + 1 + 1 + 1 + 1 + 1) % 3 = 0)))).set 6 (.int .i64 ((K + 1 + 1 + 1 + 1 + 1 + 1 : Nat) : Int))) _ hb7 ⟨rfl, rfl⟩ (fun i hi hib hir => ?_), ((((((g1.trans g2).trans g3).trans g4).trans g5).trans g6).trans g7)⟩
    · funext G
      simp only [S.laws_markCellS.l5, S.laws_markCellS.n8, S.laws_markCellS.n13, S.laws_markCellS.n12, S.laws_markCellS.n11, S.laws_markCellS.n10, S.laws_markCellS.n9, S.laws_markCellS.n7, S.laws_markCellS.n6, hv, klen_sl, klt, decide_eq_true hj, kcond_bool, cond_true, kx_nrm, kb_nrm, Option.bind_some, kr_mk, kfa_ptr, kj, Nat.add_zero, kN_eq, bors_cons, bors_nil, bor_int, k0, m1, ka0, m2, ka1, m3, ka2, m4, ka3, kr3, keq0, m5, ka4, kr4, keq0, m6, ka5, kr5, keq0, m7, ka6]
      try rfl
    · exact (((((((f7.2 i (by have := hm i hi; have := f1.1; have := f2.1; have := f3.1; have := f4.1; have := f5.1; have := f6.1; omega) (by simpa using hib)).trans (f6.2 i (by have := hm i hi; have := f1.1; have := f2.1; have := f3.1; have := f4.1; have := f5.1; omega) (by simpa using hib))).trans (f5.2 i (by have := hm i hi; have := f1.1; have := f2.1; have := f3.1; have := f4.1; omega) (by simpa using hib))).trans (f4.2 i (by have := hm i hi; have := f1.1; have := f2.1; have := f3.1; omega) (by simpa using hib))).trans (f3.2 i (by have := hm i hi; have := f1.1; have := f2.1; omega) (by simpa using hib))).trans (f2.2 i (by have := hm i hi; have := f1.1; omega) (by simpa using hib))).trans (f1.2 i (hm i hi) (by simpa using hib)))
  · intro r h ys he hl
    have e1 := he.len
    rw [hl] at e1
    funext G
    simp only [S.laws_markCellS.l5, S.laws_markCellS.n6, S.laws_markCellS.n7, S.laws_markCellS.n8, S.laws_markCellS.n9, S.laws_markCellS.n10, e1, klt, Nat.lt_irrefl, decide_false, kcond_bool, cond_false, Option.bind_some, kx_ext, kb_ext]
    try rfl
theorem laws_szCellS_spec (xs : List ((Int × (Int × Int × Bool × Bool × Bool) × Int))) (left : Int) (hm : xs.length ≤ maxLen) (hl : 0 ≤ left) (hl' : left ≤ 1048576) : NN fn.laws_szCellS [fzl true 7 (mCell true) xs, .int .i64 left] = some (.int .i64 (if left < (zCellS xs : Int) then -1 else left - zCellS xs)) := by
  apply S.laws_szCellS.gives (k := 0)
  have w := wrap_sub hl hl' hm
  simp [S.laws_szCellS.run, w]
  by_cases h : left < xs.length
  · have : left - xs.length < 0 := by omega
    simp [h, this]
  · have : ¬ (left - xs.length < 0) := by omega
    simp [h, this]
theorem laws_toCellS_spec (xs : List ((Int × (Int × Int × Bool × Bool × Bool) × Int))) (hm : okCellS xs) (b : Nat) : ∃ v bl, OO fn.laws_toCellS [fzl true 7 (mCell true) xs] b = some (v, bl) ∧ ∀ H T, H.length = b → rCellS (H ++ bl ++ T) [v] xs (List.range' b bl.length) := by
  have hm' : xs.length ≤ 1048576 := hm
  have hk := kmake_eq (z := [(.int .i64 0), (.int .i64 0), (.int .i64 0), (.bool false), (.bool false), (.bool false), (.int .i64 0)]) (es := 7) (b := 40) (h := []) hm' (by omega) rfl
  have key := fill_loop (E := (RFl (mCell true))) (RFl.good (es := 7) (mk := (mCell true)) (fun _ => rfl) (fun _ => rfl)) (z := [(.int .i64 0), (.int .i64 0), (.int .i64 0), (.bool false), (.bool false), (.bool false), (.int .i64 0)]) rfl (xs := xs) (f := fun r j h => fun (G : GX → GV → GV → Heap → Option (GV × List (List GV))) => S.laws_toCellS.l6 (xs.length + 1) G r (fzl true 7 (mCell true) xs) .nils (.sl 0 0 xs.length xs.length 7) (.int .i64 (j : Int)) h) (A := fun h => fun G => G (.ext 0) .nils (.sl 0 0 xs.length xs.length 7) h) ?_ ?_ (xs.length + 1) (by omega)
  · obtain ⟨css, B, Rs, a1, a2, a3⟩ := key
    have he : rCellS (css.flatten :: B) [.sl 0 0 xs.length xs.length 7] xs (List.range' 0 (B.length + 1)) := Or.inr ⟨0, css, Rs, rfl, rfl, a2, by rw [a3, List.range'_succ]⟩
    obtain ⟨v, bl, f1, f2⟩ := goodCellS.fin (by omega) he List.nodup_range' b
    refine ⟨v, bl, S.laws_toCellS.gives (k := xs.length + 1) ?_, f2⟩
    have a1' := fun G => congrFun a1 G
    simp only [show ((0 : Nat) : Int) = 0 from rfl] at a1'
    simp [S.laws_toCellS.run, hk, a1', f1]
  · intro j r cells B hj hcl
    have g1 : (j : Int) < xs.length := by omega
    have w := wrap_succ (n := j) (by simp only [maxLen]; omega)
    have hj' : j * 7 + 7 ≤ xs.length * 7 := by omega
    have hj2 : j + 1 ≤ xs.length := hj
    refine ⟨(mCell true) xs[j], [], rfl, fun H T _ => ⟨rfl, rfl⟩, funext fun G => ?_⟩
    simp only [S.laws_toCellS.l6]
    simp [g1, get_of hj, hj, hj', hj2, w, hcl, laws_toCell_spec xs[j].1 xs[j].2.1.1 xs[j].2.1.2.1 xs[j].2.1.2.2.1 xs[j].2.1.2.2.2.1 xs[j].2.1.2.2.2.2 xs[j].2.2 trivial, -splice]
  · intro r h
    funext G
    simp [S.laws_toCellS.l6]

/-! CellSS -/
abbrev mCellSS (t : Bool) (a : List (List ((Int × (Int × Int × Bool × Bool × Bool) × Int)))) : List GV := [fzl t 1 (mCellS t) a]
def zCellSS (a : List (List ((Int × (Int × Int × Bool × Bool × Bool) × Int)))) : Nat := a.length + (a.map fun x => zCellS x).sum
def okCellSS (a : List (List ((Int × (Int × Int × Bool × Bool × Bool) × Int)))) : Prop := a.length ≤ 1048576 ∧ ∀ x ∈ a, okCellS x
theorem okCellSS_of {a : List (List ((Int × (Int × Int × Bool × Bool × Bool) × Int)))} (h : zCellSS a ≤ 1048576) : okCellSS a := by
  unfold zCellSS at h
  refine ⟨by omega, fun x hx => ?_⟩
  have : zCellS x ≤ _ := sum_mem (c := fun x => zCellS x) hx
  show zCellS x ≤ _
  omega
@[simp] theorem kload1_CellSS {h : Heap} {t : Bool} {xs : List (List (List ((Int × (Int × Int × Bool × Bool × Bool) × Int))))} {j : Nat} : kload1 h (elp t (mCellSS t) xs j) = xs[j]?.map fun a => fzl t 1 (mCellS t) a := kload1_elp _ (fun _ => rfl)
@[simp] theorem kia_CellSS {t : Bool} {xs : List (List (List ((Int × (Int × Int × Bool × Bool × Bool) × Int))))} {k : IntKind} {i : Int} : kia 1 (fzl t 1 (mCellSS t) xs) (.int k i) = if 0 ≤ i ∧ i < xs.length then some (elp t (mCellSS t) xs i.toNat) else none := kia_fzl (es := 1) (fun _ => rfl)
theorem ld_CellSS {d : Nat} {t : Bool} (a : List (List ((Int × (Int × Int × Bool × Bool × Bool) × Int)))) : (mCellSS t a).map (lend (d + 2)) = mCellSS true a := map_cons' (lend_fzl (d := d + 1) (mk := (mCellS t)) (mk' := (mCellS true)) (fun a => ld_CellS (d := d) a) a) (rfl)
@[simp] theorem bor_CellSS {d : Nat} {h : Heap} {t : Bool} {xs : List (List (List ((Int × (Int × Int × Bool × Bool × Bool) × Int))))} : bor (d + 4) h (fzl t 1 (mCellSS t) xs) = some (fzl true 1 (mCellSS true) xs, []) := bor_fzl (d := d + 3) (fun a => ld_CellSS (d := d + 1) a) xs
open Classical in
theorem laws_eqCellSS_spec (xs ys : List (List ((Int × (Int × Int × Bool × Bool × Bool) × Int)))) (hm : okCellSS xs) : NN fn.laws_eqCellSS [fzl true 1 (mCellS true) xs, fzl true 1 (mCellS true) ys] = some (.bool (decide (xs = ys))) := by
  apply S.laws_eqCellSS.gives (k := xs.length + 1)
  have hm' : xs.length ≤ 1048576 := hm.1
  simp [S.laws_eqCellSS.run]
  by_cases hl : xs.length = ys.length
  · have hi : (xs.length : Int) = ys.length := by omega
    simp [hi]
    refine (loop_all (f := fun r j => S.laws_eqCellSS.l6 _ _ r _ _ _ (.int .i64 (j : Int)) _) (A := some (GV.bool true)) (B := some (GV.bool false)) (n := xs.length) (P := fun j => xs[j]? = ys[j]?) (fun j r hj => ?_) (fun r => ?_) (xs.length + 1) 0 (by omega) (by omega)).trans ?_
    · have h1 : (j : Int) < xs.length := by omega
      have h2 : (j : Int) < ys.length := by omega
      have h3 : j < ys.length := by omega
      have w := wrap_succ (n := j) (by simp only [maxLen]; omega)
      have sp := laws_eqCellS_spec xs[j] ys[j] (hm.2 _ (List.getElem_mem hj))
      by_cases hc : xs[j] = ys[j]
      · have e1 : xs[j] = ys[j] := hc
        rw [decide_eq_true e1] at sp
        refine Eq.trans ?_ (if_pos (by rw [get_of hj, get_of h3, hc])).symm
        simp [S.laws_eqCellSS.l6, h1, h2, get_of hj, get_of h3, w, sp]
      · have e1 : ¬ (xs[j] = ys[j]) := hc
        rw [decide_eq_false e1] at sp
        refine Eq.trans ?_ (if_neg (by rw [get_of hj, get_of h3]; exact fun h => hc (Option.some.inj h))).symm
        simp [S.laws_eqCellSS.l6, h1, h2, get_of hj, get_of h3, w, sp]
    · simp [S.laws_eqCellSS.l6]
    · simp [list_eq_iff hl]
      by_cases hx : xs = ys <;> simp [hx]
  · have : ¬ ((xs.length : Int) = ys.length) := by omega
    have hne : xs ≠ ys := fun h => hl (by rw [h])
    simp [this, hne]
abbrev rCellSS : Rel (List (List ((Int × (Int × Int × Bool × Bool × Bool) × Int)))) := RSl 1 rCellS
theorem goodCellSS : Good 1 3 (mCellSS true) rCellSS := RSl.good goodCellS
def cCellSS (xs : List (List ((Int × (Int × Int × Bool × Bool × Bool) × Int)))) : Nat := cntL (fun x => (cCellS x)) xs
noncomputable def kCellSS (xs : List (List ((Int × (Int × Int × Bool × Bool × Bool) × Int)))) (k : Nat) : List (List ((Int × (Int × Int × Bool × Bool × Bool) × Int))) := markL (fun x k => kCellS x (k)) (fun x => (cCellS x)) xs k
theorem cCellSS_le {xs : List (List ((Int × (Int × Int × Bool × Bool × Bool) × Int)))} (h : okCellSS xs) : cCellSS xs ≤ 7696581394432 := cntL_bound (M := 1048576) (B := 7340032) (h.1) (fun x hx => by have := cCellS_le (h.2 x hx); show _ ≤ _; omega)
theorem laws_heldCellSS_spec (xs : List (List ((Int × (Int × Int × Bool × Bool × Bool) × Int)))) (k : Nat) (hok : okCellSS xs) (hk : k + cCellSS xs ≤ 4611686018427387904) : NN fn.laws_heldCellSS [(fzl true 1 (mCellS true) (kCellSS xs k)), .int .i64 (k : Int)] = some (.int .i64 ((k + cCellSS xs : Nat) : Int)) := by
  have hlim : k + cntL (fun x => (cCellS x)) xs ≤ 4611686018427387904 := hk
  have hlen : xs.length ≤ 1048576 := hok.1
  obtain ⟨ys, hys⟩ : ∃ ys, kCellSS xs k = ys := ⟨_, rfl⟩
  have hl : ys.length = xs.length := by rw [← hys]; exact markL_len _ _
  have hg : ∀ j (hj : j < xs.length), ys[j]? = some (kCellS xs[j] ((k + cntL (fun x => (cCellS x)) (xs.take j)))) := fun j hj => by rw [← hys]; exact markL_get xs k j hj
  rw [hys]
  apply S.laws_heldCellSS.gives (k := xs.length + 1)
  have key := loop_to (f := fun r j => fun (G : GX → GV → GV → Heap → Option GV) => S.laws_heldCellSS.l5 (xs.length + 1) G r (fzl true 1 (mCellS true) ys) (.int .i64 ((k + cntL (fun x => (cCellS x)) (xs.take j) : Nat) : Int)) (.int .i64 0) (.int .i64 (j : Int)) []) (A := fun G => G (.ext 0) (.int .i64 ((k + cCellSS xs : Nat) : Int)) (.int .i64 0) []) (n := xs.length) ?_ ?_ (xs.length + 1) 0 (by omega) (by omega)
  · have key' := fun G => congrFun key G
    simp only [List.take_zero, cntL, List.map_nil, List.sum_nil, Nat.add_zero, show ((0 : Nat) : Int) = 0 from rfl] at key'
    simp [S.laws_heldCellSS.run, key', -Int.natCast_add]
  · intro j r hj
    have g1 : (j : Int) < (ys.length : Int) := by omega
    have kj := kadd1 (n := j) (by omega)
    have q1 := cntL_take (c := (fun x => (cCellS x))) hj
    have q2 := cntL_le (c := (fun x => (cCellS x))) (xs := xs) (j + 1)
    have hgj := hg j hj
    try simp only at q1
    rw [q1, ← Nat.add_assoc]
    obtain ⟨K, hK⟩ : ∃ K, k + cntL (fun x => (cCellS x)) (xs.take j) = K := ⟨_, rfl⟩
    have hKb : K + ((cCellS xs[j])) ≤ 4611686018427387904 := by omega
    rw [hK] at hgj ⊢
    have s0 := laws_heldCellS_spec (xs[j]) (K) (hok.2 _ (List.getElem_mem hj)) (by omega)
    have z0 : ¬ (((K + (cCellS xs[j]) : Nat) : Int) < 0) := by omega
    funext G
    simp only [S.laws_heldCellSS.l5]
    simp [g1, hgj, kj, s0, z0, -Int.natCast_add, -kbin_add]
    try rfl
  · intro r
    funext G
    have g1 : ¬ ((xs.length : Int) < (ys.length : Int)) := by omega
    simp only [S.laws_heldCellSS.l5, List.take_length]
    simp [g1, -Int.natCast_add]
    try rfl
theorem laws_markCellSS_spec (h : Heap) (v : GV) (xs : List (List ((Int × (Int × Int × Bool × Bool × Bool) × Int)))) (R : List Nat) (k : Nat) (hok : okCellSS xs) (he : rCellSS h [v] xs R) (nd : R.Nodup) (hk : k + cCellSS xs ≤ 4611686018427387904) : ∃ h', HH fn.laws_markCellSS [v, .int .i64 (k : Int)] h = some (.int .i64 ((k + cCellSS xs : Nat) : Int), h') ∧ rCellSS h' [v] (kCellSS xs k) R ∧ Fr R h h' := by
  have hlim : k + cntL (fun x => (cCellS x)) xs ≤ 4611686018427387904 := hk
  have hlen : xs.length ≤ 1048576 := hok.1
  have key := mark_loop (E := rCellS) goodCellS (m := (fun x k => kCellS x (k))) (c := (fun x => (cCellS x))) (v := v) (xs := xs) (R := R) (k := k) nd (f := fun r j k h => fun (G : GX → GV → GV → Heap → Option (GV × Heap)) => S.laws_markCellSS.l5 (xs.length + 1) G r v (.int .i64 (k : Int)) (.int .i64 0) (.int .i64 (j : Int)) h) (A := fun k h => fun G => G (.ext 0) (.int .i64 (k : Int)) (.int .i64 0) h) ?_ ?_ he (xs.length + 1) (by omega)
  · obtain ⟨h', a1, a2, a3⟩ := key
    refine ⟨h', S.laws_markCellSS.gives (k := xs.length + 1) ?_, a2, a3⟩
    have a1' := fun G => congrFun a1 G
    simp only [show ((0 : Nat) : Int) = 0 from rfl] at a1'
    simp [S.laws_markCellSS.run, a1', -Int.natCast_add]
    rfl
  · intro j r h ys he hl hj hy
    obtain ⟨b, css, c, r0, hv, hb, fl, hcn, hc, fe, hE, hbr, hbR, hrR, nd0, hup⟩ := RSl.focus goodCellS he nd (j := j) (by omega)
    have ey : ys[j]'(by omega) = xs[j] := by rw [List.getElem?_eq_getElem (by omega)] at hy; exact Option.some.inj hy
    rw [ey] at hE
    rw [hl] at hv hcn
    have hcl := fe c (List.mem_of_getElem? hc)
    have hb0 : h[b]? = some (css.set j c).flatten := by rw [set_get_self hc]; exact hb
    have q1 := cntL_take (c := (fun x => (cCellS x))) hj
    have q2 := cntL_le (c := (fun x => (cCellS x))) (xs := xs) (j + 1)
    try simp only at q1
    obtain ⟨K, hK⟩ : ∃ K, k + cntL (fun x => (cCellS x)) (xs.take j) = K := ⟨_, rfl⟩
    have hKb : K + ((cCellS xs[j])) ≤ 4611686018427387904 := by omega
    rw [hK]
    clear hK q1 q2
    have hm := (RSl.good goodCellS).mem he
    have hbl := (List.getElem?_eq_some_iff.1 hb).1
    have kj := kadd1 (n := j) (by omega)
    have k0 : kia 1 (.sl b 0 xs.length xs.length 1) (.int .i64 (j : Int)) = some (.ptr b (j) (xs.length)) := kia_at hj (by omega) (by omega)
    obtain ⟨v0, rfl⟩ : ∃ v0, c = [v0] := List.length_eq_one_iff.1 hcl
    have l0 : kload1 h (.ptr b (j) (xs.length)) = some v0 := by rw [ld_leaf (es := 1) (off := 0) hb0 fe hcn hj hcl (by omega) (by omega) (by omega)]; rfl
    have nd1 := nd0
    obtain ⟨H1, m1, x1, f1⟩ := laws_markCellS_spec h v0 (xs[j]) r0 (K) (hok.2 _ (List.getElem_mem hj)) hE nd1 (by omega)
    have hb1 : H1[b]? = some (css.set j [v0]).flatten := by rw [f1.2 b hbl (by simpa using hbr)]; exact hb0
    have g1 : Fr R h H1 := f1.sub (fun i hi => hrR i (by simpa using hi))
    refine ⟨H1, ?_, hup H1 [v0] _ hb1 x1 (fun i hi hib hir => ?_), g1⟩
    · funext G
      simp only [S.laws_markCellSS.l5, S.laws_markCellSS.n8, S.laws_markCellSS.n10, S.laws_markCellSS.n9, S.laws_markCellSS.n7, S.laws_markCellSS.n6, hv, klen_sl, klt, decide_eq_true hj, kcond_bool, cond_true, kx_nrm, kb_nrm, Option.bind_some, kr_mk, kfa_ptr, kj, Nat.add_zero, kN_eq, bors_cons, bors_nil, bor_int, k0, l0, m1]
      try rfl
    · exact (f1.2 i (hm i hi) (by simpa using hir))
  · intro r h ys he hl
    have e1 := he.len
    rw [hl] at e1
    funext G
    simp only [S.laws_markCellSS.l5, S.laws_markCellSS.n6, S.laws_markCellSS.n7, S.laws_markCellSS.n8, S.laws_markCellSS.n9, S.laws_markCellSS.n10, e1, klt, Nat.lt_irrefl, decide_false, kcond_bool, cond_false, Option.bind_some, kx_ext, kb_ext]
    try rfl
theorem laws_szCellSS_spec (xs : List (List ((Int × (Int × Int × Bool × Bool × Bool) × Int)))) (left : Int) (hi : inSl (fun x1 : List ((Int × (Int × Int × Bool × Bool × Bool) × Int)) => inSl (fun x2 : (Int × (Int × Int × Bool × Bool × Bool) × Int) => ((Lit.int .i64 x2.1).wf = true) ∧ ((((Lit.int .i64 x2.2.1.1).wf = true) ∧ (((Lit.int .i64 x2.2.1.2.1).wf = true) ∧ ((True) ∧ ((True) ∧ (True))))) ∧ ((Lit.int .i64 x2.2.2).wf = true))) x1) xs) (hl : 0 ≤ left) (hl' : left ≤ 1048576) : NN fn.laws_szCellSS [fzl true 1 (mCellS true) xs, .int .i64 left] = some (.int .i64 (if left < (zCellSS xs : Int) then -1 else left - zCellSS xs)) := by
  apply S.laws_szCellSS.gives (k := xs.length + 1)
  have w := wrap_sub hl hl' hi.1
  simp [S.laws_szCellSS.run, w]
  by_cases h : left < xs.length
  · have h1 : left - xs.length < 0 := by omega
    have h2 : left < (zCellSS xs : Int) := by unfold zCellSS; omega
    simp [h, h1, h2]
  · have h1 : ¬ (left - xs.length < 0) := by omega
    simp [h, h1]
    refine (loop_sz (xs := xs) (c := fun x => zCellS x) (f := fun r j l => S.laws_szCellSS.l7 _ _ r _ (.int .i64 l) _ (.int .i64 (j : Int)) _) (A := fun l => some (GV.int .i64 l)) (B := some (GV.int .i64 (-1))) (fun j r l hj h0 h0' => ?_) (fun r l => ?_) (xs.length + 1) 0 _ (by omega) (by omega) (by omega) (by omega)).trans ?_
    · have g1 : (j : Int) < xs.length := by omega
      have ws := wrap_succ (n := j) (by have := hi.1; omega)
      have sp := laws_szCellS_spec xs[j] l (hi.2 _ (List.getElem_mem hj)).1 h0 h0'
      by_cases hc : l < ((zCellS xs[j] : Nat) : Int)
      · have hc' : l - ((zCellS xs[j] : Nat) : Int) < 0 := by omega
        simp [S.laws_szCellSS.l7, g1, get_of hj, ws, sp, hc, hc']
      · have hc' : ¬ (l - ((zCellS xs[j] : Nat) : Int) < 0) := by omega
        simp [S.laws_szCellSS.l7, g1, get_of hj, ws, sp, hc, hc']
    · simp [S.laws_szCellSS.l7]
    · simp only [List.drop_zero]
      have e : ((zCellSS xs : Nat) : Int) = (xs.length : Int) + ((xs.map fun x => zCellS x).sum : Nat) := by unfold zCellSS; omega
      by_cases hc : left < (zCellSS xs : Int)
      · rw [if_pos hc, if_pos (by omega)]
      · rw [if_neg hc, if_neg (by omega)]
        congr 2; omega
theorem laws_toCellSS_spec (xs : List (List ((Int × (Int × Int × Bool × Bool × Bool) × Int)))) (hm : okCellSS xs) (b : Nat) : ∃ v bl, OO fn.laws_toCellSS [fzl true 1 (mCellS true) xs] b = some (v, bl) ∧ ∀ H T, H.length = b → rCellSS (H ++ bl ++ T) [v] xs (List.range' b bl.length) := by
  have hm' : xs.length ≤ 1048576 := hm.1
  have hk := kmake_eq (z := [.nils]) (es := 1) (b := 24) (h := []) hm' (by omega) rfl
  have key := fill_loop (E := rCellS) goodCellS (z := [.nils]) rfl (xs := xs) (f := fun r j h => fun (G : GX → GV → GV → Heap → Option (GV × List (List GV))) => S.laws_toCellSS.l6 (xs.length + 1) G r (fzl true 1 (mCellS true) xs) .nils (.sl 0 0 xs.length xs.length 1) (.int .i64 (j : Int)) h) (A := fun h => fun G => G (.ext 0) .nils (.sl 0 0 xs.length xs.length 1) h) ?_ ?_ (xs.length + 1) (by omega)
  · obtain ⟨css, B, Rs, a1, a2, a3⟩ := key
    have he : rCellSS (css.flatten :: B) [.sl 0 0 xs.length xs.length 1] xs (List.range' 0 (B.length + 1)) := Or.inr ⟨0, css, Rs, rfl, rfl, a2, by rw [a3, List.range'_succ]⟩
    obtain ⟨v, bl, f1, f2⟩ := goodCellSS.fin (by omega) he List.nodup_range' b
    refine ⟨v, bl, S.laws_toCellSS.gives (k := xs.length + 1) ?_, f2⟩
    have a1' := fun G => congrFun a1 G
    simp only [show ((0 : Nat) : Int) = 0 from rfl] at a1'
    simp [S.laws_toCellSS.run, hk, a1', f1]
  · intro j r cells B hj hcl
    have g1 : (j : Int) < xs.length := by omega
    have w := wrap_succ (n := j) (by simp only [maxLen]; omega)
    have hj' : j * 1 + 1 ≤ xs.length * 1 := by omega
    have hj2 : j + 1 ≤ xs.length := hj
    obtain ⟨v, bl, o1, o2⟩ := laws_toCellS_spec xs[j] (hm.2 _ (List.getElem_mem hj)) (B.length + 1)
    refine ⟨[v], bl, rfl, fun H T hH => (by have := o2 H T (by omega); rwa [Nat.add_comm] at this), funext fun G => ?_⟩
    have vc : v.cells = [v] ∧ v.isCell = true := by
      have := goodCellS.cell (o2 (List.replicate (B.length + 1) []) [] (by simp))
      rcases o2 (List.replicate (B.length + 1) []) [] (by simp) with ⟨_, _, hc⟩ | ⟨_, _, _, hc, _⟩
      · rcases hc with hc | hc <;> (injection hc with hc; subst hc; exact ⟨rfl, rfl⟩)
      · injection hc with hc; subst hc; exact ⟨rfl, rfl⟩
    simp only [S.laws_toCellSS.l6]
    simp [g1, get_of hj, hj, hj', hj2, w, hcl, o1, vc.1, vc.2, -splice]
  · intro r h
    funext G
    simp [S.laws_toCellSS.l6]

/-! Grid -/
abbrev mGrid (t : Bool) (a : (Int × List (List ((Int × (Int × Int × Bool × Bool × Bool) × Int))))) : List GV := [.int .i64 a.1, fzl t 1 (mCellS t) a.2]
def zGrid (a : (Int × List (List ((Int × (Int × Int × Bool × Bool × Bool) × Int))))) : Nat := zCellSS a.2
def okGrid (a : (Int × List (List ((Int × (Int × Int × Bool × Bool × Bool) × Int))))) : Prop := okCellSS a.2
theorem okGrid_of {a : (Int × List (List ((Int × (Int × Int × Bool × Bool × Bool) × Int))))} (h : zGrid a ≤ 1048576) : okGrid a := by
  unfold zGrid at h
  exact okCellSS_of (by omega)
@[simp] theorem kloadA_Grid {h : Heap} {t : Bool} {xs : List (Int × List (List ((Int × (Int × Int × Bool × Bool × Bool) × Int))))} {j : Nat} : kloadA 2 h (elp t (mGrid t) xs j) = xs[j]?.map fun a => .agg (mGrid t a) := kloadA_elp (mk := mGrid t) (es := 2) (fun _ => rfl) (by omega)
@[simp] theorem kload1_Grid_0 {h : Heap} {t : Bool} {xs : List ((Int × List (List ((Int × (Int × Int × Bool × Bool × Bool) × Int)))))} {j : Nat} : kload1 h (elf t (mGrid t) xs j 0) = xs[j]?.bind fun a => (mGrid t a)[0]? := kload1_elf (mk := mGrid t) (es := 2) (fun _ => rfl) (by omega)
@[simp] theorem kload1_Grid_1 {h : Heap} {t : Bool} {xs : List ((Int × List (List ((Int × (Int × Int × Bool × Bool × Bool) × Int)))))} {j : Nat} : kload1 h (elf t (mGrid t) xs j 1) = xs[j]?.bind fun a => (mGrid t a)[1]? := kload1_elf (mk := mGrid t) (es := 2) (fun _ => rfl) (by omega)
@[simp] theorem kia_Grid {t : Bool} {xs : List ((Int × List (List ((Int × (Int × Int × Bool × Bool × Bool) × Int)))))} {k : IntKind} {i : Int} : kia 2 (fzl t 2 (mGrid t) xs) (.int k i) = if 0 ≤ i ∧ i < xs.length then some (elp t (mGrid t) xs i.toNat) else none := kia_fzl (es := 2) (fun _ => rfl)
theorem ld_Grid {d : Nat} {t : Bool} (a : (Int × List (List ((Int × (Int × Int × Bool × Bool × Bool) × Int))))) : (mGrid t a).map (lend (d + 2)) = mGrid true a := map_cons' lend_int (map_cons' (lend_fzl (d := d + 1) (mk := (mCellS t)) (mk' := (mCellS true)) (fun a => ld_CellS (d := d) a) a.2) (rfl))
@[simp] theorem bor_Grid {d : Nat} {h : Heap} {t : Bool} {xs : List ((Int × List (List ((Int × (Int × Int × Bool × Bool × Bool) × Int)))))} : bor (d + 4) h (fzl t 2 (mGrid t) xs) = some (fzl true 2 (mGrid true) xs, []) := bor_fzl (d := d + 3) (fun a => ld_Grid (d := d + 1) a) xs
open Classical in
theorem laws_eqGrid_spec (a_1 b_1 : Int) (a_2 b_2 : List (List ((Int × (Int × Int × Bool × Bool × Bool) × Int)))) (hm : okGrid (a_1, a_2)) : NN fn.laws_eqGrid [.agg [.int .i64 a_1, fzl true 1 (mCellS true) a_2], .agg [.int .i64 b_1, fzl true 1 (mCellS true) b_2]] = some (.bool (decide ((a_1, a_2) = (b_1, b_2)))) := by
  apply S.laws_eqGrid.gives (k := 0)
  unfold okGrid at hm
  by_cases c0 : a_1 = b_1
  rotate_left
  · have e : ¬ ((a_1, a_2) = (b_1, b_2)) := fun e => c0 (by simp only [Prod.mk.injEq] at e ⊢; simp [e])
    rw [decide_eq_false e]
    simp [S.laws_eqGrid.run, c0]
  have s1 := laws_eqCellSS_spec a_2 b_2 hm
  by_cases c1 : a_2 = b_2
  rotate_left
  · have e : ¬ ((a_1, a_2) = (b_1, b_2)) := fun e => c1 (by simp only [Prod.mk.injEq] at e ⊢; simp [e])
    rw [decide_eq_false e]
    rw [decide_eq_false c1] at s1
    simp [S.laws_eqGrid.run, c0, s1]
  rw [decide_eq_true c1] at s1
  have e : (a_1, a_2) = (b_1, b_2) := by rw [c0, c1]
  rw [decide_eq_true e]
  simp [S.laws_eqGrid.run, c0, s1]
abbrev rGrid : Rel ((Int × List (List ((Int × (Int × Int × Bool × Bool × Bool) × Int))))) := (RSeq (RFl ci) rCellSS)
theorem goodGrid : Good 2 3 (mGrid true) rGrid := (RSeq.good ((RFl.good (es := 1) (mk := ci) (fun _ => rfl) (fun _ => rfl)).mono (by omega)) (goodCellSS.mono (by omega)))
def cGrid (x : (Int × List (List ((Int × (Int × Int × Bool × Bool × Bool) × Int))))) : Nat := cCellSS x.2
theorem cGrid_le {x : (Int × List (List ((Int × (Int × Int × Bool × Bool × Bool) × Int))))} (h : okGrid x) : cGrid x ≤ 7696581394432 := by
  unfold okGrid at h
  unfold cGrid
  have := cCellSS_le h
  omega
noncomputable def kGrid (x : (Int × List (List ((Int × (Int × Int × Bool × Bool × Bool) × Int))))) (k : Nat) : (Int × List (List ((Int × (Int × Int × Bool × Bool × Bool) × Int)))) := (x.1, kCellSS x.2 (k))
theorem laws_heldGrid_spec (x : (Int × List (List ((Int × (Int × Int × Bool × Bool × Bool) × Int))))) (k : Nat) (hok : okGrid x) (hk : k + cGrid x ≤ 4611686018427387904) : NN fn.laws_heldGrid [.agg (mGrid true (kGrid x k)), .int .i64 (k : Int)] = some (.int .i64 ((k + cGrid x : Nat) : Int)) := by
  unfold okGrid at hok
  unfold cGrid at hk
  apply S.laws_heldGrid.gives (k := 0)
  have s1 := laws_heldCellSS_spec x.2 (k) hok (by omega)
  have z1 : ¬ (((k + cCellSS x.2 : Nat) : Int) < 0) := by omega
  simp only [kGrid, cGrid, ← Nat.add_assoc]
  simp [S.laws_heldGrid.run, s1, z1, -Int.natCast_add]
theorem laws_markGrid_spec (h : Heap) (c : List GV) (x : (Int × List (List ((Int × (Int × Int × Bool × Bool × Bool) × Int))))) (R : List Nat) (k : Nat) (hok : okGrid x) (he : rGrid h c x R) (nd : R.Nodup) (hk : k + cGrid x ≤ 4611686018427387904) : ∃ h', HH fn.laws_markGrid [.agg c, .int .i64 (k : Int)] h = some (.int .i64 ((k + cGrid x : Nat) : Int), h') ∧ rGrid h' c (kGrid x k) R ∧ Fr R h h' := by
  have ek : k + cGrid x = k + cCellSS x.2 := by unfold cGrid; omega
  rw [ek] at hk ⊢
  unfold okGrid at hok
  have hcl := goodGrid.len he
  have hm := goodGrid.mem he
  have he0 := goodGrid.grow (t := [c]) he
  have hb0 : (h ++ [c])[h.length]? = some c := by simp
  have hbox : ∀ {Q : Type} (K : GV → Heap → Option Q), kbox (.agg c) h K = K (.ptr h.length 0 2) (h ++ [c]) := fun K => by rw [kbox_agg, hcl]
  obtain ⟨H0, hH0⟩ : ∃ H0, h ++ [c] = H0 := ⟨_, rfl⟩
  have g0 : Fr R h H0 := by rw [← hH0]; exact .app
  have hl0 : h.length < H0.length := by rw [← hH0]; simp
  rw [hH0] at he0 hb0
  simp only [hH0] at hbox
  obtain ⟨c0, d0, R0, S0, rfl, rfl, E0, F0⟩ := he0
  have N0 := List.nodup_append.1 nd
  obtain ⟨rfl, rfl⟩ := E0
  have E1 := F0
  obtain ⟨w1, rfl⟩ : ∃ w, d0 = [w] := List.length_eq_one_iff.1 (goodCellSS.len E1)
  have l1 : kload1 H0 (.ptr h.length 1 2) = some w1 := by rw [kload1_at hb0 hcl]; rfl
  obtain ⟨H1, m1, x1, f1⟩ := laws_markCellSS_spec H0 w1 x.2 S0 (k) hok E1 (N0.2.1) (by omega)
  have i1 : h.length ∉ S0 := fun hz => by have := hm h.length (by simp [hz]); omega
  have hb1 : H1[h.length]? = some _ := (f1.2 _ (by omega) i1).trans hb0
  refine ⟨H1, S.laws_markGrid.gives (k := 0) ?_, ⟨_, _, _, _, rfl, rfl, ⟨rfl, rfl⟩, x1⟩, (g0.trans (f1.sub (fun z hz => by simp [hz])))⟩
  simp only [S.laws_markGrid.run, S.laws_markGrid.n0, hbox, l1, m1, kfa_ptr, Nat.zero_add, Option.bind_some, kr_mk, kend_ret, finH_eq]
theorem laws_szGrid_spec (a_1 : Int) (a_2 : List (List ((Int × (Int × Int × Bool × Bool × Bool) × Int)))) (left : Int) (hi : ((Lit.int .i64 a_1).wf = true) ∧ (inSl (fun x1 : List ((Int × (Int × Int × Bool × Bool × Bool) × Int)) => inSl (fun x2 : (Int × (Int × Int × Bool × Bool × Bool) × Int) => ((Lit.int .i64 x2.1).wf = true) ∧ ((((Lit.int .i64 x2.2.1.1).wf = true) ∧ (((Lit.int .i64 x2.2.1.2.1).wf = true) ∧ ((True) ∧ ((True) ∧ (True))))) ∧ ((Lit.int .i64 x2.2.2).wf = true))) x1) a_2)) (hl : 0 ≤ left) (hl' : left ≤ 1048576) : NN fn.laws_szGrid [.agg [.int .i64 a_1, fzl true 1 (mCellS true) a_2], .int .i64 left] = some (.int .i64 (if left < (zGrid (a_1, a_2) : Int) then -1 else left - zGrid (a_1, a_2))) := by
  apply S.laws_szGrid.gives (k := 0)
  show _ = some (GV.int .i64 (if left < ((zCellSS a_2 : Nat) : Int) then -1 else left - ((zCellSS a_2 : Nat) : Int)))
  have s0 := laws_szCellSS_spec a_2 (left) hi.2 (by omega) (by omega)
  by_cases c0 : left < ((zCellSS a_2 : Nat) : Int)
  · have d0 : left - ((zCellSS a_2 : Nat) : Int) < 0 := by omega
    rw [if_pos (by omega : left < ((zCellSS a_2 : Nat) : Int))]
    simp [S.laws_szGrid.run, s0, c0, d0]
  have d0 : ¬ (left - ((zCellSS a_2 : Nat) : Int) < 0) := by omega
  rw [if_neg (by omega)]
  simp [S.laws_szGrid.run, s0, c0, d0]
  try omega
theorem laws_toGrid_spec (x : (Int × List (List ((Int × (Int × Int × Bool × Bool × Bool) × Int))))) (hm : okGrid x) (b : Nat) : ∃ c bl, OO fn.laws_toGrid [.agg (mGrid true x)] b = some (.agg c, bl) ∧ ∀ H T, H.length = b → rGrid (H ++ bl ++ T) c x (List.range' b bl.length) := by
  unfold okGrid at hm
  obtain ⟨v1, B1, o1, e1⟩ := laws_toCellSS_spec x.2 hm (3)
  have vc1 := cell_of (e1 (List.replicate (3) []) [] (by simp))
  have he : ∀ a o1 o2 : List GV, rGrid ([a, o1, o2] ++ B1) (ci x.1 ++ ([v1])) x ([] ++ (List.range' (3) B1.length)) := fun a o1 o2 => ⟨_, _, _, _, rfl, rfl, ⟨rfl, rfl⟩, (by have := e1 ([a, o1, o2]) ([]) (by simp <;> omega); simpa using this)⟩
  have nd : ([] ++ (List.range' (3) B1.length)).Nodup := List.nodup_range'
  obtain ⟨c, bl, f1, f2⟩ := goodGrid.finS (by omega) (he (mGrid true x) (ci x.1 ++ ([v1])) (ci x.1 ++ ([v1]))) nd b
  refine ⟨c, bl, S.laws_toGrid.gives (k := 0) ?_, f2⟩
  simp [S.laws_toGrid.run, o1, vc1.1, vc1.2]
  simpa using f1
end Go.Proofs.Ytlbnioapepelnaa.G
