/- Rows and grids: what both sides say is right. Rows and grids: what the reference says is right; both on grids. Grids: the reference's GridOk; what may be scrolled. A loop that keeps something. -/
import Derived.Test.YtlbnioapepelnaaZ7df1697c
import Derived.Test.YtlbnioapepelnaaZa5235bac
import Derived.Test.YtlbnioapepelnaaZc0509f28
import Derived.Test.YtlbnioapepelnaaZeb0e6002
namespace Go.Proofs.Ytlbnioapepelnaa.G
open Go.RowKit
set_option linter.unusedVariables false
set_option linter.unusedSimpArgs false
theorem kloadA_sty {h : Heap} {t : Bool} {xs : List CellT} {j : Nat} (hj : j < xs.length) : kloadA 5 h (elf t (mCell t) xs j 1) = some (styG xs[j].2.1) := by
  unfold kloadA elf kread
  rw [drop_flat_cons hj]
  simp only
  have hl : (mCell t xs[j] ++ (xs.drop (j + 1)).flatMap (mCell t)).drop 1 = [.int .i64 xs[j].2.1.1, .int .i64 xs[j].2.1.2.1, .bool xs[j].2.1.2.2.1, .bool xs[j].2.1.2.2.2.1, .bool xs[j].2.1.2.2.2.2, .int .i64 xs[j].2.2] ++ (xs.drop (j + 1)).flatMap (mCell t) := rfl
  rw [hl, if_pos (by simp)]
  rfl
theorem at'_get {row : List CellT} {i : Nat} (h : i < row.length) : at' row i = row[i] := by unfold at'; rw [List.getElem?_eq_getElem h]; rfl
theorem bor_cell (c : CellT) (H : Heap) : bors H [.agg (mCell true c)] = some [.agg (mCell true c)] := by simp
theorem impl_isCell_spec (c : CellT) : NN fn.impl_isCell [.agg (mCell true c)] = some (.bool (cellB c)) := by
  apply S.impl_isCell.gives (k := 0)
  obtain ⟨H, hH⟩ : ∃ H : Heap, [mCell true c] = H := ⟨_, rfl⟩
  have A : H[0]? = some (mCell true c) := by rw [← hH]; rfl
  have hbox : ∀ {Q : Type} (K : GV → Heap → Option Q), kbox (.agg (mCell true c)) [] K = K (.ptr 0 0 7) H := fun K => by rw [← hH]; rfl
  have l0 := kload1_at (o := 0) (tot := 7) A rfl
  have l6 := kload1_at (o := 6) (tot := 7) A rfl
  have ls : kloadA 5 H (.ptr 0 1 7) = some (styG c.2.1) := kpartA_at A rfl rfl (by simp)
  simp only [List.getElem?_cons_succ, List.getElem?_cons_zero] at l0 l6
  have g0 : kbin .eql (.int .i64 c.2.2) (.int .i64 0) = some (.bool (decide (c.2.2 = 0))) := kbin_eql
  have g1 : kbin .eql (.int .i64 c.2.2) (.int .i64 1) = some (.bool (decide (c.2.2 = 1))) := kbin_eql
  have g2 : kbin .eql (.int .i64 c.2.2) (.int .i64 2) = some (.bool (decide (c.2.2 = 2))) := kbin_eql
  have g3 : kbin .eql (.int .i64 c.1) (.int .i64 0) = some (.bool (decide (c.1 = 0))) := kbin_eql
  have g4 : kbin .eql (.int .i64 (widthM c.1)) (.int .i64 1) = some (.bool (decide (widthM c.1 = 1))) := kbin_eql
  have g5 : kbin .eql (.int .i64 (widthM c.1)) (.int .i64 2) = some (.bool (decide (widthM c.1 = 2))) := kbin_eql
  have kw := k_width c.1 H
  have ks := k_sty c.2.1 H
  unfold S.impl_isCell.run S.impl_isCell.n0
  rw [hbox]
  obtain ⟨Z, hZ⟩ : ∃ Z, styG c.2.1 = Z := ⟨_, rfl⟩
  rw [hZ] at ls ks
  unfold cellB
  by_cases c0 : c.2.2 = 0
  · rw [if_pos c0]
    rw [decide_eq_true c0] at g0
    generalize decide (widthM c.1 = 1) = a at *
    generalize styB c.2.1 = b at *
    cases a <;> simp [l0, l6, ls, g0, g4, kw, ks, -kN_eq, -kload1_ptr, -kloadA_ptr, -kbin_eql]
  rw [if_neg c0]
  rw [decide_eq_false c0] at g0
  by_cases c1 : c.2.2 = 1
  · rw [if_pos c1]
    rw [decide_eq_true c1] at g1
    generalize decide (widthM c.1 = 2) = a at *
    generalize styB c.2.1 = b at *
    cases a <;> simp [l0, l6, ls, g0, g1, g5, kw, ks, -kN_eq, -kload1_ptr, -kloadA_ptr, -kbin_eql]
  rw [if_neg c1]
  rw [decide_eq_false c1] at g1
  generalize decide (c.2.2 = 2) = a at *
  generalize decide (c.1 = 0) = a' at *
  generalize styB c.2.1 = b at *
  cases a <;> cases a' <;> simp [l0, l6, ls, g0, g1, g2, g3, ks, -kN_eq, -kload1_ptr, -kloadA_ptr, -kbin_eql]
theorem kpart6 {h : Heap} {t : Bool} {xs : List CellT} {j : Nat} (hj : j < xs.length) : kload1 h (elf t (mCell t) xs j 6) = some (.int .i64 xs[j].2.2) := by
  rw [kload1_elf (es := 7) (fun _ => rfl) (by omega), get_of hj]; rfl
theorem kia7 {xs : List CellT} {j : Nat} (hj : j < xs.length) : kia 7 (fzl true 7 (mCell true) xs) (.int .i64 (j : Int)) = some (elp true (mCell true) xs j) := by rw [kia_fzl (es := 7) (fun _ => rfl), if_pos (by omega)]; rfl
theorem ksub1 {n : Nat} (h : 1 ≤ n) (h2 : n ≤ 9223372036854775807) : kbin .sub (.int .i64 (n : Int)) (.int .i64 1) = some (.int .i64 ((n - 1 : Nat) : Int)) := by
  rw [kbin_sub, wrap_id (by omega) (by omega)]; congr 2; omega
theorem kposn {n : Nat} : kbin .gtr (.int .i64 (n : Int)) (.int .i64 0) = some (.bool (decide (0 < n))) := by rw [kbin_gtr]; congr 2; rw [Bool.eq_iff_iff]; simp
theorem impl_RowOk_spec (row : List CellT) (hm : row.length ≤ 1048576) : NN fn.impl_RowOk [fzl true 7 (mCell true) row] = some (.bool (rowB row)) := by
  rw [← rowI_eq]
  apply S.impl_RowOk.gives (k := row.length + 1)
  have lr : klen (fzl true 7 (mCell true) row) = some (.int .i64 (row.length : Int)) := klen_fzl
  have key := loop_allS (Q := Option GV) (T := Heap) (n := row.length) (p := iokB row)
    (f := fun r j h => S.impl_RowOk.l7 (row.length + 1) (fun x v0 v2 h => kb 0 x fun x => kx x (S.impl_RowOk.n2 (row.length + 1) (fun x v2 h => kend x (finN v2 h)) v0 h) (kend x (finN v2 h))) r (fzl true 7 (mCell true) row) (.bool false) (fzl true 7 (mCell true) row) (.int .i64 (row.length : Int)) (.int .i64 (j : Int)) h)
    (A := some (.bool (inB row.length 1 60 && !decide ((at' row (row.length - 1)).2.2 = 1)))) (B := some (.bool false)) ?_ ?_ (row.length + 1) 0 [] (by omega) (by omega)
  · simp only [show ((0 : Nat) : Int) = 0 from rfl, Nat.sub_zero] at key
    have er : List.range' 0 row.length = List.range row.length := (List.range_eq_range' ..).symm
    rw [er] at key
    unfold rowI
    unfold S.impl_RowOk.run S.impl_RowOk.n0 S.impl_RowOk.n1 S.impl_RowOk.n5
    rw [lr, Option.bind_some]
    unfold S.impl_RowOk.n6 S.impl_RowOk.n7
    refine Eq.trans ?_ (key.trans ?_)
    · rfl
    · cases (List.range row.length).all (iokB row) <;> simp
  · intro j r h hj
    have hc := at'_get hj
    have g1 : kbin .lss (.int .i64 (j : Int)) (.int .i64 (row.length : Int)) = some (.bool true) := by rw [klt, decide_eq_true hj]
    have kj := kadd1 (n := j) (by omega)
    have lA : kloadA 7 h (elp true (mCell true) row j) = some (.agg (mCell true row[j])) := by rw [kloadA_elp (es := 7) (fun _ => rfl) (by omega), get_of hj]; rfl
    have v1 := var_at (H := h) (z := [.int .i64 0, .int .i64 0, .int .i64 0, .bool false, .bool false, .bool false, .int .i64 0]) (c := mCell true row[j]) (n := 7) rfl rfl (by simp)
    obtain ⟨H1, hH1⟩ : ∃ H1, h ++ [mCell true row[j]] = H1 := ⟨_, rfl⟩
    rw [hH1] at v1
    have X1 : H1[h.length]? = some (mCell true row[j]) := by rw [← hH1]; simp
    have a1 := kloadA_at (n := 7) X1 rfl
    have l6 := kload1_at (o := 6) (tot := 7) X1 rfl
    have ls : kloadA 5 H1 (.ptr h.length 1 7) = some (styG row[j].2.1) := kpartA_at X1 rfl rfl (by simp)
    simp only [List.getElem?_cons_succ, List.getElem?_cons_zero] at l6
    have ko := kN_at (H := H1) (bor_cell row[j] H1) (impl_isCell_spec row[j])
    have g2 : kbin .eql (.int .i64 row[j].2.2) (.int .i64 2) = some (.bool (decide (row[j].2.2 = 2))) := kbin_eql
    have gp := kposn (n := j)
    refine ⟨H1, ?_⟩
    unfold iokB
    rw [hc]
    simp only [S.impl_RowOk.l7]
    have head : S.impl_RowOk.n18 (row.length + 1) (R := GV) = S.impl_RowOk.n18 (row.length + 1) := rfl
    have ea : aheadB row j = (decide (0 < j) && decide ((at' row (j - 1)).2.2 = 1)) := rfl
    rw [ea]
    obtain ⟨M, hM⟩ : ∃ M, mCell true row[j] = M := ⟨_, rfl⟩
    rw [hM] at lA v1 a1 ko hH1
    by_cases j0 : 0 < j
    · rw [decide_eq_true j0] at gp ⊢
      have hj1 : j - 1 < row.length := by omega
      rw [at'_get hj1]
      have ks := ksub1 (n := j) j0 (by omega)
      have ki := kia7 hj1
      have k6 := kpart6 (h := H1) (t := true) hj1
      have ksty := kloadA_sty (h := H1) (t := true) hj1
      have ge : kbin .eql (.int .i64 row[j - 1].2.2) (.int .i64 1) = some (.bool (decide (row[j - 1].2.2 = 1))) := kbin_eql
      have kq := keqS_sty row[j - 1].2.1 row[j].2.1
      obtain ⟨Z, hZ⟩ : ∃ Z, styG row[j].2.1 = Z := ⟨_, rfl⟩
      obtain ⟨Z', hZ'⟩ : ∃ Z, styG row[j - 1].2.1 = Z := ⟨_, rfl⟩
      rw [hZ] at ls kq
      rw [hZ'] at ksty kq
      generalize decide (row[j - 1].2.2 = 1) = a at *
      generalize decide (row[j].2.2 = 2) = b at *
      generalize decide (row[j - 1].2.1 = row[j].2.1) = c at *
      generalize cellB row[j] = d at *
      cases a <;> cases d <;> cases b <;> cases c <;> simp [g1, kia7 hj, lA, kalloc_at, v1, gp, ks, ki, k6, get_of hj1, ge, a1, ko, l6, g2, ksty, ls, kq, kj, -kN_eq, -kbin_lss, -kbin_sub, -kbin_gtr, -kbin_eql, -kbin_add, -kload1_ptr, -kloadA_ptr, -kstore_ptr]
    · rw [decide_eq_false j0] at gp ⊢
      generalize decide (row[j].2.2 = 2) = b at *
      generalize cellB row[j] = d at *
      cases d <;> cases b <;> simp [g1, kia7 hj, lA, kalloc_at, v1, gp, a1, ko, l6, g2, kj, -kN_eq, -kbin_lss, -kbin_sub, -kbin_gtr, -kbin_eql, -kbin_add, -kload1_ptr, -kloadA_ptr, -kstore_ptr]
  · intro r h
    have g1 : kbin .lss (.int .i64 (row.length : Int)) (.int .i64 (row.length : Int)) = some (.bool false) := by rw [klt, decide_eq_false (by omega)]
    simp only [S.impl_RowOk.l7]
    have ki := k_in row.length 1 60 h
    cases hn : inB row.length 1 60
    · rw [hn] at ki
      simp [g1, lr, ki, -kN_eq, -kbin_lss]
    · rw [hn] at ki
      rw [inB_iff] at hn
      have hl : row.length - 1 < row.length := by omega
      rw [at'_get hl]
      have ks := ksub1 (n := row.length) (by omega) (by omega)
      have k7 := kia7 hl
      have k6 := kpart6 (h := h) (t := true) hl
      have ge : kbin .neq (.int .i64 row[row.length - 1].2.2) (.int .i64 1) = some (.bool (!decide (row[row.length - 1].2.2 = 1))) := by rw [kbin_neq]; simp
      simp [g1, lr, ki, ks, k7, k6, ge, -kN_eq, -kbin_lss, -kbin_sub, -kbin_neq]
end Go.Proofs.Ytlbnioapepelnaa.G

namespace Go.Proofs.Ytlbnioapepelnaa.G
open Go.RowKit
set_option linter.unusedVariables false
set_option linter.unusedSimpArgs false
theorem spec_RowOk_spec (row : List CellT) (hm : row.length ≤ 1048576) : NN fn.spec_RowOk [fzl true 7 (mCell true) row] = some (.bool (rowB row)) := by
  apply S.spec_RowOk.gives (k := row.length + 1)
  have lr : klen (fzl true 7 (mCell true) row) = some (.int .i64 (row.length : Int)) := klen_fzl
  have glo : kbin .lss (.int .i64 (row.length : Int)) (.int .i64 1) = some (.bool (decide (row.length < 1))) := by rw [kbin_lss]; congr 2; rw [Bool.eq_iff_iff, decide_eq_true_eq, decide_eq_true_eq]; omega
  have ghi : kbin .gtr (.int .i64 (row.length : Int)) (.int .i64 60) = some (.bool (decide (60 < row.length))) := by rw [kbin_gtr]; congr 2; rw [Bool.eq_iff_iff, decide_eq_true_eq, decide_eq_true_eq]; omega
  unfold rowB
  cases hn : inB row.length 1 60
  · unfold S.spec_RowOk.run S.spec_RowOk.n0 S.spec_RowOk.n1
    rw [lr, Option.bind_some]
    by_cases h1 : row.length < 1
    · rw [decide_eq_true h1] at glo
      simp [glo, -kbin_lss]
    · rw [decide_eq_false h1] at glo
      have h2 : 60 < row.length := by
        have : ¬ inB row.length 1 60 = true := by rw [hn]; simp
        rw [inB_iff] at this; omega
      rw [decide_eq_true h2] at ghi
      simp [glo, ghi, -kbin_lss, -kbin_gtr]
  rw [inB_iff] at hn
  rw [decide_eq_false (by omega)] at glo ghi
  have key := loop_allS (Q := Option GV) (T := Heap) (n := row.length) (p := sokB row)
    (f := fun r j h => S.spec_RowOk.l7 (row.length + 1) (fun x v2 h => kb 0 x fun x => kx x (S.spec_RowOk.n4 (row.length + 1) (fun x v2 h => kend x (finN v2 h)) h) (kend x (finN v2 h))) r (fzl true 7 (mCell true) row) (.bool false) (.int .i64 (row.length : Int)) (.int .i64 (j : Int)) h)
    (A := some (.bool true)) (B := some (.bool false)) ?_ ?_ (row.length + 1) 0 [] (by omega) (by omega)
  · simp only [show ((0 : Nat) : Int) = 0 from rfl, Nat.sub_zero] at key
    have er : List.range' 0 row.length = List.range row.length := (List.range_eq_range' ..).symm
    rw [er] at key
    unfold S.spec_RowOk.run S.spec_RowOk.n0 S.spec_RowOk.n1
    rw [lr, Option.bind_some]
    refine Eq.trans ?_ (key.trans ?_)
    · simp [glo, ghi, -kbin_lss, -kbin_gtr]
    · cases (List.range row.length).all (sokB row) <;> simp
  · intro j r h hj
    have hc := at'_get hj
    have g1 : kbin .lss (.int .i64 (j : Int)) (.int .i64 (row.length : Int)) = some (.bool true) := by rw [klt, decide_eq_true hj]
    have kj := kadd1 (n := j) (by omega)
    have lA : kloadA 7 h (elp true (mCell true) row j) = some (.agg (mCell true row[j])) := by rw [kloadA_elp (es := 7) (fun _ => rfl) (by omega), get_of hj]; rfl
    have v1 := var_at (H := h) (z := [.int .i64 0, .int .i64 0, .int .i64 0, .bool false, .bool false, .bool false, .int .i64 0]) (c := mCell true row[j]) (n := 7) rfl rfl (by simp)
    obtain ⟨H1, hH1⟩ : ∃ H1, h ++ [mCell true row[j]] = H1 := ⟨_, rfl⟩
    rw [hH1] at v1
    have X1 : H1[h.length]? = some (mCell true row[j]) := by rw [← hH1]; simp
    have l0 := kload1_at (o := 0) (tot := 7) X1 rfl
    have l6 := kload1_at (o := 6) (tot := 7) X1 rfl
    have ls : kloadA 5 H1 (.ptr h.length 1 7) = some (styG row[j].2.1) := kpartA_at X1 rfl rfl (by simp)
    simp only [List.getElem?_cons_succ, List.getElem?_cons_zero] at l0 l6
    have ko := k_ssty row[j].2.1 H1
    have kw := k_swidth row[j].1 H1
    have g0 : kbin .eql (.int .i64 row[j].2.2) (.int .i64 0) = some (.bool (decide (row[j].2.2 = 0))) := kbin_eql
    have g2 : kbin .eql (.int .i64 row[j].2.2) (.int .i64 1) = some (.bool (decide (row[j].2.2 = 1))) := kbin_eql
    have g3 : kbin .eql (.int .i64 row[j].2.2) (.int .i64 2) = some (.bool (decide (row[j].2.2 = 2))) := kbin_eql
    have w1 : kbin .neq (.int .i64 (widthM row[j].1)) (.int .i64 1) = some (.bool (!decide (widthM row[j].1 = 1))) := by rw [kbin_neq]; simp
    have w2 : kbin .neq (.int .i64 (widthM row[j].1)) (.int .i64 2) = some (.bool (!decide (widthM row[j].1 = 2))) := by rw [kbin_neq]; simp
    have r0 : kbin .neq (.int .i64 row[j].1) (.int .i64 0) = some (.bool (!decide (row[j].1 = 0))) := by rw [kbin_neq]; simp
    have ge : kbin .eql (.int .i64 ((j + 1 : Nat) : Int)) (.int .i64 (row.length : Int)) = some (.bool (decide (j + 1 = row.length))) := by rw [kbin_eql]; congr 2; rw [Bool.eq_iff_iff]; simp; omega
    have gz := klen0 (n := j)
    refine ⟨H1, ?_⟩
    unfold sokB
    rw [hc]
    simp only [S.spec_RowOk.l7]
    obtain ⟨Z, hZ⟩ : ∃ Z, styG row[j].2.1 = Z := ⟨_, rfl⟩
    rw [hZ] at ls ko
    obtain ⟨M, hM⟩ : ∃ M, mCell true row[j] = M := ⟨_, rfl⟩
    rw [hM] at lA v1 hH1 X1
    cases hs : styB row[j].2.1
    · rw [hs] at ko
      simp [g1, kia7 hj, lA, kalloc_at, v1, ls, ko, -kN_eq, -kbin_lss, -kload1_ptr, -kloadA_ptr, -kstore_ptr]
    rw [hs] at ko
    by_cases p0 : row[j].2.2 = 0
    · rw [if_pos p0]
      rw [decide_eq_true p0] at g0
      generalize decide (widthM row[j].1 = 1) = a at *
      cases a <;> simp [g1, kia7 hj, lA, kalloc_at, v1, ls, ko, l0, l6, g0, kw, w1, kj, -kN_eq, -kbin_lss, -kbin_eql, -kbin_neq, -kbin_add, -kload1_ptr, -kloadA_ptr, -kstore_ptr]
    rw [if_neg p0]
    rw [decide_eq_false p0] at g0
    by_cases p1 : row[j].2.2 = 1
    · rw [if_pos p1]
      rw [decide_eq_true p1] at g2
      by_cases je : j + 1 = row.length
      · rw [decide_eq_true je] at ge ⊢
        generalize decide (widthM row[j].1 = 2) = a at *
        cases a <;> simp [g1, kia7 hj, lA, kalloc_at, v1, ls, ko, l0, l6, g0, g2, kw, w2, kj, ge, -kN_eq, -kbin_lss, -kbin_eql, -kbin_neq, -kbin_add, -kload1_ptr, -kloadA_ptr, -kstore_ptr, -Int.natCast_add]
      · rw [decide_eq_false je] at ge ⊢
        have hj1 : j + 1 < row.length := by omega
        rw [at'_get hj1]
        have k6 := kpart6 (h := H1) (t := true) hj1
        have ksty := kloadA_sty (h := H1) (t := true) hj1
        have n2 : kbin .neq (.int .i64 row[j + 1].2.2) (.int .i64 2) = some (.bool (!decide (row[j + 1].2.2 = 2))) := by rw [kbin_neq]; simp
        have kq := keqS_sty row[j + 1].2.1 row[j].2.1
        obtain ⟨Z', hZ'⟩ : ∃ Z, styG row[j + 1].2.1 = Z := ⟨_, rfl⟩
        rw [hZ, hZ'] at kq
        rw [hZ'] at ksty
        generalize decide (widthM row[j].1 = 2) = a at *
        generalize decide (row[j + 1].2.2 = 2) = b at *
        generalize decide (row[j + 1].2.1 = row[j].2.1) = c at *
        cases a <;> cases b <;> cases c <;> simp [g1, kia7 hj, kia7 hj1, lA, kalloc_at, v1, ls, ko, l0, l6, g0, g2, kw, w2, kj, ge, k6, get_of hj1, n2, ksty, kq, -kN_eq, -kbin_lss, -kbin_eql, -kbin_neq, -kbin_add, -kload1_ptr, -kloadA_ptr, -kstore_ptr, -Int.natCast_add]
    rw [if_neg p1]
    rw [decide_eq_false p1] at g2
    by_cases p2 : row[j].2.2 = 2
    · rw [if_pos p2]
      rw [decide_eq_true p2] at g3
      by_cases jz : j = 0
      · rw [decide_eq_true jz] at gz ⊢
        generalize decide (row[j].1 = 0) = a at *
        cases a <;> simp [g1, kia7 hj, lA, kalloc_at, v1, ls, ko, l0, l6, g0, g2, g3, r0, gz, kj, -kN_eq, -kbin_lss, -kbin_eql, -kbin_neq, -kbin_add, -kload1_ptr, -kloadA_ptr, -kstore_ptr]
      · rw [decide_eq_false jz] at gz ⊢
        have hj1 : j - 1 < row.length := by omega
        rw [at'_get hj1]
        have ks := ksub1 (n := j) (by omega) (by omega)
        have k6 := kpart6 (h := H1) (t := true) hj1
        have n1 : kbin .neq (.int .i64 row[j - 1].2.2) (.int .i64 1) = some (.bool (!decide (row[j - 1].2.2 = 1))) := by rw [kbin_neq]; simp
        generalize decide (row[j].1 = 0) = a at *
        generalize decide (row[j - 1].2.2 = 1) = b at *
        cases a <;> cases b <;> simp [g1, kia7 hj, kia7 hj1, lA, kalloc_at, v1, ls, ko, l0, l6, g0, g2, g3, r0, gz, ks, k6, get_of hj1, n1, kj, -kN_eq, -kbin_lss, -kbin_eql, -kbin_neq, -kbin_sub, -kbin_add, -kload1_ptr, -kloadA_ptr, -kstore_ptr]
    · rw [if_neg p2]
      rw [decide_eq_false p2] at g3
      simp [g1, kia7 hj, lA, kalloc_at, v1, ls, ko, l0, l6, g0, g2, g3, -kN_eq, -kbin_lss, -kbin_eql, -kload1_ptr, -kloadA_ptr, -kstore_ptr]
  · intro r h
    have g1 : kbin .lss (.int .i64 (row.length : Int)) (.int .i64 (row.length : Int)) = some (.bool false) := by rw [klt, decide_eq_false (by omega)]
    simp only [S.spec_RowOk.l7]
    simp [g1, -kbin_lss]

/-! Grids. -/
theorem slices_IndexFunc_row_spec (xs : List (List CellT)) (fv : GV) (p : List CellT → Bool) (hm : xs.length ≤ 1048576) (hf : ∀ a ∈ xs, ∀ (h : Heap) (K : GV → Heap → Option GV), kval fv [fzl true 7 (mCell true) a] h K = K (.bool (p a)) h) :
    NN fn.slices_IndexFunc_impl_Cell_impl_Cell [fzl true 1 (mCellS true) xs, fv] = some (.int .i64 (if xs.any p = true then (xs.findIdx p : Int) else -1)) := by
  apply S.slices_IndexFunc_impl_Cell_impl_Cell.gives (k := xs.length + 1)
  simp [S.slices_IndexFunc_impl_Cell_impl_Cell.run, -List.any_eq_true]
  refine (loop_find (xs := xs) (p := p) (f := fun r j => S.slices_IndexFunc_impl_Cell_impl_Cell.l5 _ _ r _ _ _ _ (.int .i64 (j : Int)) _) (A := fun j => some (GV.int .i64 (j : Int))) (B := some (GV.int .i64 (-1))) (fun j r hj => ?_) (fun r => ?_) (xs.length + 1) 0 (by omega) (by omega)).trans ?_
  · have h1 : (j : Int) < xs.length := by omega
    have w := wrap_succ (n := j) (by simp only [maxLen]; omega)
    have hk := hf xs[j] (List.getElem_mem hj)
    cases hp : p xs[j] <;> simp [S.slices_IndexFunc_impl_Cell_impl_Cell.l5, h1, get_of hj, w, hk, hp]
  · simp [S.slices_IndexFunc_impl_Cell_impl_Cell.l5]
  · simp only [List.drop_zero, Nat.zero_add]
    by_cases hx : xs.any p = true
    · rw [if_pos hx, if_pos hx]
    · rw [if_neg hx, if_neg hx]
theorem slices_ContainsFunc_row_spec (xs : List (List CellT)) (fv fv' : GV) (p : List CellT → Bool) (hm : xs.length ≤ 1048576) (hb : bor 9 [] fv' = some (fv, [])) (hf : ∀ a ∈ xs, ∀ (h : Heap) (K : GV → Heap → Option GV), kval fv [fzl true 7 (mCell true) a] h K = K (.bool (p a)) h) :
    NN fn.slices_ContainsFunc_impl_Cell_impl_Cell [fzl true 1 (mCellS true) xs, fv'] = some (.bool (xs.any p)) := by
  apply S.slices_ContainsFunc_impl_Cell_impl_Cell.gives (k := 0)
  by_cases h : xs.any p = true
  · have : (0 : Int) ≤ (xs.findIdx p : Int) := by omega
    simp only [h]
    simp [S.slices_ContainsFunc_impl_Cell_impl_Cell.run, hb, slices_IndexFunc_row_spec xs fv p hm hf, -List.any_eq_true, h, this]
  · simp only [Bool.not_eq_true] at h
    simp only [h]
    simp [S.slices_ContainsFunc_impl_Cell_impl_Cell.run, hb, slices_IndexFunc_row_spec xs fv p hm hf, -List.any_eq_false, h]
theorem kval_GridOk_1 {R : Type} {caps args : List GV} {h : Heap} {K : GV → Heap → Option R} : kval (.fn fn.impl_GridOk_1 caps) args h K = (kN NN fn.impl_GridOk_1 (args ++ caps) h).bind fun v => K v h := by kernel_rfl
theorem impl_GridOk_1_spec (row : List CellT) (c : Int) (g : GV) (hm : row.length ≤ 1048576) : NN fn.impl_GridOk_1 [fzl true 7 (mCell true) row, .fp true [.int .i64 c, g]] = some (.bool !(decide ((row.length : Int) = c) && rowB row)) := by
  apply S.impl_GridOk_1.gives (k := 0)
  have k1 : kN NN fn.impl_RowOk [fzl true 7 (mCell true) row] [] = some (.bool (rowB row)) := kN_at (xs := [fzl true 7 (mCell true) row]) (by simp) (impl_RowOk_spec row hm)
  have g1 : kbin .neq (.int .i64 (row.length : Int)) (.int .i64 c) = some (.bool (!decide ((row.length : Int) = c))) := by rw [kbin_neq]; simp
  have hl : kload1 [] (.fp true [.int .i64 c, g]) = some (.int .i64 c) := rfl
  have hf : kfa 0 (.fp true [.int .i64 c, g]) = some (.fp true [.int .i64 c, g]) := rfl
  generalize decide ((row.length : Int) = c) = a at *
  generalize rowB row = b at *
  cases a <;> simp [S.impl_GridOk_1.run, hf, hl, g1, k1, -kN_eq, -kbin_neq]
theorem kia1 {xs : List (List CellT)} {j : Nat} (hj : j < xs.length) : kia 1 (fzl true 1 (mCellS true) xs) (.int .i64 (j : Int)) = some (elp true (mCellS true) xs j) := by rw [kia_fzl (es := 1) (fun _ => rfl), if_pos (by omega)]; rfl
theorem bor_grid (g : GridT) (H : Heap) (gs zs : List GV) (h : bors H gs = some zs) : bors H (.agg (mGrid true g) :: gs) = some (.agg (mGrid true g) :: zs) := by rw [bors_cons, h]; simp
theorem impl_GridOk_spec (g : GridT) (hok : okGrid g) : NN fn.impl_GridOk [.agg (mGrid true g)] = some (.bool (gridB g)) := by
  obtain ⟨c, rows⟩ := g
  have hr : rows.length ≤ 1048576 ∧ ∀ row ∈ rows, row.length ≤ 1048576 := hok
  apply S.impl_GridOk.gives (k := 0)
  obtain ⟨H, hH⟩ : ∃ H : Heap, [mGrid true (c, rows)] = H := ⟨_, rfl⟩
  have A : H[0]? = some (mGrid true (c, rows)) := by rw [← hH]; rfl
  have hbox : ∀ {Q : Type} (K : GV → Heap → Option Q), kbox (.agg (mGrid true (c, rows))) [] K = K (.ptr 0 0 2) H := fun K => by rw [kbox_agg, ← hH]; rfl
  have l0 := kload1_at (o := 0) (tot := 2) A rfl
  have l1 := kload1_at (o := 1) (tot := 2) A rfl
  simp only [List.getElem?_cons_succ, List.getElem?_cons_zero] at l0 l1
  have q1 := k_in c 1 60 H
  have q2 := k_in rows.length 1 30 H
  have e := slices_ContainsFunc_row_spec rows (.fn fn.impl_GridOk_1 [.fp true [.int .i64 c, fzl true 1 (mCellS true) rows]]) (.fn fn.impl_GridOk_1 [.fp true [.int .i64 c, fzl true 1 (mCellS true) rows]]) (fun row => !(decide ((row.length : Int) = c) && rowB row)) hr.1 (by
    have : ∀ g : GV, lend 7 g = g → bor 9 [] (.fn fn.impl_GridOk_1 [.fp true [.int .i64 c, g]]) = some (.fn fn.impl_GridOk_1 [.fp true [.int .i64 c, g]], []) := fun g hg => by
      show some (GV.fn fn.impl_GridOk_1 [.fp true [.int .i64 c, lend 7 g]], _) = _
      rw [hg]; rfl
    exact this _ (by rw [lend_fzl (d := 6) (mk := mCellS true) (mk' := mCellS true) (fun a => ld_CellS (d := 5) a)])) (fun a ha h K => by
    rw [kval_GridOk_1, kN_at (xs := [fzl true 7 (mCell true) a, .fp true [.int .i64 c, fzl true 1 (mCellS true) rows]]) (by
      have hb : bor 9 h (.fp true [.int .i64 c, fzl true 1 (mCellS true) rows]) = some (.fp true [.int .i64 c, fzl true 1 (mCellS true) rows], []) := by
        show some (GV.fp true [.int .i64 c, lend 8 (fzl true 1 (mCellS true) rows)], _) = _
        rw [lend_fzl (d := 7) (mk := mCellS true) (mk' := mCellS true) (fun a => ld_CellS (d := 6) a)]
      simp [hb]) (impl_GridOk_1_spec a c _ (hr.2 a ha))]; rfl)
  have q3 : kN NN fn.slices_ContainsFunc_impl_Cell_impl_Cell [fzl true 1 (mCellS true) rows, .fn fn.impl_GridOk_1 [.ptr 0 0 2]] H = some (.bool (rows.any fun row => !(decide ((row.length : Int) = c) && rowB row))) := by
    refine kN_at ?_ e
    have hb : bor 9 H (.fn fn.impl_GridOk_1 [.ptr 0 0 2]) = some (.fn fn.impl_GridOk_1 [.fp true [.int .i64 c, fzl true 1 (mCellS true) rows]], [0]) := by
      have b8 : bor 8 H (.ptr 0 0 2) = some (.fp true [.int .i64 c, fzl true 1 (mCellS true) rows], [0]) := by
        show (cellsAt H 0 2).bind (fun cs => ((cs.drop 0).mapM (bor 7 H)).bind fun xs => some (GV.fp true (xs.map (·.1)), 0 :: (xs.map (·.2)).flatten)) = _
        rw [cellsAt_if, A]
        simp
      show ([GV.ptr 0 0 2].mapM (bor 8 H)).bind (fun xs => some (GV.fn fn.impl_GridOk_1 (xs.map (·.1)), (xs.map (·.2)).flatten)) = _
      rw [List.mapM_cons, b8]
      rfl
    simp [hb]
  have ea : (rows.any fun row => !(decide ((row.length : Int) = c) && rowB row)) = !rows.all fun row => decide ((row.length : Int) = c) && rowB row := any_not
  rw [ea] at q3
  unfold gridB
  unfold S.impl_GridOk.run S.impl_GridOk.n0
  rw [hbox]
  simp only
  generalize inB c 1 60 = a at *
  generalize inB rows.length 1 30 = b at *
  generalize (rows.all fun row => decide ((row.length : Int) = c) && rowB row) = d at *
  cases a <;> cases b <;> simp [l0, l1, q1, q2, q3, -kN_eq, -kload1_ptr]
end Go.Proofs.Ytlbnioapepelnaa.G

namespace Go.Proofs.Ytlbnioapepelnaa.G
open Go.RowKit
set_option linter.unusedVariables false
set_option linter.unusedSimpArgs false
theorem spec_GridOk_spec (g : GridT) (hok : okGrid g) : NN fn.spec_GridOk [.agg (mGrid true g)] = some (.bool (gridB g)) := by
  obtain ⟨c, rows⟩ := g
  have hr : rows.length ≤ 1048576 ∧ ∀ row ∈ rows, row.length ≤ 1048576 := hok
  apply S.spec_GridOk.gives (k := rows.length + 1)
  obtain ⟨H, hH⟩ : ∃ H : Heap, [mGrid true (c, rows)] = H := ⟨_, rfl⟩
  have A : H[0]? = some (mGrid true (c, rows)) := by rw [← hH]; rfl
  have hbox : ∀ {Q : Type} (K : GV → Heap → Option Q), kbox (.agg (mGrid true (c, rows))) [] K = K (.ptr 0 0 2) H := fun K => by rw [kbox_agg, ← hH]; rfl
  have l0 := kload1_at (o := 0) (tot := 2) A rfl
  have l1 := kload1_at (o := 1) (tot := 2) A rfl
  simp only [List.getElem?_cons_succ, List.getElem?_cons_zero] at l0 l1
  have q1 := k_l1In c 1 60 H
  have lr : klen (fzl true 1 (mCellS true) rows) = some (.int .i64 (rows.length : Int)) := klen_fzl
  have glo : kbin .lss (.int .i64 (rows.length : Int)) (.int .i64 1) = some (.bool (decide (rows.length < 1))) := by rw [kbin_lss]; congr 2; rw [Bool.eq_iff_iff, decide_eq_true_eq, decide_eq_true_eq]; omega
  have ghi : kbin .gtr (.int .i64 (rows.length : Int)) (.int .i64 30) = some (.bool (decide (30 < rows.length))) := by rw [kbin_gtr]; congr 2; rw [Bool.eq_iff_iff, decide_eq_true_eq, decide_eq_true_eq]; omega
  have key := fun G : GX → GV → Heap → Option GV => loop_allB (xs := rows) (p := fun row => decide ((row.length : Int) = c) && rowB row) (f := fun r j => S.spec_GridOk.l6 (rows.length + 1) G r (.ptr 0 0 2) (.bool false) (.int .i64 (j : Int)) H) (A := G (.ext 0) (.bool false) H) (B := G .ret (.bool false) H) (fun j r hj => by
    have g1 : kbin .lss (.int .i64 (j : Int)) (.int .i64 (rows.length : Int)) = some (.bool true) := by rw [klt, decide_eq_true hj]
    have kj := kadd1 (n := j) (by omega)
    have k0 := kia1 hj
    have ke : kload1 H (elp true (mCellS true) rows j) = some (fzl true 7 (mCell true) rows[j]) := by rw [kload1_elp (fun a => fzl true 7 (mCell true) a) (fun _ => rfl), get_of hj]; rfl
    have kl : klen (fzl true 7 (mCell true) rows[j]) = some (.int .i64 (rows[j].length : Int)) := klen_fzl
    have gn : kbin .neq (.int .i64 (rows[j].length : Int)) (.int .i64 c) = some (.bool (!decide ((rows[j].length : Int) = c))) := by rw [kbin_neq]; simp
    have kr : kN NN fn.spec_RowOk [fzl true 7 (mCell true) rows[j]] H = some (.bool (rowB rows[j])) := kN_at (xs := [fzl true 7 (mCell true) rows[j]]) (by simp) (spec_RowOk_spec rows[j] (hr.2 _ (List.getElem_mem hj)))
    simp only [S.spec_GridOk.l6]
    generalize decide ((rows[j].length : Int) = c) = a at *
    generalize rowB rows[j] = b at *
    generalize fzl true 7 (mCell true) rows[j] = Z at *
    cases a <;> cases b <;> simp [l0, l1, lr, g1, k0, ke, kl, gn, kr, kj, -kN_eq, -kbin_lss, -kbin_add, -kbin_neq, -kload1_ptr, -kload1_CellSS]) (fun r => by
    have g1 : kbin .lss (.int .i64 (rows.length : Int)) (.int .i64 (rows.length : Int)) = some (.bool false) := by rw [klt, decide_eq_false (by omega)]
    simp only [S.spec_GridOk.l6]
    simp [l1, lr, g1, -kbin_lss, -kload1_ptr]) (rows.length + 1) 0 (by omega) (by omega)
  simp only [List.drop_zero, show ((0 : Nat) : Int) = 0 from rfl] at key
  unfold gridB
  unfold S.spec_GridOk.run S.spec_GridOk.n0
  rw [hbox]
  simp only
  cases hc : inB c 1 60
  · rw [hc] at q1
    simp [l0, q1, -kN_eq, -kload1_ptr]
  rw [hc] at q1
  by_cases h1 : rows.length < 1
  · rw [decide_eq_true h1] at glo
    have e : inB (rows.length : Int) 1 30 = false := by rw [Bool.eq_false_iff]; intro h; rw [inB_iff] at h; omega
    rw [e]
    simp [l0, l1, lr, q1, glo, -kN_eq, -kload1_ptr, -kbin_lss]
  rw [decide_eq_false h1] at glo
  by_cases h2 : 30 < rows.length
  · rw [decide_eq_true h2] at ghi
    have e : inB (rows.length : Int) 1 30 = false := by rw [Bool.eq_false_iff]; intro h; rw [inB_iff] at h; omega
    rw [e]
    simp [l0, l1, lr, q1, glo, ghi, -kN_eq, -kload1_ptr, -kbin_lss, -kbin_gtr]
  rw [decide_eq_false h2] at ghi
  have e : inB (rows.length : Int) 1 30 = true := by rw [inB_iff]; omega
  rw [e]
  cases ha : rows.all fun row => decide ((row.length : Int) = c) && rowB row
  · simp only [ha, cond_false] at key
    simp [l0, l1, lr, q1, glo, ghi, key, -kN_eq, -kload1_ptr, -kbin_lss, -kbin_gtr]
  · simp only [ha, cond_true] at key
    simp [l0, l1, lr, q1, glo, ghi, key, -kN_eq, -kload1_ptr, -kbin_lss, -kbin_gtr]
theorem impl_Grid_last_spec (g : GridT) (h : g.2.length ≤ 1048576) : NN fn.impl_Grid_last [.agg (mGrid true g)] = some (.int .i64 ((g.2.length : Int) - 1)) := by
  apply S.impl_Grid_last.gives (k := 0)
  obtain ⟨H, hH⟩ : ∃ H : Heap, [mGrid true g] = H := ⟨_, rfl⟩
  have A : H[0]? = some (mGrid true g) := by rw [← hH]; rfl
  have hbox : ∀ {Q : Type} (K : GV → Heap → Option Q), kbox (.agg (mGrid true g)) [] K = K (.ptr 0 0 2) H := fun K => by rw [kbox_agg, ← hH]; rfl
  have l1 := kload1_at (o := 1) (tot := 2) A rfl
  simp only [List.getElem?_cons_succ, List.getElem?_cons_zero] at l1
  have ks : kbin .sub (.int .i64 (g.2.length : Int)) (.int .i64 1) = some (.int .i64 ((g.2.length : Int) - 1)) := by rw [kbin_sub, wrap_id (by omega) (by omega)]
  unfold S.impl_Grid_last.run S.impl_Grid_last.n0
  rw [hbox]
  simp [l1, ks, -kload1_ptr, -kbin_sub]
theorem impl_isScroll_spec (g : GridT) (hok : okGrid g) (top bot n : Int) (s : StyT) : NN fn.impl_isScroll [.agg (mGrid true g), .int .i64 top, .int .i64 bot, .int .i64 n, styG s] = some (.bool (scrollB g top bot n s)) := by
  have hr : g.2.length ≤ 1048576 := hok.1
  apply S.impl_isScroll.gives (k := 0)
  have kg := impl_GridOk_spec g hok
  have kl := impl_Grid_last_spec g hr
  have bM := bor_grid g
  obtain ⟨M, hM⟩ : ∃ M, mGrid true g = M := ⟨_, rfl⟩
  have hML : M.length = 2 := by rw [← hM]; rfl
  rw [hM] at kg kl ⊢
  simp only [hM] at bM
  obtain ⟨Z, hZ⟩ : ∃ Z : List GV, [.int .i64 s.1, .int .i64 s.2.1, .bool s.2.2.1, .bool s.2.2.2.1, .bool s.2.2.2.2] = Z := ⟨_, rfl⟩
  have hZL : Z.length = 5 := by rw [← hZ]; rfl
  have ks := k_sty s
  rw [show styG s = .agg Z by rw [← hZ]] at ks ⊢
  obtain ⟨H, hH⟩ : ∃ H : Heap, [M, Z] = H := ⟨_, rfl⟩
  have A : H[0]? = some M := by rw [← hH]; rfl
  have B : H[1]? = some Z := by rw [← hH]; rfl
  have hb1 : ∀ {Q : Type} (K : GV → Heap → Option Q), kbox (.agg M) [] K = K (.ptr 0 0 2) [M] := fun K => by rw [kbox_agg, hML]; rfl
  have hb2 : ∀ {Q : Type} (K : GV → Heap → Option Q), kbox (.agg Z) [M] K = K (.ptr 1 0 5) H := fun K => by rw [kbox_agg, hZL, ← hH]; rfl
  have a0 := kloadA_at (n := 2) A hML
  have a1 := kloadA_at (n := 5) B hZL
  have kg' : kN NN fn.impl_GridOk [.agg M] H = some (.bool (gridB g)) := kN_at (bM _ _ _ (by simp)) kg
  have kl' : kN NN fn.impl_Grid_last [.agg M] H = some (.int .i64 ((g.2.length : Int) - 1)) := kN_at (bM _ _ _ (by simp)) kl
  have ki := k_in n 0 1000 H
  have g1 : kbin .leq (.int .i64 0) (.int .i64 top) = some (.bool (decide (0 ≤ top))) := kbin_leq
  have g2 : kbin .leq (.int .i64 top) (.int .i64 bot) = some (.bool (decide (top ≤ bot))) := kbin_leq
  have g3 : kbin .leq (.int .i64 bot) (.int .i64 ((g.2.length : Int) - 1)) = some (.bool (decide (bot ≤ (g.2.length : Int) - 1))) := kbin_leq
  have ks' := ks H
  unfold scrollB
  unfold S.impl_isScroll.run S.impl_isScroll.n0
  rw [hb1, hb2]
  generalize gridB g = x1 at *
  generalize styB s = x2 at *
  generalize inB n 0 1000 = x3 at *
  generalize decide (0 ≤ top) = x4 at *
  generalize decide (top ≤ bot) = x5 at *
  generalize decide (bot ≤ (g.2.length : Int) - 1) = x6 at *
  cases x1
  · simp [a0, kg', -kN_eq, -kloadA_ptr]
  cases x2
  · simp [a0, a1, kg', ks', -kN_eq, -kloadA_ptr]
  cases x3
  · simp [a0, a1, kg', ks', ki, -kN_eq, -kloadA_ptr]
  cases x4
  · simp [a0, a1, kg', ks', ki, g1, -kN_eq, -kloadA_ptr, -kbin_leq]
  cases x5 <;> simp [a0, a1, kg', ks', ki, g1, g2, kl', g3, -kN_eq, -kloadA_ptr, -kbin_leq]
theorem spec_l5Told_spec (g : GridT) (hok : okGrid g) (top bot n : Int) (s : StyT) : NN fn.spec_l5Told [.agg (mGrid true g), .int .i64 top, .int .i64 bot, .int .i64 n, styG s] = some (.bool (scrollB g top bot n s)) := by
  have hr : g.2.length ≤ 1048576 := hok.1
  apply S.spec_l5Told.gives (k := 0)
  have kg := spec_GridOk_spec g hok
  have bM := bor_grid g
  have hM1 : (mGrid true g)[1]? = some (fzl true 1 (mCellS true) g.2) := rfl
  obtain ⟨M, hM⟩ : ∃ M, mGrid true g = M := ⟨_, rfl⟩
  have hML : M.length = 2 := by rw [← hM]; rfl
  rw [hM] at kg hM1 ⊢
  simp only [hM] at bM
  obtain ⟨Z, hZ⟩ : ∃ Z : List GV, [.int .i64 s.1, .int .i64 s.2.1, .bool s.2.2.1, .bool s.2.2.2.1, .bool s.2.2.2.2] = Z := ⟨_, rfl⟩
  have hZL : Z.length = 5 := by rw [← hZ]; rfl
  have ks := k_ssty s
  rw [show styG s = .agg Z by rw [← hZ]] at ks ⊢
  obtain ⟨H, hH⟩ : ∃ H : Heap, [M, Z] = H := ⟨_, rfl⟩
  have A : H[0]? = some M := by rw [← hH]; rfl
  have B : H[1]? = some Z := by rw [← hH]; rfl
  have hb1 : ∀ {Q : Type} (K : GV → Heap → Option Q), kbox (.agg M) [] K = K (.ptr 0 0 2) [M] := fun K => by rw [kbox_agg, hML]; rfl
  have hb2 : ∀ {Q : Type} (K : GV → Heap → Option Q), kbox (.agg Z) [M] K = K (.ptr 1 0 5) H := fun K => by rw [kbox_agg, hZL, ← hH]; rfl
  have a0 := kloadA_at (n := 2) A hML
  have a1 := kloadA_at (n := 5) B hZL
  have l1 := kload1_at (o := 1) (tot := 2) A hML
  rw [hM1] at l1
  have lr : klen (fzl true 1 (mCellS true) g.2) = some (.int .i64 (g.2.length : Int)) := klen_fzl
  have kg' : kN NN fn.spec_GridOk [.agg M] H = some (.bool (gridB g)) := kN_at (bM _ _ _ (by simp)) kg
  have ki := k_l1In n 0 1000 H
  have kt := k_l1In top 0 bot H
  have g3 : kbin .lss (.int .i64 bot) (.int .i64 (g.2.length : Int)) = some (.bool (decide (bot ≤ (g.2.length : Int) - 1))) := by rw [kbin_lss]; congr 2; rw [Bool.eq_iff_iff, decide_eq_true_eq, decide_eq_true_eq]; omega
  have ks' := ks H
  have et : inB top 0 bot = (decide (0 ≤ top) && decide (top ≤ bot)) := rfl
  have e : scrollB g top bot n s = (gridB g && styB s && inB top 0 bot && decide (bot ≤ (g.2.length : Int) - 1) && inB n 0 1000) := by
    unfold scrollB
    rw [et]
    cases gridB g <;> cases styB s <;> cases inB n 0 1000 <;> cases decide (0 ≤ top) <;> cases decide (top ≤ bot) <;> simp
  rw [e]
  unfold S.spec_l5Told.run S.spec_l5Told.n0
  rw [hb1, hb2]
  generalize gridB g = x1 at *
  generalize styB s = x2 at *
  generalize inB n 0 1000 = x3 at *
  generalize inB top 0 bot = x4 at *
  generalize decide (bot ≤ (g.2.length : Int) - 1) = x6 at *
  generalize fzl true 1 (mCellS true) g.2 = W at *
  cases x1
  · simp [a0, kg', -kN_eq, -kloadA_ptr]
  cases x2
  · simp [a0, a1, kg', ks', -kN_eq, -kloadA_ptr]
  cases x4
  · simp [a0, a1, kg', ks', kt, -kN_eq, -kloadA_ptr]
  cases x6 <;> simp [a0, a1, kg', ks', ki, kt, l1, lr, g3, -kN_eq, -kloadA_ptr, -kload1_ptr, -kbin_lss]
end Go.Proofs.Ytlbnioapepelnaa.G

namespace Go.Proofs.Ytlbnioapepelnaa.G
open Go.RowKit
set_option linter.unusedVariables false
/-- A loop that keeps something. -/
theorem loop_inv {Q T : Type} {n : Nat} {Inv : Nat → T → Prop} {f : Nat → Nat → T → Q} {A : T → Q} (h1 : ∀ j r s, j < n → Inv j s → ∃ s', f (r + 1) j s = f r (j + 1) s' ∧ Inv (j + 1) s') (h2 : ∀ r s, Inv n s → f (r + 1) n s = A s) {s : T} (h0 : Inv 0 s) {m : Nat} (hm : n < m) : ∃ s', f m 0 s = A s' ∧ Inv n s' := by
  have key : ∀ m j s, n - j < m → j ≤ n → Inv j s → ∃ s', f m j s = A s' ∧ Inv n s' := by
    intro m
    induction m with
    | zero => intro j s h; omega
    | succ m ih =>
      intro j s hm hj hi
      rcases Nat.lt_or_ge j n with h | h
      · obtain ⟨s', a1, a2⟩ := h1 j m s h hi
        obtain ⟨s'', b1, b2⟩ := ih (j + 1) s' (by omega) (by omega) a2
        exact ⟨s'', a1.trans b1, b2⟩
      · have : j = n := by omega
        subst this
        exact ⟨s, h2 m s hi, hi⟩
  exact key m 0 s (by omega) (by omega) h0
end Go.Proofs.Ytlbnioapepelnaa.G
