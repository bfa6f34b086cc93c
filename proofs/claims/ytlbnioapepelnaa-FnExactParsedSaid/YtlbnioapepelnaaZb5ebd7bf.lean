/- Written by mgen.py: types, and what the functions of the laws that go over them answer; how such data lie in memory, their marks. -/
import Derived.Test.YtlbnioapepelnaaZfe0b0506
import Derived.Test.YtlbnioapepelnaaZ9dc2b21a
namespace Go.Proofs.Ytlbnioapepelnaa.G
open Go.RowKit
set_option linter.unusedVariables false
set_option linter.unusedSimpArgs false

/-! Int64S -/
abbrev mInt64S (t : Bool) (a : List (Int)) : List GV := [fzl t 1 ci a]
abbrev zInt64S (a : List (Int)) : Nat := a.length
abbrev okInt64S (a : List (Int)) : Prop := a.length ≤ 1048576
theorem okInt64S_of {a : List (Int)} (h : zInt64S a ≤ 1048576) : okInt64S a := h
@[simp] theorem kload1_Int64S {h : Heap} {t : Bool} {xs : List (List (Int))} {j : Nat} : kload1 h (elp t (mInt64S t) xs j) = xs[j]?.map fun a => fzl t 1 ci a := kload1_elp _ (fun _ => rfl)
@[simp] theorem kia_Int64S {t : Bool} {xs : List (List (Int))} {k : IntKind} {i : Int} : kia 1 (fzl t 1 (mInt64S t) xs) (.int k i) = if 0 ≤ i ∧ i < xs.length then some (elp t (mInt64S t) xs i.toNat) else none := kia_fzl (es := 1) (fun _ => rfl)
theorem ld_Int64S {d : Nat} {t : Bool} (a : List (Int)) : (mInt64S t a).map (lend (d + 1)) = mInt64S true a := map_cons' (lend_fzl (d := d) (mk := ci) (mk' := ci) (fun a => map_cons' lend_int rfl) a) (rfl)
@[simp] theorem bor_Int64S {d : Nat} {h : Heap} {t : Bool} {xs : List (List (Int))} : bor (d + 3) h (fzl t 1 (mInt64S t) xs) = some (fzl true 1 (mInt64S true) xs, []) := bor_fzl (d := d + 2) (fun a => ld_Int64S (d := d + 1) a) xs
open Classical in
theorem laws_eqInt64S_spec (xs ys : List (Int)) (hm : okInt64S xs) : NN fn.laws_eqInt64S [fzl true 1 ci xs, fzl true 1 ci ys] = some (.bool (decide (xs = ys))) := by
  apply S.laws_eqInt64S.gives (k := xs.length + 1)
  have hm' : xs.length ≤ 1048576 := hm
  simp [S.laws_eqInt64S.run]
  by_cases hl : xs.length = ys.length
  · have hi : (xs.length : Int) = ys.length := by omega
    simp [hi]
    refine (loop_all (f := fun r j => S.laws_eqInt64S.l6 _ _ r _ _ _ (.int .i64 (j : Int)) _) (A := some (GV.bool true)) (B := some (GV.bool false)) (n := xs.length) (P := fun j => xs[j]? = ys[j]?) (fun j r hj => ?_) (fun r => ?_) (xs.length + 1) 0 (by omega) (by omega)).trans ?_
    · have h1 : (j : Int) < xs.length := by omega
      have h2 : (j : Int) < ys.length := by omega
      have h3 : j < ys.length := by omega
      have w := wrap_succ (n := j) (by simp only [maxLen]; omega)
      by_cases hc : xs[j] = ys[j]
      · simp [S.laws_eqInt64S.l6, h1, h2, get_of hj, get_of h3, w, hc]
      · simp [S.laws_eqInt64S.l6, h1, h2, get_of hj, get_of h3, w, hc]
    · simp [S.laws_eqInt64S.l6]
    · simp [list_eq_iff hl]
      by_cases hx : xs = ys <;> simp [hx]
  · have : ¬ ((xs.length : Int) = ys.length) := by omega
    have hne : xs ≠ ys := fun h => hl (by rw [h])
    simp [this, hne]
abbrev rInt64S : Rel (List (Int)) := RSl 1 (RFl ci)
theorem goodInt64S : Good 1 2 (fun xs : List Int => [fzl true 1 ci xs]) rInt64S := RSl.good (RFl.good (es := 1) (mk := ci) (fun _ => rfl) (fun _ => rfl))
def cInt64S (xs : List (Int)) : Nat := cntL (fun x => 1) xs
noncomputable def kInt64S (xs : List (Int)) (k : Nat) : List (Int) := markL (fun x k => ((k : Nat) : Int)) (fun x => 1) xs k
theorem cInt64S_le {xs : List (Int)} (h : okInt64S xs) : cInt64S xs ≤ 1048576 := cntL_bound (M := 1048576) (B := 1) (h) (fun x hx => by show _ ≤ _; omega)
theorem laws_heldInt64S_spec (xs : List (Int)) (k : Nat) (hok : okInt64S xs) (hk : k + cInt64S xs ≤ 4611686018427387904) : NN fn.laws_heldInt64S [(fzl true 1 ci (kInt64S xs k)), .int .i64 (k : Int)] = some (.int .i64 ((k + cInt64S xs : Nat) : Int)) := by
  have hlim : k + cntL (fun x => 1) xs ≤ 4611686018427387904 := hk
  have hlen : xs.length ≤ 1048576 := hok
  obtain ⟨ys, hys⟩ : ∃ ys, kInt64S xs k = ys := ⟨_, rfl⟩
  have hl : ys.length = xs.length := by rw [← hys]; exact markL_len _ _
  have hg : ∀ j (hj : j < xs.length), ys[j]? = some ((((k + cntL (fun x => 1) (xs.take j)) : Nat) : Int)) := fun j hj => by rw [← hys]; exact markL_get xs k j hj
  rw [hys]
  apply S.laws_heldInt64S.gives (k := xs.length + 1)
  have key := loop_to (f := fun r j => fun (G : GX → GV → GV → Heap → Option GV) => S.laws_heldInt64S.l5 (xs.length + 1) G r (fzl true 1 ci ys) (.int .i64 ((k + cntL (fun x => 1) (xs.take j) : Nat) : Int)) (.int .i64 0) (.int .i64 (j : Int)) []) (A := fun G => G (.ext 0) (.int .i64 ((k + cInt64S xs : Nat) : Int)) (.int .i64 0) []) (n := xs.length) ?_ ?_ (xs.length + 1) 0 (by omega) (by omega)
  · have key' := fun G => congrFun key G
    simp only [List.take_zero, cntL, List.map_nil, List.sum_nil, Nat.add_zero, show ((0 : Nat) : Int) = 0 from rfl] at key'
    simp [S.laws_heldInt64S.run, key', -Int.natCast_add]
  · intro j r hj
    have g1 : (j : Int) < (ys.length : Int) := by omega
    have kj := kadd1 (n := j) (by omega)
    have q1 := cntL_take (c := (fun x => 1)) hj
    have q2 := cntL_le (c := (fun x => 1)) (xs := xs) (j + 1)
    have hgj := hg j hj
    try simp only at q1
    rw [q1, ← Nat.add_assoc]
    obtain ⟨K, hK⟩ : ∃ K, k + cntL (fun x => 1) (xs.take j) = K := ⟨_, rfl⟩
    have hKb : K + (1) ≤ 4611686018427387904 := by omega
    rw [hK] at hgj ⊢
    have ka0 := kadd1 (n := K) (by omega)
    funext G
    simp only [S.laws_heldInt64S.l5]
    simp [g1, hgj, kj, ka0, -Int.natCast_add, -kbin_add]
    try rfl
  · intro r
    funext G
    have g1 : ¬ ((xs.length : Int) < (ys.length : Int)) := by omega
    simp only [S.laws_heldInt64S.l5, List.take_length]
    simp [g1, -Int.natCast_add]
    try rfl
theorem laws_markInt64S_spec (h : Heap) (v : GV) (xs : List (Int)) (R : List Nat) (k : Nat) (hok : okInt64S xs) (he : rInt64S h [v] xs R) (nd : R.Nodup) (hk : k + cInt64S xs ≤ 4611686018427387904) : ∃ h', HH fn.laws_markInt64S [v, .int .i64 (k : Int)] h = some (.int .i64 ((k + cInt64S xs : Nat) : Int), h') ∧ rInt64S h' [v] (kInt64S xs k) R ∧ Fr R h h' := by
  have hlim : k + cntL (fun x => 1) xs ≤ 4611686018427387904 := hk
  have hlen : xs.length ≤ 1048576 := hok
  have key := mark_loop (E := (RFl ci)) (RFl.good (es := 1) (mk := ci) (fun _ => rfl) (fun _ => rfl)) (m := (fun x k => ((k : Nat) : Int))) (c := (fun x => 1)) (v := v) (xs := xs) (R := R) (k := k) nd (f := fun r j k h => fun (G : GX → GV → GV → Heap → Option (GV × Heap)) => S.laws_markInt64S.l5 (xs.length + 1) G r v (.int .i64 (k : Int)) (.int .i64 0) (.int .i64 (j : Int)) h) (A := fun k h => fun G => G (.ext 0) (.int .i64 (k : Int)) (.int .i64 0) h) ?_ ?_ he (xs.length + 1) (by omega)
  · obtain ⟨h', a1, a2, a3⟩ := key
    refine ⟨h', S.laws_markInt64S.gives (k := xs.length + 1) ?_, a2, a3⟩
    have a1' := fun G => congrFun a1 G
    simp only [show ((0 : Nat) : Int) = 0 from rfl] at a1'
    simp [S.laws_markInt64S.run, a1', -Int.natCast_add]
    rfl
  · intro j r h ys he hl hj hy
    obtain ⟨b, css, c, r0, hv, hb, fl, hcn, hc, fe, hE, hbr, hbR, hrR, nd0, hup⟩ := RSl.focus (RFl.good (es := 1) (mk := ci) (fun _ => rfl) (fun _ => rfl)) he nd (j := j) (by omega)
    have ey : ys[j]'(by omega) = xs[j] := by rw [List.getElem?_eq_getElem (by omega)] at hy; exact Option.some.inj hy
    rw [ey] at hE
    rw [hl] at hv hcn
    have hcl := fe c (List.mem_of_getElem? hc)
    have hb0 : h[b]? = some (css.set j c).flatten := by rw [set_get_self hc]; exact hb
    have q1 := cntL_take (c := (fun x => 1)) hj
    have q2 := cntL_le (c := (fun x => 1)) (xs := xs) (j + 1)
    try simp only at q1
    obtain ⟨K, hK⟩ : ∃ K, k + cntL (fun x => 1) (xs.take j) = K := ⟨_, rfl⟩
    have hKb : K + (1) ≤ 4611686018427387904 := by omega
    rw [hK]
    clear hK q1 q2
    have hm := (RSl.good (RFl.good (es := 1) (mk := ci) (fun _ => rfl) (fun _ => rfl))).mem he
    have hbl := (List.getElem?_eq_some_iff.1 hb).1
    have kj := kadd1 (n := j) (by omega)
    have k0 : kia 1 (.sl b 0 xs.length xs.length 1) (.int .i64 (j : Int)) = some (.ptr b (j) (xs.length)) := kia_at hj (by omega) (by omega)
    obtain ⟨rfl, rfl⟩ := hE
    obtain ⟨H1, m1, hb1, f1⟩ := st_leaf (es := 1) (off := 0) (x := (.int .i64 ((K : Nat) : Int))) (o := j) (tot := xs.length) hb0 fe hcn hj hcl (by omega) rfl rfl (by omega) (by omega)
    have g1 : Fr R h H1 := f1.sub (fun i hi => by rw [List.mem_singleton] at hi; rw [hi]; exact hbR)
    have ka0 := kadd1 (n := K) (by omega)
    have hcl1 : ((ci xs[j]).set 0 (.int .i64 ((K : Nat) : Int))).length = 1 := by rw [List.length_set]; exact hcl
    refine ⟨H1, ?_, hup H1 ((ci xs[j]).set 0 (.int .i64 ((K : Nat) : Int))) _ hb1 ⟨rfl, rfl⟩ (fun i hi hib hir => ?_), g1⟩
    · funext G
      simp only [S.laws_markInt64S.l5, S.laws_markInt64S.n8, S.laws_markInt64S.n10, S.laws_markInt64S.n9, S.laws_markInt64S.n7, S.laws_markInt64S.n6, hv, klen_sl, klt, decide_eq_true hj, kcond_bool, cond_true, kx_nrm, kb_nrm, Option.bind_some, kr_mk, kfa_ptr, kj, Nat.add_zero, kN_eq, bors_cons, bors_nil, bor_int, k0, m1, ka0]
      try rfl
    · exact (f1.2 i (hm i hi) (by simpa using hib))
  · intro r h ys he hl
    have e1 := he.len
    rw [hl] at e1
    funext G
    simp only [S.laws_markInt64S.l5, S.laws_markInt64S.n6, S.laws_markInt64S.n7, S.laws_markInt64S.n8, S.laws_markInt64S.n9, S.laws_markInt64S.n10, e1, klt, Nat.lt_irrefl, decide_false, kcond_bool, cond_false, Option.bind_some, kx_ext, kb_ext]
    try rfl
theorem laws_szInt64S_spec (xs : List (Int)) (left : Int) (hm : xs.length ≤ maxLen) (hl : 0 ≤ left) (hl' : left ≤ 1048576) : NN fn.laws_szInt64S [fzl true 1 ci xs, .int .i64 left] = some (.int .i64 (if left < (zInt64S xs : Int) then -1 else left - zInt64S xs)) := by
  apply S.laws_szInt64S.gives (k := 0)
  have w := wrap_sub hl hl' hm
  simp [S.laws_szInt64S.run, w]
  by_cases h : left < xs.length
  · have : left - xs.length < 0 := by omega
    simp [h, this]
  · have : ¬ (left - xs.length < 0) := by omega
    simp [h, this]
theorem laws_toInt64S_spec (xs : List (Int)) (hm : okInt64S xs) (b : Nat) : ∃ v bl, OO fn.laws_toInt64S [fzl true 1 ci xs] b = some (v, bl) ∧ ∀ H T, H.length = b → rInt64S (H ++ bl ++ T) [v] xs (List.range' b bl.length) := by
  have hm' : xs.length ≤ 1048576 := hm
  have hk := kmake_eq (z := [(.int .i64 0)]) (es := 1) (b := 8) (h := []) hm' (by omega) rfl
  have key := fill_loop (E := (RFl ci)) (RFl.good (es := 1) (mk := ci) (fun _ => rfl) (fun _ => rfl)) (z := [(.int .i64 0)]) rfl (xs := xs) (f := fun r j h => fun (G : GX → GV → GV → Heap → Option (GV × List (List GV))) => S.laws_toInt64S.l6 (xs.length + 1) G r (fzl true 1 ci xs) .nils (.sl 0 0 xs.length xs.length 1) (.int .i64 (j : Int)) h) (A := fun h => fun G => G (.ext 0) .nils (.sl 0 0 xs.length xs.length 1) h) ?_ ?_ (xs.length + 1) (by omega)
  · obtain ⟨css, B, Rs, a1, a2, a3⟩ := key
    have he : rInt64S (css.flatten :: B) [.sl 0 0 xs.length xs.length 1] xs (List.range' 0 (B.length + 1)) := Or.inr ⟨0, css, Rs, rfl, rfl, a2, by rw [a3, List.range'_succ]⟩
    obtain ⟨v, bl, f1, f2⟩ := goodInt64S.fin (by omega) he List.nodup_range' b
    refine ⟨v, bl, S.laws_toInt64S.gives (k := xs.length + 1) ?_, f2⟩
    have a1' := fun G => congrFun a1 G
    simp only [show ((0 : Nat) : Int) = 0 from rfl] at a1'
    simp [S.laws_toInt64S.run, hk, a1', f1]
  · intro j r cells B hj hcl
    have g1 : (j : Int) < xs.length := by omega
    have w := wrap_succ (n := j) (by simp only [maxLen]; omega)
    have hj' : j * 1 + 1 ≤ xs.length * 1 := by omega
    have hj2 : j + 1 ≤ xs.length := hj
    refine ⟨ci xs[j], [], rfl, fun H T _ => ⟨rfl, rfl⟩, funext fun G => ?_⟩
    simp only [S.laws_toInt64S.l6]
    simp [g1, get_of hj, hj, hj', hj2, w, hcl, -splice]
  · intro r h
    funext G
    simp [S.laws_toInt64S.l6]

/-! Parser -/
abbrev mParser (t : Bool) (a : (Int × List (Int) × Int × List (Int))) : List GV := [.int .i64 a.1, fzl t 1 ci a.2.1, .int .i64 a.2.2.1, fzl t 1 ci a.2.2.2]
def zParser (a : (Int × List (Int) × Int × List (Int))) : Nat := zInt64S a.2.1 + zInt64S a.2.2.2
def okParser (a : (Int × List (Int) × Int × List (Int))) : Prop := okInt64S a.2.1 ∧ okInt64S a.2.2.2
theorem okParser_of {a : (Int × List (Int) × Int × List (Int))} (h : zParser a ≤ 1048576) : okParser a := by
  unfold zParser at h
  exact ⟨(show zInt64S a.2.1 ≤ 1048576 by omega), (show zInt64S a.2.2.2 ≤ 1048576 by omega)⟩
@[simp] theorem kloadA_Parser {h : Heap} {t : Bool} {xs : List (Int × List (Int) × Int × List (Int))} {j : Nat} : kloadA 4 h (elp t (mParser t) xs j) = xs[j]?.map fun a => .agg (mParser t a) := kloadA_elp (mk := mParser t) (es := 4) (fun _ => rfl) (by omega)
@[simp] theorem kload1_Parser_0 {h : Heap} {t : Bool} {xs : List ((Int × List (Int) × Int × List (Int)))} {j : Nat} : kload1 h (elf t (mParser t) xs j 0) = xs[j]?.bind fun a => (mParser t a)[0]? := kload1_elf (mk := mParser t) (es := 4) (fun _ => rfl) (by omega)
@[simp] theorem kload1_Parser_1 {h : Heap} {t : Bool} {xs : List ((Int × List (Int) × Int × List (Int)))} {j : Nat} : kload1 h (elf t (mParser t) xs j 1) = xs[j]?.bind fun a => (mParser t a)[1]? := kload1_elf (mk := mParser t) (es := 4) (fun _ => rfl) (by omega)
@[simp] theorem kload1_Parser_2 {h : Heap} {t : Bool} {xs : List ((Int × List (Int) × Int × List (Int)))} {j : Nat} : kload1 h (elf t (mParser t) xs j 2) = xs[j]?.bind fun a => (mParser t a)[2]? := kload1_elf (mk := mParser t) (es := 4) (fun _ => rfl) (by omega)
@[simp] theorem kload1_Parser_3 {h : Heap} {t : Bool} {xs : List ((Int × List (Int) × Int × List (Int)))} {j : Nat} : kload1 h (elf t (mParser t) xs j 3) = xs[j]?.bind fun a => (mParser t a)[3]? := kload1_elf (mk := mParser t) (es := 4) (fun _ => rfl) (by omega)
@[simp] theorem kia_Parser {t : Bool} {xs : List ((Int × List (Int) × Int × List (Int)))} {k : IntKind} {i : Int} : kia 4 (fzl t 4 (mParser t) xs) (.int k i) = if 0 ≤ i ∧ i < xs.length then some (elp t (mParser t) xs i.toNat) else none := kia_fzl (es := 4) (fun _ => rfl)
theorem ld_Parser {d : Nat} {t : Bool} (a : (Int × List (Int) × Int × List (Int))) : (mParser t a).map (lend (d + 1)) = mParser true a := map_cons' lend_int (map_cons' (lend_fzl (d := d) (mk := ci) (mk' := ci) (fun a => map_cons' lend_int rfl) a.2.1) (map_cons' lend_int (map_cons' (lend_fzl (d := d) (mk := ci) (mk' := ci) (fun a => map_cons' lend_int rfl) a.2.2.2) (rfl))))
@[simp] theorem bor_Parser {d : Nat} {h : Heap} {t : Bool} {xs : List ((Int × List (Int) × Int × List (Int)))} : bor (d + 3) h (fzl t 4 (mParser t) xs) = some (fzl true 4 (mParser true) xs, []) := bor_fzl (d := d + 2) (fun a => ld_Parser (d := d + 1) a) xs
open Classical in
theorem laws_eqParser_spec (a_1 b_1 : Int) (a_2 b_2 : List (Int)) (a_3 b_3 : Int) (a_4 b_4 : List (Int)) (hm : okParser (a_1, a_2, a_3, a_4)) : NN fn.laws_eqParser [.agg [.int .i64 a_1, fzl true 1 ci a_2, .int .i64 a_3, fzl true 1 ci a_4], .agg [.int .i64 b_1, fzl true 1 ci b_2, .int .i64 b_3, fzl true 1 ci b_4]] = some (.bool (decide ((a_1, a_2, a_3, a_4) = (b_1, b_2, b_3, b_4)))) := by
  apply S.laws_eqParser.gives (k := 0)
  unfold okParser at hm
  by_cases c0 : a_1 = b_1
  rotate_left
  · have e : ¬ ((a_1, a_2, a_3, a_4) = (b_1, b_2, b_3, b_4)) := fun e => c0 (by simp only [Prod.mk.injEq] at e ⊢; simp [e])
    rw [decide_eq_false e]
    simp [S.laws_eqParser.run, c0]
  have s1 := laws_eqInt64S_spec a_2 b_2 hm.1
  by_cases c1 : a_2 = b_2
  rotate_left
  · have e : ¬ ((a_1, a_2, a_3, a_4) = (b_1, b_2, b_3, b_4)) := fun e => c1 (by simp only [Prod.mk.injEq] at e ⊢; simp [e])
    rw [decide_eq_false e]
    rw [decide_eq_false c1] at s1
    simp [S.laws_eqParser.run, c0, s1]
  rw [decide_eq_true c1] at s1
  by_cases c2 : a_3 = b_3
  rotate_left
  · have e : ¬ ((a_1, a_2, a_3, a_4) = (b_1, b_2, b_3, b_4)) := fun e => c2 (by simp only [Prod.mk.injEq] at e ⊢; simp [e])
    rw [decide_eq_false e]
    simp [S.laws_eqParser.run, c0, s1, c2]
  have s3 := laws_eqInt64S_spec a_4 b_4 hm.2
  by_cases c3 : a_4 = b_4
  rotate_left
  · have e : ¬ ((a_1, a_2, a_3, a_4) = (b_1, b_2, b_3, b_4)) := fun e => c3 (by simp only [Prod.mk.injEq] at e ⊢; simp [e])
    rw [decide_eq_false e]
    rw [decide_eq_false c3] at s3
    simp [S.laws_eqParser.run, c0, s1, c2, s3]
  rw [decide_eq_true c3] at s3
  have e : (a_1, a_2, a_3, a_4) = (b_1, b_2, b_3, b_4) := by rw [c0, c1, c2, c3]
  rw [decide_eq_true e]
  simp [S.laws_eqParser.run, c0, s1, c2, s3]

/-! Action -/
abbrev mAction (t : Bool) (a : (Int × Int × List (Int) × Int × List (Int))) : List GV := [.int .i64 a.1, .int .i64 a.2.1, fzl t 1 ci a.2.2.1, .int .i64 a.2.2.2.1, fzl t 1 ci a.2.2.2.2]
def zAction (a : (Int × Int × List (Int) × Int × List (Int))) : Nat := zInt64S a.2.2.1 + zInt64S a.2.2.2.2
def okAction (a : (Int × Int × List (Int) × Int × List (Int))) : Prop := okInt64S a.2.2.1 ∧ okInt64S a.2.2.2.2
theorem okAction_of {a : (Int × Int × List (Int) × Int × List (Int))} (h : zAction a ≤ 1048576) : okAction a := by
  unfold zAction at h
  exact ⟨(show zInt64S a.2.2.1 ≤ 1048576 by omega), (show zInt64S a.2.2.2.2 ≤ 1048576 by omega)⟩
@[simp] theorem kloadA_Action {h : Heap} {t : Bool} {xs : List (Int × Int × List (Int) × Int × List (Int))} {j : Nat} : kloadA 5 h (elp t (mAction t) xs j) = xs[j]?.map fun a => .agg (mAction t a) := kloadA_elp (mk := mAction t) (es := 5) (fun _ => rfl) (by omega)
@[simp] theorem kload1_Action_0 {h : Heap} {t : Bool} {xs : List ((Int × Int × List (Int) × Int × List (Int)))} {j : Nat} : kload1 h (elf t (mAction t) xs j 0) = xs[j]?.bind fun a => (mAction t a)[0]? := kload1_elf (mk := mAction t) (es := 5) (fun _ => rfl) (by omega)
@[simp] theorem kload1_Action_1 {h : Heap} {t : Bool} {xs : List ((Int × Int × List (Int) × Int × List (Int)))} {j : Nat} : kload1 h (elf t (mAction t) xs j 1) = xs[j]?.bind fun a => (mAction t a)[1]? := kload1_elf (mk := mAction t) (es := 5) (fun _ => rfl) (by omega)
@[simp] theorem kload1_Action_2 {h : Heap} {t : Bool} {xs : List ((Int × Int × List (Int) × Int × List (Int)))} {j : Nat} : kload1 h (elf t (mAction t) xs j 2) = xs[j]?.bind fun a => (mAction t a)[2]? := kload1_elf (mk := mAction t) (es := 5) (fun _ => rfl) (by omega)
@[simp] theorem kload1_Action_3 {h : Heap} {t : Bool} {xs : List ((Int × Int × List (Int) × Int × List (Int)))} {j : Nat} : kload1 h (elf t (mAction t) xs j 3) = xs[j]?.bind fun a => (mAction t a)[3]? := kload1_elf (mk := mAction t) (es := 5) (fun _ => rfl) (by omega)
@[simp] theorem kload1_Action_4 {h : Heap} {t : Bool} {xs : List ((Int × Int × List (Int) × Int × List (Int)))} {j : Nat} : kload1 h (elf t (mAction t) xs j 4) = xs[j]?.bind fun a => (mAction t a)[4]? := kload1_elf (mk := mAction t) (es := 5) (fun _ => rfl) (by omega)
@[simp] theorem kia_Action {t : Bool} {xs : List ((Int × Int × List (Int) × Int × List (Int)))} {k : IntKind} {i : Int} : kia 5 (fzl t 5 (mAction t) xs) (.int k i) = if 0 ≤ i ∧ i < xs.length then some (elp t (mAction t) xs i.toNat) else none := kia_fzl (es := 5) (fun _ => rfl)
theorem ld_Action {d : Nat} {t : Bool} (a : (Int × Int × List (Int) × Int × List (Int))) : (mAction t a).map (lend (d + 1)) = mAction true a := map_cons' lend_int (map_cons' lend_int (map_cons' (lend_fzl (d := d) (mk := ci) (mk' := ci) (fun a => map_cons' lend_int rfl) a.2.2.1) (map_cons' lend_int (map_cons' (lend_fzl (d := d) (mk := ci) (mk' := ci) (fun a => map_cons' lend_int rfl) a.2.2.2.2) (rfl)))))
@[simp] theorem bor_Action {d : Nat} {h : Heap} {t : Bool} {xs : List ((Int × Int × List (Int) × Int × List (Int)))} : bor (d + 3) h (fzl t 5 (mAction t) xs) = some (fzl true 5 (mAction true) xs, []) := bor_fzl (d := d + 2) (fun a => ld_Action (d := d + 1) a) xs
open Classical in
theorem laws_eqAction_spec (a_1 b_1 : Int) (a_2 b_2 : Int) (a_3 b_3 : List (Int)) (a_4 b_4 : Int) (a_5 b_5 : List (Int)) (hm : okAction (a_1, a_2, a_3, a_4, a_5)) : NN fn.laws_eqAction [.agg [.int .i64 a_1, .int .i64 a_2, fzl true 1 ci a_3, .int .i64 a_4, fzl true 1 ci a_5], .agg [.int .i64 b_1, .int .i64 b_2, fzl true 1 ci b_3, .int .i64 b_4, fzl true 1 ci b_5]] = some (.bool (decide ((a_1, a_2, a_3, a_4, a_5) = (b_1, b_2, b_3, b_4, b_5)))) := by
  apply S.laws_eqAction.gives (k := 0)
  unfold okAction at hm
  by_cases c0 : a_1 = b_1
  rotate_left
  · have e : ¬ ((a_1, a_2, a_3, a_4, a_5) = (b_1, b_2, b_3, b_4, b_5)) := fun e => c0 (by simp only [Prod.mk.injEq] at e ⊢; simp [e])
    rw [decide_eq_false e]
    simp [S.laws_eqAction.run, c0]
  by_cases c1 : a_2 = b_2
  rotate_left
  · have e : ¬ ((a_1, a_2, a_3, a_4, a_5) = (b_1, b_2, b_3, b_4, b_5)) := fun e => c1 (by simp only [Prod.mk.injEq] at e ⊢; simp [e])
    rw [decide_eq_false e]
    simp [S.laws_eqAction.run, c0, c1]
  have s2 := laws_eqInt64S_spec a_3 b_3 hm.1
  by_cases c2 : a_3 = b_3
  rotate_left
  · have e : ¬ ((a_1, a_2, a_3, a_4, a_5) = (b_1, b_2, b_3, b_4, b_5)) := fun e => c2 (by simp only [Prod.mk.injEq] at e ⊢; simp [e])
    rw [decide_eq_false e]
    rw [decide_eq_false c2] at s2
    simp [S.laws_eqAction.run, c0, c1, s2]
  rw [decide_eq_true c2] at s2
  by_cases c3 : a_4 = b_4
  rotate_left
  · have e : ¬ ((a_1, a_2, a_3, a_4, a_5) = (b_1, b_2, b_3, b_4, b_5)) := fun e => c3 (by simp only [Prod.mk.injEq] at e ⊢; simp [e])
    rw [decide_eq_false e]
    simp [S.laws_eqAction.run, c0, c1, s2, c3]
  have s4 := laws_eqInt64S_spec a_5 b_5 hm.2
  by_cases c4 : a_5 = b_5
  rotate_left
  · have e : ¬ ((a_1, a_2, a_3, a_4, a_5) = (b_1, b_2, b_3, b_4, b_5)) := fun e => c4 (by simp only [Prod.mk.injEq] at e ⊢; simp [e])
    rw [decide_eq_false e]
    rw [decide_eq_false c4] at s4
    simp [S.laws_eqAction.run, c0, c1, s2, c3, s4]
  rw [decide_eq_true c4] at s4
  have e : (a_1, a_2, a_3, a_4, a_5) = (b_1, b_2, b_3, b_4, b_5) := by rw [c0, c1, c2, c3, c4]
  rw [decide_eq_true e]
  simp [S.laws_eqAction.run, c0, c1, s2, c3, s4]
abbrev rParser : Rel ((Int × List (Int) × Int × List (Int))) := (RSeq (RFl ci) (RSeq rInt64S (RSeq (RFl ci) rInt64S)))
theorem goodParser : Good 4 2 (mParser true) rParser := (RSeq.good ((RFl.good (es := 1) (mk := ci) (fun _ => rfl) (fun _ => rfl)).mono (by omega)) (RSeq.good (goodInt64S.mono (by omega)) (RSeq.good ((RFl.good (es := 1) (mk := ci) (fun _ => rfl) (fun _ => rfl)).mono (by omega)) (goodInt64S.mono (by omega)))))
def cParser (x : (Int × List (Int) × Int × List (Int))) : Nat := cInt64S x.2.1 + cInt64S x.2.2.2
theorem cParser_le {x : (Int × List (Int) × Int × List (Int))} (h : okParser x) : cParser x ≤ 2097152 := by
  unfold okParser at h
  unfold cParser
  have := cInt64S_le h.1
  have := cInt64S_le h.2
  omega
noncomputable def kParser (x : (Int × List (Int) × Int × List (Int))) (k : Nat) : (Int × List (Int) × Int × List (Int)) := (x.1, kInt64S x.2.1 (k), x.2.2.1, kInt64S x.2.2.2 (k + cInt64S x.2.1))
theorem laws_heldParser_spec (x : (Int × List (Int) × Int × List (Int))) (k : Nat) (hok : okParser x) (hk : k + cParser x ≤ 4611686018427387904) : NN fn.laws_heldParser [.agg (mParser true (kParser x k)), .int .i64 (k : Int)] = some (.int .i64 ((k + cParser x : Nat) : Int)) := by
  unfold okParser at hok
  unfold cParser at hk
  apply S.laws_heldParser.gives (k := 0)
  have s1 := laws_heldInt64S_spec x.2.1 (k) hok.1 (by omega)
  have z1 : ¬ (((k + cInt64S x.2.1 : Nat) : Int) < 0) := by omega
  have s3 := laws_heldInt64S_spec x.2.2.2 (k + cInt64S x.2.1) hok.2 (by omega)
  have z3 : ¬ (((k + cInt64S x.2.1 + cInt64S x.2.2.2 : Nat) : Int) < 0) := by omega
  simp only [kParser, cParser, ← Nat.add_assoc]
  simp [S.laws_heldParser.run, s1, z1, s3, z3, -Int.natCast_add]
theorem laws_markParser_spec (h : Heap) (c : List GV) (x : (Int × List (Int) × Int × List (Int))) (R : List Nat) (k : Nat) (hok : okParser x) (he : rParser h c x R) (nd : R.Nodup) (hk : k + cParser x ≤ 4611686018427387904) : ∃ h', HH fn.laws_markParser [.agg c, .int .i64 (k : Int)] h = some (.int .i64 ((k + cParser x : Nat) : Int), h') ∧ rParser h' c (kParser x k) R ∧ Fr R h h' := by
  have ek : k + cParser x = k + cInt64S x.2.1 + cInt64S x.2.2.2 := by unfold cParser; omega
  rw [ek] at hk ⊢
  unfold okParser at hok
  have hcl := goodParser.len he
  have hm := goodParser.mem he
  have he0 := goodParser.grow (t := [c]) he
  have hb0 : (h ++ [c])[h.length]? = some c := by simp
  have hbox : ∀ {Q : Type} (K : GV → Heap → Option Q), kbox (.agg c) h K = K (.ptr h.length 0 4) (h ++ [c]) := fun K => by rw [kbox_agg, hcl]
  obtain ⟨H0, hH0⟩ : ∃ H0, h ++ [c] = H0 := ⟨_, rfl⟩
  have g0 : Fr R h H0 := by rw [← hH0]; exact .app
  have hl0 : h.length < H0.length := by rw [← hH0]; simp
  rw [hH0] at he0 hb0
  simp only [hH0] at hbox
  obtain ⟨c0, d0, R0, S0, rfl, rfl, E0, F0⟩ := he0
  have N0 := List.nodup_append.1 nd
  obtain ⟨rfl, rfl⟩ := E0
  obtain ⟨c1, d1, R1, S1, rfl, rfl, E1, F1⟩ := F0
  have N1 := List.nodup_append.1 N0.2.1
  obtain ⟨w1, rfl⟩ : ∃ w, c1 = [w] := List.length_eq_one_iff.1 (goodInt64S.len E1)
  obtain ⟨c2, d2, R2, S2, rfl, rfl, E2, F2⟩ := F1
  have N2 := List.nodup_append.1 N1.2.1
  obtain ⟨rfl, rfl⟩ := E2
  have E3 := F2
  obtain ⟨w3, rfl⟩ : ∃ w, d2 = [w] := List.length_eq_one_iff.1 (goodInt64S.len E3)
  have l1 : kload1 H0 (.ptr h.length 1 4) = some w1 := by rw [kload1_at hb0 hcl]; rfl
  obtain ⟨H1, m1, x1, f1⟩ := laws_markInt64S_spec H0 w1 x.2.1 R1 (k) hok.1 E1 (N1.1) (by omega)
  have i1 : h.length ∉ R1 := fun hz => by have := hm h.length (by simp [hz]); omega
  have hb1 : H1[h.length]? = some _ := (f1.2 _ (by omega) i1).trans hb0
  have y1_3 := goodInt64S.keep E3 f1 (fun z h1 h2 => N1.2.2 z h2 z (by simp [h1]) rfl)
  have l3 : kload1 H1 (.ptr h.length 3 4) = some w3 := by rw [kload1_at hb1 hcl]; rfl
  obtain ⟨H2, m3, x3, f3⟩ := laws_markInt64S_spec H1 w3 x.2.2.2 S2 (k + cInt64S x.2.1) hok.2 y1_3 (N2.2.1) (by omega)
  have i3 : h.length ∉ S2 := fun hz => by have := hm h.length (by simp [hz]); omega
  have hb2 : H2[h.length]? = some _ := (f3.2 _ (by have := f1.1; omega) i3).trans hb1
  have y3_1 := goodInt64S.keep x1 f3 (fun z h1 h2 => N1.2.2 z h1 z (by simp [h2]) rfl)
  refine ⟨H2, S.laws_markParser.gives (k := 0) ?_, ⟨_, _, _, _, rfl, rfl, ⟨rfl, rfl⟩, ⟨_, _, _, _, rfl, rfl, y3_1, ⟨_, _, _, _, rfl, rfl, ⟨rfl, rfl⟩, x3⟩⟩⟩, ((g0.trans (f1.sub (fun z hz => by simp [hz]))).trans (f3.sub (fun z hz => by simp [hz])))⟩
  simp only [S.laws_markParser.run, S.laws_markParser.n0, hbox, l1, m1, l3, m3, kfa_ptr, Nat.zero_add, Option.bind_some, kr_mk, kend_ret, finH_eq]
theorem laws_szParser_spec (a_1 : Int) (a_2 : List (Int)) (a_3 : Int) (a_4 : List (Int)) (left : Int) (hi : ((Lit.int .i64 a_1).wf = true) ∧ ((inSl (fun x1 : Int => (Lit.int .i64 x1).wf = true) a_2) ∧ (((Lit.int .i64 a_3).wf = true) ∧ (inSl (fun x1 : Int => (Lit.int .i64 x1).wf = true) a_4)))) (hl : 0 ≤ left) (hl' : left ≤ 1048576) : NN fn.laws_szParser [.agg [.int .i64 a_1, fzl true 1 ci a_2, .int .i64 a_3, fzl true 1 ci a_4], .int .i64 left] = some (.int .i64 (if left < (zParser (a_1, a_2, a_3, a_4) : Int) then -1 else left - zParser (a_1, a_2, a_3, a_4))) := by
  apply S.laws_szParser.gives (k := 0)
  show _ = some (GV.int .i64 (if left < ((zInt64S a_2 + zInt64S a_4 : Nat) : Int) then -1 else left - ((zInt64S a_2 + zInt64S a_4 : Nat) : Int)))
  have s0 := laws_szInt64S_spec a_2 (left) hi.2.1.1 (by omega) (by omega)
  by_cases c0 : left < ((zInt64S a_2 : Nat) : Int)
  · have d0 : left - ((zInt64S a_2 : Nat) : Int) < 0 := by omega
    rw [if_pos (by omega : left < ((zInt64S a_2 + zInt64S a_4 : Nat) : Int))]
    simp [S.laws_szParser.run, s0, c0, d0]
  have d0 : ¬ (left - ((zInt64S a_2 : Nat) : Int) < 0) := by omega
  have s1 := laws_szInt64S_spec a_4 (left - ((zInt64S a_2 : Nat) : Int)) hi.2.2.2.1 (by omega) (by omega)
  by_cases c1 : left - ((zInt64S a_2 : Nat) : Int) < ((zInt64S a_4 : Nat) : Int)
  · have d1 : left - ((zInt64S a_2 : Nat) : Int) - ((zInt64S a_4 : Nat) : Int) < 0 := by omega
    rw [if_pos (by omega : left < ((zInt64S a_2 + zInt64S a_4 : Nat) : Int))]
    simp [S.laws_szParser.run, s0, c0, d0, s1, c1, d1]
  have d1 : ¬ (left - ((zInt64S a_2 : Nat) : Int) - ((zInt64S a_4 : Nat) : Int) < 0) := by omega
  rw [if_neg (by omega)]
  simp [S.laws_szParser.run, s0, c0, d0, s1, c1, d1]
  try omega
theorem laws_toParser_spec (x : (Int × List (Int) × Int × List (Int))) (hm : okParser x) (b : Nat) : ∃ c bl, OO fn.laws_toParser [.agg (mParser true x)] b = some (.agg c, bl) ∧ ∀ H T, H.length = b → rParser (H ++ bl ++ T) c x (List.range' b bl.length) := by
  unfold okParser at hm
  obtain ⟨v1, B1, o1, e1⟩ := laws_toInt64S_spec x.2.1 hm.1 (3)
  have vc1 := cell_of (e1 (List.replicate (3) []) [] (by simp))
  obtain ⟨v3, B3, o3, e3⟩ := laws_toInt64S_spec x.2.2.2 hm.2 (B1.length + 3)
  have vc3 := cell_of (e3 (List.replicate (B1.length + 3) []) [] (by simp))
  have he : ∀ a o1 o2 : List GV, rParser ([a, o1, o2] ++ B1 ++ B3) (ci x.1 ++ ([v1] ++ (ci x.2.2.1 ++ ([v3])))) x ([] ++ (List.range' (3) B1.length ++ ([] ++ (List.range' (B1.length + 3) B3.length)))) := fun a o1 o2 => ⟨_, _, _, _, rfl, rfl, ⟨rfl, rfl⟩, ⟨_, _, _, _, rfl, rfl, (by have := e1 ([a, o1, o2]) (B3) (by simp <;> omega); simpa using this), ⟨_, _, _, _, rfl, rfl, ⟨rfl, rfl⟩, (by have := e3 ([a, o1, o2] ++ B1) ([]) (by simp <;> omega); simpa using this)⟩⟩⟩
  have nd : ([] ++ (List.range' (3) B1.length ++ ([] ++ (List.range' (B1.length + 3) B3.length)))).Nodup := (nd_range List.nodup_range' (lb_range (by omega)))
  obtain ⟨c, bl, f1, f2⟩ := goodParser.finS (by omega) (he (mParser true x) (ci x.1 ++ ([v1] ++ (ci x.2.2.1 ++ ([v3])))) (ci x.1 ++ ([v1] ++ (ci x.2.2.1 ++ ([v3]))))) nd b
  refine ⟨c, bl, S.laws_toParser.gives (k := 0) ?_, f2⟩
  simp [S.laws_toParser.run, o1, vc1.1, vc1.2, o3, vc3.1, vc3.2]
  simpa using f1

/-! ActionS -/
abbrev mActionS (t : Bool) (a : List ((Int × Int × List (Int) × Int × List (Int)))) : List GV := [fzl t 5 (mAction t) a]
def zActionS (a : List ((Int × Int × List (Int) × Int × List (Int)))) : Nat := a.length + (a.map fun x => zAction x).sum
def okActionS (a : List ((Int × Int × List (Int) × Int × List (Int)))) : Prop := a.length ≤ 1048576 ∧ ∀ x ∈ a, okAction x
theorem okActionS_of {a : List ((Int × Int × List (Int) × Int × List (Int)))} (h : zActionS a ≤ 1048576) : okActionS a := by
  unfold zActionS at h
  refine ⟨by omega, fun x hx => ?_⟩
  have : zAction x ≤ _ := sum_mem (c := fun x => zAction x) hx
  exact okAction_of (by omega)
@[simp] theorem kload1_ActionS {h : Heap} {t : Bool} {xs : List (List ((Int × Int × List (Int) × Int × List (Int))))} {j : Nat} : kload1 h (elp t (mActionS t) xs j) = xs[j]?.map fun a => fzl t 5 (mAction t) a := kload1_elp _ (fun _ => rfl)
@[simp] theorem kia_ActionS {t : Bool} {xs : List (List ((Int × Int × List (Int) × Int × List (Int))))} {k : IntKind} {i : Int} : kia 1 (fzl t 1 (mActionS t) xs) (.int k i) = if 0 ≤ i ∧ i < xs.length then some (elp t (mActionS t) xs i.toNat) else none := kia_fzl (es := 1) (fun _ => rfl)
theorem ld_ActionS {d : Nat} {t : Bool} (a : List ((Int × Int × List (Int) × Int × List (Int)))) : (mActionS t a).map (lend (d + 2)) = mActionS true a := map_cons' (lend_fzl (d := d + 1) (mk := (mAction t)) (mk' := (mAction true)) (fun a => ld_Action (d := d) a) a) (rfl)
@[simp] theorem bor_ActionS {d : Nat} {h : Heap} {t : Bool} {xs : List (List ((Int × Int × List (Int) × Int × List (Int))))} : bor (d + 4) h (fzl t 1 (mActionS t) xs) = some (fzl true 1 (mActionS true) xs, []) := bor_fzl (d := d + 3) (fun a => ld_ActionS (d := d + 1) a) xs
open Classical in
theorem laws_eqActionS_spec (xs ys : List ((Int × Int × List (Int) × Int × List (Int)))) (hm : okActionS xs) : NN fn.laws_eqActionS [fzl true 5 (mAction true) xs, fzl true 5 (mAction true) ys] = some (.bool (decide (xs = ys))) := by
  apply S.laws_eqActionS.gives (k := xs.length + 1)
  have hm' : xs.length ≤ 1048576 := hm.1
  simp [S.laws_eqActionS.run]
  by_cases hl : xs.length = ys.length
  · have hi : (xs.length : Int) = ys.length := by omega
    simp [hi]
    refine (loop_all (f := fun r j => S.laws_eqActionS.l6 _ _ r _ _ _ (.int .i64 (j : Int)) _) (A := some (GV.bool true)) (B := some (GV.bool false)) (n := xs.length) (P := fun j => xs[j]? = ys[j]?) (fun j r hj => ?_) (fun r => ?_) (xs.length + 1) 0 (by omega) (by omega)).trans ?_
    · have h1 : (j : Int) < xs.length := by omega
      have h2 : (j : Int) < ys.length := by omega
      have h3 : j < ys.length := by omega
      have w := wrap_succ (n := j) (by simp only [maxLen]; omega)
      have sp := laws_eqAction_spec xs[j].1 ys[j].1 xs[j].2.1 ys[j].2.1 xs[j].2.2.1 ys[j].2.2.1 xs[j].2.2.2.1 ys[j].2.2.2.1 xs[j].2.2.2.2 ys[j].2.2.2.2  (hm.2 _ (List.getElem_mem hj))
      by_cases hc : xs[j] = ys[j]
      · have e1 : (xs[j].1, xs[j].2.1, xs[j].2.2.1, xs[j].2.2.2.1, xs[j].2.2.2.2) = (ys[j].1, ys[j].2.1, ys[j].2.2.1, ys[j].2.2.2.1, ys[j].2.2.2.2) := hc
        rw [decide_eq_true e1] at sp
        refine Eq.trans ?_ (if_pos (by rw [get_of hj, get_of h3, hc])).symm
        simp [S.laws_eqActionS.l6, h1, h2, get_of hj, get_of h3, w, sp]
      · have e1 : ¬ ((xs[j].1, xs[j].2.1, xs[j].2.2.1, xs[j].2.2.2.1, xs[j].2.2.2.2) = (ys[j].1, ys[j].2.1, ys[j].2.2.1, ys[j].2.2.2.1, ys[j].2.2.2.2)) := hc
        rw [decide_eq_false e1] at sp
        refine Eq.trans ?_ (if_neg (by rw [get_of hj, get_of h3]; exact fun h => hc (Option.some.inj h))).symm
        simp [S.laws_eqActionS.l6, h1, h2, get_of hj, get_of h3, w, sp]
    · simp [S.laws_eqActionS.l6]
    · simp [list_eq_iff hl]
      by_cases hx : xs = ys <;> simp [hx]
  · have : ¬ ((xs.length : Int) = ys.length) := by omega
    have hne : xs ≠ ys := fun h => hl (by rw [h])
    simp [this, hne]
abbrev rAction : Rel ((Int × Int × List (Int) × Int × List (Int))) := (RSeq (RFl ci) (RSeq (RFl ci) (RSeq rInt64S (RSeq (RFl ci) rInt64S))))
theorem goodAction : Good 5 2 (mAction true) rAction := (RSeq.good ((RFl.good (es := 1) (mk := ci) (fun _ => rfl) (fun _ => rfl)).mono (by omega)) (RSeq.good ((RFl.good (es := 1) (mk := ci) (fun _ => rfl) (fun _ => rfl)).mono (by omega)) (RSeq.good (goodInt64S.mono (by omega)) (RSeq.good ((RFl.good (es := 1) (mk := ci) (fun _ => rfl) (fun _ => rfl)).mono (by omega)) (goodInt64S.mono (by omega))))))
def cAction (x : (Int × Int × List (Int) × Int × List (Int))) : Nat := cInt64S x.2.2.1 + cInt64S x.2.2.2.2
theorem cAction_le {x : (Int × Int × List (Int) × Int × List (Int))} (h : okAction x) : cAction x ≤ 2097152 := by
  unfold okAction at h
  unfold cAction
  have := cInt64S_le h.1
  have := cInt64S_le h.2
  omega
noncomputable def kAction (x : (Int × Int × List (Int) × Int × List (Int))) (k : Nat) : (Int × Int × List (Int) × Int × List (Int)) := (x.1, x.2.1, kInt64S x.2.2.1 (k), x.2.2.2.1, kInt64S x.2.2.2.2 (k + cInt64S x.2.2.1))
abbrev rActionS : Rel (List ((Int × Int × List (Int) × Int × List (Int)))) := RSl 5 rAction
theorem goodActionS : Good 1 3 (mActionS true) rActionS := RSl.good goodAction
def cActionS (xs : List ((Int × Int × List (Int) × Int × List (Int)))) : Nat := cntL (fun x => 1 + 1 + (cInt64S x.2.2.1) + 1 + (cInt64S x.2.2.2.2)) xs
noncomputable def kActionS (xs : List ((Int × Int × List (Int) × Int × List (Int)))) (k : Nat) : List ((Int × Int × List (Int) × Int × List (Int))) := markL (fun x k => (((k : Nat) : Int), ((k + 1 : Nat) : Int), kInt64S x.2.2.1 (k + 1 + 1), ((k + 1 + 1 + (cInt64S x.2.2.1) : Nat) : Int), kInt64S x.2.2.2.2 (k + 1 + 1 + (cInt64S x.2.2.1) + 1))) (fun x => 1 + 1 + (cInt64S x.2.2.1) + 1 + (cInt64S x.2.2.2.2)) xs k
theorem cActionS_le {xs : List ((Int × Int × List (Int) × Int × List (Int)))} (h : okActionS xs) : cActionS xs ≤ 2199026401280 := cntL_bound (M := 1048576) (B := 2097155) (h.1) (fun x hx => by have := cInt64S_le ((show okAction x from h.2 x hx).1); have := cInt64S_le ((show okAction x from h.2 x hx).2); show _ ≤ _; omega)
theorem laws_heldActionS_spec (xs : List ((Int × Int × List (Int) × Int × List (Int)))) (k : Nat) (hok : okActionS xs) (hk : k + cActionS xs ≤ 4611686018427387904) : NN fn.laws_heldActionS [(fzl true 5 (mAction true) (kActionS xs k)), .int .i64 (k : Int)] = some (.int .i64 ((k + cActionS xs : Nat) : Int)) := by
  have hlim : k + cntL (fun x => 1 + 1 + (cInt64S x.2.2.1) + 1 + (cInt64S x.2.2.2.2)) xs ≤ 4611686018427387904 := hk
  have hlen : xs.length ≤ 1048576 := hok.1
  obtain ⟨ys, hys⟩ : ∃ ys, kActionS xs k = ys := ⟨_, rfl⟩
  have hl : ys.length = xs.length := by rw [← hys]; exact markL_len _ _
  have hg : ∀ j (hj : j < xs.length), ys[j]? = some (((((k + cntL (fun x => 1 + 1 + (cInt64S x.2.2.1) + 1 + (cInt64S x.2.2.2.2)) (xs.take j)) : Nat) : Int), (((k + cntL (fun x => 1 + 1 + (cInt64S x.2.2.1) + 1 + (cInt64S x.2.2.2.2)) (xs.take j)) + 1 : Nat) : Int), kInt64S xs[j].2.2.1 ((k + cntL (fun x => 1 + 1 + (cInt64S x.2.2.1) + 1 + (cInt64S x.2.2.2.2)) (xs.take j)) + 1 + 1), (((k + cntL (fun x => 1 + 1 + (cInt64S x.2.2.1) + 1 + (cInt64S x.2.2.2.2)) (xs.take j)) + 1 + 1 + (cInt64S xs[j].2.2.1) : Nat) : Int), kInt64S xs[j].2.2.2.2 ((k + cntL (fun x => 1 + 1 + (cInt64S x.2.2.1) + 1 + (cInt64S x.2.2.2.2)) (xs.take j)) + 1 + 1 + (cInt64S xs[j].2.2.1) + 1))) := fun j hj => by rw [← hys]; exact markL_get xs k j hj
  rw [hys]
  apply S.laws_heldActionS.gives (k := xs.length + 1)
  have key := loop_to (f := fun r j => fun (G : GX → GV → GV → Heap → Option GV) => S.laws_heldActionS.l5 (xs.length + 1) G r (fzl true 5 (mAction true) ys) (.int .i64 ((k + cntL (fun x => 1 + 1 + (cInt64S x.2.2.1) + 1 + (cInt64S x.2.2.2.2)) (xs.take j) : Nat) : Int)) (.int .i64 0) (.int .i64 (j : Int)) []) (A := fun G => G (.ext 0) (.int .i64 ((k + cActionS xs : Nat) : Int)) (.int .i64 0) []) (n := xs.length) ?_ ?_ (xs.length + 1) 0 (by omega) (by omega)
  · have key' := fun G => congrFun key G
    simp only [List.take_zero, cntL, List.map_nil, List.sum_nil, Nat.add_zero, show ((0 : Nat) : Int) = 0 from rfl] at key'
    simp [S.laws_heldActionS.run, key', -Int.natCast_add]
  · intro j r hj
    have g1 : (j : Int) < (ys.length : Int) := by omega
    have kj := kadd1 (n := j) (by omega)
    have q1 := cntL_take (c := (fun x => 1 + 1 + (cInt64S x.2.2.1) + 1 + (cInt64S x.2.2.2.2))) hj
    have q2 := cntL_le (c := (fun x => 1 + 1 + (cInt64S x.2.2.1) + 1 + (cInt64S x.2.2.2.2))) (xs := xs) (j + 1)
    have hgj := hg j hj
    try simp only at q1
    rw [q1, ← Nat.add_assoc]
    obtain ⟨K, hK⟩ : ∃ K, k + cntL (fun x => 1 + 1 + (cInt64S x.2.2.1) + 1 + (cInt64S x.2.2.2.2)) (xs.take j) = K := ⟨_, rfl⟩
    have hKb : K + (1 + 1 + (cInt64S xs[j].2.2.1) + 1 + (cInt64S xs[j].2.2.2.2)) ≤ 4611686018427387904 := by omega
    rw [hK] at hgj ⊢
    have ka0 := kadd1 (n := K) (by omega)
    have ka1 := kadd1 (n := K + 1) (by omega)
    have s2 := laws_heldInt64S_spec (xs[j].2.2.1) (K + 1 + 1) ((show okAction _ from (hok.2 _ (List.getElem_mem hj))).1) (by omega)
    have z2 : ¬ (((K + 1 + 1 + (cInt64S xs[j].2.2.1) : Nat) : Int) < 0) := by omega
    have ka3 := kadd1 (n := K + 1 + 1 + (cInt64S xs[j].2.2.1)) (by omega)
    have s4 := laws_heldInt64S_spec (xs[j].2.2.2.2) (K + 1 + 1 + (cInt64S xs[j].2.2.1) + 1) ((show okAction _ from (hok.2 _ (List.getElem_mem hj))).2) (by omega)
    have z4 : ¬ (((K + 1 + 1 + (cInt64S xs[j].2.2.1) + 1 + (cInt64S xs[j].2.2.2.2) : Nat) : Int) < 0) := by omega
    rw [show K + (1 + 1 + (cInt64S xs[j].2.2.1) + 1 + (cInt64S xs[j].2.2.2.2)) = K + 1 + 1 + (cInt64S xs[j].2.2.1) + 1 + (cInt64S xs[j].2.2.2.2) from by omega]
    funext G
    simp only [S.laws_heldActionS.l5]
    simp [g1, hgj, kj, ka0, ka1, s2, z2, ka3, s4, z4, -Int.natCast_add, -kbin_add]
    try rfl
  · intro r
    funext G
    have g1 : ¬ ((xs.length : Int) < (ys.length : Int)) := by omega
    simp only [S.laws_heldActionS.l5, List.take_length]
    simp [g1, -Int.natCast_add]
    try rfl
theorem laws_markActionS_spec (h : Heap) (v : GV) (xs : List ((Int × Int × List (Int) × Int × List (Int)))) (R : List Nat) (k : Nat) (hok : okActionS xs) (he : rActionS h [v] xs R) (nd : R.Nodup) (hk : k + cActionS xs ≤ 4611686018427387904) : ∃ h', HH fn.laws_markActionS [v, .int .i64 (k : Int)] h = some (.int .i64 ((k + cActionS xs : Nat) : Int), h') ∧ rActionS h' [v] (kActionS xs k) R ∧ Fr R h h' := by
  have hlim : k + cntL (fun x => 1 + 1 + (cInt64S x.2.2.1) + 1 + (cInt64S x.2.2.2.2)) xs ≤ 4611686018427387904 := hk
  have hlen : xs.length ≤ 1048576 := hok.1
  have key := mark_loop (E := rAction) goodAction (m := (fun x k => (((k : Nat) : Int), ((k + 1 : Nat) : Int), kInt64S x.2.2.1 (k + 1 + 1), ((k + 1 + 1 + (cInt64S x.2.2.1) : Nat) : Int), kInt64S x.2.2.2.2 (k + 1 + 1 + (cInt64S x.2.2.1) + 1)))) (c := (fun x => 1 + 1 + (cInt64S x.2.2.1) + 1 + (cInt64S x.2.2.2.2))) (v := v) (xs := xs) (R := R) (k := k) nd (f := fun r j k h => fun (G : GX → GV → GV → Heap → Option (GV × Heap)) => S.laws_markActionS.l5 (xs.length + 1) G r v (.int .i64 (k : Int)) (.int .i64 0) (.int .i64 (j : Int)) h) (A := fun k h => fun G => G (.ext 0) (.int .i64 (k : Int)) (.int .i64 0) h) ?_ ?_ he (xs.length + 1) (by omega)
  · obtain ⟨h', a1, a2, a3⟩ := key
    refine ⟨h', S.laws_markActionS.gives (k := xs.length + 1) ?_, a2, a3⟩
    have a1' := fun G => congrFun a1 G
    simp only [show ((0 : Nat) : Int) = 0 from rfl] at a1'
    simp [S.laws_markActionS.run, a1', -Int.natCast_add]
    rfl
  · intro j r h ys he hl hj hy
    obtain ⟨b, css, c, r0, hv, hb, fl, hcn, hc, fe, hE, hbr, hbR, hrR, nd0, hup⟩ := RSl.focus goodAction he nd (j := j) (by omega)
    have ey : ys[j]'(by omega) = xs[j] := by rw [List.getElem?_eq_getElem (by omega)] at hy; exact Option.some.inj hy
    rw [ey] at hE
    rw [hl] at hv hcn
    have hcl := fe c (List.mem_of_getElem? hc)
    have hb0 : h[b]? = some (css.set j c).flatten := by rw [set_get_self hc]; exact hb
    have q1 := cntL_take (c := (fun x => 1 + 1 + (cInt64S x.2.2.1) + 1 + (cInt64S x.2.2.2.2))) hj
    have q2 := cntL_le (c := (fun x => 1 + 1 + (cInt64S x.2.2.1) + 1 + (cInt64S x.2.2.2.2))) (xs := xs) (j + 1)
    try simp only at q1
    obtain ⟨K, hK⟩ : ∃ K, k + cntL (fun x => 1 + 1 + (cInt64S x.2.2.1) + 1 + (cInt64S x.2.2.2.2)) (xs.take j) = K := ⟨_, rfl⟩
    have hKb : K + (1 + 1 + (cInt64S xs[j].2.2.1) + 1 + (cInt64S xs[j].2.2.2.2)) ≤ 4611686018427387904 := by omega
    rw [hK]
    clear hK q1 q2
    have hm := (RSl.good goodAction).mem he
    have hbl := (List.getElem?_eq_some_iff.1 hb).1
    have kj := kadd1 (n := j) (by omega)
    have k0 : kia 5 (.sl b 0 xs.length xs.length 5) (.int .i64 (j : Int)) = some (.ptr b (j * 5) (xs.length * 5)) := kia_at hj (by omega) (by omega)
    obtain ⟨c0, d0, R0, S0, rfl, rfl, E0, F0⟩ := hE
    obtain ⟨c1, d1, R1, S1, rfl, rfl, E1, F1⟩ := F0
    obtain ⟨c2, d2, R2, S2, rfl, rfl, E2, F2⟩ := F1
    obtain ⟨c3, d3, R3, S3, rfl, rfl, E3, F3⟩ := F2
    obtain ⟨rfl, rfl⟩ := E0
    obtain ⟨rfl, rfl⟩ := E1
    obtain ⟨w4, rfl⟩ : ∃ w, c2 = [w] := List.length_eq_one_iff.1 (goodInt64S.len E2)
    obtain ⟨rfl, rfl⟩ := E3
    obtain ⟨w5, rfl⟩ : ∃ w, d3 = [w] := List.length_eq_one_iff.1 (goodInt64S.len F3)
    have nr : (R2 ++ (S3)).Nodup := by simpa using nd0
    have N0 := List.nodup_append.1 nr
    have ib0 : b ∉ R2 := fun hz => hbr (by simp [hz])
    have ib1 : b ∉ S3 := fun hz => hbr (by simp [hz])
    have hb0 : h[b]? = some (css.set j [.int .i64 xs[j].1, .int .i64 xs[j].2.1, w4, .int .i64 xs[j].2.2.2.1, w5]).flatten := hb0
    have hcl : ([.int .i64 xs[j].1, .int .i64 xs[j].2.1, w4, .int .i64 xs[j].2.2.2.1, w5] : List GV).length = 5 := rfl
    obtain ⟨H1, m1, hb1, f1⟩ := st_leaf (es := 5) (off := 0) (x := (.int .i64 ((K : Nat) : Int))) (o := j * 5) (tot := xs.length * 5) hb0 fe hcn hj rfl (by omega) rfl rfl (by omega) (by omega)
    have hb1 : H1[b]? = some (css.set j [(.int .i64 ((K : Nat) : Int)), .int .i64 xs[j].2.1, w4, .int .i64 xs[j].2.2.2.1, w5]).flatten := hb1
    have g1 : Fr R h H1 := f1.sub (fun i hi => by rw [List.mem_singleton] at hi; rw [hi]; exact hbR)
    have ka0 := kadd1 (n := K) (by omega)
    have y0_0 := goodInt64S.keep E2 f1 (fun i hi hb => ib0 (by rw [List.mem_singleton] at hb; rw [← hb]; exact hi))
    have y0_1 := goodInt64S.keep F3 f1 (fun i hi hb => ib1 (by rw [List.mem_singleton] at hb; rw [← hb]; exact hi))
    obtain ⟨H2, m2, hb2, f2⟩ := st_leaf (es := 5) (off := 1) (x := (.int .i64 ((K + 1 : Nat) : Int))) (o := j * 5 + 1) (tot := xs.length * 5) hb1 fe hcn hj rfl (by omega) rfl rfl (by omega) (by omega)
    have hb2 : H2[b]? = some (css.set j [(.int .i64 ((K : Nat) : Int)), (.int .i64 ((K + 1 : Nat) : Int)), w4, .int .i64 xs[j].2.2.2.1, w5]).flatten := hb2
    have g2 : Fr R H1 H2 := f2.sub (fun i hi => by rw [List.mem_singleton] at hi; rw [hi]; exact hbR)
    have ka1 := kadd1 (n := K + 1) (by omega)
    have y1_0 := goodInt64S.keep y0_0 f2 (fun i hi hb => ib0 (by rw [List.mem_singleton] at hb; rw [← hb]; exact hi))
    have y1_1 := goodInt64S.keep y0_1 f2 (fun i hi hb => ib1 (by rw [List.mem_singleton] at hb; rw [← hb]; exact hi))
    have l2 : kload1 H2 (.ptr b (j * 5 + 2) (xs.length * 5)) = some w4 := by rw [ld_leaf (es := 5) (off := 2) hb2 fe hcn hj rfl (by omega) (by omega) (by omega)]; rfl
    obtain ⟨H3, m3, x3, f3⟩ := laws_markInt64S_spec H2 w4 (xs[j].2.2.1) R2 (K + 1 + 1) ((show okAction xs[j] from (hok.2 _ (List.getElem_mem hj))).1) y1_0 (N0.1) (by omega)
    have hb3 : H3[b]? = some (css.set j [(.int .i64 ((K : Nat) : Int)), (.int .i64 ((K + 1 : Nat) : Int)), w4, .int .i64 xs[j].2.2.2.1, w5]).flatten := by rw [f3.2 b (by have := f1.1; have := f2.1; omega) ib0]; exact hb2
    have g3 : Fr R H2 H3 := f3.sub (fun i hi => hrR i (by simp [hi]))
    have y2_1 := goodInt64S.keep y1_1 f3 (fun z h1 h2 => N0.2.2 z h2 z (by simp [h1]) rfl)
    obtain ⟨H4, m4, hb4, f4⟩ := st_leaf (es := 5) (off := 3) (x := (.int .i64 ((K + 1 + 1 + (cInt64S xs[j].2.2.1) : Nat) : Int))) (o := j * 5 + 3) (tot := xs.length * 5) hb3 fe hcn hj rfl (by omega) rfl rfl (by omega) (by omega)
    have hb4 : H4[b]? = some (css.set j [(.int .i64 ((K : Nat) : Int)), (.int .i64 ((K + 1 : Nat) : Int)), w4, (.int .i64 ((K + 1 + 1 + (cInt64S xs[j].2.2.1) : Nat) : Int)), w5]).flatten := hb4
    have g4 : Fr R H3 H4 := f4.sub (fun i hi => by rw [List.mem_singleton] at hi; rw [hi]; exact hbR)
    have ka3 := kadd1 (n := K + 1 + 1 + (cInt64S xs[j].2.2.1)) (by omega)
    have y3_0 := goodInt64S.keep x3 f4 (fun i hi hb => ib0 (by rw [List.mem_singleton] at hb; rw [← hb]; exact hi))
    have y3_1 := goodInt64S.keep y2_1 f4 (fun i hi hb => ib1 (by rw [List.mem_singleton] at hb; rw [← hb]; exact hi))
    have l4 : kload1 H4 (.ptr b (j * 5 + 4) (xs.length * 5)) = some w5 := by rw [ld_leaf (es := 5) (off := 4) hb4 fe hcn hj rfl (by omega) (by omega) (by omega)]; rfl
    obtain ⟨H5, m5, x5, f5⟩ := laws_markInt64S_spec H4 w5 (xs[j].2.2.2.2) S3 (K + 1 + 1 + (cInt64S xs[j].2.2.1) + 1) ((show okAction xs[j] from (hok.2 _ (List.getElem_mem hj))).2) y3_1 (N0.2.1) (by omega)
    have hb5 : H5[b]? = some (css.set j [(.int .i64 ((K : Nat) : Int)), (.int .i64 ((K + 1 : Nat) : Int)), w4, (.int .i64 ((K + 1 + 1 + (cInt64S xs[j].2.2.1) : Nat) : Int)), w5]).flatten := by rw [f5.2 b (by have := f1.1; have := f2.1; have := f3.1; have := f4.1; omega) ib1]; exact hb4
    have g5 : Fr R H4 H5 := f5.sub (fun i hi => hrR i (by simp [hi]))
    have y4_0 := goodInt64S.keep y3_0 f5 (fun z h1 h2 => N0.2.2 z h1 z (by simp [h2]) rfl)
    refine ⟨H5, ?_, hup H5 [(.int .i64 ((K : Nat) : Int)), (.int .i64 ((K + 1 : Nat) : Int)), w4, (.int .i64 ((K + 1 + 1 + (cInt64S xs[j].2.2.1) : Nat) : Int)), w5] _ hb5 ⟨[(.int .i64 ((K : Nat) : Int))], ([(.int .i64 ((K + 1 : Nat) : Int))] ++ ([w4] ++ ([(.int .i64 ((K + 1 + 1 + (cInt64S xs[j].2.2.1) : Nat) : Int))] ++ ([w5])))), [], ([] ++ (R2 ++ ([] ++ (S3)))), rfl, rfl, ⟨rfl, rfl⟩, ⟨[(.int .i64 ((K + 1 : Nat) : Int))], ([w4] ++ ([(.int .i64 ((K + 1 + 1 + (cInt64S xs[j].2.2.1) : Nat) : Int))] ++ ([w5]))), [], (R2 ++ ([] ++ (S3))), rfl, rfl, ⟨rfl, rfl⟩, ⟨[w4], ([(.int .i64 ((K + 1 + 1 + (cInt64S xs[j].2.2.1) : Nat) : Int))] ++ ([w5])), R2, ([] ++ (S3)), rfl, rfl, y4_0, ⟨[(.int .i64 ((K + 1 + 1 + (cInt64S xs[j].2.2.1) : Nat) : Int))], [w5], [], S3, rfl, rfl, ⟨rfl, rfl⟩, x5⟩⟩⟩⟩ (fun i hi hib hir => ?_), ((((g1.trans g2).trans g3).trans g4).trans g5)⟩
    · rw [show K + (1 + 1 + (cInt64S xs[j].2.2.1) + 1 + (cInt64S xs[j].2.2.2.2)) = K + 1 + 1 + (cInt64S xs[j].2.2.1) + 1 + (cInt64S xs[j].2.2.2.2) from by omega]
      funext G
      simp only [S.laws_markActionS.l5, S.laws_markActionS.n8, S.laws_markActionS.n10, S.laws_markActionS.n9, S.laws_markActionS.n7, S.laws_markActionS.n6, hv, klen_sl, klt, decide_eq_true hj, kcond_bool, cond_true, kx_nrm, kb_nrm, Option.bind_some, kr_mk, kfa_ptr, kj, Nat.add_zero, kN_eq, bors_cons, bors_nil, bor_int, k0, m1, ka0, m2, ka1, l2, m3, m4, ka3, l4, m5]
      try rfl
    · exact (((((f5.2 i (by have := hm i hi; have := f1.1; have := f2.1; have := f3.1; have := f4.1; omega) (fun hz => hir (by simp [hz]))).trans (f4.2 i (by have := hm i hi; have := f1.1; have := f2.1; have := f3.1; omega) (by simpa using hib))).trans (f3.2 i (by have := hm i hi; have := f1.1; have := f2.1; omega) (fun hz => hir (by simp [hz])))).trans (f2.2 i (by have := hm i hi; have := f1.1; omega) (by simpa using hib))).trans (f1.2 i (hm i hi) (by simpa using hib)))
  · intro r h ys he hl
    have e1 := he.len
    rw [hl] at e1
    funext G
    simp only [S.laws_markActionS.l5, S.laws_markActionS.n6, S.laws_markActionS.n7, S.laws_markActionS.n8, S.laws_markActionS.n9, S.laws_markActionS.n10, e1, klt, Nat.lt_irrefl, decide_false, kcond_bool, cond_false, Option.bind_some, kx_ext, kb_ext]
    try rfl
end Go.Proofs.Ytlbnioapepelnaa.G
