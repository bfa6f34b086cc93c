/- Written by mgen.py: types, and what the functions of the laws that go over them answer; how such data lie in memory, their marks. -/
import Derived.Test.YtolhjndfplfjpaaTM
import Derived.Test.YtolhjndfplfjpaaSA
namespace Go.Proofs.Ytolhjndfplfjpaa.G
open Go.RowKit
set_option linter.unusedVariables false
set_option linter.unusedSimpArgs false

/-! Int64S -/
abbrev mInt64S (t : Bool) (a : List (Int)) : List GV := [fzl t 1 ci a]
abbrev zInt64S (a : List (Int)) : Nat := a.length
abbrev okInt64S (a : List (Int)) : Prop := a.length ≤ 1048576
theorem okInt64S_of {a : List (Int)} (h : zInt64S a ≤ 1048576) : okInt64S a := h
@[simp] theorem kload1_Int64S {h : Heap} {t : Bool} {xs : List (List (Int))} {j : Nat} : kload1 h (elp t (mInt64S t) xs j) = xs[j]?.map fun a => fzl t 1 ci a := kload1_elp _ (fun _ => rfl)
@[simp] theorem kia_Int64S {t : Bool} {xs : List (List (Int))} {k : IntKind} {i : Int} : kia 1 (fzl t 1 (mInt64S t) xs) (.int k i) = if 0 ≤ i ∧ i < xs.length then some (elp t (mInt64S t) xs i.toNat) else none := kia_fzl (es := 1) (fun _ => rfl)
theorem ld_Int64S {d : Nat} {t : Bool} (a : List (Int)) : (mInt64S t a).map (lend (d + 1)) = mInt64S true a := map_cons' (lend_fzl (d := d) (mk := ci) (mk' := ci) (fun a => map_cons' lend_int rfl) a) (rfl)
@[simp] theorem bor_Int64S {d : Nat} {h : Heap} {t : Bool} {xs : List (List (Int))} : bor (d + 3) h (fzl t 1 (mInt64S t) xs) = some (fzl true 1 (mInt64S true) xs, []) := bor_fzl (d := d + 2) (fun a => ld_Int64S (d := d + 1) a) xs
open Classical in
theorem laws_eqInt64S_spec (xs ys : List (Int)) (hm : okInt64S xs) : NN fn.laws_eqInt64S [fzl true 1 ci xs, fzl true 1 ci ys] = some (.bool (decide (xs = ys))) := by
  apply S.laws_eqInt64S.gives (k := xs.length + 1)
  have hm' : xs.length ≤ 1048576 := hm
  simp [S.laws_eqInt64S.run]
  by_cases hl : xs.length = ys.length
  · have hi : (xs.length : Int) = ys.length := by omega
    simp [hi]
    refine (loop_all (f := fun r j => S.laws_eqInt64S.l6 _ _ r _ _ _ (.int .i64 (j : Int)) _) (A := some (GV.bool true)) (B := some (GV.bool false)) (n := xs.length) (P := fun j => xs[j]? = ys[j]?) (fun j r hj => ?_) (fun r => ?_) (xs.length + 1) 0 (by omega) (by omega)).trans ?_
    · have h1 : (j : Int) < xs.length := by omega
      have h2 : (j : Int) < ys.length := by omega
      have h3 : j < ys.length := by omega
      have w := wrap_succ (n := j) (by simp only [maxLen]; omega)
      by_cases hc : xs[j] = ys[j]
      · simp [S.laws_eqInt64S.l6, h1, h2, get_of hj, get_of h3, w, hc]
      · simp [S.laws_eqInt64S.l6, h1, h2, get_of hj, get_of h3, w, hc]
    · simp [S.laws_eqInt64S.l6]
    · simp [list_eq_iff hl]
      by_cases hx : xs = ys <;> simp [hx]
  · have : ¬ ((xs.length : Int) = ys.length) := by omega
    have hne : xs ≠ ys := fun h => hl (by rw [h])
    simp [this, hne]

/-! Style -/
abbrev mStyle (t : Bool) (a : (Int × Int × Bool × Bool × Bool)) : List GV := [.int .i64 a.1, .int .i64 a.2.1, .bool a.2.2.1, .bool a.2.2.2.1, .bool a.2.2.2.2]
def zStyle (a : (Int × Int × Bool × Bool × Bool)) : Nat := 0
def okStyle (a : (Int × Int × Bool × Bool × Bool)) : Prop := True
theorem okStyle_of {a : (Int × Int × Bool × Bool × Bool)} (h : zStyle a ≤ 1048576) : okStyle a := by
  unfold zStyle at h
  exact trivial
@[simp] theorem kloadA_Style {h : Heap} {t : Bool} {xs : List (Int × Int × Bool × Bool × Bool)} {j : Nat} : kloadA 5 h (elp t (mStyle t) xs j) = xs[j]?.map fun a => .agg (mStyle t a) := kloadA_elp (mk := mStyle t) (es := 5) (fun _ => rfl) (by omega)
@[simp] theorem kload1_Style_0 {h : Heap} {t : Bool} {xs : List ((Int × Int × Bool × Bool × Bool))} {j : Nat} : kload1 h (elf t (mStyle t) xs j 0) = xs[j]?.bind fun a => (mStyle t a)[0]? := kload1_elf (mk := mStyle t) (es := 5) (fun _ => rfl) (by omega)
@[simp] theorem kload1_Style_1 {h : Heap} {t : Bool} {xs : List ((Int × Int × Bool × Bool × Bool))} {j : Nat} : kload1 h (elf t (mStyle t) xs j 1) = xs[j]?.bind fun a => (mStyle t a)[1]? := kload1_elf (mk := mStyle t) (es := 5) (fun _ => rfl) (by omega)
@[simp] theorem kload1_Style_2 {h : Heap} {t : Bool} {xs : List ((Int × Int × Bool × Bool × Bool))} {j : Nat} : kload1 h (elf t (mStyle t) xs j 2) = xs[j]?.bind fun a => (mStyle t a)[2]? := kload1_elf (mk := mStyle t) (es := 5) (fun _ => rfl) (by omega)
@[simp] theorem kload1_Style_3 {h : Heap} {t : Bool} {xs : List ((Int × Int × Bool × Bool × Bool))} {j : Nat} : kload1 h (elf t (mStyle t) xs j 3) = xs[j]?.bind fun a => (mStyle t a)[3]? := kload1_elf (mk := mStyle t) (es := 5) (fun _ => rfl) (by omega)
@[simp] theorem kload1_Style_4 {h : Heap} {t : Bool} {xs : List ((Int × Int × Bool × Bool × Bool))} {j : Nat} : kload1 h (elf t (mStyle t) xs j 4) = xs[j]?.bind fun a => (mStyle t a)[4]? := kload1_elf (mk := mStyle t) (es := 5) (fun _ => rfl) (by omega)
@[simp] theorem kia_Style {t : Bool} {xs : List ((Int × Int × Bool × Bool × Bool))} {k : IntKind} {i : Int} : kia 5 (fzl t 5 (mStyle t) xs) (.int k i) = if 0 ≤ i ∧ i < xs.length then some (elp t (mStyle t) xs i.toNat) else none := kia_fzl (es := 5) (fun _ => rfl)
theorem ld_Style {d : Nat} {t : Bool} (a : (Int × Int × Bool × Bool × Bool)) : (mStyle t a).map (lend d) = mStyle true a := map_cons' lend_int (map_cons' lend_int (map_cons' lend_bool (map_cons' lend_bool (map_cons' lend_bool (rfl)))))
@[simp] theorem bor_Style {d : Nat} {h : Heap} {t : Bool} {xs : List ((Int × Int × Bool × Bool × Bool))} : bor (d + 2) h (fzl t 5 (mStyle t) xs) = some (fzl true 5 (mStyle true) xs, []) := bor_fzl (d := d + 1) (fun a => ld_Style (d := d + 1) a) xs
open Classical in
theorem laws_eqStyle_spec (a_1 b_1 : Int) (a_2 b_2 : Int) (a_3 b_3 : Bool) (a_4 b_4 : Bool) (a_5 b_5 : Bool) (hm : okStyle (a_1, a_2, a_3, a_4, a_5)) : NN fn.laws_eqStyle [.agg [.int .i64 a_1, .int .i64 a_2, .bool a_3, .bool a_4, .bool a_5], .agg [.int .i64 b_1, .int .i64 b_2, .bool b_3, .bool b_4, .bool b_5]] = some (.bool (decide ((a_1, a_2, a_3, a_4, a_5) = (b_1, b_2, b_3, b_4, b_5)))) := by
  apply S.laws_eqStyle.gives (k := 0)
  unfold okStyle at hm
  by_cases c0 : a_1 = b_1
  rotate_left
  · have e : ¬ ((a_1, a_2, a_3, a_4, a_5) = (b_1, b_2, b_3, b_4, b_5)) := fun e => c0 (by simp only [Prod.mk.injEq] at e ⊢; simp [e])
    rw [decide_eq_false e]
    simp [S.laws_eqStyle.run, c0]
  by_cases c1 : a_2 = b_2
  rotate_left
  · have e : ¬ ((a_1, a_2, a_3, a_4, a_5) = (b_1, b_2, b_3, b_4, b_5)) := fun e => c1 (by simp only [Prod.mk.injEq] at e ⊢; simp [e])
    rw [decide_eq_false e]
    simp [S.laws_eqStyle.run, c0, c1]
  by_cases c2 : a_3 = b_3
  rotate_left
  · have e : ¬ ((a_1, a_2, a_3, a_4, a_5) = (b_1, b_2, b_3, b_4, b_5)) := fun e => c2 (by simp only [Prod.mk.injEq] at e ⊢; simp [e])
    rw [decide_eq_false e]
    simp [S.laws_eqStyle.run, c0, c1, beq_eq_false_iff_ne.2 c2]
  by_cases c3 : a_4 = b_4
  rotate_left
  · have e : ¬ ((a_1, a_2, a_3, a_4, a_5) = (b_1, b_2, b_3, b_4, b_5)) := fun e => c3 (by simp only [Prod.mk.injEq] at e ⊢; simp [e])
    rw [decide_eq_false e]
    simp [S.laws_eqStyle.run, c0, c1, c2, beq_eq_false_iff_ne.2 c3]
  by_cases c4 : a_5 = b_5
  rotate_left
  · have e : ¬ ((a_1, a_2, a_3, a_4, a_5) = (b_1, b_2, b_3, b_4, b_5)) := fun e => c4 (by simp only [Prod.mk.injEq] at e ⊢; simp [e])
    rw [decide_eq_false e]
    simp [S.laws_eqStyle.run, c0, c1, c2, c3, beq_eq_false_iff_ne.2 c4]
  have e : (a_1, a_2, a_3, a_4, a_5) = (b_1, b_2, b_3, b_4, b_5) := by rw [c0, c1, c2, c3, c4]
  rw [decide_eq_true e]
  simp [S.laws_eqStyle.run, c0, c1, c2, c3, c4]

/-! Feeder -/
abbrev mFeeder (t : Bool) (a : ByteArray) : List GV := [.str a]
def zFeeder (a : ByteArray) : Nat := a.size
def okFeeder (a : ByteArray) : Prop := a.size ≤ 1048576
theorem okFeeder_of {a : ByteArray} (h : zFeeder a ≤ 1048576) : okFeeder a := by
  unfold zFeeder at h
  exact (show a.size ≤ 1048576 by omega)
@[simp] theorem kloadA_Feeder {h : Heap} {t : Bool} {xs : List (ByteArray)} {j : Nat} : kloadA 1 h (elp t (mFeeder t) xs j) = xs[j]?.map fun a => .agg (mFeeder t a) := kloadA_elp (mk := mFeeder t) (es := 1) (fun _ => rfl) (by omega)
@[simp] theorem kload1_Feeder_0 {h : Heap} {t : Bool} {xs : List (ByteArray)} {j : Nat} : kload1 h (elf t (mFeeder t) xs j 0) = xs[j]?.bind fun a => (mFeeder t a)[0]? := kload1_elf (mk := mFeeder t) (es := 1) (fun _ => rfl) (by omega)
@[simp] theorem kia_Feeder {t : Bool} {xs : List (ByteArray)} {k : IntKind} {i : Int} : kia 1 (fzl t 1 (mFeeder t) xs) (.int k i) = if 0 ≤ i ∧ i < xs.length then some (elp t (mFeeder t) xs i.toNat) else none := kia_fzl (es := 1) (fun _ => rfl)
theorem ld_Feeder {d : Nat} {t : Bool} (a : ByteArray) : (mFeeder t a).map (lend d) = mFeeder true a := map_cons' lend_str (rfl)
@[simp] theorem bor_Feeder {d : Nat} {h : Heap} {t : Bool} {xs : List (ByteArray)} : bor (d + 2) h (fzl t 1 (mFeeder t) xs) = some (fzl true 1 (mFeeder true) xs, []) := bor_fzl (d := d + 1) (fun a => ld_Feeder (d := d + 1) a) xs
open Classical in
theorem laws_eqFeeder_spec (a b : ByteArray) (hm : okFeeder a) : NN fn.laws_eqFeeder [.agg [.str a], .agg [.str b]] = some (.bool (decide (a = b))) := by
  apply S.laws_eqFeeder.gives (k := 0)
  unfold okFeeder at hm
  by_cases c0 : a = b
  rotate_left
  · have e : ¬ (a = b) := c0
    rw [decide_eq_false e]
    simp [S.laws_eqFeeder.run, c0]
  have e : a = b := by rw [c0]
  rw [decide_eq_true e]
  simp [S.laws_eqFeeder.run, c0]
abbrev rInt64S : Rel (List (Int)) := RSl 1 (RFl ci)
theorem goodInt64S : Good 1 2 (fun xs : List Int => [fzl true 1 ci xs]) rInt64S := RSl.good (RFl.good (es := 1) (mk := ci) (fun _ => rfl) (fun _ => rfl))
def cInt64S (xs : List (Int)) : Nat := cntL (fun x => 1) xs
noncomputable def kInt64S (xs : List (Int)) (k : Nat) : List (Int) := markL (fun x k => ((k : Nat) : Int)) (fun x => 1) xs k
theorem cInt64S_le {xs : List (Int)} (h : okInt64S xs) : cInt64S xs ≤ 1048576 := cntL_bound (M := 1048576) (B := 1) (h) (fun x hx => by show _ ≤ _; omega)
theorem laws_heldInt64S_spec (xs : List (Int)) (k : Nat) (hok : okInt64S xs) (hk : k + cInt64S xs ≤ 4611686018427387904) : NN fn.laws_heldInt64S [(fzl true 1 ci (kInt64S xs k)), .int .i64 (k : Int)] = some (.int .i64 ((k + cInt64S xs : Nat) : Int)) := by
  have hlim : k + cntL (fun x => 1) xs ≤ 4611686018427387904 := hk
  have hlen : xs.length ≤ 1048576 := hok
  obtain ⟨ys, hys⟩ : ∃ ys, kInt64S xs k = ys := ⟨_, rfl⟩
  have hl : ys.length = xs.length := by rw [← hys]; exact markL_len _ _
  have hg : ∀ j (hj : j < xs.length), ys[j]? = some ((((k + cntL (fun x => 1) (xs.take j)) : Nat) : Int)) := fun j hj => by rw [← hys]; exact markL_get xs k j hj
  rw [hys]
  apply S.laws_heldInt64S.gives (k := xs.length + 1)
  have key := loop_to (f := fun r j => fun (G : GX → GV → GV → Heap → Option GV) => S.laws_heldInt64S.l5 (xs.length + 1) G r (fzl true 1 ci ys) (.int .i64 ((k + cntL (fun x => 1) (xs.take j) : Nat) : Int)) (.int .i64 0) (.int .i64 (j : Int)) []) (A := fun G => G (.ext 0) (.int .i64 ((k + cInt64S xs : Nat) : Int)) (.int .i64 0) []) (n := xs.length) ?_ ?_ (xs.length + 1) 0 (by omega) (by omega)
  · have key' := fun G => congrFun key G
    simp only [List.take_zero, cntL, List.map_nil, List.sum_nil, Nat.add_zero, show ((0 : Nat) : Int) = 0 from rfl] at key'
    simp [S.laws_heldInt64S.run, key', -Int.natCast_add]
  · intro j r hj
    have g1 : (j : Int) < (ys.length : Int) := by omega
    have kj := kadd1 (n := j) (by omega)
    have q1 := cntL_take (c := (fun x => 1)) hj
    have q2 := cntL_le (c := (fun x => 1)) (xs := xs) (j + 1)
    have hgj := hg j hj
    try simp only at q1
    rw [q1, ← Nat.add_assoc]
    obtain ⟨K, hK⟩ : ∃ K, k + cntL (fun x => 1) (xs.take j) = K := ⟨_, rfl⟩
    have hKb : K + (1) ≤ 4611686018427387904 := by omega
    rw [hK] at hgj ⊢
    have ka0 := kadd1 (n := K) (by omega)
    funext G
    simp only [S.laws_heldInt64S.l5]
    simp [g1, hgj, kj, ka0, -Int.natCast_add, -kbin_add]
    try rfl
  · intro r
    funext G
    have g1 : ¬ ((xs.length : Int) < (ys.length : Int)) := by omega
    simp only [S.laws_heldInt64S.l5, List.take_length]
    simp [g1, -Int.natCast_add]
    try rfl
theorem laws_markInt64S_spec (h : Heap) (v : GV) (xs : List (Int)) (R : List Nat) (k : Nat) (hok : okInt64S xs) (he : rInt64S h [v] xs R) (nd : R.Nodup) (hk : k + cInt64S xs ≤ 4611686018427387904) : ∃ h', HH fn.laws_markInt64S [v, .int .i64 (k : Int)] h = some (.int .i64 ((k + cInt64S xs : Nat) : Int), h') ∧ rInt64S h' [v] (kInt64S xs k) R ∧ Fr R h h' := by
  have hlim : k + cntL (fun x => 1) xs ≤ 4611686018427387904 := hk
  have hlen : xs.length ≤ 1048576 := hok
  have key := mark_loop (E := (RFl ci)) (RFl.good (es := 1) (mk := ci) (fun _ => rfl) (fun _ => rfl)) (m := (fun x k => ((k : Nat) : Int))) (c := (fun x => 1)) (v := v) (xs := xs) (R := R) (k := k) nd (f := fun r j k h => fun (G : GX → GV → GV → Heap → Option (GV × Heap)) => S.laws_markInt64S.l5 (xs.length + 1) G r v (.int .i64 (k : Int)) (.int .i64 0) (.int .i64 (j : Int)) h) (A := fun k h => fun G => G (.ext 0) (.int .i64 (k : Int)) (.int .i64 0) h) ?_ ?_ he (xs.length + 1) (by omega)
  · obtain ⟨h', a1, a2, a3⟩ := key
    refine ⟨h', S.laws_markInt64S.gives (k := xs.length + 1) ?_, a2, a3⟩
    have a1' := fun G => congrFun a1 G
    simp only [show ((0 : Nat) : Int) = 0 from rfl] at a1'
    simp [S.laws_markInt64S.run, a1', -Int.natCast_add]
    rfl
  · intro j r h ys he hl hj hy
    obtain ⟨b, css, c, r0, hv, hb, fl, hcn, hc, fe, hE, hbr, hbR, hrR, nd0, hup⟩ := RSl.focus (RFl.good (es := 1) (mk := ci) (fun _ => rfl) (fun _ => rfl)) he nd (j := j) (by omega)
    have ey : ys[j]'(by omega) = xs[j] := by rw [List.getElem?_eq_getElem (by omega)] at hy; exact Option.some.inj hy
    rw [ey] at hE
    rw [hl] at hv hcn
    have hcl := fe c (List.mem_of_getElem? hc)
    have hb0 : h[b]? = some (css.set j c).flatten := by rw [set_get_self hc]; exact hb
    have q1 := cntL_take (c := (fun x => 1)) hj
    have q2 := cntL_le (c := (fun x => 1)) (xs := xs) (j + 1)
    try simp only at q1
    obtain ⟨K, hK⟩ : ∃ K, k + cntL (fun x => 1) (xs.take j) = K := ⟨_, rfl⟩
    have hKb : K + (1) ≤ 4611686018427387904 := by omega
    rw [hK]
    clear hK q1 q2
    have hm := (RSl.good (RFl.good (es := 1) (mk := ci) (fun _ => rfl) (fun _ => rfl))).mem he
    have hbl := (List.getElem?_eq_some_iff.1 hb).1
    have kj := kadd1 (n := j) (by omega)
    have k0 : kia 1 (.sl b 0 xs.length xs.length 1) (.int .i64 (j : Int)) = some (.ptr b (j) (xs.length)) := kia_at hj (by omega) (by omega)
    obtain ⟨rfl, rfl⟩ := hE
    obtain ⟨H1, m1, hb1, f1⟩ := st_leaf (es := 1) (off := 0) (x := (.int .i64 ((K : Nat) : Int))) (o := j) (tot := xs.length) hb0 fe hcn hj hcl (by omega) rfl rfl (by omega) (by omega)
    have g1 : Fr R h H1 := f1.sub (fun i hi => by rw [List.mem_singleton] at hi; rw [hi]; exact hbR)
    have ka0 := kadd1 (n := K) (by omega)
    have hcl1 : ((ci xs[j]).set 0 (.int .i64 ((K : Nat) : Int))).length = 1 := by rw [List.length_set]; exact hcl
    refine ⟨H1, ?_, hup H1 ((ci xs[j]).set 0 (.int .i64 ((K : Nat) : Int))) _ hb1 ⟨rfl, rfl⟩ (fun i hi hib hir => ?_), g1⟩
    · funext G
      simp only [S.laws_markInt64S.l5, S.laws_markInt64S.n8, S.laws_markInt64S.n10, S.laws_markInt64S.n9, S.laws_markInt64S.n7, S.laws_markInt64S.n6, hv, klen_sl, klt, decide_eq_true hj, kcond_bool, cond_true, kx_nrm, kb_nrm, Option.bind_some, kr_mk, kfa_ptr, kj, Nat.add_zero, kN_eq, bors_cons, bors_nil, bor_int, k0, m1, ka0]
      try rfl
    · exact (f1.2 i (hm i hi) (by simpa using hib))
  · intro r h ys he hl
    have e1 := he.len
    rw [hl] at e1
    funext G
    simp only [S.laws_markInt64S.l5, S.laws_markInt64S.n6, S.laws_markInt64S.n7, S.laws_markInt64S.n8, S.laws_markInt64S.n9, S.laws_markInt64S.n10, e1, klt, Nat.lt_irrefl, decide_false, kcond_bool, cond_false, Option.bind_some, kx_ext, kb_ext]
    try rfl

/-! Parser -/
abbrev mParser (t : Bool) (a : (Int × List (Int) × Int × List (Int))) : List GV := [.int .i64 a.1, fzl t 1 ci a.2.1, .int .i64 a.2.2.1, fzl t 1 ci a.2.2.2]
def zParser (a : (Int × List (Int) × Int × List (Int))) : Nat := zInt64S a.2.1 + zInt64S a.2.2.2
def okParser (a : (Int × List (Int) × Int × List (Int))) : Prop := okInt64S a.2.1 ∧ okInt64S a.2.2.2
theorem okParser_of {a : (Int × List (Int) × Int × List (Int))} (h : zParser a ≤ 1048576) : okParser a := by
  unfold zParser at h
  exact ⟨(show zInt64S a.2.1 ≤ 1048576 by omega), (show zInt64S a.2.2.2 ≤ 1048576 by omega)⟩
@[simp] theorem kloadA_Parser {h : Heap} {t : Bool} {xs : List (Int × List (Int) × Int × List (Int))} {j : Nat} : kloadA 4 h (elp t (mParser t) xs j) = xs[j]?.map fun a => .agg (mParser t a) := kloadA_elp (mk := mParser t) (es := 4) (fun _ => rfl) (by omega)
@[simp] theorem kload1_Parser_0 {h : Heap} {t : Bool} {xs : List ((Int × List (Int) × Int × List (Int)))} {j : Nat} : kload1 h (elf t (mParser t) xs j 0) = xs[j]?.bind fun a => (mParser t a)[0]? := kload1_elf (mk := mParser t) (es := 4) (fun _ => rfl) (by omega)
@[simp] theorem kload1_Parser_1 {h : Heap} {t : Bool} {xs : List ((Int × List (Int) × Int × List (Int)))} {j : Nat} : kload1 h (elf t (mParser t) xs j 1) = xs[j]?.bind fun a => (mParser t a)[1]? := kload1_elf (mk := mParser t) (es := 4) (fun _ => rfl) (by omega)
@[simp] theorem kload1_Parser_2 {h : Heap} {t : Bool} {xs : List ((Int × List (Int) × Int × List (Int)))} {j : Nat} : kload1 h (elf t (mParser t) xs j 2) = xs[j]?.bind fun a => (mParser t a)[2]? := kload1_elf (mk := mParser t) (es := 4) (fun _ => rfl) (by omega)
@[simp] theorem kload1_Parser_3 {h : Heap} {t : Bool} {xs : List ((Int × List (Int) × Int × List (Int)))} {j : Nat} : kload1 h (elf t (mParser t) xs j 3) = xs[j]?.bind fun a => (mParser t a)[3]? := kload1_elf (mk := mParser t) (es := 4) (fun _ => rfl) (by omega)
@[simp] theorem kia_Parser {t : Bool} {xs : List ((Int × List (Int) × Int × List (Int)))} {k : IntKind} {i : Int} : kia 4 (fzl t 4 (mParser t) xs) (.int k i) = if 0 ≤ i ∧ i < xs.length then some (elp t (mParser t) xs i.toNat) else none := kia_fzl (es := 4) (fun _ => rfl)
theorem ld_Parser {d : Nat} {t : Bool} (a : (Int × List (Int) × Int × List (Int))) : (mParser t a).map (lend (d + 1)) = mParser true a := map_cons' lend_int (map_cons' (lend_fzl (d := d) (mk := ci) (mk' := ci) (fun a => map_cons' lend_int rfl) a.2.1) (map_cons' lend_int (map_cons' (lend_fzl (d := d) (mk := ci) (mk' := ci) (fun a => map_cons' lend_int rfl) a.2.2.2) (rfl))))
@[simp] theorem bor_Parser {d : Nat} {h : Heap} {t : Bool} {xs : List ((Int × List (Int) × Int × List (Int)))} : bor (d + 3) h (fzl t 4 (mParser t) xs) = some (fzl true 4 (mParser true) xs, []) := bor_fzl (d := d + 2) (fun a => ld_Parser (d := d + 1) a) xs
open Classical in
theorem laws_eqParser_spec (a_1 b_1 : Int) (a_2 b_2 : List (Int)) (a_3 b_3 : Int) (a_4 b_4 : List (Int)) (hm : okParser (a_1, a_2, a_3, a_4)) : NN fn.laws_eqParser [.agg [.int .i64 a_1, fzl true 1 ci a_2, .int .i64 a_3, fzl true 1 ci a_4], .agg [.int .i64 b_1, fzl true 1 ci b_2, .int .i64 b_3, fzl true 1 ci b_4]] = some (.bool (decide ((a_1, a_2, a_3, a_4) = (b_1, b_2, b_3, b_4)))) := by
  apply S.laws_eqParser.gives (k := 0)
  unfold okParser at hm
  by_cases c0 : a_1 = b_1
  rotate_left
  · have e : ¬ ((a_1, a_2, a_3, a_4) = (b_1, b_2, b_3, b_4)) := fun e => c0 (by simp only [Prod.mk.injEq] at e ⊢; simp [e])
    rw [decide_eq_false e]
    simp [S.laws_eqParser.run, c0]
  have s1 := laws_eqInt64S_spec a_2 b_2 hm.1
  by_cases c1 : a_2 = b_2
  rotate_left
  · have e : ¬ ((a_1, a_2, a_3, a_4) = (b_1, b_2, b_3, b_4)) := fun e => c1 (by simp only [Prod.mk.injEq] at e ⊢; simp [e])
    rw [decide_eq_false e]
    rw [decide_eq_false c1] at s1
    simp [S.laws_eqParser.run, c0, s1]
  rw [decide_eq_true c1] at s1
  by_cases c2 : a_3 = b_3
  rotate_left
  · have e : ¬ ((a_1, a_2, a_3, a_4) = (b_1, b_2, b_3, b_4)) := fun e => c2 (by simp only [Prod.mk.injEq] at e ⊢; simp [e])
    rw [decide_eq_false e]
    simp [S.laws_eqParser.run, c0, s1, c2]
  have s3 := laws_eqInt64S_spec a_4 b_4 hm.2
  by_cases c3 : a_4 = b_4
  rotate_left
  · have e : ¬ ((a_1, a_2, a_3, a_4) = (b_1, b_2, b_3, b_4)) := fun e => c3 (by simp only [Prod.mk.injEq] at e ⊢; simp [e])
    rw [decide_eq_false e]
    rw [decide_eq_false c3] at s3
    simp [S.laws_eqParser.run, c0, s1, c2, s3]
  rw [decide_eq_true c3] at s3
  have e : (a_1, a_2, a_3, a_4) = (b_1, b_2, b_3, b_4) := by rw [c0, c1, c2, c3]
  rw [decide_eq_true e]
  simp [S.laws_eqParser.run, c0, s1, c2, s3]

/-! Cell -/
abbrev mCell (t : Bool) (a : (Int × (Int × Int × Bool × Bool × Bool) × Int)) : List GV := [.int .i64 a.1, .int .i64 a.2.1.1, .int .i64 a.2.1.2.1, .bool a.2.1.2.2.1, .bool a.2.1.2.2.2.1, .bool a.2.1.2.2.2.2, .int .i64 a.2.2]
def zCell (a : (Int × (Int × Int × Bool × Bool × Bool) × Int)) : Nat := zStyle a.2.1
def okCell (a : (Int × (Int × Int × Bool × Bool × Bool) × Int)) : Prop := okStyle a.2.1
theorem okCell_of {a : (Int × (Int × Int × Bool × Bool × Bool) × Int)} (h : zCell a ≤ 1048576) : okCell a := by
  unfold zCell at h
  exact okStyle_of (by omega)
@[simp] theorem kloadA_Cell {h : Heap} {t : Bool} {xs : List (Int × (Int × Int × Bool × Bool × Bool) × Int)} {j : Nat} : kloadA 7 h (elp t (mCell t) xs j) = xs[j]?.map fun a => .agg (mCell t a) := kloadA_elp (mk := mCell t) (es := 7) (fun _ => rfl) (by omega)
@[simp] theorem kload1_Cell_0 {h : Heap} {t : Bool} {xs : List ((Int × (Int × Int × Bool × Bool × Bool) × Int))} {j : Nat} : kload1 h (elf t (mCell t) xs j 0) = xs[j]?.bind fun a => (mCell t a)[0]? := kload1_elf (mk := mCell t) (es := 7) (fun _ => rfl) (by omega)
@[simp] theorem kload1_Cell_1 {h : Heap} {t : Bool} {xs : List ((Int × (Int × Int × Bool × Bool × Bool) × Int))} {j : Nat} : kload1 h (elf t (mCell t) xs j 1) = xs[j]?.bind fun a => (mCell t a)[1]? := kload1_elf (mk := mCell t) (es := 7) (fun _ => rfl) (by omega)
@[simp] theorem kload1_Cell_2 {h : Heap} {t : Bool} {xs : List ((Int × (Int × Int × Bool × Bool × Bool) × Int))} {j : Nat} : kload1 h (elf t (mCell t) xs j 2) = xs[j]?.bind fun a => (mCell t a)[2]? := kload1_elf (mk := mCell t) (es := 7) (fun _ => rfl) (by omega)
@[simp] theorem kload1_Cell_3 {h : Heap} {t : Bool} {xs : List ((Int × (Int × Int × Bool × Bool × Bool) × Int))} {j : Nat} : kload1 h (elf t (mCell t) xs j 3) = xs[j]?.bind fun a => (mCell t a)[3]? := kload1_elf (mk := mCell t) (es := 7) (fun _ => rfl) (by omega)
@[simp] theorem kload1_Cell_4 {h : Heap} {t : Bool} {xs : List ((Int × (Int × Int × Bool × Bool × Bool) × Int))} {j : Nat} : kload1 h (elf t (mCell t) xs j 4) = xs[j]?.bind fun a => (mCell t a)[4]? := kload1_elf (mk := mCell t) (es := 7) (fun _ => rfl) (by omega)
@[simp] theorem kload1_Cell_5 {h : Heap} {t : Bool} {xs : List ((Int × (Int × Int × Bool × Bool × Bool) × Int))} {j : Nat} : kload1 h (elf t (mCell t) xs j 5) = xs[j]?.bind fun a => (mCell t a)[5]? := kload1_elf (mk := mCell t) (es := 7) (fun _ => rfl) (by omega)
@[simp] theorem kload1_Cell_6 {h : Heap} {t : Bool} {xs : List ((Int × (Int × Int × Bool × Bool × Bool) × Int))} {j : Nat} : kload1 h (elf t (mCell t) xs j 6) = xs[j]?.bind fun a => (mCell t a)[6]? := kload1_elf (mk := mCell t) (es := 7) (fun _ => rfl) (by omega)
@[simp] theorem kia_Cell {t : Bool} {xs : List ((Int × (Int × Int × Bool × Bool × Bool) × Int))} {k : IntKind} {i : Int} : kia 7 (fzl t 7 (mCell t) xs) (.int k i) = if 0 ≤ i ∧ i < xs.length then some (elp t (mCell t) xs i.toNat) else none := kia_fzl (es := 7) (fun _ => rfl)
theorem ld_Cell {d : Nat} {t : Bool} (a : (Int × (Int × Int × Bool × Bool × Bool) × Int)) : (mCell t a).map (lend d) = mCell true a := map_cons' lend_int (map_cons' lend_int (map_cons' lend_int (map_cons' lend_bool (map_cons' lend_bool (map_cons' lend_bool (map_cons' lend_int (rfl)))))))
@[simp] theorem bor_Cell {d : Nat} {h : Heap} {t : Bool} {xs : List ((Int × (Int × Int × Bool × Bool × Bool) × Int))} : bor (d + 2) h (fzl t 7 (mCell t) xs) = some (fzl true 7 (mCell true) xs, []) := bor_fzl (d := d + 1) (fun a => ld_Cell (d := d + 1) a) xs
open Classical in
theorem laws_eqCell_spec (a_1 b_1 : Int) (a_2_1 b_2_1 : Int) (a_2_2 b_2_2 : Int) (a_2_3 b_2_3 : Bool) (a_2_4 b_2_4 : Bool) (a_2_5 b_2_5 : Bool) (a_3 b_3 : Int) (hm : okCell (a_1, (a_2_1, a_2_2, a_2_3, a_2_4, a_2_5), a_3)) : NN fn.laws_eqCell [.agg [.int .i64 a_1, .int .i64 a_2_1, .int .i64 a_2_2, .bool a_2_3, .bool a_2_4, .bool a_2_5, .int .i64 a_3], .agg [.int .i64 b_1, .int .i64 b_2_1, .int .i64 b_2_2, .bool b_2_3, .bool b_2_4, .bool b_2_5, .int .i64 b_3]] = some (.bool (decide ((a_1, (a_2_1, a_2_2, a_2_3, a_2_4, a_2_5), a_3) = (b_1, (b_2_1, b_2_2, b_2_3, b_2_4, b_2_5), b_3)))) := by
  apply S.laws_eqCell.gives (k := 0)
  unfold okCell at hm
  by_cases c0 : a_1 = b_1
  rotate_left
  · have e : ¬ ((a_1, (a_2_1, a_2_2, a_2_3, a_2_4, a_2_5), a_3) = (b_1, (b_2_1, b_2_2, b_2_3, b_2_4, b_2_5), b_3)) := fun e => c0 (by simp only [Prod.mk.injEq] at e ⊢; simp [e])
    rw [decide_eq_false e]
    simp [S.laws_eqCell.run, c0]
  have s1 := laws_eqStyle_spec a_2_1 b_2_1 a_2_2 b_2_2 a_2_3 b_2_3 a_2_4 b_2_4 a_2_5 b_2_5 hm
  by_cases c1 : (a_2_1, a_2_2, a_2_3, a_2_4, a_2_5) = (b_2_1, b_2_2, b_2_3, b_2_4, b_2_5)
  rotate_left
  · have e : ¬ ((a_1, (a_2_1, a_2_2, a_2_3, a_2_4, a_2_5), a_3) = (b_1, (b_2_1, b_2_2, b_2_3, b_2_4, b_2_5), b_3)) := fun e => c1 (by simp only [Prod.mk.injEq] at e ⊢; simp [e])
    rw [decide_eq_false e]
    rw [decide_eq_false c1] at s1
    simp [S.laws_eqCell.run, c0, s1]
  rw [decide_eq_true c1] at s1
  by_cases c2 : a_3 = b_3
  rotate_left
  · have e : ¬ ((a_1, (a_2_1, a_2_2, a_2_3, a_2_4, a_2_5), a_3) = (b_1, (b_2_1, b_2_2, b_2_3, b_2_4, b_2_5), b_3)) := fun e => c2 (by simp only [Prod.mk.injEq] at e ⊢; simp [e])
    rw [decide_eq_false e]
    simp [S.laws_eqCell.run, c0, s1, c2]
  have e : (a_1, (a_2_1, a_2_2, a_2_3, a_2_4, a_2_5), a_3) = (b_1, (b_2_1, b_2_2, b_2_3, b_2_4, b_2_5), b_3) := by
    simp only [Prod.mk.injEq] at *
    simp [c0, c1, c2]
  rw [decide_eq_true e]
  simp [S.laws_eqCell.run, c0, s1, c2]
abbrev rParser : Rel ((Int × List (Int) × Int × List (Int))) := (RSeq (RFl ci) (RSeq rInt64S (RSeq (RFl ci) rInt64S)))
theorem goodParser : Good 4 2 (mParser true) rParser := (RSeq.good ((RFl.good (es := 1) (mk := ci) (fun _ => rfl) (fun _ => rfl)).mono (by omega)) (RSeq.good (goodInt64S.mono (by omega)) (RSeq.good ((RFl.good (es := 1) (mk := ci) (fun _ => rfl) (fun _ => rfl)).mono (by omega)) (goodInt64S.mono (by omega)))))
def cParser (x : (Int × List (Int) × Int × List (Int))) : Nat := cInt64S x.2.1 + cInt64S x.2.2.2
theorem cParser_le {x : (Int × List (Int) × Int × List (Int))} (h : okParser x) : cParser x ≤ 2097152 := by
  unfold okParser at h
  unfold cParser
  have := cInt64S_le h.1
  have := cInt64S_le h.2
  omega
noncomputable def kParser (x : (Int × List (Int) × Int × List (Int))) (k : Nat) : (Int × List (Int) × Int × List (Int)) := (x.1, kInt64S x.2.1 (k), x.2.2.1, kInt64S x.2.2.2 (k + cInt64S x.2.1))
theorem laws_heldParser_spec (x : (Int × List (Int) × Int × List (Int))) (k : Nat) (hok : okParser x) (hk : k + cParser x ≤ 4611686018427387904) : NN fn.laws_heldParser [.agg (mParser true (kParser x k)), .int .i64 (k : Int)] = some (.int .i64 ((k + cParser x : Nat) : Int)) := by
  unfold okParser at hok
  unfold cParser at hk
  apply S.laws_heldParser.gives (k := 0)
  have s1 := laws_heldInt64S_spec x.2.1 (k) hok.1 (by omega)
  have z1 : ¬ (((k + cInt64S x.2.1 : Nat) : Int) < 0) := by omega
  have s3 := laws_heldInt64S_spec x.2.2.2 (k + cInt64S x.2.1) hok.2 (by omega)
  have z3 : ¬ (((k + cInt64S x.2.1 + cInt64S x.2.2.2 : Nat) : Int) < 0) := by omega
  simp only [kParser, cParser, ← Nat.add_assoc]
  simp [S.laws_heldParser.run, s1, z1, s3, z3, -Int.natCast_add]
theorem laws_markParser_spec (h : Heap) (c : List GV) (x : (Int × List (Int) × Int × List (Int))) (R : List Nat) (k : Nat) (hok : okParser x) (he : rParser h c x R) (nd : R.Nodup) (hk : k + cParser x ≤ 4611686018427387904) : ∃ h', HH fn.laws_markParser [.agg c, .int .i64 (k : Int)] h = some (.int .i64 ((k + cParser x : Nat) : Int), h') ∧ rParser h' c (kParser x k) R ∧ Fr R h h' := by
  have ek : k + cParser x = k + cInt64S x.2.1 + cInt64S x.2.2.2 := by unfold cParser; omega
  rw [ek] at hk ⊢
  unfold okParser at hok
  have hcl := goodParser.len he
  have hm := goodParser.mem he
  have he0 := goodParser.grow (t := [c]) he
  have hb0 : (h ++ [c])[h.length]? = some c := by simp
  have hbox : ∀ {Q : Type} (K : GV → Heap → Option Q), kbox (.agg c) h K = K (.ptr h.length 0 4) (h ++ [c]) := fun K => by rw [kbox_agg, hcl]
  obtain ⟨H0, hH0⟩ : ∃ H0, h ++ [c] = H0 := ⟨_, rfl⟩
  have g0 : Fr R h H0 := by rw [← hH0]; exact .app
  have hl0 : h.length < H0.length := by rw [← hH0]; simp
  rw [hH0] at he0 hb0
  simp only [hH0] at hbox
  obtain ⟨c0, d0, R0, S0, rfl, rfl, E0, F0⟩ := he0
  have N0 := List.nodup_append.1 nd
  obtain ⟨rfl, rfl⟩ := E0
  obtain ⟨c1, d1, R1, S1, rfl, rfl, E1, F1⟩ := F0
  have N1 := List.nodup_append.1 N0.2.1
  obtain ⟨w1, rfl⟩ : ∃ w, c1 = [w] := List.length_eq_one_iff.1 (goodInt64S.len E1)
  obtain ⟨c2, d2, R2, S2, rfl, rfl, E2, F2⟩ := F1
  have N2 := List.nodup_append.1 N1.2.1
  obtain ⟨rfl, rfl⟩ := E2
  have E3 := F2
  obtain ⟨w3, rfl⟩ : ∃ w, d2 = [w] := List.length_eq_one_iff.1 (goodInt64S.len E3)
  have l1 : kload1 H0 (.ptr h.length 1 4) = some w1 := by rw [kload1_at hb0 hcl]; rfl
  obtain ⟨H1, m1, x1, f1⟩ := laws_markInt64S_spec H0 w1 x.2.1 R1 (k) hok.1 E1 (N1.1) (by omega)
  have i1 : h.length ∉ R1 := fun hz => by have := hm h.length (by simp [hz]); omega
  have hb1 : H1[h.length]? = some _ := (f1.2 _ (by omega) i1).trans hb0
  have y1_3 := goodInt64S.keep E3 f1 (fun z h1 h2 => N1.2.2 z h2 z (by simp [h1]) rfl)
  have l3 : kload1 H1 (.ptr h.length 3 4) = some w3 := by rw [kload1_at hb1 hcl]; rfl
  obtain ⟨H2, m3, x3, f3⟩ := laws_markInt64S_spec H1 w3 x.2.2.2 S2 (k + cInt64S x.2.1) hok.2 y1_3 (N2.2.1) (by omega)
  have i3 : h.length ∉ S2 := fun hz => by have := hm h.length (by simp [hz]); omega
  have hb2 : H2[h.length]? = some _ := (f3.2 _ (by have := f1.1; omega) i3).trans hb1
  have y3_1 := goodInt64S.keep x1 f3 (fun z h1 h2 => N1.2.2 z h1 z (by simp [h2]) rfl)
  refine ⟨H2, S.laws_markParser.gives (k := 0) ?_, ⟨_, _, _, _, rfl, rfl, ⟨rfl, rfl⟩, ⟨_, _, _, _, rfl, rfl, y3_1, ⟨_, _, _, _, rfl, rfl, ⟨rfl, rfl⟩, x3⟩⟩⟩, ((g0.trans (f1.sub (fun z hz => by simp [hz]))).trans (f3.sub (fun z hz => by simp [hz])))⟩
  simp only [S.laws_markParser.run, S.laws_markParser.n0, hbox, l1, m1, l3, m3, kfa_ptr, Nat.zero_add, Option.bind_some, kr_mk, kend_ret, finH_eq]

/-! CellS -/
abbrev mCellS (t : Bool) (a : List ((Int × (Int × Int × Bool × Bool × Bool) × Int))) : List GV := [fzl t 7 (mCell t) a]
def zCellS (a : List ((Int × (Int × Int × Bool × Bool × Bool) × Int))) : Nat := a.length + (a.map fun x => zCell x).sum
def okCellS (a : List ((Int × (Int × Int × Bool × Bool × Bool) × Int))) : Prop := a.length ≤ 1048576 ∧ ∀ x ∈ a, okCell x
theorem okCellS_of {a : List ((Int × (Int × Int × Bool × Bool × Bool) × Int))} (h : zCellS a ≤ 1048576) : okCellS a := by
  unfold zCellS at h
  refine ⟨by omega, fun x hx => ?_⟩
  have : zCell x ≤ _ := sum_mem (c := fun x => zCell x) hx
  exact okCell_of (by omega)
@[simp] theorem kload1_CellS {h : Heap} {t : Bool} {xs : List (List ((Int × (Int × Int × Bool × Bool × Bool) × Int)))} {j : Nat} : kload1 h (elp t (mCellS t) xs j) = xs[j]?.map fun a => fzl t 7 (mCell t) a := kload1_elp _ (fun _ => rfl)
@[simp] theorem kia_CellS {t : Bool} {xs : List (List ((Int × (Int × Int × Bool × Bool × Bool) × Int)))} {k : IntKind} {i : Int} : kia 1 (fzl t 1 (mCellS t) xs) (.int k i) = if 0 ≤ i ∧ i < xs.length then some (elp t (mCellS t) xs i.toNat) else none := kia_fzl (es := 1) (fun _ => rfl)
theorem ld_CellS {d : Nat} {t : Bool} (a : List ((Int × (Int × Int × Bool × Bool × Bool) × Int))) : (mCellS t a).map (lend (d + 1)) = mCellS true a := map_cons' (lend_fzl (d := d) (mk := (mCell t)) (mk' := (mCell true)) (fun a => ld_Cell (d := d) a) a) (rfl)
@[simp] theorem bor_CellS {d : Nat} {h : Heap} {t : Bool} {xs : List (List ((Int × (Int × Int × Bool × Bool × Bool) × Int)))} : bor (d + 3) h (fzl t 1 (mCellS t) xs) = some (fzl true 1 (mCellS true) xs, []) := bor_fzl (d := d + 2) (fun a => ld_CellS (d := d + 1) a) xs
open Classical in
theorem laws_eqCellS_spec (xs ys : List ((Int × (Int × Int × Bool × Bool × Bool) × Int))) (hm : okCellS xs) : NN fn.laws_eqCellS [fzl true 7 (mCell true) xs, fzl true 7 (mCell true) ys] = some (.bool (decide (xs = ys))) := by
  apply S.laws_eqCellS.gives (k := xs.length + 1)
  have hm' : xs.length ≤ 1048576 := hm.1
  simp [S.laws_eqCellS.run]
  by_cases hl : xs.length = ys.length
  · have hi : (xs.length : Int) = ys.length := by omega
    simp [hi]
    refine (loop_all (f := fun r j => S.laws_eqCellS.l6 _ _ r _ _ _ (.int .i64 (j : Int)) _) (A := some (GV.bool true)) (B := some (GV.bool false)) (n := xs.length) (P := fun j => xs[j]? = ys[j]?) (fun j r hj => ?_) (fun r => ?_) (xs.length + 1) 0 (by omega) (by omega)).trans ?_
    · have h1 : (j : Int) < xs.length := by omega
      have h2 : (j : Int) < ys.length := by omega
      have h3 : j < ys.length := by omega
      have w := wrap_succ (n := j) (by simp only [maxLen]; omega)
      have sp := laws_eqCell_spec xs[j].1 ys[j].1 xs[j].2.1.1 ys[j].2.1.1 xs[j].2.1.2.1 ys[j].2.1.2.1 xs[j].2.1.2.2.1 ys[j].2.1.2.2.1 xs[j].2.1.2.2.2.1 ys[j].2.1.2.2.2.1 xs[j].2.1.2.2.2.2 ys[j].2.1.2.2.2.2 xs[j].2.2 ys[j].2.2  (hm.2 _ (List.getElem_mem hj))
      by_cases hc : xs[j] = ys[j]
      · have e1 : (xs[j].1, (xs[j].2.1.1, xs[j].2.1.2.1, xs[j].2.1.2.2.1, xs[j].2.1.2.2.2.1, xs[j].2.1.2.2.2.2), xs[j].2.2) = (ys[j].1, (ys[j].2.1.1, ys[j].2.1.2.1, ys[j].2.1.2.2.1, ys[j].2.1.2.2.2.1, ys[j].2.1.2.2.2.2), ys[j].2.2) := hc
        rw [decide_eq_true e1] at sp
        refine Eq.trans ?_ (if_pos (by rw [get_of hj, get_of h3, hc])).symm
        simp [S.laws_eqCellS.l6, h1, h2, get_of hj, get_of h3, w, sp]
      · have e1 : ¬ ((xs[j].1, (xs[j].2.1.1, xs[j].2.1.2.1, xs[j].2.1.2.2.1, xs[j].2.1.2.2.2.1, xs[j].2.1.2.2.2.2), xs[j].2.2) = (ys[j].1, (ys[j].2.1.1, ys[j].2.1.2.1, ys[j].2.1.2.2.1, ys[j].2.1.2.2.2.1, ys[j].2.1.2.2.2.2), ys[j].2.2)) := hc
        rw [decide_eq_false e1] at sp
        refine Eq.trans ?_ (if_neg (by rw [get_of hj, get_of h3]; exact fun h => hc (Option.some.inj h))).symm
        simp [S.laws_eqCellS.l6, h1, h2, get_of hj, get_of h3, w, sp]
    · simp [S.laws_eqCellS.l6]
    · simp [list_eq_iff hl]
      by_cases hx : xs = ys <;> simp [hx]
  · have : ¬ ((xs.length : Int) = ys.length) := by omega
    have hne : xs ≠ ys := fun h => hl (by rw [h])
    simp [this, hne]
abbrev rCellS : Rel (List ((Int × (Int × Int × Bool × Bool × Bool) × Int))) := RSl 7 (RFl (mCell true))
theorem goodCellS : Good 1 2 (mCellS true) rCellS := RSl.good (RFl.good (es := 7) (mk := (mCell true)) (fun _ => rfl) (fun _ => rfl))
def cCellS (xs : List ((Int × (Int × Int × Bool × Bool × Bool) × Int))) : Nat := cntL (fun x => 1 + 1 + 1 + 1 + 1 + 1 + 1) xs
noncomputable def kCellS (xs : List ((Int × (Int × Int × Bool × Bool × Bool) × Int))) (k : Nat) : List ((Int × (Int × Int × Bool × Bool × Bool) × Int)) := markL (fun x k => (((k : Nat) : Int), (((k + 1 : Nat) : Int), ((k + 1 + 1 : Nat) : Int), decide ((k + 1 + 1 + 1) % 3 = 0), decide ((k + 1 + 1 + 1 + 1) % 3 = 0), decide ((k + 1 + 1 + 1 + 1 + 1) % 3 = 0)), ((k + 1 + 1 + 1 + 1 + 1 + 1 : Nat) : Int))) (fun x => 1 + 1 + 1 + 1 + 1 + 1 + 1) xs k
theorem cCellS_le {xs : List ((Int × (Int × Int × Bool × Bool × Bool) × Int))} (h : okCellS xs) : cCellS xs ≤ 7340032 := cntL_bound (M := 1048576) (B := 7) (h.1) (fun x hx => by show _ ≤ _; omega)
theorem laws_heldCellS_spec (xs : List ((Int × (Int × Int × Bool × Bool × Bool) × Int))) (k : Nat) (hok : okCellS xs) (hk : k + cCellS xs ≤ 4611686018427387904) : NN fn.laws_heldCellS [(fzl true 7 (mCell true) (kCellS xs k)), .int .i64 (k : Int)] = some (.int .i64 ((k + cCellS xs : Nat) : Int)) := by
  have hlim : k + cntL (fun x => 1 + 1 + 1 + 1 + 1 + 1 + 1) xs ≤ 4611686018427387904 := hk
  have hlen : xs.length ≤ 1048576 := hok.1
  obtain ⟨ys, hys⟩ : ∃ ys, kCellS xs k = ys := ⟨_, rfl⟩
  have hl : ys.length = xs.length := by rw [← hys]; exact markL_len _ _
  have hg : ∀ j (hj : j < xs.length), ys[j]? = some (((((k + cntL (fun x => 1 + 1 + 1 + 1 + 1 + 1 + 1) (xs.take j)) : Nat) : Int), ((((k + cntL (fun x => 1 + 1 + 1 + 1 + 1 + 1 + 1) (xs.take j)) + 1 : Nat) : Int), (((k + cntL (fun x => 1 + 1 + 1 + 1 + 1 + 1 + 1) (xs.take j)) + 1 + 1 : Nat) : Int), decide (((k + cntL (fun x => 1 + 1 + 1 + 1 + 1 + 1 + 1) (xs.take j)) + 1 + 1 + 1) % 3 = 0), decide (((k + cntL (fun x => 1 + 1 + 1 + 1 + 1 + 1 + 1) (xs.take j)) + 1 + 1 + 1 + 1) % 3 = 0), decide (((k + cntL (fun x => 1 + 1 + 1 + 1 + 1 + 1 + 1) (xs.take j)) + 1 + 1 + 1 + 1 + 1) % 3 = 0)), (((k + cntL (fun x => 1 + 1 + 1 + 1 + 1 + 1 + 1) (xs.take j)) + 1 + 1 + 1 + 1 + 1 + 1 : Nat) : Int))) := fun j hj => by rw [← hys]; exact markL_get xs k j hj
  rw [hys]
  apply S.laws_heldCellS.gives (k := xs.length + 1)
  have key := loop_to (f := fun r j => fun (G : GX → GV → GV → Heap → Option GV) => S.laws_heldCellS.l5 (xs.length + 1) G r (fzl true 7 (mCell true) ys) (.int .i64 ((k + cntL (fun x => 1 + 1 + 1 + 1 + 1 + 1 + 1) (xs.take j) : Nat) : Int)) (.int .i64 0) (.int .i64 (j : Int)) []) (A := fun G => G (.ext 0) (.int .i64 ((k + cCellS xs : Nat) : Int)) (.int .i64 0) []) (n := xs.length) ?_ ?_ (xs.length + 1) 0 (by omega) (by omega)
  · have key' := fun G => congrFun key G
    simp only [List.take_zero, cntL, List.map_nil, List.sum_nil, Nat.add_zero, show ((0 : Nat) : Int) = 0 from rfl] at key'
    simp [S.laws_heldCellS.run, key', -Int.natCast_add]
  · intro j r hj
    have g1 : (j : Int) < (ys.length : Int) := by omega
    have kj := kadd1 (n := j) (by omega)
    have q1 := cntL_take (c := (fun x => 1 + 1 + 1 + 1 + 1 + 1 + 1)) hj
    have q2 := cntL_le (c := (fun x => 1 + 1 + 1 + 1 + 1 + 1 + 1)) (xs := xs) (j + 1)
    have hgj := hg j hj
    try simp only at q1
    rw [q1, ← Nat.add_assoc]
    obtain ⟨K, hK⟩ : ∃ K, k + cntL (fun x => 1 + 1 + 1 + 1 + 1 + 1 + 1) (xs.take j) = K := ⟨_, rfl⟩
    have hKb : K + (1 + 1 + 1 + 1 + 1 + 1 + 1) ≤ 4611686018427387904 := by omega
    rw [hK] at hgj ⊢
    have ka0 := kadd1 (n := K) (by omega)
    have ka1 := kadd1 (n := K + 1) (by omega)
    have ka2 := kadd1 (n := K + 1 + 1) (by omega)
    have ka3 := kadd1 (n := K + 1 + 1 + 1) (by omega)
    have kr3 := krem3 (n := K + 1 + 1 + 1)
    have ka4 := kadd1 (n := K + 1 + 1 + 1 + 1) (by omega)
    have kr4 := krem3 (n := K + 1 + 1 + 1 + 1)
    have ka5 := kadd1 (n := K + 1 + 1 + 1 + 1 + 1) (by omega)
    have kr5 := krem3 (n := K + 1 + 1 + 1 + 1 + 1)
    have ka6 := kadd1 (n := K + 1 + 1 + 1 + 1 + 1 + 1) (by omega)
    funext G
    simp only [S.laws_heldCellS.l5]
    simp [g1, hgj, kj, ka0, ka1, ka2, ka3, kr3, kdec3, ka4, kr4, kdec3, ka5, kr5, kdec3, ka6, -Int.natCast_add, -kbin_add]
    try rfl
  · intro r
    funext G
    have g1 : ¬ ((xs.length : Int) < (ys.length : Int)) := by omega
    simp only [S.laws_heldCellS.l5, List.take_length]
    simp [g1, -Int.natCast_add]
    try rfl
theorem laws_markCellS_spec (h : Heap) (v : GV) (xs : List ((Int × (Int × Int × Bool × Bool × Bool) × Int))) (R : List Nat) (k : Nat) (hok : okCellS xs) (he : rCellS h [v] xs R) (nd : R.Nodup) (hk : k + cCellS xs ≤ 4611686018427387904) : ∃ h', HH fn.laws_markCellS [v, .int .i64 (k : Int)] h = some (.int .i64 ((k + cCellS xs : Nat) : Int), h') ∧ rCellS h' [v] (kCellS xs k) R ∧ Fr R h h' := by
  have hlim : k + cntL (fun x => 1 + 1 + 1 + 1 + 1 + 1 + 1) xs ≤ 4611686018427387904 := hk
  have hlen : xs.length ≤ 1048576 := hok.1
  have key := mark_loop (E := (RFl (mCell true))) (RFl.good (es := 7) (mk := (mCell true)) (fun _ => rfl) (fun _ => rfl)) (m := (fun x k => (((k : Nat) : Int), (((k + 1 : Nat) : Int), ((k + 1 + 1 : Nat) : Int), decide ((k + 1 + 1 + 1) % 3 = 0), decide ((k + 1 + 1 + 1 + 1) % 3 = 0), decide ((k + 1 + 1 + 1 + 1 + 1) % 3 = 0)), ((k + 1 + 1 + 1 + 1 + 1 + 1 : Nat) : Int)))) (c := (fun x => 1 + 1 + 1 + 1 + 1 + 1 + 1)) (v := v) (xs := xs) (R := R) (k := k) nd (f := fun r j k h => fun (G : GX → GV → GV → Heap → Option (GV × Heap)) => S.laws_markCellS.l5 (xs.length + 1) G r v (.int .i64 (k : Int)) (.int .i64 0) (.int .i64 (j : Int)) h) (A := fun k h => fun G => G (.ext 0) (.int .i64 (k : Int)) (.int .i64 0) h) ?_ ?_ he (xs.length + 1) (by omega)
  · obtain ⟨h', a1, a2, a3⟩ := key
    refine ⟨h', S.laws_markCellS.gives (k := xs.length + 1) ?_, a2, a3⟩
    have a1' := fun G => congrFun a1 G
    simp only [show ((0 : Nat) : Int) = 0 from rfl] at a1'
    simp [S.laws_markCellS.run, a1', -Int.natCast_add]
    rfl
  · intro j r h ys he hl hj hy
    obtain ⟨b, css, c, r0, hv, hb, fl, hcn, hc, fe, hE, hbr, hbR, hrR, nd0, hup⟩ := RSl.focus (RFl.good (es := 7) (mk := (mCell true)) (fun _ => rfl) (fun _ => rfl)) he nd (j := j) (by omega)
    have ey : ys[j]'(by omega) = xs[j] := by rw [List.getElem?_eq_getElem (by omega)] at hy; exact Option.some.inj hy
    rw [ey] at hE
    rw [hl] at hv hcn
    have hcl := fe c (List.mem_of_getElem? hc)
    have hb0 : h[b]? = some (css.set j c).flatten := by rw [set_get_self hc]; exact hb
    have q1 := cntL_take (c := (fun x => 1 + 1 + 1 + 1 + 1 + 1 + 1)) hj
    have q2 := cntL_le (c := (fun x => 1 + 1 + 1 + 1 + 1 + 1 + 1)) (xs := xs) (j + 1)
    try simp only at q1
    obtain ⟨K, hK⟩ : ∃ K, k + cntL (fun x => 1 + 1 + 1 + 1 + 1 + 1 + 1) (xs.take j) = K := ⟨_, rfl⟩
    have hKb : K + (1 + 1 + 1 + 1 + 1 + 1 + 1) ≤ 4611686018427387904 := by omega
    rw [hK]
    clear hK q1 q2
    have hm := (RSl.good (RFl.good (es := 7) (mk := (mCell true)) (fun _ => rfl) (fun _ => rfl))).mem he
    have hbl := (List.getElem?_eq_some_iff.1 hb).1
    have kj := kadd1 (n := j) (by omega)
    have k0 : kia 7 (.sl b 0 xs.length xs.length 7) (.int .i64 (j : Int)) = some (.ptr b (j * 7) (xs.length * 7)) := kia_at hj (by omega) (by omega)
    obtain ⟨rfl, rfl⟩ := hE
    obtain ⟨H1, m1, hb1, f1⟩ := st_leaf (es := 7) (off := 0) (x := (.int .i64 ((K : Nat) : Int))) (o := j * 7) (tot := xs.length * 7) hb0 fe hcn hj hcl (by omega) rfl rfl (by omega) (by omega)
    have g1 : Fr R h H1 := f1.sub (fun i hi => by rw [List.mem_singleton] at hi; rw [hi]; exact hbR)
    have ka0 := kadd1 (n := K) (by omega)
    have hcl1 : (((mCell true) xs[j]).set 0 (.int .i64 ((K : Nat) : Int))).length = 7 := by rw [List.length_set]; exact hcl
    obtain ⟨H2, m2, hb2, f2⟩ := st_leaf (es := 7) (off := 1) (x := (.int .i64 ((K + 1 : Nat) : Int))) (o := j * 7 + 1) (tot := xs.length * 7) hb1 fe hcn hj hcl1 (by omega) rfl rfl (by omega) (by omega)
    have g2 : Fr R H1 H2 := f2.sub (fun i hi => by rw [List.mem_singleton] at hi; rw [hi]; exact hbR)
    have ka1 := kadd1 (n := K + 1) (by omega)
    have hcl2 : ((((mCell true) xs[j]).set 0 (.int .i64 ((K : Nat) : Int))).set 1 (.int .i64 ((K + 1 : Nat) : Int))).length = 7 := by rw [List.length_set]; exact hcl1
    obtain ⟨H3, m3, hb3, f3⟩ := st_leaf (es := 7) (off := 2) (x := (.int .i64 ((K + 1 + 1 : Nat) : Int))) (o := j * 7 + 2) (tot := xs.length * 7) hb2 fe hcn hj hcl2 (by omega) rfl rfl (by omega) (by omega)
    have g3 : Fr R H2 H3 := f3.sub (fun i hi => by rw [List.mem_singleton] at hi; rw [hi]; exact hbR)
    have ka2 := kadd1 (n := K + 1 + 1) (by omega)
    have hcl3 : (((((mCell true) xs[j]).set 0 (.int .i64 ((K : Nat) : Int))).set 1 (.int .i64 ((K + 1 : Nat) : Int))).set 2 (.int .i64 ((K + 1 + 1 : Nat) : Int))).length = 7 := by rw [List.length_set]; exact hcl2
    obtain ⟨H4, m4, hb4, f4⟩ := st_leaf (es := 7) (off := 3) (x := (.bool (decide ((K + 1 + 1 + 1) % 3 = 0)))) (o := j * 7 + 3) (tot := xs.length * 7) hb3 fe hcn hj hcl3 (by omega) rfl rfl (by omega) (by omega)
    have g4 : Fr R H3 H4 := f4.sub (fun i hi => by rw [List.mem_singleton] at hi; rw [hi]; exact hbR)
    have ka3 := kadd1 (n := K + 1 + 1 + 1) (by omega)
    have kr3 := krem3 (n := K + 1 + 1 + 1)
    have hcl4 : ((((((mCell true) xs[j]).set 0 (.int .i64 ((K : Nat) : Int))).set 1 (.int .i64 ((K + 1 : Nat) : Int))).set 2 (.int .i64 ((K + 1 + 1 : Nat) : Int))).set 3 (.bool (decide ((K + 1 + 1 + 1) % 3 = 0)))).length = 7 := by rw [List.length_set]; exact hcl3
    obtain ⟨H5, m5, hb5, f5⟩ := st_leaf (es := 7) (off := 4) (x := (.bool (decide ((K + 1 + 1 + 1 + 1) % 3 = 0)))) (o := j * 7 + 4) (tot := xs.length * 7) hb4 fe hcn hj hcl4 (by omega) rfl rfl (by omega) (by omega)
    have g5 : Fr R H4 H5 := f5.sub (fun i hi => by rw [List.mem_singleton] at hi; rw [hi]; exact hbR)
    have ka4 := kadd1 (n := K + 1 + 1 + 1 + 1) (by omega)
    have kr4 := krem3 (n := K + 1 + 1 + 1 + 1)
    have hcl5 : (((((((mCell true) xs[j]).set 0 (.int .i64 ((K : Nat) : Int))).set 1 (.int .i64 ((K + 1 : Nat) : Int))).set 2 (.int .i64 ((K + 1 + 1 : Nat) : Int))).set 3 (.bool (decide ((K + 1 + 1 + 1) % 3 = 0)))).set 4 (.bool (decide ((K + 1 + 1 + 1 + 1) % 3 = 0)))).length = 7 := by rw [List.length_set]; exact hcl4
    obtain ⟨H6, m6, hb6, f6⟩ := st_leaf (es := 7) (off := 5) (x := (.bool (decide ((K + 1 + 1 + 1 + 1 + 1) % 3 = 0)))) (o := j * 7 + 5) (tot := xs.length * 7) hb5 fe hcn hj hcl5 (by omega) rfl rfl (by omega) (by omega)
    have g6 : Fr R H5 H6 := f6.sub (fun i hi => by rw [List.mem_singleton] at hi; rw [hi]; exact hbR)
    have ka5 := kadd1 (n := K + 1 + 1 + 1 + 1 + 1) (by omega)
    have kr5 := krem3 (n := K + 1 + 1 + 1 + 1 + 1)
    have hcl6 : ((((((((mCell true) xs[j]).set 0 (.int .i64 ((K : Nat) : Int))).set 1 (.int .i64 ((K + 1 : Nat) : Int))).set 2 (.int .i64 ((K + 1 + 1 : Nat) : Int))).set 3 (.bool (decide ((K + 1 + 1 + 1) % 3 = 0)))).set 4 (.bool (decide ((K + 1 + 1 + 1 + 1) % 3 = 0)))).set 5 (.bool (decide ((K + 1 + 1 + 1 + 1 + 1) % 3 = 0)))).length = 7 := by rw [List.length_set]; exact hcl5
    obtain ⟨H7, m7, hb7, f7⟩ := st_leaf (es := 7) (off := 6) (x := (.int .i64 ((K + 1 + 1 + 1 + 1 + 1 + 1 : Nat) : Int))) (o := j * 7 + 6) (tot := xs.length * 7) hb6 fe hcn hj hcl6 (by omega) rfl rfl (by omega) (by omega)
    have g7 : Fr R H6 H7 := f7.sub (fun i hi => by rw [List.mem_singleton] at hi; rw [hi]; exact hbR)
    have ka6 := kadd1 (n := K + 1 + 1 + 1 + 1 + 1 + 1) (by omega)
    have hcl7 : (((((((((mCell true) xs[j]).set 0 (.int .i64 ((K : Nat) : Int))).set 1 (.int .i64 ((K + 1 : Nat) : Int))).set 2 (.int .i64 ((K + 1 + 1 : Nat) : Int))).set 3 (.bool (decide ((K + 1 + 1 + 1) % 3 = 0)))).set 4 (.bool (decide ((K + 1 + 1 + 1 + 1) % 3 = 0)))).set 5 (.bool (decide ((K + 1 + 1 + 1 + 1 + 1) % 3 = 0)))).set 6 (.int .i64 ((K + 1 + 1 + 1 + 1 + 1 + 1 : Nat) : Int))).length = 7 := by rw [List.length_set]; exact hcl6
    refine ⟨H7, ?_, hup H7 (((((((((mCell true) xs[j]).set 0 (.int .i64 ((K : Nat) : Int))).set 1 (.int .i64 ((K + 1 : Nat) : Int))).set 2 (.int .i64 ((K + 1 + 1 : Nat) : Int))).set 3 (.bool (decide ((K + 1 + 1 + 1) % 3 = 0)))).set 4 (.bool (decide ((K + 1 + 1 + 1 + 1) % 3 = 0)))).set 5 (.bool (decide ((K + 1 + 1 + 1 + 1 + 1) % 3 = 0)))).set 6 (.int .i64 ((K + 1 + 1 + 1 + 1 + 1 + 1 : Nat) : Int))) _ hb7 ⟨rfl, rfl⟩ (fun i hi hib hir => ?_), ((((((g1.trans g2).trans g3).trans g4).trans g5).trans g6).trans g7)⟩
    · funext G
      simp only [S.laws_markCellS.l5, S.laws_markCellS.n8, S.laws_markCellS.n13, S.laws_markCellS.n12, S.laws_markCellS.n11, S.laws_markCellS.n10, S.laws_markCellS.n9, S.laws_markCellS.n7, S.laws_markCellS.n6, hv, klen_sl, klt, decide_eq_true hj, kcond_bool, cond_true, kx_nrm, kb_nrm, Option.bind_some, kr_mk, kfa_ptr, kj, Nat.add_zero, kN_eq, bors_cons, bors_nil, bor_int, k0, m1, ka0, m2, ka1, m3, ka2, m4, ka3, kr3, keq0, m5, ka4, kr4, keq0, m6, ka5, kr5, keq0, m7, ka6]
      try rfl
    · exact (((((((f7.2 i (by have := hm i hi; have := f1.1; have := f2.1; have := f3.1; have := f4.1; have := f5.1; have := f6.1; omega) (by simpa using hib)).trans (f6.2 i (by have := hm i hi; have := f1.1; have := f2.1; have := f3.1; have := f4.1; have := f5.1; omega) (by simpa using hib))).trans (f5.2 i (by have := hm i hi; have := f1.1; have := f2.1; have := f3.1; have := f4.1; omega) (by simpa using hib))).trans (f4.2 i (by have := hm i hi; have := f1.1; have := f2.1; have := f3.1; omega) (by simpa using hib))).trans (f3.2 i (by have := hm i hi; have := f1.1; have := f2.1; omega) (by simpa using hib))).trans (f2.2 i (by have := hm i hi; have := f1.1; omega) (by simpa using hib))).trans (f1.2 i (hm i hi) (by simpa using hib)))
  · intro r h ys he hl
    have e1 := he.len
    rw [hl] at e1
    funext G
    simp only [S.laws_markCellS.l5, S.laws_markCellS.n6, S.laws_markCellS.n7, S.laws_markCellS.n8, S.laws_markCellS.n9, S.laws_markCellS.n10, e1, klt, Nat.lt_irrefl, decide_false, kcond_bool, cond_false, Option.bind_some, kx_ext, kb_ext]
    try rfl

/-! CellSS -/
abbrev mCellSS (t : Bool) (a : List (List ((Int × (Int × Int × Bool × Bool × Bool) × Int)))) : List GV := [fzl t 1 (mCellS t) a]
def zCellSS (a : List (List ((Int × (Int × Int × Bool × Bool × Bool) × Int)))) : Nat := a.length + (a.map fun x => zCellS x).sum
def okCellSS (a : List (List ((Int × (Int × Int × Bool × Bool × Bool) × Int)))) : Prop := a.length ≤ 1048576 ∧ ∀ x ∈ a, okCellS x
theorem okCellSS_of {a : List (List ((Int × (Int × Int × Bool × Bool × Bool) × Int)))} (h : zCellSS a ≤ 1048576) : okCellSS a := by
  unfold zCellSS at h
  refine ⟨by omega, fun x hx => ?_⟩
  have : zCellS x ≤ _ := sum_mem (c := fun x => zCellS x) hx
  exact okCellS_of (by omega)
@[simp] theorem kload1_CellSS {h : Heap} {t : Bool} {xs : List (List (List ((Int × (Int × Int × Bool × Bool × Bool) × Int))))} {j : Nat} : kload1 h (elp t (mCellSS t) xs j) = xs[j]?.map fun a => fzl t 1 (mCellS t) a := kload1_elp _ (fun _ => rfl)
@[simp] theorem kia_CellSS {t : Bool} {xs : List (List (List ((Int × (Int × Int × Bool × Bool × Bool) × Int))))} {k : IntKind} {i : Int} : kia 1 (fzl t 1 (mCellSS t) xs) (.int k i) = if 0 ≤ i ∧ i < xs.length then some (elp t (mCellSS t) xs i.toNat) else none := kia_fzl (es := 1) (fun _ => rfl)
theorem ld_CellSS {d : Nat} {t : Bool} (a : List (List ((Int × (Int × Int × Bool × Bool × Bool) × Int)))) : (mCellSS t a).map (lend (d + 2)) = mCellSS true a := map_cons' (lend_fzl (d := d + 1) (mk := (mCellS t)) (mk' := (mCellS true)) (fun a => ld_CellS (d := d) a) a) (rfl)
@[simp] theorem bor_CellSS {d : Nat} {h : Heap} {t : Bool} {xs : List (List (List ((Int × (Int × Int × Bool × Bool × Bool) × Int))))} : bor (d + 4) h (fzl t 1 (mCellSS t) xs) = some (fzl true 1 (mCellSS true) xs, []) := bor_fzl (d := d + 3) (fun a => ld_CellSS (d := d + 1) a) xs
open Classical in
theorem laws_eqCellSS_spec (xs ys : List (List ((Int × (Int × Int × Bool × Bool × Bool) × Int)))) (hm : okCellSS xs) : NN fn.laws_eqCellSS [fzl true 1 (mCellS true) xs, fzl true 1 (mCellS true) ys] = some (.bool (decide (xs = ys))) := by
  apply S.laws_eqCellSS.gives (k := xs.length + 1)
  have hm' : xs.length ≤ 1048576 := hm.1
  simp [S.laws_eqCellSS.run]
  by_cases hl : xs.length = ys.length
  · have hi : (xs.length : Int) = ys.length := by omega
    simp [hi]
    refine (loop_all (f := fun r j => S.laws_eqCellSS.l6 _ _ r _ _ _ (.int .i64 (j : Int)) _) (A := some (GV.bool true)) (B := some (GV.bool false)) (n := xs.length) (P := fun j => xs[j]? = ys[j]?) (fun j r hj => ?_) (fun r => ?_) (xs.length + 1) 0 (by omega) (by omega)).trans ?_
    · have h1 : (j : Int) < xs.length := by omega
      have h2 : (j : Int) < ys.length := by omega
      have h3 : j < ys.length := by omega
      have w := wrap_succ (n := j) (by simp only [maxLen]; omega)
      have sp := laws_eqCellS_spec xs[j] ys[j] (hm.2 _ (List.getElem_mem hj))
      by_cases hc : xs[j] = ys[j]
      · have e1 : xs[j] = ys[j] := hc
        rw [decide_eq_true e1] at sp
        refine Eq.trans ?_ (if_pos (by rw [get_of hj, get_of h3, hc])).symm
        simp [S.laws_eqCellSS.l6, h1, h2, get_of hj, get_of h3, w, sp]
      · have e1 : ¬ (xs[j] = ys[j]) := hc
        rw [decide_eq_false e1] at sp
        refine Eq.trans ?_ (if_neg (by rw [get_of hj, get_of h3]; exact fun h => hc (Option.some.inj h))).symm
        simp [S.laws_eqCellSS.l6, h1, h2, get_of hj, get_of h3, w, sp]
    · simp [S.laws_eqCellSS.l6]
    · simp [list_eq_iff hl]
      by_cases hx : xs = ys <;> simp [hx]
  · have : ¬ ((xs.length : Int) = ys.length) := by omega
    have hne : xs ≠ ys := fun h => hl (by rw [h])
    simp [this, hne]
abbrev rCellSS : Rel (List (List ((Int × (Int × Int × Bool × Bool × Bool) × Int)))) := RSl 1 rCellS
theorem goodCellSS : Good 1 3 (mCellSS true) rCellSS := RSl.good goodCellS
def cCellSS (xs : List (List ((Int × (Int × Int × Bool × Bool × Bool) × Int)))) : Nat := cntL (fun x => (cCellS x)) xs
noncomputable def kCellSS (xs : List (List ((Int × (Int × Int × Bool × Bool × Bool) × Int)))) (k : Nat) : List (List ((Int × (Int × Int × Bool × Bool × Bool) × Int))) := markL (fun x k => kCellS x (k)) (fun x => (cCellS x)) xs k
theorem cCellSS_le {xs : List (List ((Int × (Int × Int × Bool × Bool × Bool) × Int)))} (h : okCellSS xs) : cCellSS xs ≤ 7696581394432 := cntL_bound (M := 1048576) (B := 7340032) (h.1) (fun x hx => by have := cCellS_le (h.2 x hx); show _ ≤ _; omega)
theorem laws_heldCellSS_spec (xs : List (List ((Int × (Int × Int × Bool × Bool × Bool) × Int)))) (k : Nat) (hok : okCellSS xs) (hk : k + cCellSS xs ≤ 4611686018427387904) : NN fn.laws_heldCellSS [(fzl true 1 (mCellS true) (kCellSS xs k)), .int .i64 (k : Int)] = some (.int .i64 ((k + cCellSS xs : Nat) : Int)) := by
  have hlim : k + cntL (fun x => (cCellS x)) xs ≤ 4611686018427387904 := hk
  have hlen : xs.length ≤ 1048576 := hok.1
  obtain ⟨ys, hys⟩ : ∃ ys, kCellSS xs k = ys := ⟨_, rfl⟩
  have hl : ys.length = xs.length := by rw [← hys]; exact markL_len _ _
  have hg : ∀ j (hj : j < xs.length), ys[j]? = some (kCellS xs[j] ((k + cntL (fun x => (cCellS x)) (xs.take j)))) := fun j hj => by rw [← hys]; exact markL_get xs k j hj
  rw [hys]
  apply S.laws_heldCellSS.gives (k := xs.length + 1)
  have key := loop_to (f := fun r j => fun (G : GX → GV → GV → Heap → Option GV) => S.laws_heldCellSS.l5 (xs.length + 1) G r (fzl true 1 (mCellS true) ys) (.int .i64 ((k + cntL (fun x => (cCellS x)) (xs.take j) : Nat) : Int)) (.int .i64 0) (.int .i64 (j : Int)) []) (A := fun G => G (.ext 0) (.int .i64 ((k + cCellSS xs : Nat) : Int)) (.int .i64 0) []) (n := xs.length) ?_ ?_ (xs.length + 1) 0 (by omega) (by omega)
  · have key' := fun G => congrFun key G
    simp only [List.take_zero, cntL, List.map_nil, List.sum_nil, Nat.add_zero, show ((0 : Nat) : Int) = 0 from rfl] at key'
    simp [S.laws_heldCellSS.run, key', -Int.natCast_add]
  · intro j r hj
    have g1 : (j : Int) < (ys.length : Int) := by omega
    have kj := kadd1 (n := j) (by omega)
    have q1 := cntL_take (c := (fun x => (cCellS x))) hj
    have q2 := cntL_le (c := (fun x => (cCellS x))) (xs := xs) (j + 1)
    have hgj := hg j hj
    try simp only at q1
    rw [q1, ← Nat.add_assoc]
    obtain ⟨K, hK⟩ : ∃ K, k + cntL (fun x => (cCellS x)) (xs.take j) = K := ⟨_, rfl⟩
    have hKb : K + ((cCellS xs[j])) ≤ 4611686018427387904 := by omega
    rw [hK] at hgj ⊢
    have s0 := laws_heldCellS_spec (xs[j]) (K) (hok.2 _ (List.getElem_mem hj)) (by omega)
    have z0 : ¬ (((K + (cCellS xs[j]) : Nat) : Int) < 0) := by omega
    funext G
    simp only [S.laws_heldCellSS.l5]
    simp [g1, hgj, kj, s0, z0, -Int.natCast_add, -kbin_add]
    try rfl
  · intro r
    funext G
    have g1 : ¬ ((xs.length : Int) < (ys.length : Int)) := by omega
    simp only [S.laws_heldCellSS.l5, List.take_length]
    simp [g1, -Int.natCast_add]
    try rfl
theorem laws_markCellSS_spec (h : Heap) (v : GV) (xs : List (List ((Int × (Int × Int × Bool × Bool × Bool) × Int)))) (R : List Nat) (k : Nat) (hok : okCellSS xs) (he : rCellSS h [v] xs R) (nd : R.Nodup) (hk : k + cCellSS xs ≤ 4611686018427387904) : ∃ h', HH fn.laws_markCellSS [v, .int .i64 (k : Int)] h = some (.int .i64 ((k + cCellSS xs : Nat) : Int), h') ∧ rCellSS h' [v] (kCellSS xs k) R ∧ Fr R h h' := by
  have hlim : k + cntL (fun x => (cCellS x)) xs ≤ 4611686018427387904 := hk
  have hlen : xs.length ≤ 1048576 := hok.1
  have key := mark_loop (E := rCellS) goodCellS (m := (fun x k => kCellS x (k))) (c := (fun x => (cCellS x))) (v := v) (xs := xs) (R := R) (k := k) nd (f := fun r j k h => fun (G : GX → GV → GV → Heap → Option (GV × Heap)) => S.laws_markCellSS.l5 (xs.length + 1) G r v (.int .i64 (k : Int)) (.int .i64 0) (.int .i64 (j : Int)) h) (A := fun k h => fun G => G (.ext 0) (.int .i64 (k : Int)) (.int .i64 0) h) ?_ ?_ he (xs.length + 1) (by omega)
  · obtain ⟨h', a1, a2, a3⟩ := key
    refine ⟨h', S.laws_markCellSS.gives (k := xs.length + 1) ?_, a2, a3⟩
    have a1' := fun G => congrFun a1 G
    simp only [show ((0 : Nat) : Int) = 0 from rfl] at a1'
    simp [S.laws_markCellSS.run, a1', -Int.natCast_add]
    rfl
  · intro j r h ys he hl hj hy
    obtain ⟨b, css, c, r0, hv, hb, fl, hcn, hc, fe, hE, hbr, hbR, hrR, nd0, hup⟩ := RSl.focus goodCellS he nd (j := j) (by omega)
    have ey : ys[j]'(by omega) = xs[j] := by rw [List.getElem?_eq_getElem (by omega)] at hy; exact Option.some.inj hy
    rw [ey] at hE
    rw [hl] at hv hcn
    have hcl := fe c (List.mem_of_getElem? hc)
    have hb0 : h[b]? = some (css.set j c).flatten := by rw [set_get_self hc]; exact hb
    have q1 := cntL_take (c := (fun x => (cCellS x))) hj
    have q2 := cntL_le (c := (fun x => (cCellS x))) (xs := xs) (j + 1)
    try simp only at q1
    obtain ⟨K, hK⟩ : ∃ K, k + cntL (fun x => (cCellS x)) (xs.take j) = K := ⟨_, rfl⟩
    have hKb : K + ((cCellS xs[j])) ≤ 4611686018427387904 := by omega
    rw [hK]
    clear hK q1 q2
    have hm := (RSl.good goodCellS).mem he
    have hbl := (List.getElem?_eq_some_iff.1 hb).1
    have kj := kadd1 (n := j) (by omega)
    have k0 : kia 1 (.sl b 0 xs.length xs.length 1) (.int .i64 (j : Int)) = some (.ptr b (j) (xs.length)) := kia_at hj (by omega) (by omega)
    obtain ⟨v0, rfl⟩ : ∃ v0, c = [v0] := List.length_eq_one_iff.1 hcl
    have l0 : kload1 h (.ptr b (j) (xs.length)) = some v0 := by rw [ld_leaf (es := 1) (off := 0) hb0 fe hcn hj hcl (by omega) (by omega) (by omega)]; rfl
    have nd1 := nd0
    obtain ⟨H1, m1, x1, f1⟩ := laws_markCellS_spec h v0 (xs[j]) r0 (K) (hok.2 _ (List.getElem_mem hj)) hE nd1 (by omega)
    have hb1 : H1[b]? = some (css.set j [v0]).flatten := by rw [f1.2 b hbl (by simpa using hbr)]; exact hb0
    have g1 : Fr R h H1 := f1.sub (fun i hi => hrR i (by simpa using hi))
    refine ⟨H1, ?_, hup H1 [v0] _ hb1 x1 (fun i hi hib hir => ?_), g1⟩
    · funext G
      simp only [S.laws_markCellSS.l5, S.laws_markCellSS.n8, S.laws_markCellSS.n10, S.laws_markCellSS.n9, S.laws_markCellSS.n7, S.laws_markCellSS.n6, hv, klen_sl, klt, decide_eq_true hj, kcond_bool, cond_true, kx_nrm, kb_nrm, Option.bind_some, kr_mk, kfa_ptr, kj, Nat.add_zero, kN_eq, bors_cons, bors_nil, bor_int, k0, l0, m1]
      try rfl
    · exact (f1.2 i (hm i hi) (by simpa using hir))
  · intro r h ys he hl
    have e1 := he.len
    rw [hl] at e1
    funext G
    simp only [S.laws_markCellSS.l5, S.laws_markCellSS.n6, S.laws_markCellSS.n7, S.laws_markCellSS.n8, S.laws_markCellSS.n9, S.laws_markCellSS.n10, e1, klt, Nat.lt_irrefl, decide_false, kcond_bool, cond_false, Option.bind_some, kx_ext, kb_ext]
    try rfl

/-! Grid -/
abbrev mGrid (t : Bool) (a : (Int × List (List ((Int × (Int × Int × Bool × Bool × Bool) × Int))))) : List GV := [.int .i64 a.1, fzl t 1 (mCellS t) a.2]
def zGrid (a : (Int × List (List ((Int × (Int × Int × Bool × Bool × Bool) × Int))))) : Nat := zCellSS a.2
def okGrid (a : (Int × List (List ((Int × (Int × Int × Bool × Bool × Bool) × Int))))) : Prop := okCellSS a.2
theorem okGrid_of {a : (Int × List (List ((Int × (Int × Int × Bool × Bool × Bool) × Int))))} (h : zGrid a ≤ 1048576) : okGrid a := by
  unfold zGrid at h
  exact okCellSS_of (by omega)
@[simp] theorem kloadA_Grid {h : Heap} {t : Bool} {xs : List (Int × List (List ((Int × (Int × Int × Bool × Bool × Bool) × Int))))} {j : Nat} : kloadA 2 h (elp t (mGrid t) xs j) = xs[j]?.map fun a => .agg (mGrid t a) := kloadA_elp (mk := mGrid t) (es := 2) (fun _ => rfl) (by omega)
@[simp] theorem kload1_Grid_0 {h : Heap} {t : Bool} {xs : List ((Int × List (List ((Int × (Int × Int × Bool × Bool × Bool) × Int)))))} {j : Nat} : kload1 h (elf t (mGrid t) xs j 0) = xs[j]?.bind fun a => (mGrid t a)[0]? := kload1_elf (mk := mGrid t) (es := 2) (fun _ => rfl) (by omega)
@[simp] theorem kload1_Grid_1 {h : Heap} {t : Bool} {xs : List ((Int × List (List ((Int × (Int × Int × Bool × Bool × Bool) × Int)))))} {j : Nat} : kload1 h (elf t (mGrid t) xs j 1) = xs[j]?.bind fun a => (mGrid t a)[1]? := kload1_elf (mk := mGrid t) (es := 2) (fun _ => rfl) (by omega)
@[simp] theorem kia_Grid {t : Bool} {xs : List ((Int × List (List ((Int × (Int × Int × Bool × Bool × Bool) × Int)))))} {k : IntKind} {i : Int} : kia 2 (fzl t 2 (mGrid t) xs) (.int k i) = if 0 ≤ i ∧ i < xs.length then some (elp t (mGrid t) xs i.toNat) else none := kia_fzl (es := 2) (fun _ => rfl)
theorem ld_Grid {d : Nat} {t : Bool} (a : (Int × List (List ((Int × (Int × Int × Bool × Bool × Bool) × Int))))) : (mGrid t a).map (lend (d + 2)) = mGrid true a := map_cons' lend_int (map_cons' (lend_fzl (d := d + 1) (mk := (mCellS t)) (mk' := (mCellS true)) (fun a => ld_CellS (d := d) a) a.2) (rfl))
@[simp] theorem bor_Grid {d : Nat} {h : Heap} {t : Bool} {xs : List ((Int × List (List ((Int × (Int × Int × Bool × Bool × Bool) × Int)))))} : bor (d + 4) h (fzl t 2 (mGrid t) xs) = some (fzl true 2 (mGrid true) xs, []) := bor_fzl (d := d + 3) (fun a => ld_Grid (d := d + 1) a) xs
open Classical in
theorem laws_eqGrid_spec (a_1 b_1 : Int) (a_2 b_2 : List (List ((Int × (Int × Int × Bool × Bool × Bool) × Int)))) (hm : okGrid (a_1, a_2)) : NN fn.laws_eqGrid [.agg [.int .i64 a_1, fzl true 1 (mCellS true) a_2], .agg [.int .i64 b_1, fzl true 1 (mCellS true) b_2]] = some (.bool (decide ((a_1, a_2) = (b_1, b_2)))) := by
  apply S.laws_eqGrid.gives (k := 0)
  unfold okGrid at hm
  by_cases c0 : a_1 = b_1
  rotate_left
  · have e : ¬ ((a_1, a_2) = (b_1, b_2)) := fun e => c0 (by simp only [Prod.mk.injEq] at e ⊢; simp [e])
    rw [decide_eq_false e]
    simp [S.laws_eqGrid.run, c0]
  have s1 := laws_eqCellSS_spec a_2 b_2 hm
  by_cases c1 : a_2 = b_2
  rotate_left
  · have e : ¬ ((a_1, a_2) = (b_1, b_2)) := fun e => c1 (by simp only [Prod.mk.injEq] at e ⊢; simp [e])
    rw [decide_eq_false e]
    rw [decide_eq_false c1] at s1
    simp [S.laws_eqGrid.run, c0, s1]
  rw [decide_eq_true c1] at s1
  have e : (a_1, a_2) = (b_1, b_2) := by rw [c0, c1]
  rw [decide_eq_true e]
  simp [S.laws_eqGrid.run, c0, s1]
abbrev rGrid : Rel ((Int × List (List ((Int × (Int × Int × Bool × Bool × Bool) × Int))))) := (RSeq (RFl ci) rCellSS)
theorem goodGrid : Good 2 3 (mGrid true) rGrid := (RSeq.good ((RFl.good (es := 1) (mk := ci) (fun _ => rfl) (fun _ => rfl)).mono (by omega)) (goodCellSS.mono (by omega)))
def cGrid (x : (Int × List (List ((Int × (Int × Int × Bool × Bool × Bool) × Int))))) : Nat := cCellSS x.2
theorem cGrid_le {x : (Int × List (List ((Int × (Int × Int × Bool × Bool × Bool) × Int))))} (h : okGrid x) : cGrid x ≤ 7696581394432 := by
  unfold okGrid at h
  unfold cGrid
  have := cCellSS_le h
  omega
noncomputable def kGrid (x : (Int × List (List ((Int × (Int × Int × Bool × Bool × Bool) × Int))))) (k : Nat) : (Int × List (List ((Int × (Int × Int × Bool × Bool × Bool) × Int)))) := (x.1, kCellSS x.2 (k))
theorem laws_heldGrid_spec (x : (Int × List (List ((Int × (Int × Int × Bool × Bool × Bool) × Int))))) (k : Nat) (hok : okGrid x) (hk : k + cGrid x ≤ 4611686018427387904) : NN fn.laws_heldGrid [.agg (mGrid true (kGrid x k)), .int .i64 (k : Int)] = some (.int .i64 ((k + cGrid x : Nat) : Int)) := by
  unfold okGrid at hok
  unfold cGrid at hk
  apply S.laws_heldGrid.gives (k := 0)
  have s1 := laws_heldCellSS_spec x.2 (k) hok (by omega)
  have z1 : ¬ (((k + cCellSS x.2 : Nat) : Int) < 0) := by omega
  simp only [kGrid, cGrid, ← Nat.add_assoc]
  simp [S.laws_heldGrid.run, s1, z1, -Int.natCast_add]
theorem laws_markGrid_spec (h : Heap) (c : List GV) (x : (Int × List (List ((Int × (Int × Int × Bool × Bool × Bool) × Int))))) (R : List Nat) (k : Nat) (hok : okGrid x) (he : rGrid h c x R) (nd : R.Nodup) (hk : k + cGrid x ≤ 4611686018427387904) : ∃ h', HH fn.laws_markGrid [.agg c, .int .i64 (k : Int)] h = some (.int .i64 ((k + cGrid x : Nat) : Int), h') ∧ rGrid h' c (kGrid x k) R ∧ Fr R h h' := by
  have ek : k + cGrid x = k + cCellSS x.2 := by unfold cGrid; omega
  rw [ek] at hk ⊢
  unfold okGrid at hok
  have hcl := goodGrid.len he
  have hm := goodGrid.mem he
  have he0 := goodGrid.grow (t := [c]) he
  have hb0 : (h ++ [c])[h.length]? = some c := by simp
  have hbox : ∀ {Q : Type} (K : GV → Heap → Option Q), kbox (.agg c) h K = K (.ptr h.length 0 2) (h ++ [c]) := fun K => by rw [kbox_agg, hcl]
  obtain ⟨H0, hH0⟩ : ∃ H0, h ++ [c] = H0 := ⟨_, rfl⟩
  have g0 : Fr R h H0 := by rw [← hH0]; exact .app
  have hl0 : h.length < H0.length := by rw [← hH0]; simp
  rw [hH0] at he0 hb0
  simp only [hH0] at hbox
  obtain ⟨c0, d0, R0, S0, rfl, rfl, E0, F0⟩ := he0
  have N0 := List.nodup_append.1 nd
  obtain ⟨rfl, rfl⟩ := E0
  have E1 := F0
  obtain ⟨w1, rfl⟩ : ∃ w, d0 = [w] := List.length_eq_one_iff.1 (goodCellSS.len E1)
  have l1 : kload1 H0 (.ptr h.length 1 2) = some w1 := by rw [kload1_at hb0 hcl]; rfl
  obtain ⟨H1, m1, x1, f1⟩ := laws_markCellSS_spec H0 w1 x.2 S0 (k) hok E1 (N0.2.1) (by omega)
  have i1 : h.length ∉ S0 := fun hz => by have := hm h.length (by simp [hz]); omega
  have hb1 : H1[h.length]? = some _ := (f1.2 _ (by omega) i1).trans hb0
  refine ⟨H1, S.laws_markGrid.gives (k := 0) ?_, ⟨_, _, _, _, rfl, rfl, ⟨rfl, rfl⟩, x1⟩, (g0.trans (f1.sub (fun z hz => by simp [hz])))⟩
  simp only [S.laws_markGrid.run, S.laws_markGrid.n0, hbox, l1, m1, kfa_ptr, Nat.zero_add, Option.bind_some, kr_mk, kend_ret, finH_eq]

/-! Term -/
abbrev mTerm (t : Bool) (a : ((Int × List (List ((Int × (Int × Int × Bool × Bool × Bool) × Int)))) × (Int × List (List ((Int × (Int × Int × Bool × Bool × Bool) × Int)))) × Int × Int × (Int × Int × Bool × Bool × Bool) × Int × Int × Bool × Bool × Bool × Bool × Int × Int × (Int × Int × Bool × Bool × Bool) × List (Int) × (Int × List (Int) × Int × List (Int)) × ByteArray)) : List GV := [.int .i64 a.1.1, fzl t 1 (mCellS t) a.1.2, .int .i64 a.2.1.1, fzl t 1 (mCellS t) a.2.1.2, .int .i64 a.2.2.1, .int .i64 a.2.2.2.1, .int .i64 a.2.2.2.2.1.1, .int .i64 a.2.2.2.2.1.2.1, .bool a.2.2.2.2.1.2.2.1, .bool a.2.2.2.2.1.2.2.2.1, .bool a.2.2.2.2.1.2.2.2.2, .int .i64 a.2.2.2.2.2.1, .int .i64 a.2.2.2.2.2.2.1, .bool a.2.2.2.2.2.2.2.1, .bool a.2.2.2.2.2.2.2.2.1, .bool a.2.2.2.2.2.2.2.2.2.1, .bool a.2.2.2.2.2.2.2.2.2.2.1, .int .i64 a.2.2.2.2.2.2.2.2.2.2.2.1, .int .i64 a.2.2.2.2.2.2.2.2.2.2.2.2.1, .int .i64 a.2.2.2.2.2.2.2.2.2.2.2.2.2.1.1, .int .i64 a.2.2.2.2.2.2.2.2.2.2.2.2.2.1.2.1, .bool a.2.2.2.2.2.2.2.2.2.2.2.2.2.1.2.2.1, .bool a.2.2.2.2.2.2.2.2.2.2.2.2.2.1.2.2.2.1, .bool a.2.2.2.2.2.2.2.2.2.2.2.2.2.1.2.2.2.2, fzl t 1 ci a.2.2.2.2.2.2.2.2.2.2.2.2.2.2.1, .int .i64 a.2.2.2.2.2.2.2.2.2.2.2.2.2.2.2.1.1, fzl t 1 ci a.2.2.2.2.2.2.2.2.2.2.2.2.2.2.2.1.2.1, .int .i64 a.2.2.2.2.2.2.2.2.2.2.2.2.2.2.2.1.2.2.1, fzl t 1 ci a.2.2.2.2.2.2.2.2.2.2.2.2.2.2.2.1.2.2.2, .str a.2.2.2.2.2.2.2.2.2.2.2.2.2.2.2.2]
def zTerm (a : ((Int × List (List ((Int × (Int × Int × Bool × Bool × Bool) × Int)))) × (Int × List (List ((Int × (Int × Int × Bool × Bool × Bool) × Int)))) × Int × Int × (Int × Int × Bool × Bool × Bool) × Int × Int × Bool × Bool × Bool × Bool × Int × Int × (Int × Int × Bool × Bool × Bool) × List (Int) × (Int × List (Int) × Int × List (Int)) × ByteArray)) : Nat := zGrid a.1 + zGrid a.2.1 + zStyle a.2.2.2.2.1 + zStyle a.2.2.2.2.2.2.2.2.2.2.2.2.2.1 + zInt64S a.2.2.2.2.2.2.2.2.2.2.2.2.2.2.1 + zParser a.2.2.2.2.2.2.2.2.2.2.2.2.2.2.2.1 + zFeeder a.2.2.2.2.2.2.2.2.2.2.2.2.2.2.2.2
def okTerm (a : ((Int × List (List ((Int × (Int × Int × Bool × Bool × Bool) × Int)))) × (Int × List (List ((Int × (Int × Int × Bool × Bool × Bool) × Int)))) × Int × Int × (Int × Int × Bool × Bool × Bool) × Int × Int × Bool × Bool × Bool × Bool × Int × Int × (Int × Int × Bool × Bool × Bool) × List (Int) × (Int × List (Int) × Int × List (Int)) × ByteArray)) : Prop := okGrid a.1 ∧ okGrid a.2.1 ∧ okStyle a.2.2.2.2.1 ∧ okStyle a.2.2.2.2.2.2.2.2.2.2.2.2.2.1 ∧ okInt64S a.2.2.2.2.2.2.2.2.2.2.2.2.2.2.1 ∧ okParser a.2.2.2.2.2.2.2.2.2.2.2.2.2.2.2.1 ∧ okFeeder a.2.2.2.2.2.2.2.2.2.2.2.2.2.2.2.2
theorem okTerm_of {a : ((Int × List (List ((Int × (Int × Int × Bool × Bool × Bool) × Int)))) × (Int × List (List ((Int × (Int × Int × Bool × Bool × Bool) × Int)))) × Int × Int × (Int × Int × Bool × Bool × Bool) × Int × Int × Bool × Bool × Bool × Bool × Int × Int × (Int × Int × Bool × Bool × Bool) × List (Int) × (Int × List (Int) × Int × List (Int)) × ByteArray)} (h : zTerm a ≤ 1048576) : okTerm a := by
  unfold zTerm at h
  exact ⟨okGrid_of (by omega), okGrid_of (by omega), okStyle_of (by omega), okStyle_of (by omega), (show zInt64S a.2.2.2.2.2.2.2.2.2.2.2.2.2.2.1 ≤ 1048576 by omega), okParser_of (by omega), okFeeder_of (by omega)⟩
@[simp] theorem kloadA_Term {h : Heap} {t : Bool} {xs : List ((Int × List (List ((Int × (Int × Int × Bool × Bool × Bool) × Int)))) × (Int × List (List ((Int × (Int × Int × Bool × Bool × Bool) × Int)))) × Int × Int × (Int × Int × Bool × Bool × Bool) × Int × Int × Bool × Bool × Bool × Bool × Int × Int × (Int × Int × Bool × Bool × Bool) × List (Int) × (Int × List (Int) × Int × List (Int)) × ByteArray)} {j : Nat} : kloadA 30 h (elp t (mTerm t) xs j) = xs[j]?.map fun a => .agg (mTerm t a) := kloadA_elp (mk := mTerm t) (es := 30) (fun _ => rfl) (by omega)
@[simp] theorem kload1_Term_0 {h : Heap} {t : Bool} {xs : List (((Int × List (List ((Int × (Int × Int × Bool × Bool × Bool) × Int)))) × (Int × List (List ((Int × (Int × Int × Bool × Bool × Bool) × Int)))) × Int × Int × (Int × Int × Bool × Bool × Bool) × Int × Int × Bool × Bool × Bool × Bool × Int × Int × (Int × Int × Bool × Bool × Bool) × List (Int) × (Int × List (Int) × Int × List (Int)) × ByteArray))} {j : Nat} : kload1 h (elf t (mTerm t) xs j 0) = xs[j]?.bind fun a => (mTerm t a)[0]? := kload1_elf (mk := mTerm t) (es := 30) (fun _ => rfl) (by omega)
@[simp] theorem kload1_Term_1 {h : Heap} {t : Bool} {xs : List (((Int × List (List ((Int × (Int × Int × Bool × Bool × Bool) × Int)))) × (Int × List (List ((Int × (Int × Int × Bool × Bool × Bool) × Int)))) × Int × Int × (Int × Int × Bool × Bool × Bool) × Int × Int × Bool × Bool × Bool × Bool × Int × Int × (Int × Int × Bool × Bool × Bool) × List (Int) × (Int × List (Int) × Int × List (Int)) × ByteArray))} {j : Nat} : kload1 h (elf t (mTerm t) xs j 1) = xs[j]?.bind fun a => (mTerm t a)[1]? := kload1_elf (mk := mTerm t) (es := 30) (fun _ => rfl) (by omega)
@[simp] theorem kload1_Term_2 {h : Heap} {t : Bool} {xs : List (((Int × List (List ((Int × (Int × Int × Bool × Bool × Bool) × Int)))) × (Int × List (List ((Int × (Int × Int × Bool × Bool × Bool) × Int)))) × Int × Int × (Int × Int × Bool × Bool × Bool) × Int × Int × Bool × Bool × Bool × Bool × Int × Int × (Int × Int × Bool × Bool × Bool) × List (Int) × (Int × List (Int) × Int × List (Int)) × ByteArray))} {j : Nat} : kload1 h (elf t (mTerm t) xs j 2) = xs[j]?.bind fun a => (mTerm t a)[2]? := kload1_elf (mk := mTerm t) (es := 30) (fun _ => rfl) (by omega)
@[simp] theorem kload1_Term_3 {h : Heap} {t : Bool} {xs : List (((Int × List (List ((Int × (Int × Int × Bool × Bool × Bool) × Int)))) × (Int × List (List ((Int × (Int × Int × Bool × Bool × Bool) × Int)))) × Int × Int × (Int × Int × Bool × Bool × Bool) × Int × Int × Bool × Bool × Bool × Bool × Int × Int × (Int × Int × Bool × Bool × Bool) × List (Int) × (Int × List (Int) × Int × List (Int)) × ByteArray))} {j : Nat} : kload1 h (elf t (mTerm t) xs j 3) = xs[j]?.bind fun a => (mTerm t a)[3]? := kload1_elf (mk := mTerm t) (es := 30) (fun _ => rfl) (by omega)
@[simp] theorem kload1_Term_4 {h : Heap} {t : Bool} {xs : List (((Int × List (List ((Int × (Int × Int × Bool × Bool × Bool) × Int)))) × (Int × List (List ((Int × (Int × Int × Bool × Bool × Bool) × Int)))) × Int × Int × (Int × Int × Bool × Bool × Bool) × Int × Int × Bool × Bool × Bool × Bool × Int × Int × (Int × Int × Bool × Bool × Bool) × List (Int) × (Int × List (Int) × Int × List (Int)) × ByteArray))} {j : Nat} : kload1 h (elf t (mTerm t) xs j 4) = xs[j]?.bind fun a => (mTerm t a)[4]? := kload1_elf (mk := mTerm t) (es := 30) (fun _ => rfl) (by omega)
@[simp] theorem kload1_Term_5 {h : Heap} {t : Bool} {xs : List (((Int × List (List ((Int × (Int × Int × Bool × Bool × Bool) × Int)))) × (Int × List (List ((Int × (Int × Int × Bool × Bool × Bool) × Int)))) × Int × Int × (Int × Int × Bool × Bool × Bool) × Int × Int × Bool × Bool × Bool × Bool × Int × Int × (Int × Int × Bool × Bool × Bool) × List (Int) × (Int × List (Int) × Int × List (Int)) × ByteArray))} {j : Nat} : kload1 h (elf t (mTerm t) xs j 5) = xs[j]?.bind fun a => (mTerm t a)[5]? := kload1_elf (mk := mTerm t) (es := 30) (fun _ => rfl) (by omega)
@[simp] theorem kload1_Term_6 {h : Heap} {t : Bool} {xs : List (((Int × List (List ((Int × (Int × Int × Bool × Bool × Bool) × Int)))) × (Int × List (List ((Int × (Int × Int × Bool × Bool × Bool) × Int)))) × Int × Int × (Int × Int × Bool × Bool × Bool) × Int × Int × Bool × Bool × Bool × Bool × Int × Int × (Int × Int × Bool × Bool × Bool) × List (Int) × (Int × List (Int) × Int × List (Int)) × ByteArray))} {j : Nat} : kload1 h (elf t (mTerm t) xs j 6) = xs[j]?.bind fun a => (mTerm t a)[6]? := kload1_elf (mk := mTerm t) (es := 30) (fun _ => rfl) (by omega)
@[simp] theorem kload1_Term_7 {h : Heap} {t : Bool} {xs : List (((Int × List (List ((Int × (Int × Int × Bool × Bool × Bool) × Int)))) × (Int × List (List ((Int × (Int × Int × Bool × Bool × Bool) × Int)))) × Int × Int × (Int × Int × Bool × Bool × Bool) × Int × Int × Bool × Bool × Bool × Bool × Int × Int × (Int × Int × Bool × Bool × Bool) × List (Int) × (Int × List (Int) × Int × List (Int)) × ByteArray))} {j : Nat} : kload1 h (elf t (mTerm t) xs j 7) = xs[j]?.bind fun a => (mTerm t a)[7]? := kload1_elf (mk := mTerm t) (es := 30) (fun _ => rfl) (by omega)
@[simp] theorem kload1_Term_8 {h : Heap} {t : Bool} {xs : List (((Int × List (List ((Int × (Int × Int × Bool × Bool × Bool) × Int)))) × (Int × List (List ((Int × (Int × Int × Bool × Bool × Bool) × Int)))) × Int × Int × (Int × Int × Bool × Bool × Bool) × Int × Int × Bool × Bool × Bool × Bool × Int × Int × (Int × Int × Bool × Bool × Bool) × List (Int) × (Int × List (Int) × Int × List (Int)) × ByteArray))} {j : Nat} : kload1 h (elf t (mTerm t) xs j 8) = xs[j]?.bind fun a => (mTerm t a)[8]? := kload1_elf (mk := mTerm t) (es := 30) (fun _ => rfl) (by omega)
@[simp] theorem kload1_Term_9 {h : Heap} {t : Bool} {xs : List (((Int × List (List ((Int × (Int × Int × Bool × Bool × Bool) × Int)))) × (Int × List (List ((Int × (Int × Int × Bool × Bool × Bool) × Int)))) × Int × Int × (Int × Int × Bool × Bool × Bool) × Int × Int × Bool × Bool × Bool × Bool × Int × Int × (Int × Int × Bool × Bool × Bool) × List (Int) × (Int × List (Int) × Int × List (Int)) × ByteArray))} {j : Nat} : kload1 h (elf t (mTerm t) xs j 9) = xs[j]?.bind fun a => (mTerm t a)[9]? := kload1_elf (mk := mTerm t) (es := 30) (fun _ => rfl) (by omega)
@[simp] theorem kload1_Term_10 {h : Heap} {t : Bool} {xs : List (((Int × List (List ((Int × (Int × Int × Bool × Bool × Bool) × Int)))) × (Int × List (List ((Int × (Int × Int × Bool × Bool × Bool) × Int)))) × Int × Int × (Int × Int × Bool × Bool × Bool) × Int × Int × Bool × Bool × Bool × Bool × Int × Int × (Int × Int × Bool × Bool × Bool) × List (Int) × (Int × List (Int) × Int × List (Int)) × ByteArray))} {j : Nat} : kload1 h (elf t (mTerm t) xs j 10) = xs[j]?.bind fun a => (mTerm t a)[10]? := kload1_elf (mk := mTerm t) (es := 30) (fun _ => rfl) (by omega)
@[simp] theorem kload1_Term_11 {h : Heap} {t : Bool} {xs : List (((Int × List (List ((Int × (Int × Int × Bool × Bool × Bool) × Int)))) × (Int × List (List ((Int × (Int × Int × Bool × Bool × Bool) × Int)))) × Int × Int × (Int × Int × Bool × Bool × Bool) × Int × Int × Bool × Bool × Bool × Bool × Int × Int × (Int × Int × Bool × Bool × Bool) × List (Int) × (Int × List (Int) × Int × List (Int)) × ByteArray))} {j : Nat} : kload1 h (elf t (mTerm t) xs j 11) = xs[j]?.bind fun a => (mTerm t a)[11]? := kload1_elf (mk := mTerm t) (es := 30) (fun _ => rfl) (by omega)
@[simp] theorem kload1_Term_12 {h : Heap} {t : Bool} {xs : List (((Int × List (List ((Int × (Int × Int × Bool × Bool × Bool) × Int)))) × (Int × List (List ((Int × (Int × Int × Bool × Bool × Bool) × Int)))) × Int × Int × (Int × Int × Bool × Bool × Bool) × Int × Int × Bool × Bool × Bool × Bool × Int × Int × (Int × Int × Bool × Bool × Bool) × List (Int) × (Int × List (Int) × Int × List (Int)) × ByteArray))} {j : Nat} : kload1 h (elf t (mTerm t) xs j 12) = xs[j]?.bind fun a => (mTerm t a)[12]? := kload1_elf (mk := mTerm t) (es := 30) (fun _ => rfl) (by omega)
@[simp] theorem kload1_Term_13 {h : Heap} {t : Bool} {xs : List (((Int × List (List ((Int × (Int × Int × Bool × Bool × Bool) × Int)))) × (Int × List (List ((Int × (Int × Int × Bool × Bool × Bool) × Int)))) × Int × Int × (Int × Int × Bool × Bool × Bool) × Int × Int × Bool × Bool × Bool × Bool × Int × Int × (Int × Int × Bool × Bool × Bool) × List (Int) × (Int × List (Int) × Int × List (Int)) × ByteArray))} {j : Nat} : kload1 h (elf t (mTerm t) xs j 13) = xs[j]?.bind fun a => (mTerm t a)[13]? := kload1_elf (mk := mTerm t) (es := 30) (fun _ => rfl) (by omega)
@[simp] theorem kload1_Term_14 {h : Heap} {t : Bool} {xs : List (((Int × List (List ((Int × (Int × Int × Bool × Bool × Bool) × Int)))) × (Int × List (List ((Int × (Int × Int × Bool × Bool × Bool) × Int)))) × Int × Int × (Int × Int × Bool × Bool × Bool) × Int × Int × Bool × Bool × Bool × Bool × Int × Int × (Int × Int × Bool × Bool × Bool) × List (Int) × (Int × List (Int) × Int × List (Int)) × ByteArray))} {j : Nat} : kload1 h (elf t (mTerm t) xs j 14) = xs[j]?.bind fun a => (mTerm t a)[14]? := kload1_elf (mk := mTerm t) (es := 30) (fun _ => rfl) (by omega)
@[simp] theorem kload1_Term_15 {h : Heap} {t : Bool} {xs : List (((Int × List (List ((Int × (Int × Int × Bool × Bool × Bool) × Int)))) × (Int × List (List ((Int × (Int × Int × Bool × Bool × Bool) × Int)))) × Int × Int × (Int × Int × Bool × Bool × Bool) × Int × Int × Bool × Bool × Bool × Bool × Int × Int × (Int × Int × Bool × Bool × Bool) × List (Int) × (Int × List (Int) × Int × List (Int)) × ByteArray))} {j : Nat} : kload1 h (elf t (mTerm t) xs j 15) = xs[j]?.bind fun a => (mTerm t a)[15]? := kload1_elf (mk := mTerm t) (es := 30) (fun _ => rfl) (by omega)
@[simp] theorem kload1_Term_16 {h : Heap} {t : Bool} {xs : List (((Int × List (List ((Int × (Int × Int × Bool × Bool × Bool) × Int)))) × (Int × List (List ((Int × (Int × Int × Bool × Bool × Bool) × Int)))) × Int × Int × (Int × Int × Bool × Bool × Bool) × Int × Int × Bool × Bool × Bool × Bool × Int × Int × (Int × Int × Bool × Bool × Bool) × List (Int) × (Int × List (Int) × Int × List (Int)) × ByteArray))} {j : Nat} : kload1 h (elf t (mTerm t) xs j 16) = xs[j]?.bind fun a => (mTerm t a)[16]? := kload1_elf (mk := mTerm t) (es := 30) (fun _ => rfl) (by omega)
@[simp] theorem kload1_Term_17 {h : Heap} {t : Bool} {xs : List (((Int × List (List ((Int × (Int × Int × Bool × Bool × Bool) × Int)))) × (Int × List (List ((Int × (Int × Int × Bool × Bool × Bool) × Int)))) × Int × Int × (Int × Int × Bool × Bool × Bool) × Int × Int × Bool × Bool × Bool × Bool × Int × Int × (Int × Int × Bool × Bool × Bool) × List (Int) × (Int × List (Int) × Int × List (Int)) × ByteArray))} {j : Nat} : kload1 h (elf t (mTerm t) xs j 17) = xs[j]?.bind fun a => (mTerm t a)[17]? := kload1_elf (mk := mTerm t) (es := 30) (fun _ => rfl) (by omega)
@[simp] theorem kload1_Term_18 {h : Heap} {t : Bool} {xs : List (((Int × List (List ((Int × (Int × Int × Bool × Bool × Bool) × Int)))) × (Int × List (List ((Int × (Int × Int × Bool × Bool × Bool) × Int)))) × Int × Int × (Int × Int × Bool × Bool × Bool) × Int × Int × Bool × Bool × Bool × Bool × Int × Int × (Int × Int × Bool × Bool × Bool) × List (Int) × (Int × List (Int) × Int × List (Int)) × ByteArray))} {j : Nat} : kload1 h (elf t (mTerm t) xs j 18) = xs[j]?.bind fun a => (mTerm t a)[18]? := kload1_elf (mk := mTerm t) (es := 30) (fun _ => rfl) (by omega)
@[simp] theorem kload1_Term_19 {h : Heap} {t : Bool} {xs : List (((Int × List (List ((Int × (Int × Int × Bool × Bool × Bool) × Int)))) × (Int × List (List ((Int × (Int × Int × Bool × Bool × Bool) × Int)))) × Int × Int × (Int × Int × Bool × Bool × Bool) × Int × Int × Bool × Bool × Bool × Bool × Int × Int × (Int × Int × Bool × Bool × Bool) × List (Int) × (Int × List (Int) × Int × List (Int)) × ByteArray))} {j : Nat} : kload1 h (elf t (mTerm t) xs j 19) = xs[j]?.bind fun a => (mTerm t a)[19]? := kload1_elf (mk := mTerm t) (es := 30) (fun _ => rfl) (by omega)
@[simp] theorem kload1_Term_20 {h : Heap} {t : Bool} {xs : List (((Int × List (List ((Int × (Int × Int × Bool × Bool × Bool) × Int)))) × (Int × List (List ((Int × (Int × Int × Bool × Bool × Bool) × Int)))) × Int × Int × (Int × Int × Bool × Bool × Bool) × Int × Int × Bool × Bool × Bool × Bool × Int × Int × (Int × Int × Bool × Bool × Bool) × List (Int) × (Int × List (Int) × Int × List (Int)) × ByteArray))} {j : Nat} : kload1 h (elf t (mTerm t) xs j 20) = xs[j]?.bind fun a => (mTerm t a)[20]? := kload1_elf (mk := mTerm t) (es := 30) (fun _ => rfl) (by omega)
@[simp] theorem kload1_Term_21 {h : Heap} {t : Bool} {xs : List (((Int × List (List ((Int × (Int × Int × Bool × Bool × Bool) × Int)))) × (Int × List (List ((Int × (Int × Int × Bool × Bool × Bool) × Int)))) × Int × Int × (Int × Int × Bool × Bool × Bool) × Int × Int × Bool × Bool × Bool × Bool × Int × Int × (Int × Int × Bool × Bool × Bool) × List (Int) × (Int × List (Int) × Int × List (Int)) × ByteArray))} {j : Nat} : kload1 h (elf t (mTerm t) xs j 21) = xs[j]?.bind fun a => (mTerm t a)[21]? := kload1_elf (mk := mTerm t) (es := 30) (fun _ => rfl) (by omega)
@[simp] theorem kload1_Term_22 {h : Heap} {t : Bool} {xs : List (((Int × List (List ((Int × (Int × Int × Bool × Bool × Bool) × Int)))) × (Int × List (List ((Int × (Int × Int × Bool × Bool × Bool) × Int)))) × Int × Int × (Int × Int × Bool × Bool × Bool) × Int × Int × Bool × Bool × Bool × Bool × Int × Int × (Int × Int × Bool × Bool × Bool) × List (Int) × (Int × List (Int) × Int × List (Int)) × ByteArray))} {j : Nat} : kload1 h (elf t (mTerm t) xs j 22) = xs[j]?.bind fun a => (mTerm t a)[22]? := kload1_elf (mk := mTerm t) (es := 30) (fun _ => rfl) (by omega)
@[simp] theorem kload1_Term_23 {h : Heap} {t : Bool} {xs : List (((Int × List (List ((Int × (Int × Int × Bool × Bool × Bool) × Int)))) × (Int × List (List ((Int × (Int × Int × Bool × Bool × Bool) × Int)))) × Int × Int × (Int × Int × Bool × Bool × Bool) × Int × Int × Bool × Bool × Bool × Bool × Int × Int × (Int × Int × Bool × Bool × Bool) × List (Int) × (Int × List (Int) × Int × List (Int)) × ByteArray))} {j : Nat} : kload1 h (elf t (mTerm t) xs j 23) = xs[j]?.bind fun a => (mTerm t a)[23]? := kload1_elf (mk := mTerm t) (es := 30) (fun _ => rfl) (by omega)
@[simp] theorem kload1_Term_24 {h : Heap} {t : Bool} {xs : List (((Int × List (List ((Int × (Int × Int × Bool × Bool × Bool) × Int)))) × (Int × List (List ((Int × (Int × Int × Bool × Bool × Bool) × Int)))) × Int × Int × (Int × Int × Bool × Bool × Bool) × Int × Int × Bool × Bool × Bool × Bool × Int × Int × (Int × Int × Bool × Bool × Bool) × List (Int) × (Int × List (Int) × Int × List (Int)) × ByteArray))} {j : Nat} : kload1 h (elf t (mTerm t) xs j 24) = xs[j]?.bind fun a => (mTerm t a)[24]? := kload1_elf (mk := mTerm t) (es := 30) (fun _ => rfl) (by omega)
@[simp] theorem kload1_Term_25 {h : Heap} {t : Bool} {xs : List (((Int × List (List ((Int × (Int × Int × Bool × Bool × Bool) × Int)))) × (Int × List (List ((Int × (Int × Int × Bool × Bool × Bool) × Int)))) × Int × Int × (Int × Int × Bool × Bool × Bool) × Int × Int × Bool × Bool × Bool × Bool × Int × Int × (Int × Int × Bool × Bool × Bool) × List (Int) × (Int × List (Int) × Int × List (Int)) × ByteArray))} {j : Nat} : kload1 h (elf t (mTerm t) xs j 25) = xs[j]?.bind fun a => (mTerm t a)[25]? := kload1_elf (mk := mTerm t) (es := 30) (fun _ => rfl) (by omega)
@[simp] theorem kload1_Term_26 {h : Heap} {t : Bool} {xs : List (((Int × List (List ((Int × (Int × Int × Bool × Bool × Bool) × Int)))) × (Int × List (List ((Int × (Int × Int × Bool × Bool × Bool) × Int)))) × Int × Int × (Int × Int × Bool × Bool × Bool) × Int × Int × Bool × Bool × Bool × Bool × Int × Int × (Int × Int × Bool × Bool × Bool) × List (Int) × (Int × List (Int) × Int × List (Int)) × ByteArray))} {j : Nat} : kload1 h (elf t (mTerm t) xs j 26) = xs[j]?.bind fun a => (mTerm t a)[26]? := kload1_elf (mk := mTerm t) (es := 30) (fun _ => rfl) (by omega)
@[simp] theorem kload1_Term_27 {h : Heap} {t : Bool} {xs : List (((Int × List (List ((Int × (Int × Int × Bool × Bool × Bool) × Int)))) × (Int × List (List ((Int × (Int × Int × Bool × Bool × Bool) × Int)))) × Int × Int × (Int × Int × Bool × Bool × Bool) × Int × Int × Bool × Bool × Bool × Bool × Int × Int × (Int × Int × Bool × Bool × Bool) × List (Int) × (Int × List (Int) × Int × List (Int)) × ByteArray))} {j : Nat} : kload1 h (elf t (mTerm t) xs j 27) = xs[j]?.bind fun a => (mTerm t a)[27]? := kload1_elf (mk := mTerm t) (es := 30) (fun _ => rfl) (by omega)
@[simp] theorem kload1_Term_28 {h : Heap} {t : Bool} {xs : List (((Int × List (List ((Int × (Int × Int × Bool × Bool × Bool) × Int)))) × (Int × List (List ((Int × (Int × Int × Bool × Bool × Bool) × Int)))) × Int × Int × (Int × Int × Bool × Bool × Bool) × Int × Int × Bool × Bool × Bool × Bool × Int × Int × (Int × Int × Bool × Bool × Bool) × List (Int) × (Int × List (Int) × Int × List (Int)) × ByteArray))} {j : Nat} : kload1 h (elf t (mTerm t) xs j 28) = xs[j]?.bind fun a => (mTerm t a)[28]? := kload1_elf (mk := mTerm t) (es := 30) (fun _ => rfl) (by omega)
@[simp] theorem kload1_Term_29 {h : Heap} {t : Bool} {xs : List (((Int × List (List ((Int × (Int × Int × Bool × Bool × Bool) × Int)))) × (Int × List (List ((Int × (Int × Int × Bool × Bool × Bool) × Int)))) × Int × Int × (Int × Int × Bool × Bool × Bool) × Int × Int × Bool × Bool × Bool × Bool × Int × Int × (Int × Int × Bool × Bool × Bool) × List (Int) × (Int × List (Int) × Int × List (Int)) × ByteArray))} {j : Nat} : kload1 h (elf t (mTerm t) xs j 29) = xs[j]?.bind fun a => (mTerm t a)[29]? := kload1_elf (mk := mTerm t) (es := 30) (fun _ => rfl) (by omega)
@[simp] theorem kia_Term {t : Bool} {xs : List (((Int × List (List ((Int × (Int × Int × Bool × Bool × Bool) × Int)))) × (Int × List (List ((Int × (Int × Int × Bool × Bool × Bool) × Int)))) × Int × Int × (Int × Int × Bool × Bool × Bool) × Int × Int × Bool × Bool × Bool × Bool × Int × Int × (Int × Int × Bool × Bool × Bool) × List (Int) × (Int × List (Int) × Int × List (Int)) × ByteArray))} {k : IntKind} {i : Int} : kia 30 (fzl t 30 (mTerm t) xs) (.int k i) = if 0 ≤ i ∧ i < xs.length then some (elp t (mTerm t) xs i.toNat) else none := kia_fzl (es := 30) (fun _ => rfl)
theorem ld_Term {d : Nat} {t : Bool} (a : ((Int × List (List ((Int × (Int × Int × Bool × Bool × Bool) × Int)))) × (Int × List (List ((Int × (Int × Int × Bool × Bool × Bool) × Int)))) × Int × Int × (Int × Int × Bool × Bool × Bool) × Int × Int × Bool × Bool × Bool × Bool × Int × Int × (Int × Int × Bool × Bool × Bool) × List (Int) × (Int × List (Int) × Int × List (Int)) × ByteArray)) : (mTerm t a).map (lend (d + 2)) = mTerm true a := map_cons' lend_int (map_cons' (lend_fzl (d := d + 1) (mk := (mCellS t)) (mk' := (mCellS true)) (fun a => ld_CellS (d := d) a) a.1.2) (map_cons' lend_int (map_cons' (lend_fzl (d := d + 1) (mk := (mCellS t)) (mk' := (mCellS true)) (fun a => ld_CellS (d := d) a) a.2.1.2) (map_cons' lend_int (map_cons' lend_int (map_cons' lend_int (map_cons' lend_int (map_cons' lend_bool (map_cons' lend_bool (map_cons' lend_bool (map_cons' lend_int (map_cons' lend_int (map_cons' lend_bool (map_cons' lend_bool (map_cons' lend_bool (map_cons' lend_bool (map_cons' lend_int (map_cons' lend_int (map_cons' lend_int (map_cons' lend_int (map_cons' lend_bool (map_cons' lend_bool (map_cons' lend_bool (map_cons' (lend_fzl (d := d + 1) (mk := ci) (mk' := ci) (fun a => map_cons' lend_int rfl) a.2.2.2.2.2.2.2.2.2.2.2.2.2.2.1) (map_cons' lend_int (map_cons' (lend_fzl (d := d + 1) (mk := ci) (mk' := ci) (fun a => map_cons' lend_int rfl) a.2.2.2.2.2.2.2.2.2.2.2.2.2.2.2.1.2.1) (map_cons' lend_int (map_cons' (lend_fzl (d := d + 1) (mk := ci) (mk' := ci) (fun a => map_cons' lend_int rfl) a.2.2.2.2.2.2.2.2.2.2.2.2.2.2.2.1.2.2.2) (map_cons' lend_str (rfl))))))))))))))))))))))))))))))
@[simp] theorem bor_Term {d : Nat} {h : Heap} {t : Bool} {xs : List (((Int × List (List ((Int × (Int × Int × Bool × Bool × Bool) × Int)))) × (Int × List (List ((Int × (Int × Int × Bool × Bool × Bool) × Int)))) × Int × Int × (Int × Int × Bool × Bool × Bool) × Int × Int × Bool × Bool × Bool × Bool × Int × Int × (Int × Int × Bool × Bool × Bool) × List (Int) × (Int × List (Int) × Int × List (Int)) × ByteArray))} : bor (d + 4) h (fzl t 30 (mTerm t) xs) = some (fzl true 30 (mTerm true) xs, []) := bor_fzl (d := d + 3) (fun a => ld_Term (d := d + 1) a) xs
open Classical in
theorem laws_eqTerm_spec (a_1_1 b_1_1 : Int) (a_1_2 b_1_2 : List (List ((Int × (Int × Int × Bool × Bool × Bool) × Int)))) (a_2_1 b_2_1 : Int) (a_2_2 b_2_2 : List (List ((Int × (Int × Int × Bool × Bool × Bool) × Int)))) (a_3 b_3 : Int) (a_4 b_4 : Int) (a_5_1 b_5_1 : Int) (a_5_2 b_5_2 : Int) (a_5_3 b_5_3 : Bool) (a_5_4 b_5_4 : Bool) (a_5_5 b_5_5 : Bool) (a_6 b_6 : Int) (a_7 b_7 : Int) (a_8 b_8 : Bool) (a_9 b_9 : Bool) (a_10 b_10 : Bool) (a_11 b_11 : Bool) (a_12 b_12 : Int) (a_13 b_13 : Int) (a_14_1 b_14_1 : Int) (a_14_2 b_14_2 : Int) (a_14_3 b_14_3 : Bool) (a_14_4 b_14_4 : Bool) (a_14_5 b_14_5 : Bool) (a_15 b_15 : List (Int)) (a_16_1 b_16_1 : Int) (a_16_2 b_16_2 : List (Int)) (a_16_3 b_16_3 : Int) (a_16_4 b_16_4 : List (Int)) (a_17 b_17 : ByteArray) (hm : okTerm ((a_1_1, a_1_2), (a_2_1, a_2_2), a_3, a_4, (a_5_1, a_5_2, a_5_3, a_5_4, a_5_5), a_6, a_7, a_8, a_9, a_10, a_11, a_12, a_13, (a_14_1, a_14_2, a_14_3, a_14_4, a_14_5), a_15, (a_16_1, a_16_2, a_16_3, a_16_4), a_17)) : NN fn.laws_eqTerm [.agg [.int .i64 a_1_1, fzl true 1 (mCellS true) a_1_2, .int .i64 a_2_1, fzl true 1 (mCellS true) a_2_2, .int .i64 a_3, .int .i64 a_4, .int .i64 a_5_1, .int .i64 a_5_2, .bool a_5_3, .bool a_5_4, .bool a_5_5, .int .i64 a_6, .int .i64 a_7, .bool a_8, .bool a_9, .bool a_10, .bool a_11, .int .i64 a_12, .int .i64 a_13, .int .i64 a_14_1, .int .i64 a_14_2, .bool a_14_3, .bool a_14_4, .bool a_14_5, fzl true 1 ci a_15, .int .i64 a_16_1, fzl true 1 ci a_16_2, .int .i64 a_16_3, fzl true 1 ci a_16_4, .str a_17], .agg [.int .i64 b_1_1, fzl true 1 (mCellS true) b_1_2, .int .i64 b_2_1, fzl true 1 (mCellS true) b_2_2, .int .i64 b_3, .int .i64 b_4, .int .i64 b_5_1, .int .i64 b_5_2, .bool b_5_3, .bool b_5_4, .bool b_5_5, .int .i64 b_6, .int .i64 b_7, .bool b_8, .bool b_9, .bool b_10, .bool b_11, .int .i64 b_12, .int .i64 b_13, .int .i64 b_14_1, .int .i64 b_14_2, .bool b_14_3, .bool b_14_4, .bool b_14_5, fzl true 1 ci b_15, .int .i64 b_16_1, fzl true 1 ci b_16_2, .int .i64 b_16_3, fzl true 1 ci b_16_4, .str b_17]] = some (.bool (decide (((a_1_1, a_1_2), (a_2_1, a_2_2), a_3, a_4, (a_5_1, a_5_2, a_5_3, a_5_4, a_5_5), a_6, a_7, a_8, a_9, a_10, a_11, a_12, a_13, (a_14_1, a_14_2, a_14_3, a_14_4, a_14_5), a_15, (a_16_1, a_16_2, a_16_3, a_16_4), a_17) = ((b_1_1, b_1_2), (b_2_1, b_2_2), b_3, b_4, (b_5_1, b_5_2, b_5_3, b_5_4, b_5_5), b_6, b_7, b_8, b_9, b_10, b_11, b_12, b_13, (b_14_1, b_14_2, b_14_3, b_14_4, b_14_5), b_15, (b_16_1, b_16_2, b_16_3, b_16_4), b_17)))) := by
  apply S.laws_eqTerm.gives (k := 0)
  unfold okTerm at hm
  have s0 := laws_eqGrid_spec a_1_1 b_1_1 a_1_2 b_1_2 hm.1
  by_cases c0 : (a_1_1, a_1_2) = (b_1_1, b_1_2)
  rotate_left
  · have e : ¬ (((a_1_1, a_1_2), (a_2_1, a_2_2), a_3, a_4, (a_5_1, a_5_2, a_5_3, a_5_4, a_5_5), a_6, a_7, a_8, a_9, a_10, a_11, a_12, a_13, (a_14_1, a_14_2, a_14_3, a_14_4, a_14_5), a_15, (a_16_1, a_16_2, a_16_3, a_16_4), a_17) = ((b_1_1, b_1_2), (b_2_1, b_2_2), b_3, b_4, (b_5_1, b_5_2, b_5_3, b_5_4, b_5_5), b_6, b_7, b_8, b_9, b_10, b_11, b_12, b_13, (b_14_1, b_14_2, b_14_3, b_14_4, b_14_5), b_15, (b_16_1, b_16_2, b_16_3, b_16_4), b_17)) := fun e => c0 (by simp only [Prod.mk.injEq] at e ⊢; simp [e])
    rw [decide_eq_false e]
    rw [decide_eq_false c0] at s0
    simp [S.laws_eqTerm.run, s0]
  rw [decide_eq_true c0] at s0
  have s1 := laws_eqGrid_spec a_2_1 b_2_1 a_2_2 b_2_2 hm.2.1
  by_cases c1 : (a_2_1, a_2_2) = (b_2_1, b_2_2)
  rotate_left
  · have e : ¬ (((a_1_1, a_1_2), (a_2_1, a_2_2), a_3, a_4, (a_5_1, a_5_2, a_5_3, a_5_4, a_5_5), a_6, a_7, a_8, a_9, a_10, a_11, a_12, a_13, (a_14_1, a_14_2, a_14_3, a_14_4, a_14_5), a_15, (a_16_1, a_16_2, a_16_3, a_16_4), a_17) = ((b_1_1, b_1_2), (b_2_1, b_2_2), b_3, b_4, (b_5_1, b_5_2, b_5_3, b_5_4, b_5_5), b_6, b_7, b_8, b_9, b_10, b_11, b_12, b_13, (b_14_1, b_14_2, b_14_3, b_14_4, b_14_5), b_15, (b_16_1, b_16_2, b_16_3, b_16_4), b_17)) := fun e => c1 (by simp only [Prod.mk.injEq] at e ⊢; simp [e])
    rw [decide_eq_false e]
    rw [decide_eq_false c1] at s1
    simp [S.laws_eqTerm.run, s0, s1]
  rw [decide_eq_true c1] at s1
  by_cases c2 : a_3 = b_3
  rotate_left
  · have e : ¬ (((a_1_1, a_1_2), (a_2_1, a_2_2), a_3, a_4, (a_5_1, a_5_2, a_5_3, a_5_4, a_5_5), a_6, a_7, a_8, a_9, a_10, a_11, a_12, a_13, (a_14_1, a_14_2, a_14_3, a_14_4, a_14_5), a_15, (a_16_1, a_16_2, a_16_3, a_16_4), a_17) = ((b_1_1, b_1_2), (b_2_1, b_2_2), b_3, b_4, (b_5_1, b_5_2, b_5_3, b_5_4, b_5_5), b_6, b_7, b_8, b_9, b_10, b_11, b_12, b_13, (b_14_1, b_14_2, b_14_3, b_14_4, b_14_5), b_15, (b_16_1, b_16_2, b_16_3, b_16_4), b_17)) := fun e => c2 (by simp only [Prod.mk.injEq] at e ⊢; simp [e])
    rw [decide_eq_false e]
    simp [S.laws_eqTerm.run, s0, s1, c2]
  by_cases c3 : a_4 = b_4
  rotate_left
  · have e : ¬ (((a_1_1, a_1_2), (a_2_1, a_2_2), a_3, a_4, (a_5_1, a_5_2, a_5_3, a_5_4, a_5_5), a_6, a_7, a_8, a_9, a_10, a_11, a_12, a_13, (a_14_1, a_14_2, a_14_3, a_14_4, a_14_5), a_15, (a_16_1, a_16_2, a_16_3, a_16_4), a_17) = ((b_1_1, b_1_2), (b_2_1, b_2_2), b_3, b_4, (b_5_1, b_5_2, b_5_3, b_5_4, b_5_5), b_6, b_7, b_8, b_9, b_10, b_11, b_12, b_13, (b_14_1, b_14_2, b_14_3, b_14_4, b_14_5), b_15, (b_16_1, b_16_2, b_16_3, b_16_4), b_17)) := fun e => c3 (by simp only [Prod.mk.injEq] at e ⊢; simp [e])
    rw [decide_eq_false e]
    simp [S.laws_eqTerm.run, s0, s1, c2, c3]
  have s4 := laws_eqStyle_spec a_5_1 b_5_1 a_5_2 b_5_2 a_5_3 b_5_3 a_5_4 b_5_4 a_5_5 b_5_5 hm.2.2.1
  by_cases c4 : (a_5_1, a_5_2, a_5_3, a_5_4, a_5_5) = (b_5_1, b_5_2, b_5_3, b_5_4, b_5_5)
  rotate_left
  · have e : ¬ (((a_1_1, a_1_2), (a_2_1, a_2_2), a_3, a_4, (a_5_1, a_5_2, a_5_3, a_5_4, a_5_5), a_6, a_7, a_8, a_9, a_10, a_11, a_12, a_13, (a_14_1, a_14_2, a_14_3, a_14_4, a_14_5), a_15, (a_16_1, a_16_2, a_16_3, a_16_4), a_17) = ((b_1_1, b_1_2), (b_2_1, b_2_2), b_3, b_4, (b_5_1, b_5_2, b_5_3, b_5_4, b_5_5), b_6, b_7, b_8, b_9, b_10, b_11, b_12, b_13, (b_14_1, b_14_2, b_14_3, b_14_4, b_14_5), b_15, (b_16_1, b_16_2, b_16_3, b_16_4), b_17)) := fun e => c4 (by simp only [Prod.mk.injEq] at e ⊢; simp [e])
    rw [decide_eq_false e]
    rw [decide_eq_false c4] at s4
    simp [S.laws_eqTerm.run, s0, s1, c2, c3, s4]
  rw [decide_eq_true c4] at s4
  by_cases c5 : a_6 = b_6
  rotate_left
  · have e : ¬ (((a_1_1, a_1_2), (a_2_1, a_2_2), a_3, a_4, (a_5_1, a_5_2, a_5_3, a_5_4, a_5_5), a_6, a_7, a_8, a_9, a_10, a_11, a_12, a_13, (a_14_1, a_14_2, a_14_3, a_14_4, a_14_5), a_15, (a_16_1, a_16_2, a_16_3, a_16_4), a_17) = ((b_1_1, b_1_2), (b_2_1, b_2_2), b_3, b_4, (b_5_1, b_5_2, b_5_3, b_5_4, b_5_5), b_6, b_7, b_8, b_9, b_10, b_11, b_12, b_13, (b_14_1, b_14_2, b_14_3, b_14_4, b_14_5), b_15, (b_16_1, b_16_2, b_16_3, b_16_4), b_17)) := fun e => c5 (by simp only [Prod.mk.injEq] at e ⊢; simp [e])
    rw [decide_eq_false e]
    simp [S.laws_eqTerm.run, s0, s1, c2, c3, s4, c5]
  by_cases c6 : a_7 = b_7
  rotate_left
  · have e : ¬ (((a_1_1, a_1_2), (a_2_1, a_2_2), a_3, a_4, (a_5_1, a_5_2, a_5_3, a_5_4, a_5_5), a_6, a_7, a_8, a_9, a_10, a_11, a_12, a_13, (a_14_1, a_14_2, a_14_3, a_14_4, a_14_5), a_15, (a_16_1, a_16_2, a_16_3, a_16_4), a_17) = ((b_1_1, b_1_2), (b_2_1, b_2_2), b_3, b_4, (b_5_1, b_5_2, b_5_3, b_5_4, b_5_5), b_6, b_7, b_8, b_9, b_10, b_11, b_12, b_13, (b_14_1, b_14_2, b_14_3, b_14_4, b_14_5), b_15, (b_16_1, b_16_2, b_16_3, b_16_4), b_17)) := fun e => c6 (by simp only [Prod.mk.injEq] at e ⊢; simp [e])
    rw [decide_eq_false e]
    simp [S.laws_eqTerm.run, s0, s1, c2, c3, s4, c5, c6]
  by_cases c7 : a_8 = b_8
  rotate_left
  · have e : ¬ (((a_1_1, a_1_2), (a_2_1, a_2_2), a_3, a_4, (a_5_1, a_5_2, a_5_3, a_5_4, a_5_5), a_6, a_7, a_8, a_9, a_10, a_11, a_12, a_13, (a_14_1, a_14_2, a_14_3, a_14_4, a_14_5), a_15, (a_16_1, a_16_2, a_16_3, a_16_4), a_17) = ((b_1_1, b_1_2), (b_2_1, b_2_2), b_3, b_4, (b_5_1, b_5_2, b_5_3, b_5_4, b_5_5), b_6, b_7, b_8, b_9, b_10, b_11, b_12, b_13, (b_14_1, b_14_2, b_14_3, b_14_4, b_14_5), b_15, (b_16_1, b_16_2, b_16_3, b_16_4), b_17)) := fun e => c7 (by simp only [Prod.mk.injEq] at e ⊢; simp [e])
    rw [decide_eq_false e]
    simp [S.laws_eqTerm.run, s0, s1, c2, c3, s4, c5, c6, beq_eq_false_iff_ne.2 c7]
  by_cases c8 : a_9 = b_9
  rotate_left
  · have e : ¬ (((a_1_1, a_1_2), (a_2_1, a_2_2), a_3, a_4, (a_5_1, a_5_2, a_5_3, a_5_4, a_5_5), a_6, a_7, a_8, a_9, a_10, a_11, a_12, a_13, (a_14_1, a_14_2, a_14_3, a_14_4, a_14_5), a_15, (a_16_1, a_16_2, a_16_3, a_16_4), a_17) = ((b_1_1, b_1_2), (b_2_1, b_2_2), b_3, b_4, (b_5_1, b_5_2, b_5_3, b_5_4, b_5_5), b_6, b_7, b_8, b_9, b_10, b_11, b_12, b_13, (b_14_1, b_14_2, b_14_3, b_14_4, b_14_5), b_15, (b_16_1, b_16_2, b_16_3, b_16_4), b_17)) := fun e => c8 (by simp only [Prod.mk.injEq] at e ⊢; simp [e])
    rw [decide_eq_false e]
    simp [S.laws_eqTerm.run, s0, s1, c2, c3, s4, c5, c6, c7, beq_eq_false_iff_ne.2 c8]
  by_cases c9 : a_10 = b_10
  rotate_left
  · have e : ¬ (((a_1_1, a_1_2), (a_2_1, a_2_2), a_3, a_4, (a_5_1, a_5_2, a_5_3, a_5_4, a_5_5), a_6, a_7, a_8, a_9, a_10, a_11, a_12, a_13, (a_14_1, a_14_2, a_14_3, a_14_4, a_14_5), a_15, (a_16_1, a_16_2, a_16_3, a_16_4), a_17) = ((b_1_1, b_1_2), (b_2_1, b_2_2), b_3, b_4, (b_5_1, b_5_2, b_5_3, b_5_4, b_5_5), b_6, b_7, b_8, b_9, b_10, b_11, b_12, b_13, (b_14_1, b_14_2, b_14_3, b_14_4, b_14_5), b_15, (b_16_1, b_16_2, b_16_3, b_16_4), b_17)) := fun e => c9 (by simp only [Prod.mk.injEq] at e ⊢; simp [e])
    rw [decide_eq_false e]
    simp [S.laws_eqTerm.run, s0, s1, c2, c3, s4, c5, c6, c7, c8, beq_eq_false_iff_ne.2 c9]
  by_cases c10 : a_11 = b_11
  rotate_left
  · have e : ¬ (((a_1_1, a_1_2), (a_2_1, a_2_2), a_3, a_4, (a_5_1, a_5_2, a_5_3, a_5_4, a_5_5), a_6, a_7, a_8, a_9, a_10, a_11, a_12, a_13, (a_14_1, a_14_2, a_14_3, a_14_4, a_14_5), a_15, (a_16_1, a_16_2, a_16_3, a_16_4), a_17) = ((b_1_1, b_1_2), (b_2_1, b_2_2), b_3, b_4, (b_5_1, b_5_2, b_5_3, b_5_4, b_5_5), b_6, b_7, b_8, b_9, b_10, b_11, b_12, b_13, (b_14_1, b_14_2, b_14_3, b_14_4, b_14_5), b_15, (b_16_1, b_16_2, b_16_3, b_16_4), b_17)) := fun e => c10 (by simp only [Prod.mk.injEq] at e ⊢; simp [e])
    rw [decide_eq_false e]
    simp [S.laws_eqTerm.run, s0, s1, c2, c3, s4, c5, c6, c7, c8, c9, beq_eq_false_iff_ne.2 c10]
  by_cases c11 : a_12 = b_12
  rotate_left
  · have e : ¬ (((a_1_1, a_1_2), (a_2_1, a_2_2), a_3, a_4, (a_5_1, a_5_2, a_5_3, a_5_4, a_5_5), a_6, a_7, a_8, a_9, a_10, a_11, a_12, a_13, (a_14_1, a_14_2, a_14_3, a_14_4, a_14_5), a_15, (a_16_1, a_16_2, a_16_3, a_16_4), a_17) = ((b_1_1, b_1_2), (b_2_1, b_2_2), b_3, b_4, (b_5_1, b_5_2, b_5_3, b_5_4, b_5_5), b_6, b_7, b_8, b_9, b_10, b_11, b_12, b_13, (b_14_1, b_14_2, b_14_3, b_14_4, b_14_5), b_15, (b_16_1, b_16_2, b_16_3, b_16_4), b_17)) := fun e => c11 (by simp only [Prod.mk.injEq] at e ⊢; simp [e])
    rw [decide_eq_false e]
    simp [S.laws_eqTerm.run, s0, s1, c2, c3, s4, c5, c6, c7, c8, c9, c10, c11]
  by_cases c12 : a_13 = b_13
  rotate_left
  · have e : ¬ (((a_1_1, a_1_2), (a_2_1, a_2_2), a_3, a_4, (a_5_1, a_5_2, a_5_3, a_5_4, a_5_5), a_6, a_7, a_8, a_9, a_10, a_11, a_12, a_13, (a_14_1, a_14_2, a_14_3, a_14_4, a_14_5), a_15, (a_16_1, a_16_2, a_16_3, a_16_4), a_17) = ((b_1_1, b_1_2), (b_2_1, b_2_2), b_3, b_4, (b_5_1, b_5_2, b_5_3, b_5_4, b_5_5), b_6, b_7, b_8, b_9, b_10, b_11, b_12, b_13, (b_14_1, b_14_2, b_14_3, b_14_4, b_14_5), b_15, (b_16_1, b_16_2, b_16_3, b_16_4), b_17)) := fun e => c12 (by simp only [Prod.mk.injEq] at e ⊢; simp [e])
    rw [decide_eq_false e]
    simp [S.laws_eqTerm.run, s0, s1, c2, c3, s4, c5, c6, c7, c8, c9, c10, c11, c12]
  have s13 := laws_eqStyle_spec a_14_1 b_14_1 a_14_2 b_14_2 a_14_3 b_14_3 a_14_4 b_14_4 a_14_5 b_14_5 hm.2.2.2.1
  by_cases c13 : (a_14_1, a_14_2, a_14_3, a_14_4, a_14_5) = (b_14_1, b_14_2, b_14_3, b_14_4, b_14_5)
  rotate_left
  · have e : ¬ (((a_1_1, a_1_2), (a_2_1, a_2_2), a_3, a_4, (a_5_1, a_5_2, a_5_3, a_5_4, a_5_5), a_6, a_7, a_8, a_9, a_10, a_11, a_12, a_13, (a_14_1, a_14_2, a_14_3, a_14_4, a_14_5), a_15, (a_16_1, a_16_2, a_16_3, a_16_4), a_17) = ((b_1_1, b_1_2), (b_2_1, b_2_2), b_3, b_4, (b_5_1, b_5_2, b_5_3, b_5_4, b_5_5), b_6, b_7, b_8, b_9, b_10, b_11, b_12, b_13, (b_14_1, b_14_2, b_14_3, b_14_4, b_14_5), b_15, (b_16_1, b_16_2, b_16_3, b_16_4), b_17)) := fun e => c13 (by simp only [Prod.mk.injEq] at e ⊢; simp [e])
    rw [decide_eq_false e]
    rw [decide_eq_false c13] at s13
    simp [S.laws_eqTerm.run, s0, s1, c2, c3, s4, c5, c6, c7, c8, c9, c10, c11, c12, s13]
  rw [decide_eq_true c13] at s13
  have s14 := laws_eqInt64S_spec a_15 b_15 hm.2.2.2.2.1
  by_cases c14 : a_15 = b_15
  rotate_left
  · have e : ¬ (((a_1_1, a_1_2), (a_2_1, a_2_2), a_3, a_4, (a_5_1, a_5_2, a_5_3, a_5_4, a_5_5), a_6, a_7, a_8, a_9, a_10, a_11, a_12, a_13, (a_14_1, a_14_2, a_14_3, a_14_4, a_14_5), a_15, (a_16_1, a_16_2, a_16_3, a_16_4), a_17) = ((b_1_1, b_1_2), (b_2_1, b_2_2), b_3, b_4, (b_5_1, b_5_2, b_5_3, b_5_4, b_5_5), b_6, b_7, b_8, b_9, b_10, b_11, b_12, b_13, (b_14_1, b_14_2, b_14_3, b_14_4, b_14_5), b_15, (b_16_1, b_16_2, b_16_3, b_16_4), b_17)) := fun e => c14 (by simp only [Prod.mk.injEq] at e ⊢; simp [e])
    rw [decide_eq_false e]
    rw [decide_eq_false c14] at s14
    simp [S.laws_eqTerm.run, s0, s1, c2, c3, s4, c5, c6, c7, c8, c9, c10, c11, c12, s13, s14]
  rw [decide_eq_true c14] at s14
  have s15 := laws_eqParser_spec a_16_1 b_16_1 a_16_2 b_16_2 a_16_3 b_16_3 a_16_4 b_16_4 hm.2.2.2.2.2.1
  by_cases c15 : (a_16_1, a_16_2, a_16_3, a_16_4) = (b_16_1, b_16_2, b_16_3, b_16_4)
  rotate_left
  · have e : ¬ (((a_1_1, a_1_2), (a_2_1, a_2_2), a_3, a_4, (a_5_1, a_5_2, a_5_3, a_5_4, a_5_5), a_6, a_7, a_8, a_9, a_10, a_11, a_12, a_13, (a_14_1, a_14_2, a_14_3, a_14_4, a_14_5), a_15, (a_16_1, a_16_2, a_16_3, a_16_4), a_17) = ((b_1_1, b_1_2), (b_2_1, b_2_2), b_3, b_4, (b_5_1, b_5_2, b_5_3, b_5_4, b_5_5), b_6, b_7, b_8, b_9, b_10, b_11, b_12, b_13, (b_14_1, b_14_2, b_14_3, b_14_4, b_14_5), b_15, (b_16_1, b_16_2, b_16_3, b_16_4), b_17)) := fun e => c15 (by simp only [Prod.mk.injEq] at e ⊢; simp [e])
    rw [decide_eq_false e]
    rw [decide_eq_false c15] at s15
    simp [S.laws_eqTerm.run, s0, s1, c2, c3, s4, c5, c6, c7, c8, c9, c10, c11, c12, s13, s14, s15]
  rw [decide_eq_true c15] at s15
  have s16 := laws_eqFeeder_spec a_17 b_17 hm.2.2.2.2.2.2
  by_cases c16 : a_17 = b_17
  rotate_left
  · have e : ¬ (((a_1_1, a_1_2), (a_2_1, a_2_2), a_3, a_4, (a_5_1, a_5_2, a_5_3, a_5_4, a_5_5), a_6, a_7, a_8, a_9, a_10, a_11, a_12, a_13, (a_14_1, a_14_2, a_14_3, a_14_4, a_14_5), a_15, (a_16_1, a_16_2, a_16_3, a_16_4), a_17) = ((b_1_1, b_1_2), (b_2_1, b_2_2), b_3, b_4, (b_5_1, b_5_2, b_5_3, b_5_4, b_5_5), b_6, b_7, b_8, b_9, b_10, b_11, b_12, b_13, (b_14_1, b_14_2, b_14_3, b_14_4, b_14_5), b_15, (b_16_1, b_16_2, b_16_3, b_16_4), b_17)) := fun e => c16 (by simp only [Prod.mk.injEq] at e ⊢; simp [e])
    rw [decide_eq_false e]
    rw [decide_eq_false c16] at s16
    simp [S.laws_eqTerm.run, s0, s1, c2, c3, s4, c5, c6, c7, c8, c9, c10, c11, c12, s13, s14, s15, s16]
  rw [decide_eq_true c16] at s16
  have e : ((a_1_1, a_1_2), (a_2_1, a_2_2), a_3, a_4, (a_5_1, a_5_2, a_5_3, a_5_4, a_5_5), a_6, a_7, a_8, a_9, a_10, a_11, a_12, a_13, (a_14_1, a_14_2, a_14_3, a_14_4, a_14_5), a_15, (a_16_1, a_16_2, a_16_3, a_16_4), a_17) = ((b_1_1, b_1_2), (b_2_1, b_2_2), b_3, b_4, (b_5_1, b_5_2, b_5_3, b_5_4, b_5_5), b_6, b_7, b_8, b_9, b_10, b_11, b_12, b_13, (b_14_1, b_14_2, b_14_3, b_14_4, b_14_5), b_15, (b_16_1, b_16_2, b_16_3, b_16_4), b_17) := by
    simp only [Prod.mk.injEq] at *
    simp [c0, c1, c2, c3, c4, c5, c6, c7, c8, c9, c10, c11, c12, c13, c14, c15, c16]
  rw [decide_eq_true e]
  simp [S.laws_eqTerm.run, s0, s1, c2, c3, s4, c5, c6, c7, c8, c9, c10, c11, c12, s13, s14, s15, s16]
abbrev rTerm : Rel (((Int × List (List ((Int × (Int × Int × Bool × Bool × Bool) × Int)))) × (Int × List (List ((Int × (Int × Int × Bool × Bool × Bool) × Int)))) × Int × Int × (Int × Int × Bool × Bool × Bool) × Int × Int × Bool × Bool × Bool × Bool × Int × Int × (Int × Int × Bool × Bool × Bool) × List (Int) × (Int × List (Int) × Int × List (Int)) × ByteArray)) := (RSeq rGrid (RSeq rGrid (RSeq (RFl ci) (RSeq (RFl ci) (RSeq (RFl (mStyle true)) (RSeq (RFl ci) (RSeq (RFl ci) (RSeq (RFl cb) (RSeq (RFl cb) (RSeq (RFl cb) (RSeq (RFl cb) (RSeq (RFl ci) (RSeq (RFl ci) (RSeq (RFl (mStyle true)) (RSeq rInt64S (RSeq rParser (RFl (mFeeder true))))))))))))))))))
theorem goodTerm : Good 30 3 (mTerm true) rTerm := (RSeq.good (goodGrid.mono (by omega)) (RSeq.good (goodGrid.mono (by omega)) (RSeq.good ((RFl.good (es := 1) (mk := ci) (fun _ => rfl) (fun _ => rfl)).mono (by omega)) (RSeq.good ((RFl.good (es := 1) (mk := ci) (fun _ => rfl) (fun _ => rfl)).mono (by omega)) (RSeq.good ((RFl.good (es := 5) (mk := (mStyle true)) (fun _ => rfl) (fun _ => rfl)).mono (by omega)) (RSeq.good ((RFl.good (es := 1) (mk := ci) (fun _ => rfl) (fun _ => rfl)).mono (by omega)) (RSeq.good ((RFl.good (es := 1) (mk := ci) (fun _ => rfl) (fun _ => rfl)).mono (by omega)) (RSeq.good ((RFl.good (es := 1) (mk := cb) (fun _ => rfl) (fun _ => rfl)).mono (by omega)) (RSeq.good ((RFl.good (es := 1) (mk := cb) (fun _ => rfl) (fun _ => rfl)).mono (by omega)) (RSeq.good ((RFl.good (es := 1) (mk := cb) (fun _ => rfl) (fun _ => rfl)).mono (by omega)) (RSeq.good ((RFl.good (es := 1) (mk := cb) (fun _ => rfl) (fun _ => rfl)).mono (by omega)) (RSeq.good ((RFl.good (es := 1) (mk := ci) (fun _ => rfl) (fun _ => rfl)).mono (by omega)) (RSeq.good ((RFl.good (es := 1) (mk := ci) (fun _ => rfl) (fun _ => rfl)).mono (by omega)) (RSeq.good ((RFl.good (es := 5) (mk := (mStyle true)) (fun _ => rfl) (fun _ => rfl)).mono (by omega)) (RSeq.good (goodInt64S.mono (by omega)) (RSeq.good (goodParser.mono (by omega)) ((RFl.good (es := 1) (mk := (mFeeder true)) (fun _ => rfl) (fun _ => rfl)).mono (by omega))))))))))))))))))
def cTerm (x : ((Int × List (List ((Int × (Int × Int × Bool × Bool × Bool) × Int)))) × (Int × List (List ((Int × (Int × Int × Bool × Bool × Bool) × Int)))) × Int × Int × (Int × Int × Bool × Bool × Bool) × Int × Int × Bool × Bool × Bool × Bool × Int × Int × (Int × Int × Bool × Bool × Bool) × List (Int) × (Int × List (Int) × Int × List (Int)) × ByteArray)) : Nat := cGrid x.1 + cGrid x.2.1 + cInt64S x.2.2.2.2.2.2.2.2.2.2.2.2.2.2.1 + cParser x.2.2.2.2.2.2.2.2.2.2.2.2.2.2.2.1
theorem cTerm_le {x : ((Int × List (List ((Int × (Int × Int × Bool × Bool × Bool) × Int)))) × (Int × List (List ((Int × (Int × Int × Bool × Bool × Bool) × Int)))) × Int × Int × (Int × Int × Bool × Bool × Bool) × Int × Int × Bool × Bool × Bool × Bool × Int × Int × (Int × Int × Bool × Bool × Bool) × List (Int) × (Int × List (Int) × Int × List (Int)) × ByteArray)} (h : okTerm x) : cTerm x ≤ 15393165934592 := by
  unfold okTerm at h
  unfold cTerm
  have := cGrid_le h.1
  have := cGrid_le h.2.1
  have := cInt64S_le h.2.2.2.2.1
  have := cParser_le h.2.2.2.2.2.1
  omega
noncomputable def kTerm (x : ((Int × List (List ((Int × (Int × Int × Bool × Bool × Bool) × Int)))) × (Int × List (List ((Int × (Int × Int × Bool × Bool × Bool) × Int)))) × Int × Int × (Int × Int × Bool × Bool × Bool) × Int × Int × Bool × Bool × Bool × Bool × Int × Int × (Int × Int × Bool × Bool × Bool) × List (Int) × (Int × List (Int) × Int × List (Int)) × ByteArray)) (k : Nat) : ((Int × List (List ((Int × (Int × Int × Bool × Bool × Bool) × Int)))) × (Int × List (List ((Int × (Int × Int × Bool × Bool × Bool) × Int)))) × Int × Int × (Int × Int × Bool × Bool × Bool) × Int × Int × Bool × Bool × Bool × Bool × Int × Int × (Int × Int × Bool × Bool × Bool) × List (Int) × (Int × List (Int) × Int × List (Int)) × ByteArray) := (kGrid x.1 (k), kGrid x.2.1 (k + cGrid x.1), x.2.2.1, x.2.2.2.1, x.2.2.2.2.1, x.2.2.2.2.2.1, x.2.2.2.2.2.2.1, x.2.2.2.2.2.2.2.1, x.2.2.2.2.2.2.2.2.1, x.2.2.2.2.2.2.2.2.2.1, x.2.2.2.2.2.2.2.2.2.2.1, x.2.2.2.2.2.2.2.2.2.2.2.1, x.2.2.2.2.2.2.2.2.2.2.2.2.1, x.2.2.2.2.2.2.2.2.2.2.2.2.2.1, kInt64S x.2.2.2.2.2.2.2.2.2.2.2.2.2.2.1 (k + cGrid x.1 + cGrid x.2.1), kParser x.2.2.2.2.2.2.2.2.2.2.2.2.2.2.2.1 (k + cGrid x.1 + cGrid x.2.1 + cInt64S x.2.2.2.2.2.2.2.2.2.2.2.2.2.2.1), x.2.2.2.2.2.2.2.2.2.2.2.2.2.2.2.2)
theorem laws_heldTerm_spec (x : ((Int × List (List ((Int × (Int × Int × Bool × Bool × Bool) × Int)))) × (Int × List (List ((Int × (Int × Int × Bool × Bool × Bool) × Int)))) × Int × Int × (Int × Int × Bool × Bool × Bool) × Int × Int × Bool × Bool × Bool × Bool × Int × Int × (Int × Int × Bool × Bool × Bool) × List (Int) × (Int × List (Int) × Int × List (Int)) × ByteArray)) (k : Nat) (hok : okTerm x) (hk : k + cTerm x ≤ 4611686018427387904) : NN fn.laws_heldTerm [.agg (mTerm true (kTerm x k)), .int .i64 (k : Int)] = some (.int .i64 ((k + cTerm x : Nat) : Int)) := by
  unfold okTerm at hok
  unfold cTerm at hk
  apply S.laws_heldTerm.gives (k := 0)
  have s0 := laws_heldGrid_spec x.1 (k) hok.1 (by omega)
  have z0 : ¬ (((k + cGrid x.1 : Nat) : Int) < 0) := by omega
  have s1 := laws_heldGrid_spec x.2.1 (k + cGrid x.1) hok.2.1 (by omega)
  have z1 : ¬ (((k + cGrid x.1 + cGrid x.2.1 : Nat) : Int) < 0) := by omega
  have s14 := laws_heldInt64S_spec x.2.2.2.2.2.2.2.2.2.2.2.2.2.2.1 (k + cGrid x.1 + cGrid x.2.1) hok.2.2.2.2.1 (by omega)
  have z14 : ¬ (((k + cGrid x.1 + cGrid x.2.1 + cInt64S x.2.2.2.2.2.2.2.2.2.2.2.2.2.2.1 : Nat) : Int) < 0) := by omega
  have s15 := laws_heldParser_spec x.2.2.2.2.2.2.2.2.2.2.2.2.2.2.2.1 (k + cGrid x.1 + cGrid x.2.1 + cInt64S x.2.2.2.2.2.2.2.2.2.2.2.2.2.2.1) hok.2.2.2.2.2.1 (by omega)
  have z15 : ¬ (((k + cGrid x.1 + cGrid x.2.1 + cInt64S x.2.2.2.2.2.2.2.2.2.2.2.2.2.2.1 + cParser x.2.2.2.2.2.2.2.2.2.2.2.2.2.2.2.1 : Nat) : Int) < 0) := by omega
  simp only [kTerm, cTerm, ← Nat.add_assoc]
  simp [S.laws_heldTerm.run, s0, z0, s1, z1, s14, z14, s15, z15, -Int.natCast_add]
theorem laws_markTerm_spec (h : Heap) (c : List GV) (x : ((Int × List (List ((Int × (Int × Int × Bool × Bool × Bool) × Int)))) × (Int × List (List ((Int × (Int × Int × Bool × Bool × Bool) × Int)))) × Int × Int × (Int × Int × Bool × Bool × Bool) × Int × Int × Bool × Bool × Bool × Bool × Int × Int × (Int × Int × Bool × Bool × Bool) × List (Int) × (Int × List (Int) × Int × List (Int)) × ByteArray)) (R : List Nat) (k : Nat) (hok : okTerm x) (he : rTerm h c x R) (nd : R.Nodup) (hk : k + cTerm x ≤ 4611686018427387904) : ∃ h', HH fn.laws_markTerm [.agg c, .int .i64 (k : Int)] h = some (.int .i64 ((k + cTerm x : Nat) : Int), h') ∧ rTerm h' c (kTerm x k) R ∧ Fr R h h' := by
  have ek : k + cTerm x = k + cGrid x.1 + cGrid x.2.1 + cInt64S x.2.2.2.2.2.2.2.2.2.2.2.2.2.2.1 + cParser x.2.2.2.2.2.2.2.2.2.2.2.2.2.2.2.1 := by unfold cTerm; omega
  rw [ek] at hk ⊢
  unfold okTerm at hok
  have hcl := goodTerm.len he
  have hm := goodTerm.mem he
  have he0 := goodTerm.grow (t := [c]) he
  have hb0 : (h ++ [c])[h.length]? = some c := by simp
  have hbox : ∀ {Q : Type} (K : GV → Heap → Option Q), kbox (.agg c) h K = K (.ptr h.length 0 30) (h ++ [c]) := fun K => by rw [kbox_agg, hcl]
  obtain ⟨H0, hH0⟩ : ∃ H0, h ++ [c] = H0 := ⟨_, rfl⟩
  have g0 : Fr R h H0 := by rw [← hH0]; exact .app
  have hl0 : h.length < H0.length := by rw [← hH0]; simp
  rw [hH0] at he0 hb0
  simp only [hH0] at hbox
  obtain ⟨c0, d0, R0, S0, rfl, rfl, E0, F0⟩ := he0
  have N0 := List.nodup_append.1 nd
  have cl0 := goodGrid.len E0
  obtain ⟨c1, d1, R1, S1, rfl, rfl, E1, F1⟩ := F0
  have N1 := List.nodup_append.1 N0.2.1
  have cl1 := goodGrid.len E1
  obtain ⟨c2, d2, R2, S2, rfl, rfl, E2, F2⟩ := F1
  have N2 := List.nodup_append.1 N1.2.1
  obtain ⟨rfl, rfl⟩ := E2
  obtain ⟨c3, d3, R3, S3, rfl, rfl, E3, F3⟩ := F2
  have N3 := List.nodup_append.1 N2.2.1
  obtain ⟨rfl, rfl⟩ := E3
  obtain ⟨c4, d4, R4, S4, rfl, rfl, E4, F4⟩ := F3
  have N4 := List.nodup_append.1 N3.2.1
  obtain ⟨rfl, rfl⟩ := E4
  obtain ⟨c5, d5, R5, S5, rfl, rfl, E5, F5⟩ := F4
  have N5 := List.nodup_append.1 N4.2.1
  obtain ⟨rfl, rfl⟩ := E5
  obtain ⟨c6, d6, R6, S6, rfl, rfl, E6, F6⟩ := F5
  have N6 := List.nodup_append.1 N5.2.1
  obtain ⟨rfl, rfl⟩ := E6
  obtain ⟨c7, d7, R7, S7, rfl, rfl, E7, F7⟩ := F6
  have N7 := List.nodup_append.1 N6.2.1
  obtain ⟨rfl, rfl⟩ := E7
  obtain ⟨c8, d8, R8, S8, rfl, rfl, E8, F8⟩ := F7
  have N8 := List.nodup_append.1 N7.2.1
  obtain ⟨rfl, rfl⟩ := E8
  obtain ⟨c9, d9, R9, S9, rfl, rfl, E9, F9⟩ := F8
  have N9 := List.nodup_append.1 N8.2.1
  obtain ⟨rfl, rfl⟩ := E9
  obtain ⟨c10, d10, R10, S10, rfl, rfl, E10, F10⟩ := F9
  have N10 := List.nodup_append.1 N9.2.1
  obtain ⟨rfl, rfl⟩ := E10
  obtain ⟨c11, d11, R11, S11, rfl, rfl, E11, F11⟩ := F10
  have N11 := List.nodup_append.1 N10.2.1
  obtain ⟨rfl, rfl⟩ := E11
  obtain ⟨c12, d12, R12, S12, rfl, rfl, E12, F12⟩ := F11
  have N12 := List.nodup_append.1 N11.2.1
  obtain ⟨rfl, rfl⟩ := E12
  obtain ⟨c13, d13, R13, S13, rfl, rfl, E13, F13⟩ := F12
  have N13 := List.nodup_append.1 N12.2.1
  obtain ⟨rfl, rfl⟩ := E13
  obtain ⟨c14, d14, R14, S14, rfl, rfl, E14, F14⟩ := F13
  have N14 := List.nodup_append.1 N13.2.1
  obtain ⟨w14, rfl⟩ : ∃ w, c14 = [w] := List.length_eq_one_iff.1 (goodInt64S.len E14)
  obtain ⟨c15, d15, R15, S15, rfl, rfl, E15, F15⟩ := F14
  have N15 := List.nodup_append.1 N14.2.1
  have cl15 := goodParser.len E15
  have E16 := F15
  obtain ⟨rfl, rfl⟩ := E16
  have l0 : kloadA 2 H0 (.ptr h.length 0 30) = some (.agg c0) := kpartA_at hb0 hcl (part_at (pre := []) (post := (c1 ++ ci x.2.2.1 ++ ci x.2.2.2.1 ++ (mStyle true) x.2.2.2.2.1 ++ ci x.2.2.2.2.2.1 ++ ci x.2.2.2.2.2.2.1 ++ cb x.2.2.2.2.2.2.2.1 ++ cb x.2.2.2.2.2.2.2.2.1 ++ cb x.2.2.2.2.2.2.2.2.2.1 ++ cb x.2.2.2.2.2.2.2.2.2.2.1 ++ ci x.2.2.2.2.2.2.2.2.2.2.2.1 ++ ci x.2.2.2.2.2.2.2.2.2.2.2.2.1 ++ (mStyle true) x.2.2.2.2.2.2.2.2.2.2.2.2.2.1 ++ [w14] ++ c15 ++ (mFeeder true) x.2.2.2.2.2.2.2.2.2.2.2.2.2.2.2.2)) (by simp [List.append_assoc]) (by simp) cl0) (by rw [hcl]; omega)
  obtain ⟨H1, m0, x0, f0⟩ := laws_markGrid_spec H0 c0 x.1 R0 (k) hok.1 E0 (N0.1) (by omega)
  have i0 : h.length ∉ R0 := fun hz => by have := hm h.length (by simp [hz]); omega
  have hb1 : H1[h.length]? = some _ := (f0.2 _ (by omega) i0).trans hb0
  have y0_1 := goodGrid.keep E1 f0 (fun z h1 h2 => N0.2.2 z h2 z (by simp [h1]) rfl)
  have y0_14 := goodInt64S.keep E14 f0 (fun z h1 h2 => N0.2.2 z h2 z (by simp [h1]) rfl)
  have y0_15 := goodParser.keep E15 f0 (fun z h1 h2 => N0.2.2 z h2 z (by simp [h1]) rfl)
  have l1 : kloadA 2 H1 (.ptr h.length 2 30) = some (.agg c1) := kpartA_at hb1 hcl (part_at (pre := (c0)) (post := (ci x.2.2.1 ++ ci x.2.2.2.1 ++ (mStyle true) x.2.2.2.2.1 ++ ci x.2.2.2.2.2.1 ++ ci x.2.2.2.2.2.2.1 ++ cb x.2.2.2.2.2.2.2.1 ++ cb x.2.2.2.2.2.2.2.2.1 ++ cb x.2.2.2.2.2.2.2.2.2.1 ++ cb x.2.2.2.2.2.2.2.2.2.2.1 ++ ci x.2.2.2.2.2.2.2.2.2.2.2.1 ++ ci x.2.2.2.2.2.2.2.2.2.2.2.2.1 ++ (mStyle true) x.2.2.2.2.2.2.2.2.2.2.2.2.2.1 ++ [w14] ++ c15 ++ (mFeeder true) x.2.2.2.2.2.2.2.2.2.2.2.2.2.2.2.2)) (by simp [List.append_assoc]) (by simp [cl0]) cl1) (by rw [hcl]; omega)
  obtain ⟨H2, m1, x1, f1⟩ := laws_markGrid_spec H1 c1 x.2.1 R1 (k + cGrid x.1) hok.2.1 y0_1 (N1.1) (by omega)
  have i1 : h.length ∉ R1 := fun hz => by have := hm h.length (by simp [hz]); omega
  have hb2 : H2[h.length]? = some _ := (f1.2 _ (by have := f0.1; omega) i1).trans hb1
  have y1_0 := goodGrid.keep x0 f1 (fun z h1 h2 => N0.2.2 z h1 z (by simp [h2]) rfl)
  have y1_14 := goodInt64S.keep y0_14 f1 (fun z h1 h2 => N1.2.2 z h2 z (by simp [h1]) rfl)
  have y1_15 := goodParser.keep y0_15 f1 (fun z h1 h2 => N1.2.2 z h2 z (by simp [h1]) rfl)
  have l14 : kload1 H2 (.ptr h.length 24 30) = some w14 := by rw [kload1_at hb2 hcl]; exact part1_at (pre := (c0 ++ c1 ++ ci x.2.2.1 ++ ci x.2.2.2.1 ++ (mStyle true) x.2.2.2.2.1 ++ ci x.2.2.2.2.2.1 ++ ci x.2.2.2.2.2.2.1 ++ cb x.2.2.2.2.2.2.2.1 ++ cb x.2.2.2.2.2.2.2.2.1 ++ cb x.2.2.2.2.2.2.2.2.2.1 ++ cb x.2.2.2.2.2.2.2.2.2.2.1 ++ ci x.2.2.2.2.2.2.2.2.2.2.2.1 ++ ci x.2.2.2.2.2.2.2.2.2.2.2.2.1 ++ (mStyle true) x.2.2.2.2.2.2.2.2.2.2.2.2.2.1)) (post := (c15 ++ (mFeeder true) x.2.2.2.2.2.2.2.2.2.2.2.2.2.2.2.2)) (by simp [List.append_assoc]) (by simp [cl0, cl1])
  obtain ⟨H3, m14, x14, f14⟩ := laws_markInt64S_spec H2 w14 x.2.2.2.2.2.2.2.2.2.2.2.2.2.2.1 R14 (k + cGrid x.1 + cGrid x.2.1) hok.2.2.2.2.1 y1_14 (N14.1) (by omega)
  have i14 : h.length ∉ R14 := fun hz => by have := hm h.length (by simp [hz]); omega
  have hb3 : H3[h.length]? = some _ := (f14.2 _ (by have := f0.1; have := f1.1; omega) i14).trans hb2
  have y14_0 := goodGrid.keep y1_0 f14 (fun z h1 h2 => N0.2.2 z h1 z (by simp [h2]) rfl)
  have y14_1 := goodGrid.keep x1 f14 (fun z h1 h2 => N1.2.2 z h1 z (by simp [h2]) rfl)
  have y14_15 := goodParser.keep y1_15 f14 (fun z h1 h2 => N14.2.2 z h2 z (by simp [h1]) rfl)
  have l15 : kloadA 4 H3 (.ptr h.length 25 30) = some (.agg c15) := kpartA_at hb3 hcl (part_at (pre := (c0 ++ c1 ++ ci x.2.2.1 ++ ci x.2.2.2.1 ++ (mStyle true) x.2.2.2.2.1 ++ ci x.2.2.2.2.2.1 ++ ci x.2.2.2.2.2.2.1 ++ cb x.2.2.2.2.2.2.2.1 ++ cb x.2.2.2.2.2.2.2.2.1 ++ cb x.2.2.2.2.2.2.2.2.2.1 ++ cb x.2.2.2.2.2.2.2.2.2.2.1 ++ ci x.2.2.2.2.2.2.2.2.2.2.2.1 ++ ci x.2.2.2.2.2.2.2.2.2.2.2.2.1 ++ (mStyle true) x.2.2.2.2.2.2.2.2.2.2.2.2.2.1 ++ [w14])) (post := ((mFeeder true) x.2.2.2.2.2.2.2.2.2.2.2.2.2.2.2.2)) (by simp [List.append_assoc]) (by simp [cl0, cl1]) cl15) (by rw [hcl]; omega)
  obtain ⟨H4, m15, x15, f15⟩ := laws_markParser_spec H3 c15 x.2.2.2.2.2.2.2.2.2.2.2.2.2.2.2.1 R15 (k + cGrid x.1 + cGrid x.2.1 + cInt64S x.2.2.2.2.2.2.2.2.2.2.2.2.2.2.1) hok.2.2.2.2.2.1 y14_15 (N15.1) (by omega)
  have i15 : h.length ∉ R15 := fun hz => by have := hm h.length (by simp [hz]); omega
  have hb4 : H4[h.length]? = some _ := (f15.2 _ (by have := f0.1; have := f1.1; have := f14.1; omega) i15).trans hb3
  have y15_0 := goodGrid.keep y14_0 f15 (fun z h1 h2 => N0.2.2 z h1 z (by simp [h2]) rfl)
  have y15_1 := goodGrid.keep y14_1 f15 (fun z h1 h2 => N1.2.2 z h1 z (by simp [h2]) rfl)
  have y15_14 := goodInt64S.keep x14 f15 (fun z h1 h2 => N14.2.2 z h1 z (by simp [h2]) rfl)
  refine ⟨H4, S.laws_markTerm.gives (k := 0) ?_, ⟨_, _, _, _, rfl, rfl, y15_0, ⟨_, _, _, _, rfl, rfl, y15_1, ⟨_, _, _, _, rfl, rfl, ⟨rfl, rfl⟩, ⟨_, _, _, _, rfl, rfl, ⟨rfl, rfl⟩, ⟨_, _, _, _, rfl, rfl, ⟨rfl, rfl⟩, ⟨_, _, _, _, rfl, rfl, ⟨rfl, rfl⟩, ⟨_, _, _, _, rfl, rfl, ⟨rfl, rfl⟩, ⟨_, _, _, _, rfl, rfl, ⟨rfl, rfl⟩, ⟨_, _, _, _, rfl, rfl, ⟨rfl, rfl⟩, ⟨_, _, _, _, rfl, rfl, ⟨rfl, rfl⟩, ⟨_, _, _, _, rfl, rfl, ⟨rfl, rfl⟩, ⟨_, _, _, _, rfl, rfl, ⟨rfl, rfl⟩, ⟨_, _, _, _, rfl, rfl, ⟨rfl, rfl⟩, ⟨_, _, _, _, rfl, rfl, ⟨rfl, rfl⟩, ⟨_, _, _, _, rfl, rfl, y15_14, ⟨_, _, _, _, rfl, rfl, x15, ⟨rfl, rfl⟩⟩⟩⟩⟩⟩⟩⟩⟩⟩⟩⟩⟩⟩⟩⟩⟩, ((((g0.trans (f0.sub (fun z hz => by simp [hz]))).trans (f1.sub (fun z hz => by simp [hz]))).trans (f14.sub (fun z hz => by simp [hz]))).trans (f15.sub (fun z hz => by simp [hz])))⟩
  simp only [S.laws_markTerm.run, S.laws_markTerm.n0, hbox, l0, m0, l1, m1, l14, m14, l15, m15, kfa_ptr, Nat.zero_add, Option.bind_some, kr_mk, kend_ret, finH_eq]

/-! Session -/
abbrev mSession (t : Bool) (a : (((Int × List (List ((Int × (Int × Int × Bool × Bool × Bool) × Int)))) × (Int × List (List ((Int × (Int × Int × Bool × Bool × Bool) × Int)))) × Int × Int × (Int × Int × Bool × Bool × Bool) × Int × Int × Bool × Bool × Bool × Bool × Int × Int × (Int × Int × Bool × Bool × Bool) × List (Int) × (Int × List (Int) × Int × List (Int)) × ByteArray) × ByteArray × List (Int) × Int)) : List GV := [.int .i64 a.1.1.1, fzl t 1 (mCellS t) a.1.1.2, .int .i64 a.1.2.1.1, fzl t 1 (mCellS t) a.1.2.1.2, .int .i64 a.1.2.2.1, .int .i64 a.1.2.2.2.1, .int .i64 a.1.2.2.2.2.1.1, .int .i64 a.1.2.2.2.2.1.2.1, .bool a.1.2.2.2.2.1.2.2.1, .bool a.1.2.2.2.2.1.2.2.2.1, .bool a.1.2.2.2.2.1.2.2.2.2, .int .i64 a.1.2.2.2.2.2.1, .int .i64 a.1.2.2.2.2.2.2.1, .bool a.1.2.2.2.2.2.2.2.1, .bool a.1.2.2.2.2.2.2.2.2.1, .bool a.1.2.2.2.2.2.2.2.2.2.1, .bool a.1.2.2.2.2.2.2.2.2.2.2.1, .int .i64 a.1.2.2.2.2.2.2.2.2.2.2.2.1, .int .i64 a.1.2.2.2.2.2.2.2.2.2.2.2.2.1, .int .i64 a.1.2.2.2.2.2.2.2.2.2.2.2.2.2.1.1, .int .i64 a.1.2.2.2.2.2.2.2.2.2.2.2.2.2.1.2.1, .bool a.1.2.2.2.2.2.2.2.2.2.2.2.2.2.1.2.2.1, .bool a.1.2.2.2.2.2.2.2.2.2.2.2.2.2.1.2.2.2.1, .bool a.1.2.2.2.2.2.2.2.2.2.2.2.2.2.1.2.2.2.2, fzl t 1 ci a.1.2.2.2.2.2.2.2.2.2.2.2.2.2.2.1, .int .i64 a.1.2.2.2.2.2.2.2.2.2.2.2.2.2.2.2.1.1, fzl t 1 ci a.1.2.2.2.2.2.2.2.2.2.2.2.2.2.2.2.1.2.1, .int .i64 a.1.2.2.2.2.2.2.2.2.2.2.2.2.2.2.2.1.2.2.1, fzl t 1 ci a.1.2.2.2.2.2.2.2.2.2.2.2.2.2.2.2.1.2.2.2, .str a.1.2.2.2.2.2.2.2.2.2.2.2.2.2.2.2.2, .str a.2.1, fzl t 1 ci a.2.2.1, .int .i64 a.2.2.2]
def zSession (a : (((Int × List (List ((Int × (Int × Int × Bool × Bool × Bool) × Int)))) × (Int × List (List ((Int × (Int × Int × Bool × Bool × Bool) × Int)))) × Int × Int × (Int × Int × Bool × Bool × Bool) × Int × Int × Bool × Bool × Bool × Bool × Int × Int × (Int × Int × Bool × Bool × Bool) × List (Int) × (Int × List (Int) × Int × List (Int)) × ByteArray) × ByteArray × List (Int) × Int)) : Nat := zTerm a.1 + a.2.1.size + zInt64S a.2.2.1
def okSession (a : (((Int × List (List ((Int × (Int × Int × Bool × Bool × Bool) × Int)))) × (Int × List (List ((Int × (Int × Int × Bool × Bool × Bool) × Int)))) × Int × Int × (Int × Int × Bool × Bool × Bool) × Int × Int × Bool × Bool × Bool × Bool × Int × Int × (Int × Int × Bool × Bool × Bool) × List (Int) × (Int × List (Int) × Int × List (Int)) × ByteArray) × ByteArray × List (Int) × Int)) : Prop := okTerm a.1 ∧ a.2.1.size ≤ 1048576 ∧ okInt64S a.2.2.1
theorem okSession_of {a : (((Int × List (List ((Int × (Int × Int × Bool × Bool × Bool) × Int)))) × (Int × List (List ((Int × (Int × Int × Bool × Bool × Bool) × Int)))) × Int × Int × (Int × Int × Bool × Bool × Bool) × Int × Int × Bool × Bool × Bool × Bool × Int × Int × (Int × Int × Bool × Bool × Bool) × List (Int) × (Int × List (Int) × Int × List (Int)) × ByteArray) × ByteArray × List (Int) × Int)} (h : zSession a ≤ 1048576) : okSession a := by
  unfold zSession at h
  exact ⟨okTerm_of (by omega), (show a.2.1.size ≤ 1048576 by omega), (show zInt64S a.2.2.1 ≤ 1048576 by omega)⟩
@[simp] theorem kloadA_Session {h : Heap} {t : Bool} {xs : List (((Int × List (List ((Int × (Int × Int × Bool × Bool × Bool) × Int)))) × (Int × List (List ((Int × (Int × Int × Bool × Bool × Bool) × Int)))) × Int × Int × (Int × Int × Bool × Bool × Bool) × Int × Int × Bool × Bool × Bool × Bool × Int × Int × (Int × Int × Bool × Bool × Bool) × List (Int) × (Int × List (Int) × Int × List (Int)) × ByteArray) × ByteArray × List (Int) × Int)} {j : Nat} : kloadA 33 h (elp t (mSession t) xs j) = xs[j]?.map fun a => .agg (mSession t a) := kloadA_elp (mk := mSession t) (es := 33) (fun _ => rfl) (by omega)
@[simp] theorem kload1_Session_0 {h : Heap} {t : Bool} {xs : List ((((Int × List (List ((Int × (Int × Int × Bool × Bool × Bool) × Int)))) × (Int × List (List ((Int × (Int × Int × Bool × Bool × Bool) × Int)))) × Int × Int × (Int × Int × Bool × Bool × Bool) × Int × Int × Bool × Bool × Bool × Bool × Int × Int × (Int × Int × Bool × Bool × Bool) × List (Int) × (Int × List (Int) × Int × List (Int)) × ByteArray) × ByteArray × List (Int) × Int))} {j : Nat} : kload1 h (elf t (mSession t) xs j 0) = xs[j]?.bind fun a => (mSession t a)[0]? := kload1_elf (mk := mSession t) (es := 33) (fun _ => rfl) (by omega)
@[simp] theorem kload1_Session_1 {h : Heap} {t : Bool} {xs : List ((((Int × List (List ((Int × (Int × Int × Bool × Bool × Bool) × Int)))) × (Int × List (List ((Int × (Int × Int × Bool × Bool × Bool) × Int)))) × Int × Int × (Int × Int × Bool × Bool × Bool) × Int × Int × Bool × Bool × Bool × Bool × Int × Int × (Int × Int × Bool × Bool × Bool) × List (Int) × (Int × List (Int) × Int × List (Int)) × ByteArray) × ByteArray × List (Int) × Int))} {j : Nat} : kload1 h (elf t (mSession t) xs j 1) = xs[j]?.bind fun a => (mSession t a)[1]? := kload1_elf (mk := mSession t) (es := 33) (fun _ => rfl) (by omega)
@[simp] theorem kload1_Session_2 {h : Heap} {t : Bool} {xs : List ((((Int × List (List ((Int × (Int × Int × Bool × Bool × Bool) × Int)))) × (Int × List (List ((Int × (Int × Int × Bool × Bool × Bool) × Int)))) × Int × Int × (Int × Int × Bool × Bool × Bool) × Int × Int × Bool × Bool × Bool × Bool × Int × Int × (Int × Int × Bool × Bool × Bool) × List (Int) × (Int × List (Int) × Int × List (Int)) × ByteArray) × ByteArray × List (Int) × Int))} {j : Nat} : kload1 h (elf t (mSession t) xs j 2) = xs[j]?.bind fun a => (mSession t a)[2]? := kload1_elf (mk := mSession t) (es := 33) (fun _ => rfl) (by omega)
@[simp] theorem kload1_Session_3 {h : Heap} {t : Bool} {xs : List ((((Int × List (List ((Int × (Int × Int × Bool × Bool × Bool) × Int)))) × (Int × List (List ((Int × (Int × Int × Bool × Bool × Bool) × Int)))) × Int × Int × (Int × Int × Bool × Bool × Bool) × Int × Int × Bool × Bool × Bool × Bool × Int × Int × (Int × Int × Bool × Bool × Bool) × List (Int) × (Int × List (Int) × Int × List (Int)) × ByteArray) × ByteArray × List (Int) × Int))} {j : Nat} : kload1 h (elf t (mSession t) xs j 3) = xs[j]?.bind fun a => (mSession t a)[3]? := kload1_elf (mk := mSession t) (es := 33) (fun _ => rfl) (by omega)
@[simp] theorem kload1_Session_4 {h : Heap} {t : Bool} {xs : List ((((Int × List (List ((Int × (Int × Int × Bool × Bool × Bool) × Int)))) × (Int × List (List ((Int × (Int × Int × Bool × Bool × Bool) × Int)))) × Int × Int × (Int × Int × Bool × Bool × Bool) × Int × Int × Bool × Bool × Bool × Bool × Int × Int × (Int × Int × Bool × Bool × Bool) × List (Int) × (Int × List (Int) × Int × List (Int)) × ByteArray) × ByteArray × List (Int) × Int))} {j : Nat} : kload1 h (elf t (mSession t) xs j 4) = xs[j]?.bind fun a => (mSession t a)[4]? := kload1_elf (mk := mSession t) (es := 33) (fun _ => rfl) (by omega)
@[simp] theorem kload1_Session_5 {h : Heap} {t : Bool} {xs : List ((((Int × List (List ((Int × (Int × Int × Bool × Bool × Bool) × Int)))) × (Int × List (List ((Int × (Int × Int × Bool × Bool × Bool) × Int)))) × Int × Int × (Int × Int × Bool × Bool × Bool) × Int × Int × Bool × Bool × Bool × Bool × Int × Int × (Int × Int × Bool × Bool × Bool) × List (Int) × (Int × List (Int) × Int × List (Int)) × ByteArray) × ByteArray × List (Int) × Int))} {j : Nat} : kload1 h (elf t (mSession t) xs j 5) = xs[j]?.bind fun a => (mSession t a)[5]? := kload1_elf (mk := mSession t) (es := 33) (fun _ => rfl) (by omega)
@[simp] theorem kload1_Session_6 {h : Heap} {t : Bool} {xs : List ((((Int × List (List ((Int × (Int × Int × Bool × Bool × Bool) × Int)))) × (Int × List (List ((Int × (Int × Int × Bool × Bool × Bool) × Int)))) × Int × Int × (Int × Int × Bool × Bool × Bool) × Int × Int × Bool × Bool × Bool × Bool × Int × Int × (Int × Int × Bool × Bool × Bool) × List (Int) × (Int × List (Int) × Int × List (Int)) × ByteArray) × ByteArray × List (Int) × Int))} {j : Nat} : kload1 h (elf t (mSession t) xs j 6) = xs[j]?.bind fun a => (mSession t a)[6]? := kload1_elf (mk := mSession t) (es := 33) (fun _ => rfl) (by omega)
@[simp] theorem kload1_Session_7 {h : Heap} {t : Bool} {xs : List ((((Int × List (List ((Int × (Int × Int × Bool × Bool × Bool) × Int)))) × (Int × List (List ((Int × (Int × Int × Bool × Bool × Bool) × Int)))) × Int × Int × (Int × Int × Bool × Bool × Bool) × Int × Int × Bool × Bool × Bool × Bool × Int × Int × (Int × Int × Bool × Bool × Bool) × List (Int) × (Int × List (Int) × Int × List (Int)) × ByteArray) × ByteArray × List (Int) × Int))} {j : Nat} : kload1 h (elf t (mSession t) xs j 7) = xs[j]?.bind fun a => (mSession t a)[7]? := kload1_elf (mk := mSession t) (es := 33) (fun _ => rfl) (by omega)
@[simp] theorem kload1_Session_8 {h : Heap} {t : Bool} {xs : List ((((Int × List (List ((Int × (Int × Int × Bool × Bool × Bool) × Int)))) × (Int × List (List ((Int × (Int × Int × Bool × Bool × Bool) × Int)))) × Int × Int × (Int × Int × Bool × Bool × Bool) × Int × Int × Bool × Bool × Bool × Bool × Int × Int × (Int × Int × Bool × Bool × Bool) × List (Int) × (Int × List (Int) × Int × List (Int)) × ByteArray) × ByteArray × List (Int) × Int))} {j : Nat} : kload1 h (elf t (mSession t) xs j 8) = xs[j]?.bind fun a => (mSession t a)[8]? := kload1_elf (mk := mSession t) (es := 33) (fun _ => rfl) (by omega)
@[simp] theorem kload1_Session_9 {h : Heap} {t : Bool} {xs : List ((((Int × List (List ((Int × (Int × Int × Bool × Bool × Bool) × Int)))) × (Int × List (List ((Int × (Int × Int × Bool × Bool × Bool) × Int)))) × Int × Int × (Int × Int × Bool × Bool × Bool) × Int × Int × Bool × Bool × Bool × Bool × Int × Int × (Int × Int × Bool × Bool × Bool) × List (Int) × (Int × List (Int) × Int × List (Int)) × ByteArray) × ByteArray × List (Int) × Int))} {j : Nat} : kload1 h (elf t (mSession t) xs j 9) = xs[j]?.bind fun a => (mSession t a)[9]? := kload1_elf (mk := mSession t) (es := 33) (fun _ => rfl) (by omega)
@[simp] theorem kload1_Session_10 {h : Heap} {t : Bool} {xs : List ((((Int × List (List ((Int × (Int × Int × Bool × Bool × Bool) × Int)))) × (Int × List (List ((Int × (Int × Int × Bool × Bool × Bool) × Int)))) × Int × Int × (Int × Int × Bool × Bool × Bool) × Int × Int × Bool × Bool × Bool × Bool × Int × Int × (Int × Int × Bool × Bool × Bool) × List (Int) × (Int × List (Int) × Int × List (Int)) × ByteArray) × ByteArray × List (Int) × Int))} {j : Nat} : kload1 h (elf t (mSession t) xs j 10) = xs[j]?.bind fun a => (mSession t a)[10]? := kload1_elf (mk := mSession t) (es := 33) (fun _ => rfl) (by omega)
@[simp] theorem kload1_Session_11 {h : Heap} {t : Bool} {xs : List ((((Int × List (List ((Int × (Int × Int × Bool × Bool × Bool) × Int)))) × (Int × List (List ((Int × (Int × Int × Bool × Bool × Bool) × Int)))) × Int × Int × (Int × Int × Bool × Bool × Bool) × Int × Int × Bool × Bool × Bool × Bool × Int × Int × (Int × Int × Bool × Bool × Bool) × List (Int) × (Int × List (Int) × Int × List (Int)) × ByteArray) × ByteArray × List (Int) × Int))} {j : Nat} : kload1 h (elf t (mSession t) xs j 11) = xs[j]?.bind fun a => (mSession t a)[11]? := kload1_elf (mk := mSession t) (es := 33) (fun _ => rfl) (by omega)
@[simp] theorem kload1_Session_12 {h : Heap} {t : Bool} {xs : List ((((Int × List (List ((Int × (Int × Int × Bool × Bool × Bool) × Int)))) × (Int × List (List ((Int × (Int × Int × Bool × Bool × Bool) × Int)))) × Int × Int × (Int × Int × Bool × Bool × Bool) × Int × Int × Bool × Bool × Bool × Bool × Int × Int × (Int × Int × Bool × Bool × Bool) × List (Int) × (Int × List (Int) × Int × List (Int)) × ByteArray) × ByteArray × List (Int) × Int))} {j : Nat} : kload1 h (elf t (mSession t) xs j 12) = xs[j]?.bind fun a => (mSession t a)[12]? := kload1_elf (mk := mSession t) (es := 33) (fun _ => rfl) (by omega)
@[simp] theorem kload1_Session_13 {h : Heap} {t : Bool} {xs : List ((((Int × List (List ((Int × (Int × Int × Bool × Bool × Bool) × Int)))) × (Int × List (List ((Int × (Int × Int × Bool × Bool × Bool) × Int)))) × Int × Int × (Int × Int × Bool × Bool × Bool) × Int × Int × Bool × Bool × Bool × Bool × Int × Int × (Int × Int × Bool × Bool × Bool) × List (Int) × (Int × List (Int) × Int × List (Int)) × ByteArray) × ByteArray × List (Int) × Int))} {j : Nat} : kload1 h (elf t (mSession t) xs j 13) = xs[j]?.bind fun a => (mSession t a)[13]? := kload1_elf (mk := mSession t) (es := 33) (fun _ => rfl) (by omega)
@[simp] theorem kload1_Session_14 {h : Heap} {t : Bool} {xs : List ((((Int × List (List ((Int × (Int × Int × Bool × Bool × Bool) × Int)))) × (Int × List (List ((Int × (Int × Int × Bool × Bool × Bool) × Int)))) × Int × Int × (Int × Int × Bool × Bool × Bool) × Int × Int × Bool × Bool × Bool × Bool × Int × Int × (Int × Int × Bool × Bool × Bool) × List (Int) × (Int × List (Int) × Int × List (Int)) × ByteArray) × ByteArray × List (Int) × Int))} {j : Nat} : kload1 h (elf t (mSession t) xs j 14) = xs[j]?.bind fun a => (mSession t a)[14]? := kload1_elf (mk := mSession t) (es := 33) (fun _ => rfl) (by omega)
@[simp] theorem kload1_Session_15 {h : Heap} {t : Bool} {xs : List ((((Int × List (List ((Int × (Int × Int × Bool × Bool × Bool) × Int)))) × (Int × List (List ((Int × (Int × Int × Bool × Bool × Bool) × Int)))) × Int × Int × (Int × Int × Bool × Bool × Bool) × Int × Int × Bool × Bool × Bool × Bool × Int × Int × (Int × Int × Bool × Bool × Bool) × List (Int) × (Int × List (Int) × Int × List (Int)) × ByteArray) × ByteArray × List (Int) × Int))} {j : Nat} : kload1 h (elf t (mSession t) xs j 15) = xs[j]?.bind fun a => (mSession t a)[15]? := kload1_elf (mk := mSession t) (es := 33) (fun _ => rfl) (by omega)
@[simp] theorem kload1_Session_16 {h : Heap} {t : Bool} {xs : List ((((Int × List (List ((Int × (Int × Int × Bool × Bool × Bool) × Int)))) × (Int × List (List ((Int × (Int × Int × Bool × Bool × Bool) × Int)))) × Int × Int × (Int × Int × Bool × Bool × Bool) × Int × Int × Bool × Bool × Bool × Bool × Int × Int × (Int × Int × Bool × Bool × Bool) × List (Int) × (Int × List (Int) × Int × List (Int)) × ByteArray) × ByteArray × List (Int) × Int))} {j : Nat} : kload1 h (elf t (mSession t) xs j 16) = xs[j]?.bind fun a => (mSession t a)[16]? := kload1_elf (mk := mSession t) (es := 33) (fun _ => rfl) (by omega)
@[simp] theorem kload1_Session_17 {h : Heap} {t : Bool} {xs : List ((((Int × List (List ((Int × (Int × Int × Bool × Bool × Bool) × Int)))) × (Int × List (List ((Int × (Int × Int × Bool × Bool × Bool) × Int)))) × Int × Int × (Int × Int × Bool × Bool × Bool) × Int × Int × Bool × Bool × Bool × Bool × Int × Int × (Int × Int × Bool × Bool × Bool) × List (Int) × (Int × List (Int) × Int × List (Int)) × ByteArray) × ByteArray × List (Int) × Int))} {j : Nat} : kload1 h (elf t (mSession t) xs j 17) = xs[j]?.bind fun a => (mSession t a)[17]? := kload1_elf (mk := mSession t) (es := 33) (fun _ => rfl) (by omega)
@[simp] theorem kload1_Session_18 {h : Heap} {t : Bool} {xs : List ((((Int × List (List ((Int × (Int × Int × Bool × Bool × Bool) × Int)))) × (Int × List (List ((Int × (Int × Int × Bool × Bool × Bool) × Int)))) × Int × Int × (Int × Int × Bool × Bool × Bool) × Int × Int × Bool × Bool × Bool × Bool × Int × Int × (Int × Int × Bool × Bool × Bool) × List (Int) × (Int × List (Int) × Int × List (Int)) × ByteArray) × ByteArray × List (Int) × Int))} {j : Nat} : kload1 h (elf t (mSession t) xs j 18) = xs[j]?.bind fun a => (mSession t a)[18]? := kload1_elf (mk := mSession t) (es := 33) (fun _ => rfl) (by omega)
@[simp] theorem kload1_Session_19 {h : Heap} {t : Bool} {xs : List ((((Int × List (List ((Int × (Int × Int × Bool × Bool × Bool) × Int)))) × (Int × List (List ((Int × (Int × Int × Bool × Bool × Bool) × Int)))) × Int × Int × (Int × Int × Bool × Bool × Bool) × Int × Int × Bool × Bool × Bool × Bool × Int × Int × (Int × Int × Bool × Bool × Bool) × List (Int) × (Int × List (Int) × Int × List (Int)) × ByteArray) × ByteArray × List (Int) × Int))} {j : Nat} : kload1 h (elf t (mSession t) xs j 19) = xs[j]?.bind fun a => (mSession t a)[19]? := kload1_elf (mk := mSession t) (es := 33) (fun _ => rfl) (by omega)
@[simp] theorem kload1_Session_20 {h : Heap} {t : Bool} {xs : List ((((Int × List (List ((Int × (Int × Int × Bool × Bool × Bool) × Int)))) × (Int × List (List ((Int × (Int × Int × Bool × Bool × Bool) × Int)))) × Int × Int × (Int × Int × Bool × Bool × Bool) × Int × Int × Bool × Bool × Bool × Bool × Int × Int × (Int × Int × Bool × Bool × Bool) × List (Int) × (Int × List (Int) × Int × List (Int)) × ByteArray) × ByteArray × List (Int) × Int))} {j : Nat} : kload1 h (elf t (mSession t) xs j 20) = xs[j]?.bind fun a => (mSession t a)[20]? := kload1_elf (mk := mSession t) (es := 33) (fun _ => rfl) (by omega)
@[simp] theorem kload1_Session_21 {h : Heap} {t : Bool} {xs : List ((((Int × List (List ((Int × (Int × Int × Bool × Bool × Bool) × Int)))) × (Int × List (List ((Int × (Int × Int × Bool × Bool × Bool) × Int)))) × Int × Int × (Int × Int × Bool × Bool × Bool) × Int × Int × Bool × Bool × Bool × Bool × Int × Int × (Int × Int × Bool × Bool × Bool) × List (Int) × (Int × List (Int) × Int × List (Int)) × ByteArray) × ByteArray × List (Int) × Int))} {j : Nat} : kload1 h (elf t (mSession t) xs j 21) = xs[j]?.bind fun a => (mSession t a)[21]? := kload1_elf (mk := mSession t) (es := 33) (fun _ => rfl) (by omega)
@[simp] theorem kload1_Session_22 {h : Heap} {t : Bool} {xs : List ((((Int × List (List ((Int × (Int × Int × Bool × Bool × Bool) × Int)))) × (Int × List (List ((Int × (Int × Int × Bool × Bool × Bool) × Int)))) × Int × Int × (Int × Int × Bool × Bool × Bool) × Int × Int × Bool × Bool × Bool × Bool × Int × Int × (Int × Int × Bool × Bool × Bool) × List (Int) × (Int × List (Int) × Int × List (Int)) × ByteArray) × ByteArray × List (Int) × Int))} {j : Nat} : kload1 h (elf t (mSession t) xs j 22) = xs[j]?.bind fun a => (mSession t a)[22]? := kload1_elf (mk := mSession t) (es := 33) (fun _ => rfl) (by omega)
@[simp] theorem kload1_Session_23 {h : Heap} {t : Bool} {xs : List ((((Int × List (List ((Int × (Int × Int × Bool × Bool × Bool) × Int)))) × (Int × List (List ((Int × (Int × Int × Bool × Bool × Bool) × Int)))) × Int × Int × (Int × Int × Bool × Bool × Bool) × Int × Int × Bool × Bool × Bool × Bool × Int × Int × (Int × Int × Bool × Bool × Bool) × List (Int) × (Int × List (Int) × Int × List (Int)) × ByteArray) × ByteArray × List (Int) × Int))} {j : Nat} : kload1 h (elf t (mSession t) xs j 23) = xs[j]?.bind fun a => (mSession t a)[23]? := kload1_elf (mk := mSession t) (es := 33) (fun _ => rfl) (by omega)
@[simp] theorem kload1_Session_24 {h : Heap} {t : Bool} {xs : List ((((Int × List (List ((Int × (Int × Int × Bool × Bool × Bool) × Int)))) × (Int × List (List ((Int × (Int × Int × Bool × Bool × Bool) × Int)))) × Int × Int × (Int × Int × Bool × Bool × Bool) × Int × Int × Bool × Bool × Bool × Bool × Int × Int × (Int × Int × Bool × Bool × Bool) × List (Int) × (Int × List (Int) × Int × List (Int)) × ByteArray) × ByteArray × List (Int) × Int))} {j : Nat} : kload1 h (elf t (mSession t) xs j 24) = xs[j]?.bind fun a => (mSession t a)[24]? := kload1_elf (mk := mSession t) (es := 33) (fun _ => rfl) (by omega)
@[simp] theorem kload1_Session_25 {h : Heap} {t : Bool} {xs : List ((((Int × List (List ((Int × (Int × Int × Bool × Bool × Bool) × Int)))) × (Int × List (List ((Int × (Int × Int × Bool × Bool × Bool) × Int)))) × Int × Int × (Int × Int × Bool × Bool × Bool) × Int × Int × Bool × Bool × Bool × Bool × Int × Int × (Int × Int × Bool × Bool × Bool) × List (Int) × (Int × List (Int) × Int × List (Int)) × ByteArray) × ByteArray × List (Int) × Int))} {j : Nat} : kload1 h (elf t (mSession t) xs j 25) = xs[j]?.bind fun a => (mSession t a)[25]? := kload1_elf (mk := mSession t) (es := 33) (fun _ => rfl) (by omega)
@[simp] theorem kload1_Session_26 {h : Heap} {t : Bool} {xs : List ((((Int × List (List ((Int × (Int × Int × Bool × Bool × Bool) × Int)))) × (Int × List (List ((Int × (Int × Int × Bool × Bool × Bool) × Int)))) × Int × Int × (Int × Int × Bool × Bool × Bool) × Int × Int × Bool × Bool × Bool × Bool × Int × Int × (Int × Int × Bool × Bool × Bool) × List (Int) × (Int × List (Int) × Int × List (Int)) × ByteArray) × ByteArray × List (Int) × Int))} {j : Nat} : kload1 h (elf t (mSession t) xs j 26) = xs[j]?.bind fun a => (mSession t a)[26]? := kload1_elf (mk := mSession t) (es := 33) (fun _ => rfl) (by omega)
@[simp] theorem kload1_Session_27 {h : Heap} {t : Bool} {xs : List ((((Int × List (List ((Int × (Int × Int × Bool × Bool × Bool) × Int)))) × (Int × List (List ((Int × (Int × Int × Bool × Bool × Bool) × Int)))) × Int × Int × (Int × Int × Bool × Bool × Bool) × Int × Int × Bool × Bool × Bool × Bool × Int × Int × (Int × Int × Bool × Bool × Bool) × List (Int) × (Int × List (Int) × Int × List (Int)) × ByteArray) × ByteArray × List (Int) × Int))} {j : Nat} : kload1 h (elf t (mSession t) xs j 27) = xs[j]?.bind fun a => (mSession t a)[27]? := kload1_elf (mk := mSession t) (es := 33) (fun _ => rfl) (by omega)
@[simp] theorem kload1_Session_28 {h : Heap} {t : Bool} {xs : List ((((Int × List (List ((Int × (Int × Int × Bool × Bool × Bool) × Int)))) × (Int × List (List ((Int × (Int × Int × Bool × Bool × Bool) × Int)))) × Int × Int × (Int × Int × Bool × Bool × Bool) × Int × Int × Bool × Bool × Bool × Bool × Int × Int × (Int × Int × Bool × Bool × Bool) × List (Int) × (Int × List (Int) × Int × List (Int)) × ByteArray) × ByteArray × List (Int) × Int))} {j : Nat} : kload1 h (elf t (mSession t) xs j 28) = xs[j]?.bind fun a => (mSession t a)[28]? := kload1_elf (mk := mSession t) (es := 33) (fun _ => rfl) (by omega)
@[simp] theorem kload1_Session_29 {h : Heap} {t : Bool} {xs : List ((((Int × List (List ((Int × (Int × Int × Bool × Bool × Bool) × Int)))) × (Int × List (List ((Int × (Int × Int × Bool × Bool × Bool) × Int)))) × Int × Int × (Int × Int × Bool × Bool × Bool) × Int × Int × Bool × Bool × Bool × Bool × Int × Int × (Int × Int × Bool × Bool × Bool) × List (Int) × (Int × List (Int) × Int × List (Int)) × ByteArray) × ByteArray × List (Int) × Int))} {j : Nat} : kload1 h (elf t (mSession t) xs j 29) = xs[j]?.bind fun a => (mSession t a)[29]? := kload1_elf (mk := mSession t) (es := 33) (fun _ => rfl) (by omega)
@[simp] theorem kload1_Session_30 {h : Heap} {t : Bool} {xs : List ((((Int × List (List ((Int × (Int × Int × Bool × Bool × Bool) × Int)))) × (Int × List (List ((Int × (Int × Int × Bool × Bool × Bool) × Int)))) × Int × Int × (Int × Int × Bool × Bool × Bool) × Int × Int × Bool × Bool × Bool × Bool × Int × Int × (Int × Int × Bool × Bool × Bool) × List (Int) × (Int × List (Int) × Int × List (Int)) × ByteArray) × ByteArray × List (Int) × Int))} {j : Nat} : kload1 h (elf t (mSession t) xs j 30) = xs[j]?.bind fun a => (mSession t a)[30]? := kload1_elf (mk := mSession t) (es := 33) (fun _ => rfl) (by omega)
@[simp] theorem kload1_Session_31 {h : Heap} {t : Bool} {xs : List ((((Int × List (List ((Int × (Int × Int × Bool × Bool × Bool) × Int)))) × (Int × List (List ((Int × (Int × Int × Bool × Bool × Bool) × Int)))) × Int × Int × (Int × Int × Bool × Bool × Bool) × Int × Int × Bool × Bool × Bool × Bool × Int × Int × (Int × Int × Bool × Bool × Bool) × List (Int) × (Int × List (Int) × Int × List (Int)) × ByteArray) × ByteArray × List (Int) × Int))} {j : Nat} : kload1 h (elf t (mSession t) xs j 31) = xs[j]?.bind fun a => (mSession t a)[31]? := kload1_elf (mk := mSession t) (es := 33) (fun _ => rfl) (by omega)
@[simp] theorem kload1_Session_32 {h : Heap} {t : Bool} {xs : List ((((Int × List (List ((Int × (Int × Int × Bool × Bool × Bool) × Int)))) × (Int × List (List ((Int × (Int × Int × Bool × Bool × Bool) × Int)))) × Int × Int × (Int × Int × Bool × Bool × Bool) × Int × Int × Bool × Bool × Bool × Bool × Int × Int × (Int × Int × Bool × Bool × Bool) × List (Int) × (Int × List (Int) × Int × List (Int)) × ByteArray) × ByteArray × List (Int) × Int))} {j : Nat} : kload1 h (elf t (mSession t) xs j 32) = xs[j]?.bind fun a => (mSession t a)[32]? := kload1_elf (mk := mSession t) (es := 33) (fun _ => rfl) (by omega)
@[simp] theorem kia_Session {t : Bool} {xs : List ((((Int × List (List ((Int × (Int × Int × Bool × Bool × Bool) × Int)))) × (Int × List (List ((Int × (Int × Int × Bool × Bool × Bool) × Int)))) × Int × Int × (Int × Int × Bool × Bool × Bool) × Int × Int × Bool × Bool × Bool × Bool × Int × Int × (Int × Int × Bool × Bool × Bool) × List (Int) × (Int × List (Int) × Int × List (Int)) × ByteArray) × ByteArray × List (Int) × Int))} {k : IntKind} {i : Int} : kia 33 (fzl t 33 (mSession t) xs) (.int k i) = if 0 ≤ i ∧ i < xs.length then some (elp t (mSession t) xs i.toNat) else none := kia_fzl (es := 33) (fun _ => rfl)
theorem ld_Session {d : Nat} {t : Bool} (a : (((Int × List (List ((Int × (Int × Int × Bool × Bool × Bool) × Int)))) × (Int × List (List ((Int × (Int × Int × Bool × Bool × Bool) × Int)))) × Int × Int × (Int × Int × Bool × Bool × Bool) × Int × Int × Bool × Bool × Bool × Bool × Int × Int × (Int × Int × Bool × Bool × Bool) × List (Int) × (Int × List (Int) × Int × List (Int)) × ByteArray) × ByteArray × List (Int) × Int)) : (mSession t a).map (lend (d + 2)) = mSession true a := map_cons' lend_int (map_cons' (lend_fzl (d := d + 1) (mk := (mCellS t)) (mk' := (mCellS true)) (fun a => ld_CellS (d := d) a) a.1.1.2) (map_cons' lend_int (map_cons' (lend_fzl (d := d + 1) (mk := (mCellS t)) (mk' := (mCellS true)) (fun a => ld_CellS (d := d) a) a.1.2.1.2) (map_cons' lend_int (map_cons' lend_int (map_cons' lend_int (map_cons' lend_int (map_cons' lend_bool (map_cons' lend_bool (map_cons' lend_bool (map_cons' lend_int (map_cons' lend_int (map_cons' lend_bool (map_cons' lend_bool (map_cons' lend_bool (map_cons' lend_bool (map_cons' lend_int (map_cons' lend_int (map_cons' lend_int (map_cons' lend_int (map_cons' lend_bool (map_cons' lend_bool (map_cons' lend_bool (map_cons' (lend_fzl (d := d + 1) (mk := ci) (mk' := ci) (fun a => map_cons' lend_int rfl) a.1.2.2.2.2.2.2.2.2.2.2.2.2.2.2.1) (map_cons' lend_int (map_cons' (lend_fzl (d := d + 1) (mk := ci) (mk' := ci) (fun a => map_cons' lend_int rfl) a.1.2.2.2.2.2.2.2.2.2.2.2.2.2.2.2.1.2.1) (map_cons' lend_int (map_cons' (lend_fzl (d := d + 1) (mk := ci) (mk' := ci) (fun a => map_cons' lend_int rfl) a.1.2.2.2.2.2.2.2.2.2.2.2.2.2.2.2.1.2.2.2) (map_cons' lend_str (map_cons' lend_str (map_cons' (lend_fzl (d := d + 1) (mk := ci) (mk' := ci) (fun a => map_cons' lend_int rfl) a.2.2.1) (map_cons' lend_int (rfl)))))))))))))))))))))))))))))))))
@[simp] theorem bor_Session {d : Nat} {h : Heap} {t : Bool} {xs : List ((((Int × List (List ((Int × (Int × Int × Bool × Bool × Bool) × Int)))) × (Int × List (List ((Int × (Int × Int × Bool × Bool × Bool) × Int)))) × Int × Int × (Int × Int × Bool × Bool × Bool) × Int × Int × Bool × Bool × Bool × Bool × Int × Int × (Int × Int × Bool × Bool × Bool) × List (Int) × (Int × List (Int) × Int × List (Int)) × ByteArray) × ByteArray × List (Int) × Int))} : bor (d + 4) h (fzl t 33 (mSession t) xs) = some (fzl true 33 (mSession true) xs, []) := bor_fzl (d := d + 3) (fun a => ld_Session (d := d + 1) a) xs
open Classical in
theorem laws_eqSession_spec (a_1_1_1 b_1_1_1 : Int) (a_1_1_2 b_1_1_2 : List (List ((Int × (Int × Int × Bool × Bool × Bool) × Int)))) (a_1_2_1 b_1_2_1 : Int) (a_1_2_2 b_1_2_2 : List (List ((Int × (Int × Int × Bool × Bool × Bool) × Int)))) (a_1_3 b_1_3 : Int) (a_1_4 b_1_4 : Int) (a_1_5_1 b_1_5_1 : Int) (a_1_5_2 b_1_5_2 : Int) (a_1_5_3 b_1_5_3 : Bool) (a_1_5_4 b_1_5_4 : Bool) (a_1_5_5 b_1_5_5 : Bool) (a_1_6 b_1_6 : Int) (a_1_7 b_1_7 : Int) (a_1_8 b_1_8 : Bool) (a_1_9 b_1_9 : Bool) (a_1_10 b_1_10 : Bool) (a_1_11 b_1_11 : Bool) (a_1_12 b_1_12 : Int) (a_1_13 b_1_13 : Int) (a_1_14_1 b_1_14_1 : Int) (a_1_14_2 b_1_14_2 : Int) (a_1_14_3 b_1_14_3 : Bool) (a_1_14_4 b_1_14_4 : Bool) (a_1_14_5 b_1_14_5 : Bool) (a_1_15 b_1_15 : List (Int)) (a_1_16_1 b_1_16_1 : Int) (a_1_16_2 b_1_16_2 : List (Int)) (a_1_16_3 b_1_16_3 : Int) (a_1_16_4 b_1_16_4 : List (Int)) (a_1_17 b_1_17 : ByteArray) (a_2 b_2 : ByteArray) (a_3 b_3 : List (Int)) (a_4 b_4 : Int) (hm : okSession (((a_1_1_1, a_1_1_2), (a_1_2_1, a_1_2_2), a_1_3, a_1_4, (a_1_5_1, a_1_5_2, a_1_5_3, a_1_5_4, a_1_5_5), a_1_6, a_1_7, a_1_8, a_1_9, a_1_10, a_1_11, a_1_12, a_1_13, (a_1_14_1, a_1_14_2, a_1_14_3, a_1_14_4, a_1_14_5), a_1_15, (a_1_16_1, a_1_16_2, a_1_16_3, a_1_16_4), a_1_17), a_2, a_3, a_4)) : NN fn.laws_eqSession [.agg [.int .i64 a_1_1_1, fzl true 1 (mCellS true) a_1_1_2, .int .i64 a_1_2_1, fzl true 1 (mCellS true) a_1_2_2, .int .i64 a_1_3, .int .i64 a_1_4, .int .i64 a_1_5_1, .int .i64 a_1_5_2, .bool a_1_5_3, .bool a_1_5_4, .bool a_1_5_5, .int .i64 a_1_6, .int .i64 a_1_7, .bool a_1_8, .bool a_1_9, .bool a_1_10, .bool a_1_11, .int .i64 a_1_12, .int .i64 a_1_13, .int .i64 a_1_14_1, .int .i64 a_1_14_2, .bool a_1_14_3, .bool a_1_14_4, .bool a_1_14_5, fzl true 1 ci a_1_15, .int .i64 a_1_16_1, fzl true 1 ci a_1_16_2, .int .i64 a_1_16_3, fzl true 1 ci a_1_16_4, .str a_1_17, .str a_2, fzl true 1 ci a_3, .int .i64 a_4], .agg [.int .i64 b_1_1_1, fzl true 1 (mCellS true) b_1_1_2, .int .i64 b_1_2_1, fzl true 1 (mCellS true) b_1_2_2, .int .i64 b_1_3, .int .i64 b_1_4, .int .i64 b_1_5_1, .int .i64 b_1_5_2, .bool b_1_5_3, .bool b_1_5_4, .bool b_1_5_5, .int .i64 b_1_6, .int .i64 b_1_7, .bool b_1_8, .bool b_1_9, .bool b_1_10, .bool b_1_11, .int .i64 b_1_12, .int .i64 b_1_13, .int .i64 b_1_14_1, .int .i64 b_1_14_2, .bool b_1_14_3, .bool b_1_14_4, .bool b_1_14_5, fzl true 1 ci b_1_15, .int .i64 b_1_16_1, fzl true 1 ci b_1_16_2, .int .i64 b_1_16_3, fzl true 1 ci b_1_16_4, .str b_1_17, .str b_2, fzl true 1 ci b_3, .int .i64 b_4]] = some (.bool (decide ((((a_1_1_1, a_1_1_2), (a_1_2_1, a_1_2_2), a_1_3, a_1_4, (a_1_5_1, a_1_5_2, a_1_5_3, a_1_5_4, a_1_5_5), a_1_6, a_1_7, a_1_8, a_1_9, a_1_10, a_1_11, a_1_12, a_1_13, (a_1_14_1, a_1_14_2, a_1_14_3, a_1_14_4, a_1_14_5), a_1_15, (a_1_16_1, a_1_16_2, a_1_16_3, a_1_16_4), a_1_17), a_2, a_3, a_4) = (((b_1_1_1, b_1_1_2), (b_1_2_1, b_1_2_2), b_1_3, b_1_4, (b_1_5_1, b_1_5_2, b_1_5_3, b_1_5_4, b_1_5_5), b_1_6, b_1_7, b_1_8, b_1_9, b_1_10, b_1_11, b_1_12, b_1_13, (b_1_14_1, b_1_14_2, b_1_14_3, b_1_14_4, b_1_14_5), b_1_15, (b_1_16_1, b_1_16_2, b_1_16_3, b_1_16_4), b_1_17), b_2, b_3, b_4)))) := by
  apply S.laws_eqSession.gives (k := 0)
  unfold okSession at hm
  have s0 := laws_eqTerm_spec a_1_1_1 b_1_1_1 a_1_1_2 b_1_1_2 a_1_2_1 b_1_2_1 a_1_2_2 b_1_2_2 a_1_3 b_1_3 a_1_4 b_1_4 a_1_5_1 b_1_5_1 a_1_5_2 b_1_5_2 a_1_5_3 b_1_5_3 a_1_5_4 b_1_5_4 a_1_5_5 b_1_5_5 a_1_6 b_1_6 a_1_7 b_1_7 a_1_8 b_1_8 a_1_9 b_1_9 a_1_10 b_1_10 a_1_11 b_1_11 a_1_12 b_1_12 a_1_13 b_1_13 a_1_14_1 b_1_14_1 a_1_14_2 b_1_14_2 a_1_14_3 b_1_14_3 a_1_14_4 b_1_14_4 a_1_14_5 b_1_14_5 a_1_15 b_1_15 a_1_16_1 b_1_16_1 a_1_16_2 b_1_16_2 a_1_16_3 b_1_16_3 a_1_16_4 b_1_16_4 a_1_17 b_1_17 hm.1
  by_cases c0 : ((a_1_1_1, a_1_1_2), (a_1_2_1, a_1_2_2), a_1_3, a_1_4, (a_1_5_1, a_1_5_2, a_1_5_3, a_1_5_4, a_1_5_5), a_1_6, a_1_7, a_1_8, a_1_9, a_1_10, a_1_11, a_1_12, a_1_13, (a_1_14_1, a_1_14_2, a_1_14_3, a_1_14_4, a_1_14_5), a_1_15, (a_1_16_1, a_1_16_2, a_1_16_3, a_1_16_4), a_1_17) = ((b_1_1_1, b_1_1_2), (b_1_2_1, b_1_2_2), b_1_3, b_1_4, (b_1_5_1, b_1_5_2, b_1_5_3, b_1_5_4, b_1_5_5), b_1_6, b_1_7, b_1_8, b_1_9, b_1_10, b_1_11, b_1_12, b_1_13, (b_1_14_1, b_1_14_2, b_1_14_3, b_1_14_4, b_1_14_5), b_1_15, (b_1_16_1, b_1_16_2, b_1_16_3, b_1_16_4), b_1_17)
  rotate_left
  · have e : ¬ ((((a_1_1_1, a_1_1_2), (a_1_2_1, a_1_2_2), a_1_3, a_1_4, (a_1_5_1, a_1_5_2, a_1_5_3, a_1_5_4, a_1_5_5), a_1_6, a_1_7, a_1_8, a_1_9, a_1_10, a_1_11, a_1_12, a_1_13, (a_1_14_1, a_1_14_2, a_1_14_3, a_1_14_4, a_1_14_5), a_1_15, (a_1_16_1, a_1_16_2, a_1_16_3, a_1_16_4), a_1_17), a_2, a_3, a_4) = (((b_1_1_1, b_1_1_2), (b_1_2_1, b_1_2_2), b_1_3, b_1_4, (b_1_5_1, b_1_5_2, b_1_5_3, b_1_5_4, b_1_5_5), b_1_6, b_1_7, b_1_8, b_1_9, b_1_10, b_1_11, b_1_12, b_1_13, (b_1_14_1, b_1_14_2, b_1_14_3, b_1_14_4, b_1_14_5), b_1_15, (b_1_16_1, b_1_16_2, b_1_16_3, b_1_16_4), b_1_17), b_2, b_3, b_4)) := fun e => c0 (by simp only [Prod.mk.injEq] at e ⊢; simp [e])
    rw [decide_eq_false e]
    rw [decide_eq_false c0] at s0
    simp [S.laws_eqSession.run, s0]
  rw [decide_eq_true c0] at s0
  by_cases c1 : a_2 = b_2
  rotate_left
  · have e : ¬ ((((a_1_1_1, a_1_1_2), (a_1_2_1, a_1_2_2), a_1_3, a_1_4, (a_1_5_1, a_1_5_2, a_1_5_3, a_1_5_4, a_1_5_5), a_1_6, a_1_7, a_1_8, a_1_9, a_1_10, a_1_11, a_1_12, a_1_13, (a_1_14_1, a_1_14_2, a_1_14_3, a_1_14_4, a_1_14_5), a_1_15, (a_1_16_1, a_1_16_2, a_1_16_3, a_1_16_4), a_1_17), a_2, a_3, a_4) = (((b_1_1_1, b_1_1_2), (b_1_2_1, b_1_2_2), b_1_3, b_1_4, (b_1_5_1, b_1_5_2, b_1_5_3, b_1_5_4, b_1_5_5), b_1_6, b_1_7, b_1_8, b_1_9, b_1_10, b_1_11, b_1_12, b_1_13, (b_1_14_1, b_1_14_2, b_1_14_3, b_1_14_4, b_1_14_5), b_1_15, (b_1_16_1, b_1_16_2, b_1_16_3, b_1_16_4), b_1_17), b_2, b_3, b_4)) := fun e => c1 (by simp only [Prod.mk.injEq] at e ⊢; simp [e])
    rw [decide_eq_false e]
    simp [S.laws_eqSession.run, s0, c1]
  have s2 := laws_eqInt64S_spec a_3 b_3 hm.2.2
  by_cases c2 : a_3 = b_3
  rotate_left
  · have e : ¬ ((((a_1_1_1, a_1_1_2), (a_1_2_1, a_1_2_2), a_1_3, a_1_4, (a_1_5_1, a_1_5_2, a_1_5_3, a_1_5_4, a_1_5_5), a_1_6, a_1_7, a_1_8, a_1_9, a_1_10, a_1_11, a_1_12, a_1_13, (a_1_14_1, a_1_14_2, a_1_14_3, a_1_14_4, a_1_14_5), a_1_15, (a_1_16_1, a_1_16_2, a_1_16_3, a_1_16_4), a_1_17), a_2, a_3, a_4) = (((b_1_1_1, b_1_1_2), (b_1_2_1, b_1_2_2), b_1_3, b_1_4, (b_1_5_1, b_1_5_2, b_1_5_3, b_1_5_4, b_1_5_5), b_1_6, b_1_7, b_1_8, b_1_9, b_1_10, b_1_11, b_1_12, b_1_13, (b_1_14_1, b_1_14_2, b_1_14_3, b_1_14_4, b_1_14_5), b_1_15, (b_1_16_1, b_1_16_2, b_1_16_3, b_1_16_4), b_1_17), b_2, b_3, b_4)) := fun e => c2 (by simp only [Prod.mk.injEq] at e ⊢; simp [e])
    rw [decide_eq_false e]
    rw [decide_eq_false c2] at s2
    simp [S.laws_eqSession.run, s0, c1, s2]
  rw [decide_eq_true c2] at s2
  by_cases c3 : a_4 = b_4
  rotate_left
  · have e : ¬ ((((a_1_1_1, a_1_1_2), (a_1_2_1, a_1_2_2), a_1_3, a_1_4, (a_1_5_1, a_1_5_2, a_1_5_3, a_1_5_4, a_1_5_5), a_1_6, a_1_7, a_1_8, a_1_9, a_1_10, a_1_11, a_1_12, a_1_13, (a_1_14_1, a_1_14_2, a_1_14_3, a_1_14_4, a_1_14_5), a_1_15, (a_1_16_1, a_1_16_2, a_1_16_3, a_1_16_4), a_1_17), a_2, a_3, a_4) = (((b_1_1_1, b_1_1_2), (b_1_2_1, b_1_2_2), b_1_3, b_1_4, (b_1_5_1, b_1_5_2, b_1_5_3, b_1_5_4, b_1_5_5), b_1_6, b_1_7, b_1_8, b_1_9, b_1_10, b_1_11, b_1_12, b_1_13, (b_1_14_1, b_1_14_2, b_1_14_3, b_1_14_4, b_1_14_5), b_1_15, (b_1_16_1, b_1_16_2, b_1_16_3, b_1_16_4), b_1_17), b_2, b_3, b_4)) := fun e => c3 (by simp only [Prod.mk.injEq] at e ⊢; simp [e])
    rw [decide_eq_false e]
    simp [S.laws_eqSession.run, s0, c1, s2, c3]
  have e : (((a_1_1_1, a_1_1_2), (a_1_2_1, a_1_2_2), a_1_3, a_1_4, (a_1_5_1, a_1_5_2, a_1_5_3, a_1_5_4, a_1_5_5), a_1_6, a_1_7, a_1_8, a_1_9, a_1_10, a_1_11, a_1_12, a_1_13, (a_1_14_1, a_1_14_2, a_1_14_3, a_1_14_4, a_1_14_5), a_1_15, (a_1_16_1, a_1_16_2, a_1_16_3, a_1_16_4), a_1_17), a_2, a_3, a_4) = (((b_1_1_1, b_1_1_2), (b_1_2_1, b_1_2_2), b_1_3, b_1_4, (b_1_5_1, b_1_5_2, b_1_5_3, b_1_5_4, b_1_5_5), b_1_6, b_1_7, b_1_8, b_1_9, b_1_10, b_1_11, b_1_12, b_1_13, (b_1_14_1, b_1_14_2, b_1_14_3, b_1_14_4, b_1_14_5), b_1_15, (b_1_16_1, b_1_16_2, b_1_16_3, b_1_16_4), b_1_17), b_2, b_3, b_4) := by
    simp only [Prod.mk.injEq] at *
    simp [c0, c1, c2, c3]
  rw [decide_eq_true e]
  simp [S.laws_eqSession.run, s0, c1, s2, c3]
abbrev rSession : Rel ((((Int × List (List ((Int × (Int × Int × Bool × Bool × Bool) × Int)))) × (Int × List (List ((Int × (Int × Int × Bool × Bool × Bool) × Int)))) × Int × Int × (Int × Int × Bool × Bool × Bool) × Int × Int × Bool × Bool × Bool × Bool × Int × Int × (Int × Int × Bool × Bool × Bool) × List (Int) × (Int × List (Int) × Int × List (Int)) × ByteArray) × ByteArray × List (Int) × Int)) := (RSeq rTerm (RSeq (RFl cs) (RSeq rInt64S (RFl ci))))
theorem goodSession : Good 33 3 (mSession true) rSession := (RSeq.good (goodTerm.mono (by omega)) (RSeq.good ((RFl.good (es := 1) (mk := cs) (fun _ => rfl) (fun _ => rfl)).mono (by omega)) (RSeq.good (goodInt64S.mono (by omega)) ((RFl.good (es := 1) (mk := ci) (fun _ => rfl) (fun _ => rfl)).mono (by omega)))))
def cSession (x : (((Int × List (List ((Int × (Int × Int × Bool × Bool × Bool) × Int)))) × (Int × List (List ((Int × (Int × Int × Bool × Bool × Bool) × Int)))) × Int × Int × (Int × Int × Bool × Bool × Bool) × Int × Int × Bool × Bool × Bool × Bool × Int × Int × (Int × Int × Bool × Bool × Bool) × List (Int) × (Int × List (Int) × Int × List (Int)) × ByteArray) × ByteArray × List (Int) × Int)) : Nat := cTerm x.1 + cInt64S x.2.2.1
theorem cSession_le {x : (((Int × List (List ((Int × (Int × Int × Bool × Bool × Bool) × Int)))) × (Int × List (List ((Int × (Int × Int × Bool × Bool × Bool) × Int)))) × Int × Int × (Int × Int × Bool × Bool × Bool) × Int × Int × Bool × Bool × Bool × Bool × Int × Int × (Int × Int × Bool × Bool × Bool) × List (Int) × (Int × List (Int) × Int × List (Int)) × ByteArray) × ByteArray × List (Int) × Int)} (h : okSession x) : cSession x ≤ 15393166983168 := by
  unfold okSession at h
  unfold cSession
  have := cTerm_le h.1
  have := cInt64S_le h.2.2
  omega
noncomputable def kSession (x : (((Int × List (List ((Int × (Int × Int × Bool × Bool × Bool) × Int)))) × (Int × List (List ((Int × (Int × Int × Bool × Bool × Bool) × Int)))) × Int × Int × (Int × Int × Bool × Bool × Bool) × Int × Int × Bool × Bool × Bool × Bool × Int × Int × (Int × Int × Bool × Bool × Bool) × List (Int) × (Int × List (Int) × Int × List (Int)) × ByteArray) × ByteArray × List (Int) × Int)) (k : Nat) : (((Int × List (List ((Int × (Int × Int × Bool × Bool × Bool) × Int)))) × (Int × List (List ((Int × (Int × Int × Bool × Bool × Bool) × Int)))) × Int × Int × (Int × Int × Bool × Bool × Bool) × Int × Int × Bool × Bool × Bool × Bool × Int × Int × (Int × Int × Bool × Bool × Bool) × List (Int) × (Int × List (Int) × Int × List (Int)) × ByteArray) × ByteArray × List (Int) × Int) := (kTerm x.1 (k), x.2.1, kInt64S x.2.2.1 (k + cTerm x.1), x.2.2.2)
theorem laws_heldSession_spec (x : (((Int × List (List ((Int × (Int × Int × Bool × Bool × Bool) × Int)))) × (Int × List (List ((Int × (Int × Int × Bool × Bool × Bool) × Int)))) × Int × Int × (Int × Int × Bool × Bool × Bool) × Int × Int × Bool × Bool × Bool × Bool × Int × Int × (Int × Int × Bool × Bool × Bool) × List (Int) × (Int × List (Int) × Int × List (Int)) × ByteArray) × ByteArray × List (Int) × Int)) (k : Nat) (hok : okSession x) (hk : k + cSession x ≤ 4611686018427387904) : NN fn.laws_heldSession [.agg (mSession true (kSession x k)), .int .i64 (k : Int)] = some (.int .i64 ((k + cSession x : Nat) : Int)) := by
  unfold okSession at hok
  unfold cSession at hk
  apply S.laws_heldSession.gives (k := 0)
  have s0 := laws_heldTerm_spec x.1 (k) hok.1 (by omega)
  have z0 : ¬ (((k + cTerm x.1 : Nat) : Int) < 0) := by omega
  have s2 := laws_heldInt64S_spec x.2.2.1 (k + cTerm x.1) hok.2.2 (by omega)
  have z2 : ¬ (((k + cTerm x.1 + cInt64S x.2.2.1 : Nat) : Int) < 0) := by omega
  simp only [kSession, cSession, ← Nat.add_assoc]
  simp [S.laws_heldSession.run, s0, z0, s2, z2, -Int.natCast_add]
theorem laws_markSession_spec (h : Heap) (c : List GV) (x : (((Int × List (List ((Int × (Int × Int × Bool × Bool × Bool) × Int)))) × (Int × List (List ((Int × (Int × Int × Bool × Bool × Bool) × Int)))) × Int × Int × (Int × Int × Bool × Bool × Bool) × Int × Int × Bool × Bool × Bool × Bool × Int × Int × (Int × Int × Bool × Bool × Bool) × List (Int) × (Int × List (Int) × Int × List (Int)) × ByteArray) × ByteArray × List (Int) × Int)) (R : List Nat) (k : Nat) (hok : okSession x) (he : rSession h c x R) (nd : R.Nodup) (hk : k + cSession x ≤ 4611686018427387904) : ∃ h', HH fn.laws_markSession [.agg c, .int .i64 (k : Int)] h = some (.int .i64 ((k + cSession x : Nat) : Int), h') ∧ rSession h' c (kSession x k) R ∧ Fr R h h' := by
  have ek : k + cSession x = k + cTerm x.1 + cInt64S x.2.2.1 := by unfold cSession; omega
  rw [ek] at hk ⊢
  unfold okSession at hok
  have hcl := goodSession.len he
  have hm := goodSession.mem he
  have he0 := goodSession.grow (t := [c]) he
  have hb0 : (h ++ [c])[h.length]? = some c := by simp
  have hbox : ∀ {Q : Type} (K : GV → Heap → Option Q), kbox (.agg c) h K = K (.ptr h.length 0 33) (h ++ [c]) := fun K => by rw [kbox_agg, hcl]
  obtain ⟨H0, hH0⟩ : ∃ H0, h ++ [c] = H0 := ⟨_, rfl⟩
  have g0 : Fr R h H0 := by rw [← hH0]; exact .app
  have hl0 : h.length < H0.length := by rw [← hH0]; simp
  rw [hH0] at he0 hb0
  simp only [hH0] at hbox
  obtain ⟨c0, d0, R0, S0, rfl, rfl, E0, F0⟩ := he0
  have N0 := List.nodup_append.1 nd
  have cl0 := goodTerm.len E0
  obtain ⟨c1, d1, R1, S1, rfl, rfl, E1, F1⟩ := F0
  have N1 := List.nodup_append.1 N0.2.1
  obtain ⟨rfl, rfl⟩ := E1
  obtain ⟨c2, d2, R2, S2, rfl, rfl, E2, F2⟩ := F1
  have N2 := List.nodup_append.1 N1.2.1
  obtain ⟨w2, rfl⟩ : ∃ w, c2 = [w] := List.length_eq_one_iff.1 (goodInt64S.len E2)
  have E3 := F2
  obtain ⟨rfl, rfl⟩ := E3
  have l0 : kloadA 30 H0 (.ptr h.length 0 33) = some (.agg c0) := kpartA_at hb0 hcl (part_at (pre := []) (post := (cs x.2.1 ++ [w2] ++ ci x.2.2.2)) (by simp [List.append_assoc]) (by simp) cl0) (by rw [hcl]; omega)
  obtain ⟨H1, m0, x0, f0⟩ := laws_markTerm_spec H0 c0 x.1 R0 (k) hok.1 E0 (N0.1) (by omega)
  have i0 : h.length ∉ R0 := fun hz => by have := hm h.length (by simp [hz]); omega
  have hb1 : H1[h.length]? = some _ := (f0.2 _ (by omega) i0).trans hb0
  have y0_2 := goodInt64S.keep E2 f0 (fun z h1 h2 => N0.2.2 z h2 z (by simp [h1]) rfl)
  have l2 : kload1 H1 (.ptr h.length 31 33) = some w2 := by rw [kload1_at hb1 hcl]; exact part1_at (pre := (c0 ++ cs x.2.1)) (post := (ci x.2.2.2)) (by simp [List.append_assoc]) (by simp [cl0])
  obtain ⟨H2, m2, x2, f2⟩ := laws_markInt64S_spec H1 w2 x.2.2.1 R2 (k + cTerm x.1) hok.2.2 y0_2 (N2.1) (by omega)
  have i2 : h.length ∉ R2 := fun hz => by have := hm h.length (by simp [hz]); omega
  have hb2 : H2[h.length]? = some _ := (f2.2 _ (by have := f0.1; omega) i2).trans hb1
  have y2_0 := goodTerm.keep x0 f2 (fun z h1 h2 => N0.2.2 z h1 z (by simp [h2]) rfl)
  refine ⟨H2, S.laws_markSession.gives (k := 0) ?_, ⟨_, _, _, _, rfl, rfl, y2_0, ⟨_, _, _, _, rfl, rfl, ⟨rfl, rfl⟩, ⟨_, _, _, _, rfl, rfl, x2, ⟨rfl, rfl⟩⟩⟩⟩, ((g0.trans (f0.sub (fun z hz => by simp [hz]))).trans (f2.sub (fun z hz => by simp [hz])))⟩
  simp only [S.laws_markSession.run, S.laws_markSession.n0, hbox, l0, m0, l2, m2, kfa_ptr, Nat.zero_add, Option.bind_some, kr_mk, kend_ret, finH_eq]
end Go.Proofs.Ytolhjndfplfjpaa.G
