/- Written by mgen.py: types, and what the functions of the laws that go over them answer; how such data lie in memory, their marks. -/
import Derived.Test.YtlbnioapepelnaaZfe0b0506
import Derived.Test.YtlbnioapepelnaaZ3250aff9
import Derived.Test.YtlbnioapepelnaaZ7df1697c
namespace Go.Proofs.Ytlbnioapepelnaa.G
open Go.RowKit
set_option linter.unusedVariables false
set_option linter.unusedSimpArgs false
/-! The text of a mark. -/
noncomputable def mtext (k : Nat) : ByteArray := match NN fn.laws_markText [.int .i64 (k : Int)] with | some (.str s) => s | _ => default
theorem markText_loop {R : Type} : ∀ (r n : Nat) (s : ByteArray) (v2 : GV) (h : Heap), n < 10 ^ r → n ≤ 4611686018427387904 → s.size + r ≤ 1000 → ∃ s' h', s'.size ≤ 1000 ∧ ∀ (k : Nat) (G : GX → GV → GV → Heap → Option R), S.laws_markText.l6 k G (r + 1) (.int .i64 (n : Int)) v2 (.str s) h = G (.ext 0) v2 (.str s') h' := by
  intro r
  induction r with
  | zero =>
    intro n s v2 h hn hn' hs
    have : n = 0 := by simpa using hn
    subst this
    refine ⟨s, h, by omega, fun k G => ?_⟩
    simp [S.laws_markText.l6]
  | succ r ih =>
    intro n s v2 h hn hn' hs
    by_cases h0 : n = 0
    · subst h0
      refine ⟨s, h, by omega, fun k G => ?_⟩
      simp [S.laws_markText.l6]
    · have g0 : (0 : Int) < n := by omega
      have hd : n / 10 < 10 ^ r := by rw [Nat.pow_succ] at hn; omega
      have hq : (n : Int).tdiv 10 = ((n / 10 : Nat) : Int) := by rw [Int.tdiv_eq_ediv_of_nonneg (by omega)]; omega
      have w : IntKind.i64.wrap (((n / 10 : Nat) : Int)) = ((n / 10 : Nat) : Int) := by rw [wrap_id] <;> omega
      have e1 : kbin .quo (.int .i64 (n : Int)) (.int .i64 10) = some (.int .i64 ((n / 10 : Nat) : Int)) := by rw [kbin_quo (by omega), hq, w]
      obtain ⟨d, hd1⟩ : ∃ d : Int, kbin .rem (.int .i64 (n : Int)) (.int .i64 10) = some (.int .i64 d) := ⟨_, kbin_rem (by omega)⟩
      obtain ⟨s1, h1, hs1, ih1⟩ := ih (n / 10) ((⟨#[UInt8.ofNat (IntKind.u8.wrap (IntKind.i64.wrap (48 + d))).toNat]⟩ : ByteArray) ++ s) v2 (h ++ [[.int .u8 (IntKind.u8.wrap (IntKind.i64.wrap (48 + d)))]]) hd (by omega) (by rw [ByteArray.size_append]; show 1 + s.size + r ≤ 1000; omega)
      refine ⟨s1, h1, hs1, fun k G => ?_⟩
      have e2 : kbstr (h ++ [[.int .u8 (IntKind.u8.wrap (IntKind.i64.wrap (48 + d)))]]) (.sl h.length 0 1 1 1) = some (.str ⟨#[UInt8.ofNat (IntKind.u8.wrap (IntKind.i64.wrap (48 + d))).toNat]⟩) := by
        simp [kbstr, gcells, gbyte]
      have e3 := kbin_sadd (a := ⟨#[UInt8.ofNat (IntKind.u8.wrap (IntKind.i64.wrap (48 + d))).toNat]⟩) (b := s) (by show 1 + s.size ≤ maxLen; simp only [maxLen]; omega)
      have g1 : 0 < n := by omega
      rw [S.laws_markText.l6]
      simp [g0, g1, hd1, gfill, zeros, kbs, e2, e3, -Int.natCast_ediv, e1, ih1]
theorem laws_markText_spec (k : Nat) (hk : k ≤ 4611686018427387904) : NN fn.laws_markText [.int .i64 (k : Int)] = some (.str (mtext k)) := by
  have : ∃ s, NN fn.laws_markText [.int .i64 (k : Int)] = some (.str s) := by
    by_cases h0 : k = 0
    · subst h0
      refine ⟨_, S.laws_markText.gives (k := 0) (v := .str ⟨#[109, 48]⟩) ?_⟩
      simp [S.laws_markText.run]
    · obtain ⟨s, h, hs, e⟩ := markText_loop (R := GV) 30 k ⟨#[]⟩ (.str ⟨#[]⟩) [] (by omega) hk (by show 0 + 30 ≤ 1000; omega)
      refine ⟨_, S.laws_markText.gives (k := 31) (v := .str (⟨#[109]⟩ ++ s)) ?_⟩
      have g0 : ¬ ((k : Int) ≤ 0) := by omega
      have e3 := kbin_sadd (a := ⟨#[109]⟩) (b := s) (by show 1 + s.size ≤ maxLen; simp only [maxLen]; omega)
      simp [S.laws_markText.run, g0, h0, e, e3]
  obtain ⟨s, hs⟩ := this
  have : mtext k = s := by unfold mtext; rw [hs]
  rw [this, hs]


/-! Style -/
abbrev mStyle (t : Bool) (a : (Int × Int × Bool × Bool × Bool)) : List GV := [.int .i64 a.1, .int .i64 a.2.1, .bool a.2.2.1, .bool a.2.2.2.1, .bool a.2.2.2.2]
def zStyle (a : (Int × Int × Bool × Bool × Bool)) : Nat := 0
def okStyle (a : (Int × Int × Bool × Bool × Bool)) : Prop := True
theorem okStyle_of {a : (Int × Int × Bool × Bool × Bool)} (h : zStyle a ≤ 1048576) : okStyle a := by
  unfold zStyle at h
  exact trivial
@[simp] theorem kloadA_Style {h : Heap} {t : Bool} {xs : List (Int × Int × Bool × Bool × Bool)} {j : Nat} : kloadA 5 h (elp t (mStyle t) xs j) = xs[j]?.map fun a => .agg (mStyle t a) := kloadA_elp (mk := mStyle t) (es := 5) (fun _ => rfl) (by omega)
@[simp] theorem kload1_Style_0 {h : Heap} {t : Bool} {xs : List ((Int × Int × Bool × Bool × Bool))} {j : Nat} : kload1 h (elf t (mStyle t) xs j 0) = xs[j]?.bind fun a => (mStyle t a)[0]? := kload1_elf (mk := mStyle t) (es := 5) (fun _ => rfl) (by omega)
@[simp] theorem kload1_Style_1 {h : Heap} {t : Bool} {xs : List ((Int × Int × Bool × Bool × Bool))} {j : Nat} : kload1 h (elf t (mStyle t) xs j 1) = xs[j]?.bind fun a => (mStyle t a)[1]? := kload1_elf (mk := mStyle t) (es := 5) (fun _ => rfl) (by omega)
@[simp] theorem kload1_Style_2 {h : Heap} {t : Bool} {xs : List ((Int × Int × Bool × Bool × Bool))} {j : Nat} : kload1 h (elf t (mStyle t) xs j 2) = xs[j]?.bind fun a => (mStyle t a)[2]? := kload1_elf (mk := mStyle t) (es := 5) (fun _ => rfl) (by omega)
@[simp] theorem kload1_Style_3 {h : Heap} {t : Bool} {xs : List ((Int × Int × Bool × Bool × Bool))} {j : Nat} : kload1 h (elf t (mStyle t) xs j 3) = xs[j]?.bind fun a => (mStyle t a)[3]? := kload1_elf (mk := mStyle t) (es := 5) (fun _ => rfl) (by omega)
@[simp] theorem kload1_Style_4 {h : Heap} {t : Bool} {xs : List ((Int × Int × Bool × Bool × Bool))} {j : Nat} : kload1 h (elf t (mStyle t) xs j 4) = xs[j]?.bind fun a => (mStyle t a)[4]? := kload1_elf (mk := mStyle t) (es := 5) (fun _ => rfl) (by omega)
@[simp] theorem kia_Style {t : Bool} {xs : List ((Int × Int × Bool × Bool × Bool))} {k : IntKind} {i : Int} : kia 5 (fzl t 5 (mStyle t) xs) (.int k i) = if 0 ≤ i ∧ i < xs.length then some (elp t (mStyle t) xs i.toNat) else none := kia_fzl (es := 5) (fun _ => rfl)
theorem ld_Style {d : Nat} {t : Bool} (a : (Int × Int × Bool × Bool × Bool)) : (mStyle t a).map (lend d) = mStyle true a := map_cons' lend_int (map_cons' lend_int (map_cons' lend_bool (map_cons' lend_bool (map_cons' lend_bool (rfl)))))
@[simp] theorem bor_Style {d : Nat} {h : Heap} {t : Bool} {xs : List ((Int × Int × Bool × Bool × Bool))} : bor (d + 2) h (fzl t 5 (mStyle t) xs) = some (fzl true 5 (mStyle true) xs, []) := bor_fzl (d := d + 1) (fun a => ld_Style (d := d + 1) a) xs
open Classical in
theorem laws_eqStyle_spec (a_1 b_1 : Int) (a_2 b_2 : Int) (a_3 b_3 : Bool) (a_4 b_4 : Bool) (a_5 b_5 : Bool) (hm : okStyle (a_1, a_2, a_3, a_4, a_5)) : NN fn.laws_eqStyle [.agg [.int .i64 a_1, .int .i64 a_2, .bool a_3, .bool a_4, .bool a_5], .agg [.int .i64 b_1, .int .i64 b_2, .bool b_3, .bool b_4, .bool b_5]] = some (.bool (decide ((a_1, a_2, a_3, a_4, a_5) = (b_1, b_2, b_3, b_4, b_5)))) := by
  apply S.laws_eqStyle.gives (k := 0)
  unfold okStyle at hm
  by_cases c0 : a_1 = b_1
  rotate_left
  · have e : ¬ ((a_1, a_2, a_3, a_4, a_5) = (b_1, b_2, b_3, b_4, b_5)) := fun e => c0 (by simp only [Prod.mk.injEq] at e ⊢; simp [e])
    rw [decide_eq_false e]
    simp [S.laws_eqStyle.run, c0]
  by_cases c1 : a_2 = b_2
  rotate_left
  · have e : ¬ ((a_1, a_2, a_3, a_4, a_5) = (b_1, b_2, b_3, b_4, b_5)) := fun e => c1 (by simp only [Prod.mk.injEq] at e ⊢; simp [e])
    rw [decide_eq_false e]
    simp [S.laws_eqStyle.run, c0, c1]
  by_cases c2 : a_3 = b_3
  rotate_left
  · have e : ¬ ((a_1, a_2, a_3, a_4, a_5) = (b_1, b_2, b_3, b_4, b_5)) := fun e => c2 (by simp only [Prod.mk.injEq] at e ⊢; simp [e])
    rw [decide_eq_false e]
    simp [S.laws_eqStyle.run, c0, c1, beq_eq_false_iff_ne.2 c2]
  by_cases c3 : a_4 = b_4
  rotate_left
  · have e : ¬ ((a_1, a_2, a_3, a_4, a_5) = (b_1, b_2, b_3, b_4, b_5)) := fun e => c3 (by simp only [Prod.mk.injEq] at e ⊢; simp [e])
    rw [decide_eq_false e]
    simp [S.laws_eqStyle.run, c0, c1, c2, beq_eq_false_iff_ne.2 c3]
  by_cases c4 : a_5 = b_5
  rotate_left
  · have e : ¬ ((a_1, a_2, a_3, a_4, a_5) = (b_1, b_2, b_3, b_4, b_5)) := fun e => c4 (by simp only [Prod.mk.injEq] at e ⊢; simp [e])
    rw [decide_eq_false e]
    simp [S.laws_eqStyle.run, c0, c1, c2, c3, beq_eq_false_iff_ne.2 c4]
  have e : (a_1, a_2, a_3, a_4, a_5) = (b_1, b_2, b_3, b_4, b_5) := by rw [c0, c1, c2, c3, c4]
  rw [decide_eq_true e]
  simp [S.laws_eqStyle.run, c0, c1, c2, c3, c4]

/-! StringS -/
abbrev mStringS (t : Bool) (a : List (ByteArray)) : List GV := [fzl t 1 cs a]
def zStringS (a : List (ByteArray)) : Nat := a.length + (a.map fun x => x.size).sum
def okStringS (a : List (ByteArray)) : Prop := a.length ≤ 1048576 ∧ ∀ x ∈ a, x.size ≤ 1048576
theorem okStringS_of {a : List (ByteArray)} (h : zStringS a ≤ 1048576) : okStringS a := by
  unfold zStringS at h
  refine ⟨by omega, fun x hx => ?_⟩
  have : x.size ≤ _ := sum_mem (c := fun x => x.size) hx
  omega
@[simp] theorem kload1_StringS {h : Heap} {t : Bool} {xs : List (List (ByteArray))} {j : Nat} : kload1 h (elp t (mStringS t) xs j) = xs[j]?.map fun a => fzl t 1 cs a := kload1_elp _ (fun _ => rfl)
@[simp] theorem kia_StringS {t : Bool} {xs : List (List (ByteArray))} {k : IntKind} {i : Int} : kia 1 (fzl t 1 (mStringS t) xs) (.int k i) = if 0 ≤ i ∧ i < xs.length then some (elp t (mStringS t) xs i.toNat) else none := kia_fzl (es := 1) (fun _ => rfl)
theorem ld_StringS {d : Nat} {t : Bool} (a : List (ByteArray)) : (mStringS t a).map (lend (d + 1)) = mStringS true a := map_cons' (lend_fzl (d := d) (mk := cs) (mk' := cs) (fun a => map_cons' lend_str rfl) a) (rfl)
@[simp] theorem bor_StringS {d : Nat} {h : Heap} {t : Bool} {xs : List (List (ByteArray))} : bor (d + 3) h (fzl t 1 (mStringS t) xs) = some (fzl true 1 (mStringS true) xs, []) := bor_fzl (d := d + 2) (fun a => ld_StringS (d := d + 1) a) xs
open Classical in
theorem laws_eqStringS_spec (xs ys : List (ByteArray)) (hm : okStringS xs) : NN fn.laws_eqStringS [fzl true 1 cs xs, fzl true 1 cs ys] = some (.bool (decide (xs = ys))) := by
  apply S.laws_eqStringS.gives (k := xs.length + 1)
  have hm' : xs.length ≤ 1048576 := hm.1
  simp [S.laws_eqStringS.run]
  by_cases hl : xs.length = ys.length
  · have hi : (xs.length : Int) = ys.length := by omega
    simp [hi]
    refine (loop_all (f := fun r j => S.laws_eqStringS.l6 _ _ r _ _ _ (.int .i64 (j : Int)) _) (A := some (GV.bool true)) (B := some (GV.bool false)) (n := xs.length) (P := fun j => xs[j]? = ys[j]?) (fun j r hj => ?_) (fun r => ?_) (xs.length + 1) 0 (by omega) (by omega)).trans ?_
    · have h1 : (j : Int) < xs.length := by omega
      have h2 : (j : Int) < ys.length := by omega
      have h3 : j < ys.length := by omega
      have w := wrap_succ (n := j) (by simp only [maxLen]; omega)
      by_cases hc : xs[j] = ys[j]
      · simp [S.laws_eqStringS.l6, h1, h2, get_of hj, get_of h3, w, hc]
      · simp [S.laws_eqStringS.l6, h1, h2, get_of hj, get_of h3, w, hc]
    · simp [S.laws_eqStringS.l6]
    · simp [list_eq_iff hl]
      by_cases hx : xs = ys <;> simp [hx]
  · have : ¬ ((xs.length : Int) = ys.length) := by omega
    have hne : xs ≠ ys := fun h => hl (by rw [h])
    simp [this, hne]

/-! Int64S -/
abbrev mInt64S (t : Bool) (a : List (Int)) : List GV := [fzl t 1 ci a]
abbrev zInt64S (a : List (Int)) : Nat := a.length
abbrev okInt64S (a : List (Int)) : Prop := a.length ≤ 1048576
theorem okInt64S_of {a : List (Int)} (h : zInt64S a ≤ 1048576) : okInt64S a := h
@[simp] theorem kload1_Int64S {h : Heap} {t : Bool} {xs : List (List (Int))} {j : Nat} : kload1 h (elp t (mInt64S t) xs j) = xs[j]?.map fun a => fzl t 1 ci a := kload1_elp _ (fun _ => rfl)
@[simp] theorem kia_Int64S {t : Bool} {xs : List (List (Int))} {k : IntKind} {i : Int} : kia 1 (fzl t 1 (mInt64S t) xs) (.int k i) = if 0 ≤ i ∧ i < xs.length then some (elp t (mInt64S t) xs i.toNat) else none := kia_fzl (es := 1) (fun _ => rfl)
theorem ld_Int64S {d : Nat} {t : Bool} (a : List (Int)) : (mInt64S t a).map (lend (d + 1)) = mInt64S true a := map_cons' (lend_fzl (d := d) (mk := ci) (mk' := ci) (fun a => map_cons' lend_int rfl) a) (rfl)
@[simp] theorem bor_Int64S {d : Nat} {h : Heap} {t : Bool} {xs : List (List (Int))} : bor (d + 3) h (fzl t 1 (mInt64S t) xs) = some (fzl true 1 (mInt64S true) xs, []) := bor_fzl (d := d + 2) (fun a => ld_Int64S (d := d + 1) a) xs
open Classical in
theorem laws_eqInt64S_spec (xs ys : List (Int)) (hm : okInt64S xs) : NN fn.laws_eqInt64S [fzl true 1 ci xs, fzl true 1 ci ys] = some (.bool (decide (xs = ys))) := by
  apply S.laws_eqInt64S.gives (k := xs.length + 1)
  have hm' : xs.length ≤ 1048576 := hm
  simp [S.laws_eqInt64S.run]
  by_cases hl : xs.length = ys.length
  · have hi : (xs.length : Int) = ys.length := by omega
    simp [hi]
    refine (loop_all (f := fun r j => S.laws_eqInt64S.l6 _ _ r _ _ _ (.int .i64 (j : Int)) _) (A := some (GV.bool true)) (B := some (GV.bool false)) (n := xs.length) (P := fun j => xs[j]? = ys[j]?) (fun j r hj => ?_) (fun r => ?_) (xs.length + 1) 0 (by omega) (by omega)).trans ?_
    · have h1 : (j : Int) < xs.length := by omega
      have h2 : (j : Int) < ys.length := by omega
      have h3 : j < ys.length := by omega
      have w := wrap_succ (n := j) (by simp only [maxLen]; omega)
      by_cases hc : xs[j] = ys[j]
      · simp [S.laws_eqInt64S.l6, h1, h2, get_of hj, get_of h3, w, hc]
      · simp [S.laws_eqInt64S.l6, h1, h2, get_of hj, get_of h3, w, hc]
    · simp [S.laws_eqInt64S.l6]
    · simp [list_eq_iff hl]
      by_cases hx : xs = ys <;> simp [hx]
  · have : ¬ ((xs.length : Int) = ys.length) := by omega
    have hne : xs ≠ ys := fun h => hl (by rw [h])
    simp [this, hne]

/-! Datagram -/
abbrev mDatagram (t : Bool) (a : (Int × ByteArray)) : List GV := [.int .i64 a.1, .str a.2]
def zDatagram (a : (Int × ByteArray)) : Nat := a.2.size
def okDatagram (a : (Int × ByteArray)) : Prop := a.2.size ≤ 1048576
theorem okDatagram_of {a : (Int × ByteArray)} (h : zDatagram a ≤ 1048576) : okDatagram a := by
  unfold zDatagram at h
  exact (show a.2.size ≤ 1048576 by omega)
@[simp] theorem kloadA_Datagram {h : Heap} {t : Bool} {xs : List (Int × ByteArray)} {j : Nat} : kloadA 2 h (elp t (mDatagram t) xs j) = xs[j]?.map fun a => .agg (mDatagram t a) := kloadA_elp (mk := mDatagram t) (es := 2) (fun _ => rfl) (by omega)
@[simp] theorem kload1_Datagram_0 {h : Heap} {t : Bool} {xs : List ((Int × ByteArray))} {j : Nat} : kload1 h (elf t (mDatagram t) xs j 0) = xs[j]?.bind fun a => (mDatagram t a)[0]? := kload1_elf (mk := mDatagram t) (es := 2) (fun _ => rfl) (by omega)
@[simp] theorem kload1_Datagram_1 {h : Heap} {t : Bool} {xs : List ((Int × ByteArray))} {j : Nat} : kload1 h (elf t (mDatagram t) xs j 1) = xs[j]?.bind fun a => (mDatagram t a)[1]? := kload1_elf (mk := mDatagram t) (es := 2) (fun _ => rfl) (by omega)
@[simp] theorem kia_Datagram {t : Bool} {xs : List ((Int × ByteArray))} {k : IntKind} {i : Int} : kia 2 (fzl t 2 (mDatagram t) xs) (.int k i) = if 0 ≤ i ∧ i < xs.length then some (elp t (mDatagram t) xs i.toNat) else none := kia_fzl (es := 2) (fun _ => rfl)
theorem ld_Datagram {d : Nat} {t : Bool} (a : (Int × ByteArray)) : (mDatagram t a).map (lend d) = mDatagram true a := map_cons' lend_int (map_cons' lend_str (rfl))
@[simp] theorem bor_Datagram {d : Nat} {h : Heap} {t : Bool} {xs : List ((Int × ByteArray))} : bor (d + 2) h (fzl t 2 (mDatagram t) xs) = some (fzl true 2 (mDatagram true) xs, []) := bor_fzl (d := d + 1) (fun a => ld_Datagram (d := d + 1) a) xs
open Classical in
theorem laws_eqDatagram_spec (a_1 b_1 : Int) (a_2 b_2 : ByteArray) (hm : okDatagram (a_1, a_2)) : NN fn.laws_eqDatagram [.agg [.int .i64 a_1, .str a_2], .agg [.int .i64 b_1, .str b_2]] = some (.bool (decide ((a_1, a_2) = (b_1, b_2)))) := by
  apply S.laws_eqDatagram.gives (k := 0)
  unfold okDatagram at hm
  by_cases c0 : a_1 = b_1
  rotate_left
  · have e : ¬ ((a_1, a_2) = (b_1, b_2)) := fun e => c0 (by simp only [Prod.mk.injEq] at e ⊢; simp [e])
    rw [decide_eq_false e]
    simp [S.laws_eqDatagram.run, c0]
  by_cases c1 : a_2 = b_2
  rotate_left
  · have e : ¬ ((a_1, a_2) = (b_1, b_2)) := fun e => c1 (by simp only [Prod.mk.injEq] at e ⊢; simp [e])
    rw [decide_eq_false e]
    simp [S.laws_eqDatagram.run, c0, c1]
  have e : (a_1, a_2) = (b_1, b_2) := by rw [c0, c1]
  rw [decide_eq_true e]
  simp [S.laws_eqDatagram.run, c0, c1]
abbrev rStringS : Rel (List (ByteArray)) := RSl 1 (RFl cs)
theorem goodStringS : Good 1 2 (mStringS true) rStringS := RSl.good (RFl.good (es := 1) (mk := cs) (fun _ => rfl) (fun _ => rfl))
def cStringS (xs : List (ByteArray)) : Nat := cntL (fun x => 1) xs
noncomputable def kStringS (xs : List (ByteArray)) (k : Nat) : List (ByteArray) := markL (fun x k => mtext (k)) (fun x => 1) xs k
theorem cStringS_le {xs : List (ByteArray)} (h : okStringS xs) : cStringS xs ≤ 1048576 := cntL_bound (M := 1048576) (B := 1) (h.1) (fun x hx => by show _ ≤ _; omega)
theorem laws_heldStringS_spec (xs : List (ByteArray)) (k : Nat) (hok : okStringS xs) (hk : k + cStringS xs ≤ 4611686018427387904) : NN fn.laws_heldStringS [(fzl true 1 cs (kStringS xs k)), .int .i64 (k : Int)] = some (.int .i64 ((k + cStringS xs : Nat) : Int)) := by
  have hlim : k + cntL (fun x => 1) xs ≤ 4611686018427387904 := hk
  have hlen : xs.length ≤ 1048576 := hok.1
  obtain ⟨ys, hys⟩ : ∃ ys, kStringS xs k = ys := ⟨_, rfl⟩
  have hl : ys.length = xs.length := by rw [← hys]; exact markL_len _ _
  have hg : ∀ j (hj : j < xs.length), ys[j]? = some (mtext ((k + cntL (fun x => 1) (xs.take j)))) := fun j hj => by rw [← hys]; exact markL_get xs k j hj
  rw [hys]
  apply S.laws_heldStringS.gives (k := xs.length + 1)
  have key := loop_to (f := fun r j => fun (G : GX → GV → GV → Heap → Option GV) => S.laws_heldStringS.l5 (xs.length + 1) G r (fzl true 1 cs ys) (.int .i64 ((k + cntL (fun x => 1) (xs.take j) : Nat) : Int)) (.int .i64 0) (.int .i64 (j : Int)) []) (A := fun G => G (.ext 0) (.int .i64 ((k + cStringS xs : Nat) : Int)) (.int .i64 0) []) (n := xs.length) ?_ ?_ (xs.length + 1) 0 (by omega) (by omega)
  · have key' := fun G => congrFun key G
    simp only [List.take_zero, cntL, List.map_nil, List.sum_nil, Nat.add_zero, show ((0 : Nat) : Int) = 0 from rfl] at key'
    simp [S.laws_heldStringS.run, key', -Int.natCast_add]
  · intro j r hj
    have g1 : (j : Int) < (ys.length : Int) := by omega
    have kj := kadd1 (n := j) (by omega)
    have q1 := cntL_take (c := (fun x => 1)) hj
    have q2 := cntL_le (c := (fun x => 1)) (xs := xs) (j + 1)
    have hgj := hg j hj
    try simp only at q1
    rw [q1, ← Nat.add_assoc]
    obtain ⟨K, hK⟩ : ∃ K, k + cntL (fun x => 1) (xs.take j) = K := ⟨_, rfl⟩
    have hKb : K + (1) ≤ 4611686018427387904 := by omega
    rw [hK] at hgj ⊢
    have t0 := laws_markText_spec (K) (by omega)
    have ka0 := kadd1 (n := K) (by omega)
    funext G
    simp only [S.laws_heldStringS.l5]
    simp [g1, hgj, kj, t0, ka0, -Int.natCast_add, -kbin_add]
    try rfl
  · intro r
    funext G
    have g1 : ¬ ((xs.length : Int) < (ys.length : Int)) := by omega
    simp only [S.laws_heldStringS.l5, List.take_length]
    simp [g1, -Int.natCast_add]
    try rfl
abbrev rInt64S : Rel (List (Int)) := RSl 1 (RFl ci)
theorem goodInt64S : Good 1 2 (fun xs : List Int => [fzl true 1 ci xs]) rInt64S := RSl.good (RFl.good (es := 1) (mk := ci) (fun _ => rfl) (fun _ => rfl))
def cInt64S (xs : List (Int)) : Nat := cntL (fun x => 1) xs
noncomputable def kInt64S (xs : List (Int)) (k : Nat) : List (Int) := markL (fun x k => ((k : Nat) : Int)) (fun x => 1) xs k
theorem cInt64S_le {xs : List (Int)} (h : okInt64S xs) : cInt64S xs ≤ 1048576 := cntL_bound (M := 1048576) (B := 1) (h) (fun x hx => by show _ ≤ _; omega)
theorem laws_heldInt64S_spec (xs : List (Int)) (k : Nat) (hok : okInt64S xs) (hk : k + cInt64S xs ≤ 4611686018427387904) : NN fn.laws_heldInt64S [(fzl true 1 ci (kInt64S xs k)), .int .i64 (k : Int)] = some (.int .i64 ((k + cInt64S xs : Nat) : Int)) := by
  have hlim : k + cntL (fun x => 1) xs ≤ 4611686018427387904 := hk
  have hlen : xs.length ≤ 1048576 := hok
  obtain ⟨ys, hys⟩ : ∃ ys, kInt64S xs k = ys := ⟨_, rfl⟩
  have hl : ys.length = xs.length := by rw [← hys]; exact markL_len _ _
  have hg : ∀ j (hj : j < xs.length), ys[j]? = some ((((k + cntL (fun x => 1) (xs.take j)) : Nat) : Int)) := fun j hj => by rw [← hys]; exact markL_get xs k j hj
  rw [hys]
  apply S.laws_heldInt64S.gives (k := xs.length + 1)
  have key := loop_to (f := fun r j => fun (G : GX → GV → GV → Heap → Option GV) => S.laws_heldInt64S.l5 (xs.length + 1) G r (fzl true 1 ci ys) (.int .i64 ((k + cntL (fun x => 1) (xs.take j) : Nat) : Int)) (.int .i64 0) (.int .i64 (j : Int)) []) (A := fun G => G (.ext 0) (.int .i64 ((k + cInt64S xs : Nat) : Int)) (.int .i64 0) []) (n := xs.length) ?_ ?_ (xs.length + 1) 0 (by omega) (by omega)
  · have key' := fun G => congrFun key G
    simp only [List.take_zero, cntL, List.map_nil, List.sum_nil, Nat.add_zero, show ((0 : Nat) : Int) = 0 from rfl] at key'
    simp [S.laws_heldInt64S.run, key', -Int.natCast_add]
  · intro j r hj
    have g1 : (j : Int) < (ys.length : Int) := by omega
    have kj := kadd1 (n := j) (by omega)
    have q1 := cntL_take (c := (fun x => 1)) hj
    have q2 := cntL_le (c := (fun x => 1)) (xs := xs) (j + 1)
    have hgj := hg j hj
    try simp only at q1
    rw [q1, ← Nat.add_assoc]
    obtain ⟨K, hK⟩ : ∃ K, k + cntL (fun x => 1) (xs.take j) = K := ⟨_, rfl⟩
    have hKb : K + (1) ≤ 4611686018427387904 := by omega
    rw [hK] at hgj ⊢
    have ka0 := kadd1 (n := K) (by omega)
    funext G
    simp only [S.laws_heldInt64S.l5]
    simp [g1, hgj, kj, ka0, -Int.natCast_add, -kbin_add]
    try rfl
  · intro r
    funext G
    have g1 : ¬ ((xs.length : Int) < (ys.length : Int)) := by omega
    simp only [S.laws_heldInt64S.l5, List.take_length]
    simp [g1, -Int.natCast_add]
    try rfl
theorem laws_markStringS_spec (h : Heap) (v : GV) (xs : List (ByteArray)) (R : List Nat) (k : Nat) (hok : okStringS xs) (he : rStringS h [v] xs R) (nd : R.Nodup) (hk : k + cStringS xs ≤ 4611686018427387904) : ∃ h', HH fn.laws_markStringS [v, .int .i64 (k : Int)] h = some (.int .i64 ((k + cStringS xs : Nat) : Int), h') ∧ rStringS h' [v] (kStringS xs k) R ∧ Fr R h h' := by
  have hlim : k + cntL (fun x => 1) xs ≤ 4611686018427387904 := hk
  have hlen : xs.length ≤ 1048576 := hok.1
  have key := mark_loop (E := (RFl cs)) (RFl.good (es := 1) (mk := cs) (fun _ => rfl) (fun _ => rfl)) (m := (fun x k => mtext (k))) (c := (fun x => 1)) (v := v) (xs := xs) (R := R) (k := k) nd (f := fun r j k h => fun (G : GX → GV → GV → Heap → Option (GV × Heap)) => S.laws_markStringS.l5 (xs.length + 1) G r v (.int .i64 (k : Int)) (.int .i64 0) (.int .i64 (j : Int)) h) (A := fun k h => fun G => G (.ext 0) (.int .i64 (k : Int)) (.int .i64 0) h) ?_ ?_ he (xs.length + 1) (by omega)
  · obtain ⟨h', a1, a2, a3⟩ := key
    refine ⟨h', S.laws_markStringS.gives (k := xs.length + 1) ?_, a2, a3⟩
    have a1' := fun G => congrFun a1 G
    simp only [show ((0 : Nat) : Int) = 0 from rfl] at a1'
    simp [S.laws_markStringS.run, a1', -Int.natCast_add]
    rfl
  · intro j r h ys he hl hj hy
    obtain ⟨b, css, c, r0, hv, hb, fl, hcn, hc, fe, hE, hbr, hbR, hrR, nd0, hup⟩ := RSl.focus (RFl.good (es := 1) (mk := cs) (fun _ => rfl) (fun _ => rfl)) he nd (j := j) (by omega)
    have ey : ys[j]'(by omega) = xs[j] := by rw [List.getElem?_eq_getElem (by omega)] at hy; exact Option.some.inj hy
    rw [ey] at hE
    rw [hl] at hv hcn
    have hcl := fe c (List.mem_of_getElem? hc)
    have hb0 : h[b]? = some (css.set j c).flatten := by rw [set_get_self hc]; exact hb
    have q1 := cntL_take (c := (fun x => 1)) hj
    have q2 := cntL_le (c := (fun x => 1)) (xs := xs) (j + 1)
    try simp only at q1
    obtain ⟨K, hK⟩ : ∃ K, k + cntL (fun x => 1) (xs.take j) = K := ⟨_, rfl⟩
    have hKb : K + (1) ≤ 4611686018427387904 := by omega
    rw [hK]
    clear hK q1 q2
    have hm := (RSl.good (RFl.good (es := 1) (mk := cs) (fun _ => rfl) (fun _ => rfl))).mem he
    have hbl := (List.getElem?_eq_some_iff.1 hb).1
    have kj := kadd1 (n := j) (by omega)
    have k0 : kia 1 (.sl b 0 xs.length xs.length 1) (.int .i64 (j : Int)) = some (.ptr b (j) (xs.length)) := kia_at hj (by omega) (by omega)
    obtain ⟨rfl, rfl⟩ := hE
    have t0 := laws_markText_spec (K) (by omega)
    obtain ⟨H1, m1, hb1, f1⟩ := st_leaf (es := 1) (off := 0) (x := (.str (mtext (K)))) (o := j) (tot := xs.length) hb0 fe hcn hj hcl (by omega) rfl rfl (by omega) (by omega)
    have g1 : Fr R h H1 := f1.sub (fun i hi => by rw [List.mem_singleton] at hi; rw [hi]; exact hbR)
    have ka0 := kadd1 (n := K) (by omega)
    have hcl1 : ((cs xs[j]).set 0 (.str (mtext (K)))).length = 1 := by rw [List.length_set]; exact hcl
    refine ⟨H1, ?_, hup H1 ((cs xs[j]).set 0 (.str (mtext (K)))) _ hb1 ⟨rfl, rfl⟩ (fun i hi hib hir => ?_), g1⟩
    · funext G
      simp only [S.laws_markStringS.l5, S.laws_markStringS.n8, S.laws_markStringS.n10, S.laws_markStringS.n9, S.laws_markStringS.n7, S.laws_markStringS.n6, hv, klen_sl, klt, decide_eq_true hj, kcond_bool, cond_true, kx_nrm, kb_nrm, Option.bind_some, kr_mk, kfa_ptr, kj, Nat.add_zero, kN_eq, bors_cons, bors_nil, bor_int, k0, t0, m1, ka0]
      try rfl
    · exact (f1.2 i (hm i hi) (by simpa using hib))
  · intro r h ys he hl
    have e1 := he.len
    rw [hl] at e1
    funext G
    simp only [S.laws_markStringS.l5, S.laws_markStringS.n6, S.laws_markStringS.n7, S.laws_markStringS.n8, S.laws_markStringS.n9, S.laws_markStringS.n10, e1, klt, Nat.lt_irrefl, decide_false, kcond_bool, cond_false, Option.bind_some, kx_ext, kb_ext]
    try rfl
theorem laws_markInt64S_spec (h : Heap) (v : GV) (xs : List (Int)) (R : List Nat) (k : Nat) (hok : okInt64S xs) (he : rInt64S h [v] xs R) (nd : R.Nodup) (hk : k + cInt64S xs ≤ 4611686018427387904) : ∃ h', HH fn.laws_markInt64S [v, .int .i64 (k : Int)] h = some (.int .i64 ((k + cInt64S xs : Nat) : Int), h') ∧ rInt64S h' [v] (kInt64S xs k) R ∧ Fr R h h' := by
  have hlim : k + cntL (fun x => 1) xs ≤ 4611686018427387904 := hk
  have hlen : xs.length ≤ 1048576 := hok
  have key := mark_loop (E := (RFl ci)) (RFl.good (es := 1) (mk := ci) (fun _ => rfl) (fun _ => rfl)) (m := (fun x k => ((k : Nat) : Int))) (c := (fun x => 1)) (v := v) (xs := xs) (R := R) (k := k) nd (f := fun r j k h => fun (G : GX → GV → GV → Heap → Option (GV × Heap)) => S.laws_markInt64S.l5 (xs.length + 1) G r v (.int .i64 (k : Int)) (.int .i64 0) (.int .i64 (j : Int)) h) (A := fun k h => fun G => G (.ext 0) (.int .i64 (k : Int)) (.int .i64 0) h) ?_ ?_ he (xs.length + 1) (by omega)
  · obtain ⟨h', a1, a2, a3⟩ := key
    refine ⟨h', S.laws_markInt64S.gives (k := xs.length + 1) ?_, a2, a3⟩
    have a1' := fun G => congrFun a1 G
    simp only [show ((0 : Nat) : Int) = 0 from rfl] at a1'
    simp [S.laws_markInt64S.run, a1', -Int.natCast_add]
    rfl
  · intro j r h ys he hl hj hy
    obtain ⟨b, css, c, r0, hv, hb, fl, hcn, hc, fe, hE, hbr, hbR, hrR, nd0, hup⟩ := RSl.focus (RFl.good (es := 1) (mk := ci) (fun _ => rfl) (fun _ => rfl)) he nd (j := j) (by omega)
    have ey : ys[j]'(by omega) = xs[j] := by rw [List.getElem?_eq_getElem (by omega)] at hy; exact Option.some.inj hy
    rw [ey] at hE
    rw [hl] at hv hcn
    have hcl := fe c (List.mem_of_getElem? hc)
    have hb0 : h[b]? = some (css.set j c).flatten := by rw [set_get_self hc]; exact hb
    have q1 := cntL_take (c := (fun x => 1)) hj
    have q2 := cntL_le (c := (fun x => 1)) (xs := xs) (j + 1)
    try simp only at q1
    obtain ⟨K, hK⟩ : ∃ K, k + cntL (fun x => 1) (xs.take j) = K := ⟨_, rfl⟩
    have hKb : K + (1) ≤ 4611686018427387904 := by omega
    rw [hK]
    clear hK q1 q2
    have hm := (RSl.good (RFl.good (es := 1) (mk := ci) (fun _ => rfl) (fun _ => rfl))).mem he
    have hbl := (List.getElem?_eq_some_iff.1 hb).1
    have kj := kadd1 (n := j) (by omega)
    have k0 : kia 1 (.sl b 0 xs.length xs.length 1) (.int .i64 (j : Int)) = some (.ptr b (j) (xs.length)) := kia_at hj (by omega) (by omega)
    obtain ⟨rfl, rfl⟩ := hE
    obtain ⟨H1, m1, hb1, f1⟩ := st_leaf (es := 1) (off := 0) (x := (.int .i64 ((K : Nat) : Int))) (o := j) (tot := xs.length) hb0 fe hcn hj hcl (by omega) rfl rfl (by omega) (by omega)
    have g1 : Fr R h H1 := f1.sub (fun i hi => by rw [List.mem_singleton] at hi; rw [hi]; exact hbR)
    have ka0 := kadd1 (n := K) (by omega)
    have hcl1 : ((ci xs[j]).set 0 (.int .i64 ((K : Nat) : Int))).length = 1 := by rw [List.length_set]; exact hcl
    refine ⟨H1, ?_, hup H1 ((ci xs[j]).set 0 (.int .i64 ((K : Nat) : Int))) _ hb1 ⟨rfl, rfl⟩ (fun i hi hib hir => ?_), g1⟩
    · funext G
      simp only [S.laws_markInt64S.l5, S.laws_markInt64S.n8, S.laws_markInt64S.n10, S.laws_markInt64S.n9, S.laws_markInt64S.n7, S.laws_markInt64S.n6, hv, klen_sl, klt, decide_eq_true hj, kcond_bool, cond_true, kx_nrm, kb_nrm, Option.bind_some, kr_mk, kfa_ptr, kj, Nat.add_zero, kN_eq, bors_cons, bors_nil, bor_int, k0, m1, ka0]
      try rfl
    · exact (f1.2 i (hm i hi) (by simpa using hib))
  · intro r h ys he hl
    have e1 := he.len
    rw [hl] at e1
    funext G
    simp only [S.laws_markInt64S.l5, S.laws_markInt64S.n6, S.laws_markInt64S.n7, S.laws_markInt64S.n8, S.laws_markInt64S.n9, S.laws_markInt64S.n10, e1, klt, Nat.lt_irrefl, decide_false, kcond_bool, cond_false, Option.bind_some, kx_ext, kb_ext]
    try rfl
theorem laws_toStyle_spec (a_1 : Int) (a_2 : Int) (a_3 : Bool) (a_4 : Bool) (a_5 : Bool) (hm : okStyle (a_1, a_2, a_3, a_4, a_5)) : NN fn.laws_toStyle [.agg [.int .i64 a_1, .int .i64 a_2, .bool a_3, .bool a_4, .bool a_5]] = some (.agg [.int .i64 a_1, .int .i64 a_2, .bool a_3, .bool a_4, .bool a_5]) := by
  apply S.laws_toStyle.gives (k := 0)
  unfold okStyle at hm
  simp [S.laws_toStyle.run]
  try exact finN_of (frz_agg (.cons frz_int (.cons frz_int (.cons frz_bool (.cons frz_bool (.cons frz_bool (.nil)))))))

/-! Cell -/
abbrev mCell (t : Bool) (a : (Int × (Int × Int × Bool × Bool × Bool) × Int)) : List GV := [.int .i64 a.1, .int .i64 a.2.1.1, .int .i64 a.2.1.2.1, .bool a.2.1.2.2.1, .bool a.2.1.2.2.2.1, .bool a.2.1.2.2.2.2, .int .i64 a.2.2]
def zCell (a : (Int × (Int × Int × Bool × Bool × Bool) × Int)) : Nat := 0
def okCell (a : (Int × (Int × Int × Bool × Bool × Bool) × Int)) : Prop := True
theorem okCell_of {a : (Int × (Int × Int × Bool × Bool × Bool) × Int)} (h : zCell a ≤ 1048576) : okCell a := by
  unfold zCell at h
  exact trivial
@[simp] theorem kloadA_Cell {h : Heap} {t : Bool} {xs : List (Int × (Int × Int × Bool × Bool × Bool) × Int)} {j : Nat} : kloadA 7 h (elp t (mCell t) xs j) = xs[j]?.map fun a => .agg (mCell t a) := kloadA_elp (mk := mCell t) (es := 7) (fun _ => rfl) (by omega)
@[simp] theorem kload1_Cell_0 {h : Heap} {t : Bool} {xs : List ((Int × (Int × Int × Bool × Bool × Bool) × Int))} {j : Nat} : kload1 h (elf t (mCell t) xs j 0) = xs[j]?.bind fun a => (mCell t a)[0]? := kload1_elf (mk := mCell t) (es := 7) (fun _ => rfl) (by omega)
@[simp] theorem kload1_Cell_1 {h : Heap} {t : Bool} {xs : List ((Int × (Int × Int × Bool × Bool × Bool) × Int))} {j : Nat} : kload1 h (elf t (mCell t) xs j 1) = xs[j]?.bind fun a => (mCell t a)[1]? := kload1_elf (mk := mCell t) (es := 7) (fun _ => rfl) (by omega)
@[simp] theorem kload1_Cell_2 {h : Heap} {t : Bool} {xs : List ((Int × (Int × Int × Bool × Bool × Bool) × Int))} {j : Nat} : kload1 h (elf t (mCell t) xs j 2) = xs[j]?.bind fun a => (mCell t a)[2]? := kload1_elf (mk := mCell t) (es := 7) (fun _ => rfl) (by omega)
@[simp] theorem kload1_Cell_3 {h : Heap} {t : Bool} {xs : List ((Int × (Int × Int × Bool × Bool × Bool) × Int))} {j : Nat} : kload1 h (elf t (mCell t) xs j 3) = xs[j]?.bind fun a => (mCell t a)[3]? := kload1_elf (mk := mCell t) (es := 7) (fun _ => rfl) (by omega)
@[simp] theorem kload1_Cell_4 {h : Heap} {t : Bool} {xs : List ((Int × (Int × Int × Bool × Bool × Bool) × Int))} {j : Nat} : kload1 h (elf t (mCell t) xs j 4) = xs[j]?.bind fun a => (mCell t a)[4]? := kload1_elf (mk := mCell t) (es := 7) (fun _ => rfl) (by omega)
@[simp] theorem kload1_Cell_5 {h : Heap} {t : Bool} {xs : List ((Int × (Int × Int × Bool × Bool × Bool) × Int))} {j : Nat} : kload1 h (elf t (mCell t) xs j 5) = xs[j]?.bind fun a => (mCell t a)[5]? := kload1_elf (mk := mCell t) (es := 7) (fun _ => rfl) (by omega)
@[simp] theorem kload1_Cell_6 {h : Heap} {t : Bool} {xs : List ((Int × (Int × Int × Bool × Bool × Bool) × Int))} {j : Nat} : kload1 h (elf t (mCell t) xs j 6) = xs[j]?.bind fun a => (mCell t a)[6]? := kload1_elf (mk := mCell t) (es := 7) (fun _ => rfl) (by omega)
@[simp] theorem kia_Cell {t : Bool} {xs : List ((Int × (Int × Int × Bool × Bool × Bool) × Int))} {k : IntKind} {i : Int} : kia 7 (fzl t 7 (mCell t) xs) (.int k i) = if 0 ≤ i ∧ i < xs.length then some (elp t (mCell t) xs i.toNat) else none := kia_fzl (es := 7) (fun _ => rfl)
theorem ld_Cell {d : Nat} {t : Bool} (a : (Int × (Int × Int × Bool × Bool × Bool) × Int)) : (mCell t a).map (lend d) = mCell true a := map_cons' lend_int (map_cons' lend_int (map_cons' lend_int (map_cons' lend_bool (map_cons' lend_bool (map_cons' lend_bool (map_cons' lend_int (rfl)))))))
@[simp] theorem bor_Cell {d : Nat} {h : Heap} {t : Bool} {xs : List ((Int × (Int × Int × Bool × Bool × Bool) × Int))} : bor (d + 2) h (fzl t 7 (mCell t) xs) = some (fzl true 7 (mCell true) xs, []) := bor_fzl (d := d + 1) (fun a => ld_Cell (d := d + 1) a) xs
open Classical in
theorem laws_eqCell_spec (a_1 b_1 : Int) (a_2_1 b_2_1 : Int) (a_2_2 b_2_2 : Int) (a_2_3 b_2_3 : Bool) (a_2_4 b_2_4 : Bool) (a_2_5 b_2_5 : Bool) (a_3 b_3 : Int) (hm : okCell (a_1, (a_2_1, a_2_2, a_2_3, a_2_4, a_2_5), a_3)) : NN fn.laws_eqCell [.agg [.int .i64 a_1, .int .i64 a_2_1, .int .i64 a_2_2, .bool a_2_3, .bool a_2_4, .bool a_2_5, .int .i64 a_3], .agg [.int .i64 b_1, .int .i64 b_2_1, .int .i64 b_2_2, .bool b_2_3, .bool b_2_4, .bool b_2_5, .int .i64 b_3]] = some (.bool (decide ((a_1, (a_2_1, a_2_2, a_2_3, a_2_4, a_2_5), a_3) = (b_1, (b_2_1, b_2_2, b_2_3, b_2_4, b_2_5), b_3)))) := by
  apply S.laws_eqCell.gives (k := 0)
  unfold okCell at hm
  by_cases c0 : a_1 = b_1
  rotate_left
  · have e : ¬ ((a_1, (a_2_1, a_2_2, a_2_3, a_2_4, a_2_5), a_3) = (b_1, (b_2_1, b_2_2, b_2_3, b_2_4, b_2_5), b_3)) := fun e => c0 (by simp only [Prod.mk.injEq] at e ⊢; simp [e])
    rw [decide_eq_false e]
    simp [S.laws_eqCell.run, c0]
  have s1 := laws_eqStyle_spec a_2_1 b_2_1 a_2_2 b_2_2 a_2_3 b_2_3 a_2_4 b_2_4 a_2_5 b_2_5 trivial
  by_cases c1 : (a_2_1, a_2_2, a_2_3, a_2_4, a_2_5) = (b_2_1, b_2_2, b_2_3, b_2_4, b_2_5)
  rotate_left
  · have e : ¬ ((a_1, (a_2_1, a_2_2, a_2_3, a_2_4, a_2_5), a_3) = (b_1, (b_2_1, b_2_2, b_2_3, b_2_4, b_2_5), b_3)) := fun e => c1 (by simp only [Prod.mk.injEq] at e ⊢; simp [e])
    rw [decide_eq_false e]
    rw [decide_eq_false c1] at s1
    simp [S.laws_eqCell.run, c0, s1]
  rw [decide_eq_true c1] at s1
  by_cases c2 : a_3 = b_3
  rotate_left
  · have e : ¬ ((a_1, (a_2_1, a_2_2, a_2_3, a_2_4, a_2_5), a_3) = (b_1, (b_2_1, b_2_2, b_2_3, b_2_4, b_2_5), b_3)) := fun e => c2 (by simp only [Prod.mk.injEq] at e ⊢; simp [e])
    rw [decide_eq_false e]
    simp [S.laws_eqCell.run, c0, s1, c2]
  have e : (a_1, (a_2_1, a_2_2, a_2_3, a_2_4, a_2_5), a_3) = (b_1, (b_2_1, b_2_2, b_2_3, b_2_4, b_2_5), b_3) := by
    simp only [Prod.mk.injEq] at *
    simp [c0, c1, c2]
  rw [decide_eq_true e]
  simp [S.laws_eqCell.run, c0, s1, c2]

/-! Server -/
abbrev mServer (t : Bool) (a : (List (ByteArray) × Int)) : List GV := [fzl t 1 cs a.1, .int .i64 a.2]
def zServer (a : (List (ByteArray) × Int)) : Nat := zStringS a.1
def okServer (a : (List (ByteArray) × Int)) : Prop := okStringS a.1
theorem okServer_of {a : (List (ByteArray) × Int)} (h : zServer a ≤ 1048576) : okServer a := by
  unfold zServer at h
  exact okStringS_of (by omega)
@[simp] theorem kloadA_Server {h : Heap} {t : Bool} {xs : List (List (ByteArray) × Int)} {j : Nat} : kloadA 2 h (elp t (mServer t) xs j) = xs[j]?.map fun a => .agg (mServer t a) := kloadA_elp (mk := mServer t) (es := 2) (fun _ => rfl) (by omega)
@[simp] theorem kload1_Server_0 {h : Heap} {t : Bool} {xs : List ((List (ByteArray) × Int))} {j : Nat} : kload1 h (elf t (mServer t) xs j 0) = xs[j]?.bind fun a => (mServer t a)[0]? := kload1_elf (mk := mServer t) (es := 2) (fun _ => rfl) (by omega)
@[simp] theorem kload1_Server_1 {h : Heap} {t : Bool} {xs : List ((List (ByteArray) × Int))} {j : Nat} : kload1 h (elf t (mServer t) xs j 1) = xs[j]?.bind fun a => (mServer t a)[1]? := kload1_elf (mk := mServer t) (es := 2) (fun _ => rfl) (by omega)
@[simp] theorem kia_Server {t : Bool} {xs : List ((List (ByteArray) × Int))} {k : IntKind} {i : Int} : kia 2 (fzl t 2 (mServer t) xs) (.int k i) = if 0 ≤ i ∧ i < xs.length then some (elp t (mServer t) xs i.toNat) else none := kia_fzl (es := 2) (fun _ => rfl)
theorem ld_Server {d : Nat} {t : Bool} (a : (List (ByteArray) × Int)) : (mServer t a).map (lend (d + 1)) = mServer true a := map_cons' (lend_fzl (d := d) (mk := cs) (mk' := cs) (fun a => map_cons' lend_str rfl) a.1) (map_cons' lend_int (rfl))
@[simp] theorem bor_Server {d : Nat} {h : Heap} {t : Bool} {xs : List ((List (ByteArray) × Int))} : bor (d + 3) h (fzl t 2 (mServer t) xs) = some (fzl true 2 (mServer true) xs, []) := bor_fzl (d := d + 2) (fun a => ld_Server (d := d + 1) a) xs
open Classical in
theorem laws_eqServer_spec (a_1 b_1 : List (ByteArray)) (a_2 b_2 : Int) (hm : okServer (a_1, a_2)) : NN fn.laws_eqServer [.agg [fzl true 1 cs a_1, .int .i64 a_2], .agg [fzl true 1 cs b_1, .int .i64 b_2]] = some (.bool (decide ((a_1, a_2) = (b_1, b_2)))) := by
  apply S.laws_eqServer.gives (k := 0)
  unfold okServer at hm
  have s0 := laws_eqStringS_spec a_1 b_1 hm
  by_cases c0 : a_1 = b_1
  rotate_left
  · have e : ¬ ((a_1, a_2) = (b_1, b_2)) := fun e => c0 (by simp only [Prod.mk.injEq] at e ⊢; simp [e])
    rw [decide_eq_false e]
    rw [decide_eq_false c0] at s0
    simp [S.laws_eqServer.run, s0]
  rw [decide_eq_true c0] at s0
  by_cases c1 : a_2 = b_2
  rotate_left
  · have e : ¬ ((a_1, a_2) = (b_1, b_2)) := fun e => c1 (by simp only [Prod.mk.injEq] at e ⊢; simp [e])
    rw [decide_eq_false e]
    simp [S.laws_eqServer.run, s0, c1]
  have e : (a_1, a_2) = (b_1, b_2) := by rw [c0, c1]
  rw [decide_eq_true e]
  simp [S.laws_eqServer.run, s0, c1]

/-! StringSS -/
abbrev mStringSS (t : Bool) (a : List (List (ByteArray))) : List GV := [fzl t 1 (mStringS t) a]
def zStringSS (a : List (List (ByteArray))) : Nat := a.length + (a.map fun x => zStringS x).sum
def okStringSS (a : List (List (ByteArray))) : Prop := a.length ≤ 1048576 ∧ ∀ x ∈ a, okStringS x
theorem okStringSS_of {a : List (List (ByteArray))} (h : zStringSS a ≤ 1048576) : okStringSS a := by
  unfold zStringSS at h
  refine ⟨by omega, fun x hx => ?_⟩
  have : zStringS x ≤ _ := sum_mem (c := fun x => zStringS x) hx
  exact okStringS_of (by omega)
@[simp] theorem kload1_StringSS {h : Heap} {t : Bool} {xs : List (List (List (ByteArray)))} {j : Nat} : kload1 h (elp t (mStringSS t) xs j) = xs[j]?.map fun a => fzl t 1 (mStringS t) a := kload1_elp _ (fun _ => rfl)
@[simp] theorem kia_StringSS {t : Bool} {xs : List (List (List (ByteArray)))} {k : IntKind} {i : Int} : kia 1 (fzl t 1 (mStringSS t) xs) (.int k i) = if 0 ≤ i ∧ i < xs.length then some (elp t (mStringSS t) xs i.toNat) else none := kia_fzl (es := 1) (fun _ => rfl)
theorem ld_StringSS {d : Nat} {t : Bool} (a : List (List (ByteArray))) : (mStringSS t a).map (lend (d + 2)) = mStringSS true a := map_cons' (lend_fzl (d := d + 1) (mk := (mStringS t)) (mk' := (mStringS true)) (fun a => ld_StringS (d := d) a) a) (rfl)
@[simp] theorem bor_StringSS {d : Nat} {h : Heap} {t : Bool} {xs : List (List (List (ByteArray)))} : bor (d + 4) h (fzl t 1 (mStringSS t) xs) = some (fzl true 1 (mStringSS true) xs, []) := bor_fzl (d := d + 3) (fun a => ld_StringSS (d := d + 1) a) xs
open Classical in
theorem laws_eqStringSS_spec (xs ys : List (List (ByteArray))) (hm : okStringSS xs) : NN fn.laws_eqStringSS [fzl true 1 (mStringS true) xs, fzl true 1 (mStringS true) ys] = some (.bool (decide (xs = ys))) := by
  apply S.laws_eqStringSS.gives (k := xs.length + 1)
  have hm' : xs.length ≤ 1048576 := hm.1
  simp [S.laws_eqStringSS.run]
  by_cases hl : xs.length = ys.length
  · have hi : (xs.length : Int) = ys.length := by omega
    simp [hi]
    refine (loop_all (f := fun r j => S.laws_eqStringSS.l6 _ _ r _ _ _ (.int .i64 (j : Int)) _) (A := some (GV.bool true)) (B := some (GV.bool false)) (n := xs.length) (P := fun j => xs[j]? = ys[j]?) (fun j r hj => ?_) (fun r => ?_) (xs.length + 1) 0 (by omega) (by omega)).trans ?_
    · have h1 : (j : Int) < xs.length := by omega
      have h2 : (j : Int) < ys.length := by omega
      have h3 : j < ys.length := by omega
      have w := wrap_succ (n := j) (by simp only [maxLen]; omega)
      have sp := laws_eqStringS_spec xs[j] ys[j] (hm.2 _ (List.getElem_mem hj))
      by_cases hc : xs[j] = ys[j]
      · have e1 : xs[j] = ys[j] := hc
        rw [decide_eq_true e1] at sp
        refine Eq.trans ?_ (if_pos (by rw [get_of hj, get_of h3, hc])).symm
        simp [S.laws_eqStringSS.l6, h1, h2, get_of hj, get_of h3, w, sp]
      · have e1 : ¬ (xs[j] = ys[j]) := hc
        rw [decide_eq_false e1] at sp
        refine Eq.trans ?_ (if_neg (by rw [get_of hj, get_of h3]; exact fun h => hc (Option.some.inj h))).symm
        simp [S.laws_eqStringSS.l6, h1, h2, get_of hj, get_of h3, w, sp]
    · simp [S.laws_eqStringSS.l6]
    · simp [list_eq_iff hl]
      by_cases hx : xs = ys <;> simp [hx]
  · have : ¬ ((xs.length : Int) = ys.length) := by omega
    have hne : xs ≠ ys := fun h => hl (by rw [h])
    simp [this, hne]

/-! Int64SS -/
abbrev mInt64SS (t : Bool) (a : List (List (Int))) : List GV := [fzl t 1 (mInt64S t) a]
def zInt64SS (a : List (List (Int))) : Nat := a.length + (a.map fun x => zInt64S x).sum
def okInt64SS (a : List (List (Int))) : Prop := a.length ≤ 1048576 ∧ ∀ x ∈ a, okInt64S x
theorem okInt64SS_of {a : List (List (Int))} (h : zInt64SS a ≤ 1048576) : okInt64SS a := by
  unfold zInt64SS at h
  refine ⟨by omega, fun x hx => ?_⟩
  have : zInt64S x ≤ _ := sum_mem (c := fun x => zInt64S x) hx
  show zInt64S x ≤ _
  omega
@[simp] theorem kload1_Int64SS {h : Heap} {t : Bool} {xs : List (List (List (Int)))} {j : Nat} : kload1 h (elp t (mInt64SS t) xs j) = xs[j]?.map fun a => fzl t 1 (mInt64S t) a := kload1_elp _ (fun _ => rfl)
@[simp] theorem kia_Int64SS {t : Bool} {xs : List (List (List (Int)))} {k : IntKind} {i : Int} : kia 1 (fzl t 1 (mInt64SS t) xs) (.int k i) = if 0 ≤ i ∧ i < xs.length then some (elp t (mInt64SS t) xs i.toNat) else none := kia_fzl (es := 1) (fun _ => rfl)
theorem ld_Int64SS {d : Nat} {t : Bool} (a : List (List (Int))) : (mInt64SS t a).map (lend (d + 2)) = mInt64SS true a := map_cons' (lend_fzl (d := d + 1) (mk := (mInt64S t)) (mk' := (mInt64S true)) (fun a => ld_Int64S (d := d) a) a) (rfl)
@[simp] theorem bor_Int64SS {d : Nat} {h : Heap} {t : Bool} {xs : List (List (List (Int)))} : bor (d + 4) h (fzl t 1 (mInt64SS t) xs) = some (fzl true 1 (mInt64SS true) xs, []) := bor_fzl (d := d + 3) (fun a => ld_Int64SS (d := d + 1) a) xs
open Classical in
theorem laws_eqInt64SS_spec (xs ys : List (List (Int))) (hm : okInt64SS xs) : NN fn.laws_eqInt64SS [fzl true 1 (mInt64S true) xs, fzl true 1 (mInt64S true) ys] = some (.bool (decide (xs = ys))) := by
  apply S.laws_eqInt64SS.gives (k := xs.length + 1)
  have hm' : xs.length ≤ 1048576 := hm.1
  simp [S.laws_eqInt64SS.run]
  by_cases hl : xs.length = ys.length
  · have hi : (xs.length : Int) = ys.length := by omega
    simp [hi]
    refine (loop_all (f := fun r j => S.laws_eqInt64SS.l6 _ _ r _ _ _ (.int .i64 (j : Int)) _) (A := some (GV.bool true)) (B := some (GV.bool false)) (n := xs.length) (P := fun j => xs[j]? = ys[j]?) (fun j r hj => ?_) (fun r => ?_) (xs.length + 1) 0 (by omega) (by omega)).trans ?_
    · have h1 : (j : Int) < xs.length := by omega
      have h2 : (j : Int) < ys.length := by omega
      have h3 : j < ys.length := by omega
      have w := wrap_succ (n := j) (by simp only [maxLen]; omega)
      have sp := laws_eqInt64S_spec xs[j] ys[j] (hm.2 _ (List.getElem_mem hj))
      by_cases hc : xs[j] = ys[j]
      · have e1 : xs[j] = ys[j] := hc
        rw [decide_eq_true e1] at sp
        refine Eq.trans ?_ (if_pos (by rw [get_of hj, get_of h3, hc])).symm
        simp [S.laws_eqInt64SS.l6, h1, h2, get_of hj, get_of h3, w, sp]
      · have e1 : ¬ (xs[j] = ys[j]) := hc
        rw [decide_eq_false e1] at sp
        refine Eq.trans ?_ (if_neg (by rw [get_of hj, get_of h3]; exact fun h => hc (Option.some.inj h))).symm
        simp [S.laws_eqInt64SS.l6, h1, h2, get_of hj, get_of h3, w, sp]
    · simp [S.laws_eqInt64SS.l6]
    · simp [list_eq_iff hl]
      by_cases hx : xs = ys <;> simp [hx]
  · have : ¬ ((xs.length : Int) = ys.length) := by omega
    have hne : xs ≠ ys := fun h => hl (by rw [h])
    simp [this, hne]

/-! DatagramS -/
abbrev mDatagramS (t : Bool) (a : List ((Int × ByteArray))) : List GV := [fzl t 2 (mDatagram t) a]
def zDatagramS (a : List ((Int × ByteArray))) : Nat := a.length + (a.map fun x => zDatagram x).sum
def okDatagramS (a : List ((Int × ByteArray))) : Prop := a.length ≤ 1048576 ∧ ∀ x ∈ a, okDatagram x
theorem okDatagramS_of {a : List ((Int × ByteArray))} (h : zDatagramS a ≤ 1048576) : okDatagramS a := by
  unfold zDatagramS at h
  refine ⟨by omega, fun x hx => ?_⟩
  have : zDatagram x ≤ _ := sum_mem (c := fun x => zDatagram x) hx
  exact okDatagram_of (by omega)
@[simp] theorem kload1_DatagramS {h : Heap} {t : Bool} {xs : List (List ((Int × ByteArray)))} {j : Nat} : kload1 h (elp t (mDatagramS t) xs j) = xs[j]?.map fun a => fzl t 2 (mDatagram t) a := kload1_elp _ (fun _ => rfl)
@[simp] theorem kia_DatagramS {t : Bool} {xs : List (List ((Int × ByteArray)))} {k : IntKind} {i : Int} : kia 1 (fzl t 1 (mDatagramS t) xs) (.int k i) = if 0 ≤ i ∧ i < xs.length then some (elp t (mDatagramS t) xs i.toNat) else none := kia_fzl (es := 1) (fun _ => rfl)
theorem ld_DatagramS {d : Nat} {t : Bool} (a : List ((Int × ByteArray))) : (mDatagramS t a).map (lend (d + 1)) = mDatagramS true a := map_cons' (lend_fzl (d := d) (mk := (mDatagram t)) (mk' := (mDatagram true)) (fun a => ld_Datagram (d := d) a) a) (rfl)
@[simp] theorem bor_DatagramS {d : Nat} {h : Heap} {t : Bool} {xs : List (List ((Int × ByteArray)))} : bor (d + 3) h (fzl t 1 (mDatagramS t) xs) = some (fzl true 1 (mDatagramS true) xs, []) := bor_fzl (d := d + 2) (fun a => ld_DatagramS (d := d + 1) a) xs
open Classical in
theorem laws_eqDatagramS_spec (xs ys : List ((Int × ByteArray))) (hm : okDatagramS xs) : NN fn.laws_eqDatagramS [fzl true 2 (mDatagram true) xs, fzl true 2 (mDatagram true) ys] = some (.bool (decide (xs = ys))) := by
  apply S.laws_eqDatagramS.gives (k := xs.length + 1)
  have hm' : xs.length ≤ 1048576 := hm.1
  simp [S.laws_eqDatagramS.run]
  by_cases hl : xs.length = ys.length
  · have hi : (xs.length : Int) = ys.length := by omega
    simp [hi]
    refine (loop_all (f := fun r j => S.laws_eqDatagramS.l6 _ _ r _ _ _ (.int .i64 (j : Int)) _) (A := some (GV.bool true)) (B := some (GV.bool false)) (n := xs.length) (P := fun j => xs[j]? = ys[j]?) (fun j r hj => ?_) (fun r => ?_) (xs.length + 1) 0 (by omega) (by omega)).trans ?_
    · have h1 : (j : Int) < xs.length := by omega
      have h2 : (j : Int) < ys.length := by omega
      have h3 : j < ys.length := by omega
      have w := wrap_succ (n := j) (by simp only [maxLen]; omega)
      have sp := laws_eqDatagram_spec xs[j].1 ys[j].1 xs[j].2 ys[j].2  (hm.2 _ (List.getElem_mem hj))
      by_cases hc : xs[j] = ys[j]
      · have e1 : (xs[j].1, xs[j].2) = (ys[j].1, ys[j].2) := hc
        rw [decide_eq_true e1] at sp
        refine Eq.trans ?_ (if_pos (by rw [get_of hj, get_of h3, hc])).symm
        simp [S.laws_eqDatagramS.l6, h1, h2, get_of hj, get_of h3, w, sp]
      · have e1 : ¬ ((xs[j].1, xs[j].2) = (ys[j].1, ys[j].2)) := hc
        rw [decide_eq_false e1] at sp
        refine Eq.trans ?_ (if_neg (by rw [get_of hj, get_of h3]; exact fun h => hc (Option.some.inj h))).symm
        simp [S.laws_eqDatagramS.l6, h1, h2, get_of hj, get_of h3, w, sp]
    · simp [S.laws_eqDatagramS.l6]
    · simp [list_eq_iff hl]
      by_cases hx : xs = ys <;> simp [hx]
  · have : ¬ ((xs.length : Int) = ys.length) := by omega
    have hne : xs ≠ ys := fun h => hl (by rw [h])
    simp [this, hne]

/-! Window -/
abbrev mWindow (t : Bool) (a : (Int × List (Int))) : List GV := [.int .i64 a.1, fzl t 1 ci a.2]
def zWindow (a : (Int × List (Int))) : Nat := zInt64S a.2
def okWindow (a : (Int × List (Int))) : Prop := okInt64S a.2
theorem okWindow_of {a : (Int × List (Int))} (h : zWindow a ≤ 1048576) : okWindow a := by
  unfold zWindow at h
  exact (show zInt64S a.2 ≤ 1048576 by omega)
@[simp] theorem kloadA_Window {h : Heap} {t : Bool} {xs : List (Int × List (Int))} {j : Nat} : kloadA 2 h (elp t (mWindow t) xs j) = xs[j]?.map fun a => .agg (mWindow t a) := kloadA_elp (mk := mWindow t) (es := 2) (fun _ => rfl) (by omega)
@[simp] theorem kload1_Window_0 {h : Heap} {t : Bool} {xs : List ((Int × List (Int)))} {j : Nat} : kload1 h (elf t (mWindow t) xs j 0) = xs[j]?.bind fun a => (mWindow t a)[0]? := kload1_elf (mk := mWindow t) (es := 2) (fun _ => rfl) (by omega)
@[simp] theorem kload1_Window_1 {h : Heap} {t : Bool} {xs : List ((Int × List (Int)))} {j : Nat} : kload1 h (elf t (mWindow t) xs j 1) = xs[j]?.bind fun a => (mWindow t a)[1]? := kload1_elf (mk := mWindow t) (es := 2) (fun _ => rfl) (by omega)
@[simp] theorem kia_Window {t : Bool} {xs : List ((Int × List (Int)))} {k : IntKind} {i : Int} : kia 2 (fzl t 2 (mWindow t) xs) (.int k i) = if 0 ≤ i ∧ i < xs.length then some (elp t (mWindow t) xs i.toNat) else none := kia_fzl (es := 2) (fun _ => rfl)
theorem ld_Window {d : Nat} {t : Bool} (a : (Int × List (Int))) : (mWindow t a).map (lend (d + 1)) = mWindow true a := map_cons' lend_int (map_cons' (lend_fzl (d := d) (mk := ci) (mk' := ci) (fun a => map_cons' lend_int rfl) a.2) (rfl))
@[simp] theorem bor_Window {d : Nat} {h : Heap} {t : Bool} {xs : List ((Int × List (Int)))} : bor (d + 3) h (fzl t 2 (mWindow t) xs) = some (fzl true 2 (mWindow true) xs, []) := bor_fzl (d := d + 2) (fun a => ld_Window (d := d + 1) a) xs
open Classical in
theorem laws_eqWindow_spec (a_1 b_1 : Int) (a_2 b_2 : List (Int)) (hm : okWindow (a_1, a_2)) : NN fn.laws_eqWindow [.agg [.int .i64 a_1, fzl true 1 ci a_2], .agg [.int .i64 b_1, fzl true 1 ci b_2]] = some (.bool (decide ((a_1, a_2) = (b_1, b_2)))) := by
  apply S.laws_eqWindow.gives (k := 0)
  unfold okWindow at hm
  by_cases c0 : a_1 = b_1
  rotate_left
  · have e : ¬ ((a_1, a_2) = (b_1, b_2)) := fun e => c0 (by simp only [Prod.mk.injEq] at e ⊢; simp [e])
    rw [decide_eq_false e]
    simp [S.laws_eqWindow.run, c0]
  have s1 := laws_eqInt64S_spec a_2 b_2 hm
  by_cases c1 : a_2 = b_2
  rotate_left
  · have e : ¬ ((a_1, a_2) = (b_1, b_2)) := fun e => c1 (by simp only [Prod.mk.injEq] at e ⊢; simp [e])
    rw [decide_eq_false e]
    rw [decide_eq_false c1] at s1
    simp [S.laws_eqWindow.run, c0, s1]
  rw [decide_eq_true c1] at s1
  have e : (a_1, a_2) = (b_1, b_2) := by rw [c0, c1]
  rw [decide_eq_true e]
  simp [S.laws_eqWindow.run, c0, s1]
abbrev rStringSS : Rel (List (List (ByteArray))) := RSl 1 rStringS
theorem goodStringSS : Good 1 3 (mStringSS true) rStringSS := RSl.good goodStringS
def cStringSS (xs : List (List (ByteArray))) : Nat := cntL (fun x => (cStringS x)) xs
noncomputable def kStringSS (xs : List (List (ByteArray))) (k : Nat) : List (List (ByteArray)) := markL (fun x k => kStringS x (k)) (fun x => (cStringS x)) xs k
theorem cStringSS_le {xs : List (List (ByteArray))} (h : okStringSS xs) : cStringSS xs ≤ 1099511627776 := cntL_bound (M := 1048576) (B := 1048576) (h.1) (fun x hx => by have := cStringS_le (h.2 x hx); show _ ≤ _; omega)
theorem laws_heldStringSS_spec (xs : List (List (ByteArray))) (k : Nat) (hok : okStringSS xs) (hk : k + cStringSS xs ≤ 4611686018427387904) : NN fn.laws_heldStringSS [(fzl true 1 (mStringS true) (kStringSS xs k)), .int .i64 (k : Int)] = some (.int .i64 ((k + cStringSS xs : Nat) : Int)) := by
  have hlim : k + cntL (fun x => (cStringS x)) xs ≤ 4611686018427387904 := hk
  have hlen : xs.length ≤ 1048576 := hok.1
  obtain ⟨ys, hys⟩ : ∃ ys, kStringSS xs k = ys := ⟨_, rfl⟩
  have hl : ys.length = xs.length := by rw [← hys]; exact markL_len _ _
  have hg : ∀ j (hj : j < xs.length), ys[j]? = some (kStringS xs[j] ((k + cntL (fun x => (cStringS x)) (xs.take j)))) := fun j hj => by rw [← hys]; exact markL_get xs k j hj
  rw [hys]
  apply S.laws_heldStringSS.gives (k := xs.length + 1)
  have key := loop_to (f := fun r j => fun (G : GX → GV → GV → Heap → Option GV) => S.laws_heldStringSS.l5 (xs.length + 1) G r (fzl true 1 (mStringS true) ys) (.int .i64 ((k + cntL (fun x => (cStringS x)) (xs.take j) : Nat) : Int)) (.int .i64 0) (.int .i64 (j : Int)) []) (A := fun G => G (.ext 0) (.int .i64 ((k + cStringSS xs : Nat) : Int)) (.int .i64 0) []) (n := xs.length) ?_ ?_ (xs.length + 1) 0 (by omega) (by omega)
  · have key' := fun G => congrFun key G
    simp only [List.take_zero, cntL, List.map_nil, List.sum_nil, Nat.add_zero, show ((0 : Nat) : Int) = 0 from rfl] at key'
    simp [S.laws_heldStringSS.run, key', -Int.natCast_add]
  · intro j r hj
    have g1 : (j : Int) < (ys.length : Int) := by omega
    have kj := kadd1 (n := j) (by omega)
    have q1 := cntL_take (c := (fun x => (cStringS x))) hj
    have q2 := cntL_le (c := (fun x => (cStringS x))) (xs := xs) (j + 1)
    have hgj := hg j hj
    try simp only at q1
    rw [q1, ← Nat.add_assoc]
    obtain ⟨K, hK⟩ : ∃ K, k + cntL (fun x => (cStringS x)) (xs.take j) = K := ⟨_, rfl⟩
    have hKb : K + ((cStringS xs[j])) ≤ 4611686018427387904 := by omega
    rw [hK] at hgj ⊢
    have s0 := laws_heldStringS_spec (xs[j]) (K) (hok.2 _ (List.getElem_mem hj)) (by omega)
    have z0 : ¬ (((K + (cStringS xs[j]) : Nat) : Int) < 0) := by omega
    funext G
    simp only [S.laws_heldStringSS.l5]
    simp [g1, hgj, kj, s0, z0, -Int.natCast_add, -kbin_add]
    try rfl
  · intro r
    funext G
    have g1 : ¬ ((xs.length : Int) < (ys.length : Int)) := by omega
    simp only [S.laws_heldStringSS.l5, List.take_length]
    simp [g1, -Int.natCast_add]
    try rfl
abbrev rInt64SS : Rel (List (List (Int))) := RSl 1 rInt64S
theorem goodInt64SS : Good 1 3 (mInt64SS true) rInt64SS := RSl.good goodInt64S
def cInt64SS (xs : List (List (Int))) : Nat := cntL (fun x => (cInt64S x)) xs
noncomputable def kInt64SS (xs : List (List (Int))) (k : Nat) : List (List (Int)) := markL (fun x k => kInt64S x (k)) (fun x => (cInt64S x)) xs k
theorem cInt64SS_le {xs : List (List (Int))} (h : okInt64SS xs) : cInt64SS xs ≤ 1099511627776 := cntL_bound (M := 1048576) (B := 1048576) (h.1) (fun x hx => by have := cInt64S_le (h.2 x hx); show _ ≤ _; omega)
theorem laws_heldInt64SS_spec (xs : List (List (Int))) (k : Nat) (hok : okInt64SS xs) (hk : k + cInt64SS xs ≤ 4611686018427387904) : NN fn.laws_heldInt64SS [(fzl true 1 (mInt64S true) (kInt64SS xs k)), .int .i64 (k : Int)] = some (.int .i64 ((k + cInt64SS xs : Nat) : Int)) := by
  have hlim : k + cntL (fun x => (cInt64S x)) xs ≤ 4611686018427387904 := hk
  have hlen : xs.length ≤ 1048576 := hok.1
  obtain ⟨ys, hys⟩ : ∃ ys, kInt64SS xs k = ys := ⟨_, rfl⟩
  have hl : ys.length = xs.length := by rw [← hys]; exact markL_len _ _
  have hg : ∀ j (hj : j < xs.length), ys[j]? = some (kInt64S xs[j] ((k + cntL (fun x => (cInt64S x)) (xs.take j)))) := fun j hj => by rw [← hys]; exact markL_get xs k j hj
  rw [hys]
  apply S.laws_heldInt64SS.gives (k := xs.length + 1)
  have key := loop_to (f := fun r j => fun (G : GX → GV → GV → Heap → Option GV) => S.laws_heldInt64SS.l5 (xs.length + 1) G r (fzl true 1 (mInt64S true) ys) (.int .i64 ((k + cntL (fun x => (cInt64S x)) (xs.take j) : Nat) : Int)) (.int .i64 0) (.int .i64 (j : Int)) []) (A := fun G => G (.ext 0) (.int .i64 ((k + cInt64SS xs : Nat) : Int)) (.int .i64 0) []) (n := xs.length) ?_ ?_ (xs.length + 1) 0 (by omega) (by omega)
  · have key' := fun G => congrFun key G
    simp only [List.take_zero, cntL, List.map_nil, List.sum_nil, Nat.add_zero, show ((0 : Nat) : Int) = 0 from rfl] at key'
    simp [S.laws_heldInt64SS.run, key', -Int.natCast_add]
  · intro j r hj
    have g1 : (j : Int) < (ys.length : Int) := by omega
    have kj := kadd1 (n := j) (by omega)
    have q1 := cntL_take (c := (fun x => (cInt64S x))) hj
    have q2 := cntL_le (c := (fun x => (cInt64S x))) (xs := xs) (j + 1)
    have hgj := hg j hj
    try simp only at q1
    rw [q1, ← Nat.add_assoc]
    obtain ⟨K, hK⟩ : ∃ K, k + cntL (fun x => (cInt64S x)) (xs.take j) = K := ⟨_, rfl⟩
    have hKb : K + ((cInt64S xs[j])) ≤ 4611686018427387904 := by omega
    rw [hK] at hgj ⊢
    have s0 := laws_heldInt64S_spec (xs[j]) (K) (hok.2 _ (List.getElem_mem hj)) (by omega)
    have z0 : ¬ (((K + (cInt64S xs[j]) : Nat) : Int) < 0) := by omega
    funext G
    simp only [S.laws_heldInt64SS.l5]
    simp [g1, hgj, kj, s0, z0, -Int.natCast_add, -kbin_add]
    try rfl
  · intro r
    funext G
    have g1 : ¬ ((xs.length : Int) < (ys.length : Int)) := by omega
    simp only [S.laws_heldInt64SS.l5, List.take_length]
    simp [g1, -Int.natCast_add]
    try rfl
abbrev rDatagramS : Rel (List ((Int × ByteArray))) := RSl 2 (RFl (mDatagram true))
theorem goodDatagramS : Good 1 2 (mDatagramS true) rDatagramS := RSl.good (RFl.good (es := 2) (mk := (mDatagram true)) (fun _ => rfl) (fun _ => rfl))
def cDatagramS (xs : List ((Int × ByteArray))) : Nat := cntL (fun x => 1 + 1) xs
noncomputable def kDatagramS (xs : List ((Int × ByteArray))) (k : Nat) : List ((Int × ByteArray)) := markL (fun x k => (((k : Nat) : Int), mtext (k + 1))) (fun x => 1 + 1) xs k
theorem cDatagramS_le {xs : List ((Int × ByteArray))} (h : okDatagramS xs) : cDatagramS xs ≤ 2097152 := cntL_bound (M := 1048576) (B := 2) (h.1) (fun x hx => by show _ ≤ _; omega)
theorem laws_heldDatagramS_spec (xs : List ((Int × ByteArray))) (k : Nat) (hok : okDatagramS xs) (hk : k + cDatagramS xs ≤ 4611686018427387904) : NN fn.laws_heldDatagramS [(fzl true 2 (mDatagram true) (kDatagramS xs k)), .int .i64 (k : Int)] = some (.int .i64 ((k + cDatagramS xs : Nat) : Int)) := by
  have hlim : k + cntL (fun x => 1 + 1) xs ≤ 4611686018427387904 := hk
  have hlen : xs.length ≤ 1048576 := hok.1
  obtain ⟨ys, hys⟩ : ∃ ys, kDatagramS xs k = ys := ⟨_, rfl⟩
  have hl : ys.length = xs.length := by rw [← hys]; exact markL_len _ _
  have hg : ∀ j (hj : j < xs.length), ys[j]? = some (((((k + cntL (fun x => 1 + 1) (xs.take j)) : Nat) : Int), mtext ((k + cntL (fun x => 1 + 1) (xs.take j)) + 1))) := fun j hj => by rw [← hys]; exact markL_get xs k j hj
  rw [hys]
  apply S.laws_heldDatagramS.gives (k := xs.length + 1)
  have key := loop_to (f := fun r j => fun (G : GX → GV → GV → Heap → Option GV) => S.laws_heldDatagramS.l5 (xs.length + 1) G r (fzl true 2 (mDatagram true) ys) (.int .i64 ((k + cntL (fun x => 1 + 1) (xs.take j) : Nat) : Int)) (.int .i64 0) (.int .i64 (j : Int)) []) (A := fun G => G (.ext 0) (.int .i64 ((k + cDatagramS xs : Nat) : Int)) (.int .i64 0) []) (n := xs.length) ?_ ?_ (xs.length + 1) 0 (by omega) (by omega)
  · have key' := fun G => congrFun key G
    simp only [List.take_zero, cntL, List.map_nil, List.sum_nil, Nat.add_zero, show ((0 : Nat) : Int) = 0 from rfl] at key'
    simp [S.laws_heldDatagramS.run, key', -Int.natCast_add]
  · intro j r hj
    have g1 : (j : Int) < (ys.length : Int) := by omega
    have kj := kadd1 (n := j) (by omega)
    have q1 := cntL_take (c := (fun x => 1 + 1)) hj
    have q2 := cntL_le (c := (fun x => 1 + 1)) (xs := xs) (j + 1)
    have hgj := hg j hj
    try simp only at q1
    rw [q1, ← Nat.add_assoc]
    obtain ⟨K, hK⟩ : ∃ K, k + cntL (fun x => 1 + 1) (xs.take j) = K := ⟨_, rfl⟩
    have hKb : K + (1 + 1) ≤ 4611686018427387904 := by omega
    rw [hK] at hgj ⊢
    have ka0 := kadd1 (n := K) (by omega)
    have t1 := laws_markText_spec (K + 1) (by omega)
    have ka1 := kadd1 (n := K + 1) (by omega)
    funext G
    simp only [S.laws_heldDatagramS.l5]
    simp [g1, hgj, kj, ka0, t1, ka1, -Int.natCast_add, -kbin_add]
    try rfl
  · intro r
    funext G
    have g1 : ¬ ((xs.length : Int) < (ys.length : Int)) := by omega
    simp only [S.laws_heldDatagramS.l5, List.take_length]
    simp [g1, -Int.natCast_add]
    try rfl
theorem laws_markStringSS_spec (h : Heap) (v : GV) (xs : List (List (ByteArray))) (R : List Nat) (k : Nat) (hok : okStringSS xs) (he : rStringSS h [v] xs R) (nd : R.Nodup) (hk : k + cStringSS xs ≤ 4611686018427387904) : ∃ h', HH fn.laws_markStringSS [v, .int .i64 (k : Int)] h = some (.int .i64 ((k + cStringSS xs : Nat) : Int), h') ∧ rStringSS h' [v] (kStringSS xs k) R ∧ Fr R h h' := by
  have hlim : k + cntL (fun x => (cStringS x)) xs ≤ 4611686018427387904 := hk
  have hlen : xs.length ≤ 1048576 := hok.1
  have key := mark_loop (E := rStringS) goodStringS (m := (fun x k => kStringS x (k))) (c := (fun x => (cStringS x))) (v := v) (xs := xs) (R := R) (k := k) nd (f := fun r j k h => fun (G : GX → GV → GV → Heap → Option (GV × Heap)) => S.laws_markStringSS.l5 (xs.length + 1) G r v (.int .i64 (k : Int)) (.int .i64 0) (.int .i64 (j : Int)) h) (A := fun k h => fun G => G (.ext 0) (.int .i64 (k : Int)) (.int .i64 0) h) ?_ ?_ he (xs.length + 1) (by omega)
  · obtain ⟨h', a1, a2, a3⟩ := key
    refine ⟨h', S.laws_markStringSS.gives (k := xs.length + 1) ?_, a2, a3⟩
    have a1' := fun G => congrFun a1 G
    simp only [show ((0 : Nat) : Int) = 0 from rfl] at a1'
    simp [S.laws_markStringSS.run, a1', -Int.natCast_add]
    rfl
  · intro j r h ys he hl hj hy
    obtain ⟨b, css, c, r0, hv, hb, fl, hcn, hc, fe, hE, hbr, hbR, hrR, nd0, hup⟩ := RSl.focus goodStringS he nd (j := j) (by omega)
    have ey : ys[j]'(by omega) = xs[j] := by rw [List.getElem?_eq_getElem (by omega)] at hy; exact Option.some.inj hy
    rw [ey] at hE
    rw [hl] at hv hcn
    have hcl := fe c (List.mem_of_getElem? hc)
    have hb0 : h[b]? = some (css.set j c).flatten := by rw [set_get_self hc]; exact hb
    have q1 := cntL_take (c := (fun x => (cStringS x))) hj
    have q2 := cntL_le (c := (fun x => (cStringS x))) (xs := xs) (j + 1)
    try simp only at q1
    obtain ⟨K, hK⟩ : ∃ K, k + cntL (fun x => (cStringS x)) (xs.take j) = K := ⟨_, rfl⟩
    have hKb : K + ((cStringS xs[j])) ≤ 4611686018427387904 := by omega
    rw [hK]
    clear hK q1 q2
    have hm := (RSl.good goodStringS).mem he
    have hbl := (List.getElem?_eq_some_iff.1 hb).1
    have kj := kadd1 (n := j) (by omega)
    have k0 : kia 1 (.sl b 0 xs.length xs.length 1) (.int .i64 (j : Int)) = some (.ptr b (j) (xs.length)) := kia_at hj (by omega) (by omega)
    obtain ⟨v0, rfl⟩ : ∃ v0, c = [v0] := List.length_eq_one_iff.1 hcl
    have l0 : kload1 h (.ptr b (j) (xs.length)) = some v0 := by rw [ld_leaf (es := 1) (off := 0) hb0 fe hcn hj hcl (by omega) (by omega) (by omega)]; rfl
    have nd1 := nd0
    obtain ⟨H1, m1, x1, f1⟩ := laws_markStringS_spec h v0 (xs[j]) r0 (K) (hok.2 _ (List.getElem_mem hj)) hE nd1 (by omega)
    have hb1 : H1[b]? = some (css.set j [v0]).flatten := by rw [f1.2 b hbl (by simpa using hbr)]; exact hb0
    have g1 : Fr R h H1 := f1.sub (fun i hi => hrR i (by simpa using hi))
    refine ⟨H1, ?_, hup H1 [v0] _ hb1 x1 (fun i hi hib hir => ?_), g1⟩
    · funext G
      simp only [S.laws_markStringSS.l5, S.laws_markStringSS.n8, S.laws_markStringSS.n10, S.laws_markStringSS.n9, S.laws_markStringSS.n7, S.laws_markStringSS.n6, hv, klen_sl, klt, decide_eq_true hj, kcond_bool, cond_true, kx_nrm, kb_nrm, Option.bind_some, kr_mk, kfa_ptr, kj, Nat.add_zero, kN_eq, bors_cons, bors_nil, bor_int, k0, l0, m1]
      try rfl
    · exact (f1.2 i (hm i hi) (by simpa using hir))
  · intro r h ys he hl
    have e1 := he.len
    rw [hl] at e1
    funext G
    simp only [S.laws_markStringSS.l5, S.laws_markStringSS.n6, S.laws_markStringSS.n7, S.laws_markStringSS.n8, S.laws_markStringSS.n9, S.laws_markStringSS.n10, e1, klt, Nat.lt_irrefl, decide_false, kcond_bool, cond_false, Option.bind_some, kx_ext, kb_ext]
    try rfl
theorem laws_markInt64SS_spec (h : Heap) (v : GV) (xs : List (List (Int))) (R : List Nat) (k : Nat) (hok : okInt64SS xs) (he : rInt64SS h [v] xs R) (nd : R.Nodup) (hk : k + cInt64SS xs ≤ 4611686018427387904) : ∃ h', HH fn.laws_markInt64SS [v, .int .i64 (k : Int)] h = some (.int .i64 ((k + cInt64SS xs : Nat) : Int), h') ∧ rInt64SS h' [v] (kInt64SS xs k) R ∧ Fr R h h' := by
  have hlim : k + cntL (fun x => (cInt64S x)) xs ≤ 4611686018427387904 := hk
  have hlen : xs.length ≤ 1048576 := hok.1
  have key := mark_loop (E := rInt64S) goodInt64S (m := (fun x k => kInt64S x (k))) (c := (fun x => (cInt64S x))) (v := v) (xs := xs) (R := R) (k := k) nd (f := fun r j k h => fun (G : GX → GV → GV → Heap → Option (GV × Heap)) => S.laws_markInt64SS.l5 (xs.length + 1) G r v (.int .i64 (k : Int)) (.int .i64 0) (.int .i64 (j : Int)) h) (A := fun k h => fun G => G (.ext 0) (.int .i64 (k : Int)) (.int .i64 0) h) ?_ ?_ he (xs.length + 1) (by omega)
  · obtain ⟨h', a1, a2, a3⟩ := key
    refine ⟨h', S.laws_markInt64SS.gives (k := xs.length + 1) ?_, a2, a3⟩
    have a1' := fun G => congrFun a1 G
    simp only [show ((0 : Nat) : Int) = 0 from rfl] at a1'
    simp [S.laws_markInt64SS.run, a1', -Int.natCast_add]
    rfl
  · intro j r h ys he hl hj hy
    obtain ⟨b, css, c, r0, hv, hb, fl, hcn, hc, fe, hE, hbr, hbR, hrR, nd0, hup⟩ := RSl.focus goodInt64S he nd (j := j) (by omega)
    have ey : ys[j]'(by omega) = xs[j] := by rw [List.getElem?_eq_getElem (by omega)] at hy; exact Option.some.inj hy
    rw [ey] at hE
    rw [hl] at hv hcn
    have hcl := fe c (List.mem_of_getElem? hc)
    have hb0 : h[b]? = some (css.set j c).flatten := by rw [set_get_self hc]; exact hb
    have q1 := cntL_take (c := (fun x => (cInt64S x))) hj
    have q2 := cntL_le (c := (fun x => (cInt64S x))) (xs := xs) (j + 1)
    try simp only at q1
    obtain ⟨K, hK⟩ : ∃ K, k + cntL (fun x => (cInt64S x)) (xs.take j) = K := ⟨_, rfl⟩
    have hKb : K + ((cInt64S xs[j])) ≤ 4611686018427387904 := by omega
    rw [hK]
    clear hK q1 q2
    have hm := (RSl.good goodInt64S).mem he
    have hbl := (List.getElem?_eq_some_iff.1 hb).1
    have kj := kadd1 (n := j) (by omega)
    have k0 : kia 1 (.sl b 0 xs.length xs.length 1) (.int .i64 (j : Int)) = some (.ptr b (j) (xs.length)) := kia_at hj (by omega) (by omega)
    obtain ⟨v0, rfl⟩ : ∃ v0, c = [v0] := List.length_eq_one_iff.1 hcl
    have l0 : kload1 h (.ptr b (j) (xs.length)) = some v0 := by rw [ld_leaf (es := 1) (off := 0) hb0 fe hcn hj hcl (by omega) (by omega) (by omega)]; rfl
    have nd1 := nd0
    obtain ⟨H1, m1, x1, f1⟩ := laws_markInt64S_spec h v0 (xs[j]) r0 (K) (hok.2 _ (List.getElem_mem hj)) hE nd1 (by omega)
    have hb1 : H1[b]? = some (css.set j [v0]).flatten := by rw [f1.2 b hbl (by simpa using hbr)]; exact hb0
    have g1 : Fr R h H1 := f1.sub (fun i hi => hrR i (by simpa using hi))
    refine ⟨H1, ?_, hup H1 [v0] _ hb1 x1 (fun i hi hib hir => ?_), g1⟩
    · funext G
      simp only [S.laws_markInt64SS.l5, S.laws_markInt64SS.n8, S.laws_markInt64SS.n10, S.laws_markInt64SS.n9, S.laws_markInt64SS.n7, S.laws_markInt64SS.n6, hv, klen_sl, klt, decide_eq_true hj, kcond_bool, cond_true, kx_nrm, kb_nrm, Option.bind_some, kr_mk, kfa_ptr, kj, Nat.add_zero, kN_eq, bors_cons, bors_nil, bor_int, k0, l0, m1]
      try rfl
    · exact (f1.2 i (hm i hi) (by simpa using hir))
  · intro r h ys he hl
    have e1 := he.len
    rw [hl] at e1
    funext G
    simp only [S.laws_markInt64SS.l5, S.laws_markInt64SS.n6, S.laws_markInt64SS.n7, S.laws_markInt64SS.n8, S.laws_markInt64SS.n9, S.laws_markInt64SS.n10, e1, klt, Nat.lt_irrefl, decide_false, kcond_bool, cond_false, Option.bind_some, kx_ext, kb_ext]
    try rfl
theorem laws_markDatagramS_spec (h : Heap) (v : GV) (xs : List ((Int × ByteArray))) (R : List Nat) (k : Nat) (hok : okDatagramS xs) (he : rDatagramS h [v] xs R) (nd : R.Nodup) (hk : k + cDatagramS xs ≤ 4611686018427387904) : ∃ h', HH fn.laws_markDatagramS [v, .int .i64 (k : Int)] h = some (.int .i64 ((k + cDatagramS xs : Nat) : Int), h') ∧ rDatagramS h' [v] (kDatagramS xs k) R ∧ Fr R h h' := by
  have hlim : k + cntL (fun x => 1 + 1) xs ≤ 4611686018427387904 := hk
  have hlen : xs.length ≤ 1048576 := hok.1
  have key := mark_loop (E := (RFl (mDatagram true))) (RFl.good (es := 2) (mk := (mDatagram true)) (fun _ => rfl) (fun _ => rfl)) (m := (fun x k => (((k : Nat) : Int), mtext (k + 1)))) (c := (fun x => 1 + 1)) (v := v) (xs := xs) (R := R) (k := k) nd (f := fun r j k h => fun (G : GX → GV → GV → Heap → Option (GV × Heap)) => S.laws_markDatagramS.l5 (xs.length + 1) G r v (.int .i64 (k : Int)) (.int .i64 0) (.int .i64 (j : Int)) h) (A := fun k h => fun G => G (.ext 0) (.int .i64 (k : Int)) (.int .i64 0) h) ?_ ?_ he (xs.length + 1) (by omega)
  · obtain ⟨h', a1, a2, a3⟩ := key
    refine ⟨h', S.laws_markDatagramS.gives (k := xs.length + 1) ?_, a2, a3⟩
    have a1' := fun G => congrFun a1 G
    simp only [show ((0 : Nat) : Int) = 0 from rfl] at a1'
    simp [S.laws_markDatagramS.run, a1', -Int.natCast_add]
    rfl
  · intro j r h ys he hl hj hy
    obtain ⟨b, css, c, r0, hv, hb, fl, hcn, hc, fe, hE, hbr, hbR, hrR, nd0, hup⟩ := RSl.focus (RFl.good (es := 2) (mk := (mDatagram true)) (fun _ => rfl) (fun _ => rfl)) he nd (j := j) (by omega)
    have ey : ys[j]'(by omega) = xs[j] := by rw [List.getElem?_eq_getElem (by omega)] at hy; exact Option.some.inj hy
    rw [ey] at hE
    rw [hl] at hv hcn
    have hcl := fe c (List.mem_of_getElem? hc)
    have hb0 : h[b]? = some (css.set j c).flatten := by rw [set_get_self hc]; exact hb
    have q1 := cntL_take (c := (fun x => 1 + 1)) hj
    have q2 := cntL_le (c := (fun x => 1 + 1)) (xs := xs) (j + 1)
    try simp only at q1
    obtain ⟨K, hK⟩ : ∃ K, k + cntL (fun x => 1 + 1) (xs.take j) = K := ⟨_, rfl⟩
    have hKb : K + (1 + 1) ≤ 4611686018427387904 := by omega
    rw [hK]
    clear hK q1 q2
    have hm := (RSl.good (RFl.good (es := 2) (mk := (mDatagram true)) (fun _ => rfl) (fun _ => rfl))).mem he
    have hbl := (List.getElem?_eq_some_iff.1 hb).1
    have kj := kadd1 (n := j) (by omega)
    have k0 : kia 2 (.sl b 0 xs.length xs.length 2) (.int .i64 (j : Int)) = some (.ptr b (j * 2) (xs.length * 2)) := kia_at hj (by omega) (by omega)
    obtain ⟨rfl, rfl⟩ := hE
    obtain ⟨H1, m1, hb1, f1⟩ := st_leaf (es := 2) (off := 0) (x := (.int .i64 ((K : Nat) : Int))) (o := j * 2) (tot := xs.length * 2) hb0 fe hcn hj hcl (by omega) rfl rfl (by omega) (by omega)
    have g1 : Fr R h H1 := f1.sub (fun i hi => by rw [List.mem_singleton] at hi; rw [hi]; exact hbR)
    have ka0 := kadd1 (n := K) (by omega)
    have hcl1 : (((mDatagram true) xs[j]).set 0 (.int .i64 ((K : Nat) : Int))).length = 2 := by rw [List.length_set]; exact hcl
    have t1 := laws_markText_spec (K + 1) (by omega)
    obtain ⟨H2, m2, hb2, f2⟩ := st_leaf (es := 2) (off := 1) (x := (.str (mtext (K + 1)))) (o := j * 2 + 1) (tot := xs.length * 2) hb1 fe hcn hj hcl1 (by omega) rfl rfl (by omega) (by omega)
    have g2 : Fr R H1 H2 := f2.sub (fun i hi => by rw [List.mem_singleton] at hi; rw [hi]; exact hbR)
    have ka1 := kadd1 (n := K + 1) (by omega)
    have hcl2 : ((((mDatagram true) xs[j]).set 0 (.int .i64 ((K : Nat) : Int))).set 1 (.str (mtext (K + 1)))).length = 2 := by rw [List.length_set]; exact hcl1
    refine ⟨H2, ?_, hup H2 ((((mDatagram true) xs[j]).set 0 (.int .i64 ((K : Nat) : Int))).set 1 (.str (mtext (K + 1)))) _ hb2 ⟨rfl, rfl⟩ (fun i hi hib hir => ?_), (g1.trans g2)⟩
    · funext G
      simp only [S.laws_markDatagramS.l5, S.laws_markDatagramS.n8, S.laws_markDatagramS.n10, S.laws_markDatagramS.n9, S.laws_markDatagramS.n7, S.laws_markDatagramS.n6, hv, klen_sl, klt, decide_eq_true hj, kcond_bool, cond_true, kx_nrm, kb_nrm, Option.bind_some, kr_mk, kfa_ptr, kj, Nat.add_zero, kN_eq, bors_cons, bors_nil, bor_int, k0, m1, ka0, t1, m2, ka1]
      try rfl
    · exact ((f2.2 i (by have := hm i hi; have := f1.1; omega) (by simpa using hib)).trans (f1.2 i (hm i hi) (by simpa using hib)))
  · intro r h ys he hl
    have e1 := he.len
    rw [hl] at e1
    funext G
    simp only [S.laws_markDatagramS.l5, S.laws_markDatagramS.n6, S.laws_markDatagramS.n7, S.laws_markDatagramS.n8, S.laws_markDatagramS.n9, S.laws_markDatagramS.n10, e1, klt, Nat.lt_irrefl, decide_false, kcond_bool, cond_false, Option.bind_some, kx_ext, kb_ext]
    try rfl
theorem laws_toCell_spec (a_1 : Int) (a_2_1 : Int) (a_2_2 : Int) (a_2_3 : Bool) (a_2_4 : Bool) (a_2_5 : Bool) (a_3 : Int) (hm : okCell (a_1, (a_2_1, a_2_2, a_2_3, a_2_4, a_2_5), a_3)) : NN fn.laws_toCell [.agg [.int .i64 a_1, .int .i64 a_2_1, .int .i64 a_2_2, .bool a_2_3, .bool a_2_4, .bool a_2_5, .int .i64 a_3]] = some (.agg [.int .i64 a_1, .int .i64 a_2_1, .int .i64 a_2_2, .bool a_2_3, .bool a_2_4, .bool a_2_5, .int .i64 a_3]) := by
  apply S.laws_toCell.gives (k := 0)
  unfold okCell at hm
  simp [S.laws_toCell.run, laws_toStyle_spec a_2_1 a_2_2 a_2_3 a_2_4 a_2_5 trivial]
  try exact finN_of (frz_agg (.cons frz_int (.cons frz_int (.cons frz_int (.cons frz_bool (.cons frz_bool (.cons frz_bool (.cons frz_int (.nil)))))))))

/-! CellS -/
abbrev mCellS (t : Bool) (a : List ((Int × (Int × Int × Bool × Bool × Bool) × Int))) : List GV := [fzl t 7 (mCell t) a]
abbrev zCellS (a : List ((Int × (Int × Int × Bool × Bool × Bool) × Int))) : Nat := a.length
abbrev okCellS (a : List ((Int × (Int × Int × Bool × Bool × Bool) × Int))) : Prop := a.length ≤ 1048576
theorem okCellS_of {a : List ((Int × (Int × Int × Bool × Bool × Bool) × Int))} (h : zCellS a ≤ 1048576) : okCellS a := h
@[simp] theorem kload1_CellS {h : Heap} {t : Bool} {xs : List (List ((Int × (Int × Int × Bool × Bool × Bool) × Int)))} {j : Nat} : kload1 h (elp t (mCellS t) xs j) = xs[j]?.map fun a => fzl t 7 (mCell t) a := kload1_elp _ (fun _ => rfl)
@[simp] theorem kia_CellS {t : Bool} {xs : List (List ((Int × (Int × Int × Bool × Bool × Bool) × Int)))} {k : IntKind} {i : Int} : kia 1 (fzl t 1 (mCellS t) xs) (.int k i) = if 0 ≤ i ∧ i < xs.length then some (elp t (mCellS t) xs i.toNat) else none := kia_fzl (es := 1) (fun _ => rfl)
theorem ld_CellS {d : Nat} {t : Bool} (a : List ((Int × (Int × Int × Bool × Bool × Bool) × Int))) : (mCellS t a).map (lend (d + 1)) = mCellS true a := map_cons' (lend_fzl (d := d) (mk := (mCell t)) (mk' := (mCell true)) (fun a => ld_Cell (d := d) a) a) (rfl)
@[simp] theorem bor_CellS {d : Nat} {h : Heap} {t : Bool} {xs : List (List ((Int × (Int × Int × Bool × Bool × Bool) × Int)))} : bor (d + 3) h (fzl t 1 (mCellS t) xs) = some (fzl true 1 (mCellS true) xs, []) := bor_fzl (d := d + 2) (fun a => ld_CellS (d := d + 1) a) xs
open Classical in
theorem laws_eqCellS_spec (xs ys : List ((Int × (Int × Int × Bool × Bool × Bool) × Int))) (hm : okCellS xs) : NN fn.laws_eqCellS [fzl true 7 (mCell true) xs, fzl true 7 (mCell true) ys] = some (.bool (decide (xs = ys))) := by
  apply S.laws_eqCellS.gives (k := xs.length + 1)
  have hm' : xs.length ≤ 1048576 := hm
  simp [S.laws_eqCellS.run]
  by_cases hl : xs.length = ys.length
  · have hi : (xs.length : Int) = ys.length := by omega
    simp [hi]
    refine (loop_all (f := fun r j => S.laws_eqCellS.l6 _ _ r _ _ _ (.int .i64 (j : Int)) _) (A := some (GV.bool true)) (B := some (GV.bool false)) (n := xs.length) (P := fun j => xs[j]? = ys[j]?) (fun j r hj => ?_) (fun r => ?_) (xs.length + 1) 0 (by omega) (by omega)).trans ?_
    · have h1 : (j : Int) < xs.length := by omega
      have h2 : (j : Int) < ys.length := by omega
      have h3 : j < ys.length := by omega
      have w := wrap_succ (n := j) (by simp only [maxLen]; omega)
      have sp := laws_eqCell_spec xs[j].1 ys[j].1 xs[j].2.1.1 ys[j].2.1.1 xs[j].2.1.2.1 ys[j].2.1.2.1 xs[j].2.1.2.2.1 ys[j].2.1.2.2.1 xs[j].2.1.2.2.2.1 ys[j].2.1.2.2.2.1 xs[j].2.1.2.2.2.2 ys[j].2.1.2.2.2.2 xs[j].2.2 ys[j].2.2  trivial
      by_cases hc : xs[j] = ys[j]
      · have e1 : (xs[j].1, (xs[j].2.1.1, xs[j].2.1.2.1, xs[j].2.1.2.2.1, xs[j].2.1.2.2.2.1, xs[j].2.1.2.2.2.2), xs[j].2.2) = (ys[j].1, (ys[j].2.1.1, ys[j].2.1.2.1, ys[j].2.1.2.2.1, ys[j].2.1.2.2.2.1, ys[j].2.1.2.2.2.2), ys[j].2.2) := hc
        rw [decide_eq_true e1] at sp
        refine Eq.trans ?_ (if_pos (by rw [get_of hj, get_of h3, hc])).symm
        simp [S.laws_eqCellS.l6, h1, h2, get_of hj, get_of h3, w, sp]
      · have e1 : ¬ ((xs[j].1, (xs[j].2.1.1, xs[j].2.1.2.1, xs[j].2.1.2.2.1, xs[j].2.1.2.2.2.1, xs[j].2.1.2.2.2.2), xs[j].2.2) = (ys[j].1, (ys[j].2.1.1, ys[j].2.1.2.1, ys[j].2.1.2.2.1, ys[j].2.1.2.2.2.1, ys[j].2.1.2.2.2.2), ys[j].2.2)) := hc
        rw [decide_eq_false e1] at sp
        refine Eq.trans ?_ (if_neg (by rw [get_of hj, get_of h3]; exact fun h => hc (Option.some.inj h))).symm
        simp [S.laws_eqCellS.l6, h1, h2, get_of hj, get_of h3, w, sp]
    · simp [S.laws_eqCellS.l6]
    · simp [list_eq_iff hl]
      by_cases hx : xs = ys <;> simp [hx]
  · have : ¬ ((xs.length : Int) = ys.length) := by omega
    have hne : xs ≠ ys := fun h => hl (by rw [h])
    simp [this, hne]

/-! ServerS -/
abbrev mServerS (t : Bool) (a : List ((List (ByteArray) × Int))) : List GV := [fzl t 2 (mServer t) a]
def zServerS (a : List ((List (ByteArray) × Int))) : Nat := a.length + (a.map fun x => zServer x).sum
def okServerS (a : List ((List (ByteArray) × Int))) : Prop := a.length ≤ 1048576 ∧ ∀ x ∈ a, okServer x
theorem okServerS_of {a : List ((List (ByteArray) × Int))} (h : zServerS a ≤ 1048576) : okServerS a := by
  unfold zServerS at h
  refine ⟨by omega, fun x hx => ?_⟩
  have : zServer x ≤ _ := sum_mem (c := fun x => zServer x) hx
  exact okServer_of (by omega)
@[simp] theorem kload1_ServerS {h : Heap} {t : Bool} {xs : List (List ((List (ByteArray) × Int)))} {j : Nat} : kload1 h (elp t (mServerS t) xs j) = xs[j]?.map fun a => fzl t 2 (mServer t) a := kload1_elp _ (fun _ => rfl)
@[simp] theorem kia_ServerS {t : Bool} {xs : List (List ((List (ByteArray) × Int)))} {k : IntKind} {i : Int} : kia 1 (fzl t 1 (mServerS t) xs) (.int k i) = if 0 ≤ i ∧ i < xs.length then some (elp t (mServerS t) xs i.toNat) else none := kia_fzl (es := 1) (fun _ => rfl)
theorem ld_ServerS {d : Nat} {t : Bool} (a : List ((List (ByteArray) × Int))) : (mServerS t a).map (lend (d + 2)) = mServerS true a := map_cons' (lend_fzl (d := d + 1) (mk := (mServer t)) (mk' := (mServer true)) (fun a => ld_Server (d := d) a) a) (rfl)
@[simp] theorem bor_ServerS {d : Nat} {h : Heap} {t : Bool} {xs : List (List ((List (ByteArray) × Int)))} : bor (d + 4) h (fzl t 1 (mServerS t) xs) = some (fzl true 1 (mServerS true) xs, []) := bor_fzl (d := d + 3) (fun a => ld_ServerS (d := d + 1) a) xs
open Classical in
theorem laws_eqServerS_spec (xs ys : List ((List (ByteArray) × Int))) (hm : okServerS xs) : NN fn.laws_eqServerS [fzl true 2 (mServer true) xs, fzl true 2 (mServer true) ys] = some (.bool (decide (xs = ys))) := by
  apply S.laws_eqServerS.gives (k := xs.length + 1)
  have hm' : xs.length ≤ 1048576 := hm.1
  simp [S.laws_eqServerS.run]
  by_cases hl : xs.length = ys.length
  · have hi : (xs.length : Int) = ys.length := by omega
    simp [hi]
    refine (loop_all (f := fun r j => S.laws_eqServerS.l6 _ _ r _ _ _ (.int .i64 (j : Int)) _) (A := some (GV.bool true)) (B := some (GV.bool false)) (n := xs.length) (P := fun j => xs[j]? = ys[j]?) (fun j r hj => ?_) (fun r => ?_) (xs.length + 1) 0 (by omega) (by omega)).trans ?_
    · have h1 : (j : Int) < xs.length := by omega
      have h2 : (j : Int) < ys.length := by omega
      have h3 : j < ys.length := by omega
      have w := wrap_succ (n := j) (by simp only [maxLen]; omega)
      have sp := laws_eqServer_spec xs[j].1 ys[j].1 xs[j].2 ys[j].2  (hm.2 _ (List.getElem_mem hj))
      by_cases hc : xs[j] = ys[j]
      · have e1 : (xs[j].1, xs[j].2) = (ys[j].1, ys[j].2) := hc
        rw [decide_eq_true e1] at sp
        refine Eq.trans ?_ (if_pos (by rw [get_of hj, get_of h3, hc])).symm
        simp [S.laws_eqServerS.l6, h1, h2, get_of hj, get_of h3, w, sp]
      · have e1 : ¬ ((xs[j].1, xs[j].2) = (ys[j].1, ys[j].2)) := hc
        rw [decide_eq_false e1] at sp
        refine Eq.trans ?_ (if_neg (by rw [get_of hj, get_of h3]; exact fun h => hc (Option.some.inj h))).symm
        simp [S.laws_eqServerS.l6, h1, h2, get_of hj, get_of h3, w, sp]
    · simp [S.laws_eqServerS.l6]
    · simp [list_eq_iff hl]
      by_cases hx : xs = ys <;> simp [hx]
  · have : ¬ ((xs.length : Int) = ys.length) := by omega
    have hne : xs ≠ ys := fun h => hl (by rw [h])
    simp [this, hne]
abbrev rCellS : Rel (List ((Int × (Int × Int × Bool × Bool × Bool) × Int))) := RSl 7 (RFl (mCell true))
theorem goodCellS : Good 1 2 (mCellS true) rCellS := RSl.good (RFl.good (es := 7) (mk := (mCell true)) (fun _ => rfl) (fun _ => rfl))
def cCellS (xs : List ((Int × (Int × Int × Bool × Bool × Bool) × Int))) : Nat := cntL (fun x => 1 + 1 + 1 + 1 + 1 + 1 + 1) xs
noncomputable def kCellS (xs : List ((Int × (Int × Int × Bool × Bool × Bool) × Int))) (k : Nat) : List ((Int × (Int × Int × Bool × Bool × Bool) × Int)) := markL (fun x k => (((k : Nat) : Int), (((k + 1 : Nat) : Int), ((k + 1 + 1 : Nat) : Int), decide ((k + 1 + 1 + 1) % 3 = 0), decide ((k + 1 + 1 + 1 + 1) % 3 = 0), decide ((k + 1 + 1 + 1 + 1 + 1) % 3 = 0)), ((k + 1 + 1 + 1 + 1 + 1 + 1 : Nat) : Int))) (fun x => 1 + 1 + 1 + 1 + 1 + 1 + 1) xs k
theorem cCellS_le {xs : List ((Int × (Int × Int × Bool × Bool × Bool) × Int))} (h : okCellS xs) : cCellS xs ≤ 7340032 := cntL_bound (M := 1048576) (B := 7) (h) (fun x hx => by show _ ≤ _; omega)
theorem laws_heldCellS_spec (xs : List ((Int × (Int × Int × Bool × Bool × Bool) × Int))) (k : Nat) (hok : okCellS xs) (hk : k + cCellS xs ≤ 4611686018427387904) : NN fn.laws_heldCellS [(fzl true 7 (mCell true) (kCellS xs k)), .int .i64 (k : Int)] = some (.int .i64 ((k + cCellS xs : Nat) : Int)) := by
  have hlim : k + cntL (fun x => 1 + 1 + 1 + 1 + 1 + 1 + 1) xs ≤ 4611686018427387904 := hk
  have hlen : xs.length ≤ 1048576 := hok
  obtain ⟨ys, hys⟩ : ∃ ys, kCellS xs k = ys := ⟨_, rfl⟩
  have hl : ys.length = xs.length := by rw [← hys]; exact markL_len _ _
  have hg : ∀ j (hj : j < xs.length), ys[j]? = some (((((k + cntL (fun x => 1 + 1 + 1 + 1 + 1 + 1 + 1) (xs.take j)) : Nat) : Int), ((((k + cntL (fun x => 1 + 1 + 1 + 1 + 1 + 1 + 1) (xs.take j)) + 1 : Nat) : Int), (((k + cntL (fun x => 1 + 1 + 1 + 1 + 1 + 1 + 1) (xs.take j)) + 1 + 1 : Nat) : Int), decide (((k + cntL (fun x => 1 + 1 + 1 + 1 + 1 + 1 + 1) (xs.take j)) + 1 + 1 + 1) % 3 = 0), decide (((k + cntL (fun x => 1 + 1 + 1 + 1 + 1 + 1 + 1) (xs.take j)) + 1 + 1 + 1 + 1) % 3 = 0), decide (((k + cntL (fun x => 1 + 1 + 1 + 1 + 1 + 1 + 1) (xs.take j)) + 1 + 1 + 1 + 1 + 1) % 3 = 0)), (((k + cntL (fun x => 1 + 1 + 1 + 1 + 1 + 1 + 1) (xs.take j)) + 1 + 1 + 1 + 1 + 1 + 1 : Nat) : Int))) := fun j hj => by rw [← hys]; exact markL_get xs k j hj
  rw [hys]
  apply S.laws_heldCellS.gives (k := xs.length + 1)
  have key := loop_to (f := fun r j => fun (G : GX → GV → GV → Heap → Option GV) => S.laws_heldCellS.l5 (xs.length + 1) G r (fzl true 7 (mCell true) ys) (.int .i64 ((k + cntL (fun x => 1 + 1 + 1 + 1 + 1 + 1 + 1) (xs.take j) : Nat) : Int)) (.int .i64 0) (.int .i64 (j : Int)) []) (A := fun G => G (.ext 0) (.int .i64 ((k + cCellS xs : Nat) : Int)) (.int .i64 0) []) (n := xs.length) ?_ ?_ (xs.length + 1) 0 (by omega) (by omega)
  · have key' := fun G => congrFun key G
    simp only [List.take_zero, cntL, List.map_nil, List.sum_nil, Nat.add_zero, show ((0 : Nat) : Int) = 0 from rfl] at key'
    simp [S.laws_heldCellS.run, key', -Int.natCast_add]
  · intro j r hj
    have g1 : (j : Int) < (ys.length : Int) := by omega
    have kj := kadd1 (n := j) (by omega)
    have q1 := cntL_take (c := (fun x => 1 + 1 + 1 + 1 + 1 + 1 + 1)) hj
    have q2 := cntL_le (c := (fun x => 1 + 1 + 1 + 1 + 1 + 1 + 1)) (xs := xs) (j + 1)
    have hgj := hg j hj
    try simp only at q1
    rw [q1, ← Nat.add_assoc]
    obtain ⟨K, hK⟩ : ∃ K, k + cntL (fun x => 1 + 1 + 1 + 1 + 1 + 1 + 1) (xs.take j) = K := ⟨_, rfl⟩
    have hKb : K + (1 + 1 + 1 + 1 + 1 + 1 + 1) ≤ 4611686018427387904 := by omega
    rw [hK] at hgj ⊢
    have ka0 := kadd1 (n := K) (by omega)
    have ka1 := kadd1 (n := K + 1) (by omega)
    have ka2 := kadd1 (n := K + 1 + 1) (by omega)
    have ka3 := kadd1 (n := K + 1 + 1 + 1) (by omega)
    have kr3 := krem3 (n := K + 1 + 1 + 1)
    have ka4 := kadd1 (n := K + 1 + 1 + 1 + 1) (by omega)
    have kr4 := krem3 (n := K + 1 + 1 + 1 + 1)
    have ka5 := kadd1 (n := K + 1 + 1 + 1 + 1 + 1) (by omega)
    have kr5 := krem3 (n := K + 1 + 1 + 1 + 1 + 1)
    have ka6 := kadd1 (n := K + 1 + 1 + 1 + 1 + 1 + 1) (by omega)
    rw [show K + (1 + 1 + 1 + 1 + 1 + 1 + 1) = K + 1 + 1 + 1 + 1 + 1 + 1 + 1 from by omega]
    funext G
    simp only [S.laws_heldCellS.l5]
    simp [g1, hgj, kj, ka0, ka1, ka2, ka3, kr3, kdec3, ka4, kr4, kdec3, ka5, kr5, kdec3, ka6, -Int.natCast_add, -kbin_add]
    try rfl
  · intro r
    funext G
    have g1 : ¬ ((xs.length : Int) < (ys.length : Int)) := by omega
    simp only [S.laws_heldCellS.l5, List.take_length]
    simp [g1, -Int.natCast_add]
    try rfl
abbrev rServer : Rel ((List (ByteArray) × Int)) := (RSeq rStringS (RFl ci))
theorem goodServer : Good 2 2 (mServer true) rServer := (RSeq.good (goodStringS.mono (by omega)) ((RFl.good (es := 1) (mk := ci) (fun _ => rfl) (fun _ => rfl)).mono (by omega)))
def cServer (x : (List (ByteArray) × Int)) : Nat := cStringS x.1
theorem cServer_le {x : (List (ByteArray) × Int)} (h : okServer x) : cServer x ≤ 1048576 := by
  unfold okServer at h
  unfold cServer
  have := cStringS_le h
  omega
noncomputable def kServer (x : (List (ByteArray) × Int)) (k : Nat) : (List (ByteArray) × Int) := (kStringS x.1 (k), x.2)
abbrev rServerS : Rel (List ((List (ByteArray) × Int))) := RSl 2 rServer
theorem goodServerS : Good 1 3 (mServerS true) rServerS := RSl.good goodServer
def cServerS (xs : List ((List (ByteArray) × Int))) : Nat := cntL (fun x => (cStringS x.1) + 1) xs
noncomputable def kServerS (xs : List ((List (ByteArray) × Int))) (k : Nat) : List ((List (ByteArray) × Int)) := markL (fun x k => (kStringS x.1 (k), ((k + (cStringS x.1) : Nat) : Int))) (fun x => (cStringS x.1) + 1) xs k
theorem cServerS_le {xs : List ((List (ByteArray) × Int))} (h : okServerS xs) : cServerS xs ≤ 1099512676352 := cntL_bound (M := 1048576) (B := 1048577) (h.1) (fun x hx => by have := cStringS_le ((show okServer x from (h.2 x hx))); show _ ≤ _; omega)
theorem laws_heldServerS_spec (xs : List ((List (ByteArray) × Int))) (k : Nat) (hok : okServerS xs) (hk : k + cServerS xs ≤ 4611686018427387904) : NN fn.laws_heldServerS [(fzl true 2 (mServer true) (kServerS xs k)), .int .i64 (k : Int)] = some (.int .i64 ((k + cServerS xs : Nat) : Int)) := by
  have hlim : k + cntL (fun x => (cStringS x.1) + 1) xs ≤ 4611686018427387904 := hk
  have hlen : xs.length ≤ 1048576 := hok.1
  obtain ⟨ys, hys⟩ : ∃ ys, kServerS xs k = ys := ⟨_, rfl⟩
  have hl : ys.length = xs.length := by rw [← hys]; exact markL_len _ _
  have hg : ∀ j (hj : j < xs.length), ys[j]? = some ((kStringS xs[j].1 ((k + cntL (fun x => (cStringS x.1) + 1) (xs.take j))), (((k + cntL (fun x => (cStringS x.1) + 1) (xs.take j)) + (cStringS xs[j].1) : Nat) : Int))) := fun j hj => by rw [← hys]; exact markL_get xs k j hj
  rw [hys]
  apply S.laws_heldServerS.gives (k := xs.length + 1)
  have key := loop_to (f := fun r j => fun (G : GX → GV → GV → Heap → Option GV) => S.laws_heldServerS.l5 (xs.length + 1) G r (fzl true 2 (mServer true) ys) (.int .i64 ((k + cntL (fun x => (cStringS x.1) + 1) (xs.take j) : Nat) : Int)) (.int .i64 0) (.int .i64 (j : Int)) []) (A := fun G => G (.ext 0) (.int .i64 ((k + cServerS xs : Nat) : Int)) (.int .i64 0) []) (n := xs.length) ?_ ?_ (xs.length + 1) 0 (by omega) (by omega)
  · have key' := fun G => congrFun key G
    simp only [List.take_zero, cntL, List.map_nil, List.sum_nil, Nat.add_zero, show ((0 : Nat) : Int) = 0 from rfl] at key'
    simp [S.laws_heldServerS.run, key', -Int.natCast_add]
  · intro j r hj
    have g1 : (j : Int) < (ys.length : Int) := by omega
    have kj := kadd1 (n := j) (by omega)
    have q1 := cntL_take (c := (fun x => (cStringS x.1) + 1)) hj
    have q2 := cntL_le (c := (fun x => (cStringS x.1) + 1)) (xs := xs) (j + 1)
    have hgj := hg j hj
    try simp only at q1
    rw [q1, ← Nat.add_assoc]
    obtain ⟨K, hK⟩ : ∃ K, k + cntL (fun x => (cStringS x.1) + 1) (xs.take j) = K := ⟨_, rfl⟩
    have hKb : K + ((cStringS xs[j].1) + 1) ≤ 4611686018427387904 := by omega
    rw [hK] at hgj ⊢
    have s0 := laws_heldStringS_spec (xs[j].1) (K) ((show okServer xs[j] from (hok.2 _ (List.getElem_mem hj)))) (by omega)
    have z0 : ¬ (((K + (cStringS xs[j].1) : Nat) : Int) < 0) := by omega
    have ka1 := kadd1 (n := K + (cStringS xs[j].1)) (by omega)
    funext G
    simp only [S.laws_heldServerS.l5]
    simp [g1, hgj, kj, s0, z0, ka1, -Int.natCast_add, -kbin_add]
    try rfl
  · intro r
    funext G
    have g1 : ¬ ((xs.length : Int) < (ys.length : Int)) := by omega
    simp only [S.laws_heldServerS.l5, List.take_length]
    simp [g1, -Int.natCast_add]
    try rfl
theorem laws_markCellS_spec (h : Heap) (v : GV) (xs : List ((Int × (Int × Int × Bool × Bool × Bool) × Int))) (R : List Nat) (k : Nat) (hok : okCellS xs) (he : rCellS h [v] xs R) (nd : R.Nodup) (hk : k + cCellS xs ≤ 4611686018427387904) : ∃ h', HH fn.laws_markCellS [v, .int .i64 (k : Int)] h = some (.int .i64 ((k + cCellS xs : Nat) : Int), h') ∧ rCellS h' [v] (kCellS xs k) R ∧ Fr R h h' := by
  have hlim : k + cntL (fun x => 1 + 1 + 1 + 1 + 1 + 1 + 1) xs ≤ 4611686018427387904 := hk
  have hlen : xs.length ≤ 1048576 := hok
  have key := mark_loop (E := (RFl (mCell true))) (RFl.good (es := 7) (mk := (mCell true)) (fun _ => rfl) (fun _ => rfl)) (m := (fun x k => (((k : Nat) : Int), (((k + 1 : Nat) : Int), ((k + 1 + 1 : Nat) : Int), decide ((k + 1 + 1 + 1) % 3 = 0), decide ((k + 1 + 1 + 1 + 1) % 3 = 0), decide ((k + 1 + 1 + 1 + 1 + 1) % 3 = 0)), ((k + 1 + 1 + 1 + 1 + 1 + 1 : Nat) : Int)))) (c := (fun x => 1 + 1 + 1 + 1 + 1 + 1 + 1)) (v := v) (xs := xs) (R := R) (k := k) nd (f := fun r j k h => fun (G : GX → GV → GV → Heap → Option (GV × Heap)) => S.laws_markCellS.l5 (xs.length + 1) G r v (.int .i64 (k : Int)) (.int .i64 0) (.int .i64 (j : Int)) h) (A := fun k h => fun G => G (.ext 0) (.int .i64 (k : Int)) (.int .i64 0) h) ?_ ?_ he (xs.length + 1) (by omega)
  · obtain ⟨h', a1, a2, a3⟩ := key
    refine ⟨h', S.laws_markCellS.gives (k := xs.length + 1) ?_, a2, a3⟩
    have a1' := fun G => congrFun a1 G
    simp only [show ((0 : Nat) : Int) = 0 from rfl] at a1'
    simp [S.laws_markCellS.run, a1', -Int.natCast_add]
    rfl
  · intro j r h ys he hl hj hy
    obtain ⟨b, css, c, r0, hv, hb, fl, hcn, hc, fe, hE, hbr, hbR, hrR, nd0, hup⟩ := RSl.focus (RFl.good (es := 7) (mk := (mCell true)) (fun _ => rfl) (fun _ => rfl)) he nd (j := j) (by omega)
    have ey : ys[j]'(by omega) = xs[j] := by rw [List.getElem?_eq_getElem (by omega)] at hy; exact Option.some.inj hy
    rw [ey] at hE
    rw [hl] at hv hcn
    have hcl := fe c (List.mem_of_getElem? hc)
    have hb0 : h[b]? = some (css.set j c).flatten := by rw [set_get_self hc]; exact hb
    have q1 := cntL_take (c := (fun x => 1 + 1 + 1 + 1 + 1 + 1 + 1)) hj
    have q2 := cntL_le (c := (fun x => 1 + 1 + 1 + 1 + 1 + 1 + 1)) (xs := xs) (j + 1)
    try simp only at q1
    obtain ⟨K, hK⟩ : ∃ K, k + cntL (fun x => 1 + 1 + 1 + 1 + 1 + 1 + 1) (xs.take j) = K := ⟨_, rfl⟩
    have hKb : K + (1 + 1 + 1 + 1 + 1 + 1 + 1) ≤ 4611686018427387904 := by omega
    rw [hK]
    clear hK q1 q2
    have hm := (RSl.good (RFl.good (es := 7) (mk := (mCell true)) (fun _ => rfl) (fun _ => rfl))).mem he
    have hbl := (List.getElem?_eq_some_iff.1 hb).1
    have kj := kadd1 (n := j) (by omega)
    have k0 : kia 7 (.sl b 0 xs.length xs.length 7) (.int .i64 (j : Int)) = some (.ptr b (j * 7) (xs.length * 7)) := kia_at hj (by omega) (by omega)
    obtain ⟨rfl, rfl⟩ := hE
    obtain ⟨H1, m1, hb1, f1⟩ := st_leaf (es := 7) (off := 0) (x := (.int .i64 ((K : Nat) : Int))) (o := j * 7) (tot := xs.length * 7) hb0 fe hcn hj hcl (by omega) rfl rfl (by omega) (by omega)
    have g1 : Fr R h H1 := f1.sub (fun i hi => by rw [List.mem_singleton] at hi; rw [hi]; exact hbR)
    have ka0 := kadd1 (n := K) (by omega)
    have hcl1 : (((mCell true) xs[j]).set 0 (.int .i64 ((K : Nat) : Int))).length = 7 := by rw [List.length_set]; exact hcl
    obtain ⟨H2, m2, hb2, f2⟩ := st_leaf (es := 7) (off := 1) (x := (.int .i64 ((K + 1 : Nat) : Int))) (o := j * 7 + 1) (tot := xs.length * 7) hb1 fe hcn hj hcl1 (by omega) rfl rfl (by omega) (by omega)
    have g2 : Fr R H1 H2 := f2.sub (fun i hi => by rw [List.mem_singleton] at hi; rw [hi]; exact hbR)
    have ka1 := kadd1 (n := K + 1) (by omega)
    have hcl2 : ((((mCell true) xs[j]).set 0 (.int .i64 ((K : Nat) : Int))).set 1 (.int .i64 ((K + 1 : Nat) : Int))).length = 7 := by rw [List.length_set]; exact hcl1
    obtain ⟨H3, m3, hb3, f3⟩ := st_leaf (es := 7) (off := 2) (x := (.int .i64 ((K + 1 + 1 : Nat) : Int))) (o := j * 7 + 2) (tot := xs.length * 7) hb2 fe hcn hj hcl2 (by omega) rfl rfl (by omega) (by omega)
    have g3 : Fr R H2 H3 := f3.sub (fun i hi => by rw [List.mem_singleton] at hi; rw [hi]; exact hbR)
    have ka2 := kadd1 (n := K + 1 + 1) (by omega)
    have hcl3 : (((((mCell true) xs[j]).set 0 (.int .i64 ((K : Nat) : Int))).set 1 (.int .i64 ((K + 1 : Nat) : Int))).set 2 (.int .i64 ((K + 1 + 1 : Nat) : Int))).length = 7 := by rw [List.length_set]; exact hcl2
    obtain ⟨H4, m4, hb4, f4⟩ := st_leaf (es := 7) (off := 3) (x := (.bool (decide ((K + 1 + 1 + 1) % 3 = 0)))) (o := j * 7 + 3) (tot := xs.length * 7) hb3 fe hcn hj hcl3 (by omega) rfl rfl (by omega) (by omega)
    have g4 : Fr R H3 H4 := f4.sub (fun i hi => by rw [List.mem_singleton] at hi; rw [hi]; exact hbR)
    have ka3 := kadd1 (n := K + 1 + 1 + 1) (by omega)
    have kr3 := krem3 (n := K + 1 + 1 + 1)
    have hcl4 : ((((((mCell true) xs[j]).set 0 (.int .i64 ((K : Nat) : Int))).set 1 (.int .i64 ((K + 1 : Nat) : Int))).set 2 (.int .i64 ((K + 1 + 1 : Nat) : Int))).set 3 (.bool (decide ((K + 1 + 1 + 1) % 3 = 0)))).length = 7 := by rw [List.length_set]; exact hcl3
    obtain ⟨H5, m5, hb5, f5⟩ := st_leaf (es := 7) (off := 4) (x := (.bool (decide ((K + 1 + 1 + 1 + 1) % 3 = 0)))) (o := j * 7 + 4) (tot := xs.length * 7) hb4 fe hcn hj hcl4 (by omega) rfl rfl (by omega) (by omega)
    have g5 : Fr R H4 H5 := f5.sub (fun i hi => by rw [List.mem_singleton] at hi; rw [hi]; exact hbR)
    have ka4 := kadd1 (n := K + 1 + 1 + 1 + 1) (by omega)
    have kr4 := krem3 (n := K + 1 + 1 + 1 + 1)
    have hcl5 : (((((((mCell true) xs[j]).set 0 (.int .i64 ((K : Nat) : Int))).set 1 (.int .i64 ((K + 1 : Nat) : Int))).set 2 (.int .i64 ((K + 1 + 1 : Nat) : Int))).set 3 (.bool (decide ((K + 1 + 1 + 1) % 3 = 0)))).set 4 (.bool (decide ((K + 1 + 1 + 1 + 1) % 3 = 0)))).length = 7 := by rw [List.length_set]; exact hcl4
    obtain ⟨H6, m6, hb6, f6⟩ := st_leaf (es := 7) (off := 5) (x := (.bool (decide ((K + 1 + 1 + 1 + 1 + 1) % 3 = 0)))) (o := j * 7 + 5) (tot := xs.length * 7) hb5 fe hcn hj hcl5 (by omega) rfl rfl (by omega) (by omega)
    have g6 : Fr R H5 H6 := f6.sub (fun i hi => by rw [List.mem_singleton] at hi; rw [hi]; exact hbR)
    have ka5 := kadd1 (n := K + 1 + 1 + 1 + 1 + 1) (by omega)
    have kr5 := krem3 (n := K + 1 + 1 + 1 + 1 + 1)
    have hcl6 : ((((((((mCell true) xs[j]).set 0 (.int .i64 ((K : Nat) : Int))).set 1 (.int .i64 ((K + 1 : Nat) : Int))).set 2 (.int .i64 ((K + 1 + 1 : Nat) : Int))).set 3 (.bool (decide ((K + 1 + 1 + 1) % 3 = 0)))).set 4 (.bool (decide ((K + 1 + 1 + 1 + 1) % 3 = 0)))).set 5 (.bool (decide ((K + 1 + 1 + 1 + 1 + 1) % 3 = 0)))).length = 7 := by rw [List.length_set]; exact hcl5
    obtain ⟨H7, m7, hb7, f7⟩ := st_leaf (es := 7) (off := 6) (x := (.int .i64 ((K + 1 + 1 + 1 + 1 + 1 + 1 : Nat) : Int))) (o := j * 7 + 6) (tot := xs.length * 7) hb6 fe hcn hj hcl6 (by omega) rfl rfl (by omega) (by omega)
    have g7 : Fr R H6 H7 := f7.sub (fun i hi => by rw [List.mem_singleton] at hi; rw [hi]; exact hbR)
    have ka6 := kadd1 (n := K + 1 + 1 + 1 + 1 + 1 + 1) (by omega)
    have hcl7 : (((((((((mCell true) xs[j]).set 0 (.int .i64 ((K : Nat) : Int))).set 1 (.int .i64 ((K + 1 : Nat) : Int))).set 2 (.int .i64 ((K + 1 + 1 : Nat) : Int))).set 3 (.bool (decide ((K + 1 + 1 + 1) % 3 = 0)))).set 4 (.bool (decide ((K + 1 + 1 + 1 + 1) % 3 = 0)))).set 5 (.bool (decide ((K + 1 + 1 + 1 + 1 + 1) % 3 = 0)))).set 6 (.int .i64 ((K + 1 + 1 + 1 + 1 + 1 + 1 : Nat) : Int))).length = 7 := by rw [List.length_set]; exact hcl6
    refine ⟨H7, ?_, hup H7 (((((((((mCell true) xs[j]).set 0 (.int .i64 ((K : Nat) : Int))).set 1 (.int .i64 ((K + 1 : Nat) : Int))).set 2 (.int .i64 ((K + 1 + 1 : Nat) : Int))).set 3 (.bool (decide ((K + 1 + 1 + 1) % 3 = 0)))).set 4 (.bool (decide ((K + 1 + 1 + 1 + 1) % 3 = 0)))).set 5 (.bool (decide ((K + 1 + 1 + 1 + 1 + 1) % 3 = 0)))).set 6 (.int .i64 ((K + 1 + 1 + 1 + 1 + 1 + 1 : Nat) : Int))) _ hb7 ⟨rfl, rfl⟩ (fun i hi hib hir => ?_), ((((((g1.trans g2).trans g3).trans g4).trans g5).trans g6).trans g7)⟩
    · funext G
      simp only [S.laws_markCellS.l5, S.laws_markCellS.n8, S.laws_markCellS.n13, S.laws_markCellS.n12, S.laws_markCellS.n11, S.laws_markCellS.n10, S.laws_markCellS.n9, S.laws_markCellS.n7, S.laws_markCellS.n6, hv, klen_sl, klt, decide_eq_true hj, kcond_bool, cond_true, kx_nrm, kb_nrm, Option.bind_some, kr_mk, kfa_ptr, kj, Nat.add_zero, kN_eq, bors_cons, bors_nil, bor_int, k0, m1, ka0, m2, ka1, m3, ka2, m4, ka3, kr3, keq0, m5, ka4, kr4, keq0, m6, ka5, kr5, keq0, m7, ka6]
      try rfl
    · exact (((((((f7.2 i (by have := hm i hi; have := f1.1; have := f2.1; have := f3.1; have := f4.1; have := f5.1; have := f6.1; omega) (by simpa using hib)).trans (f6.2 i (by have := hm i hi; have := f1.1; have := f2.1; have := f3.1; have := f4.1; have := f5.1; omega) (by simpa using hib))).trans (f5.2 i (by have := hm i hi; have := f1.1; have := f2.1; have := f3.1; have := f4.1; omega) (by simpa using hib))).trans (f4.2 i (by have := hm i hi; have := f1.1; have := f2.1; have := f3.1; omega) (by simpa using hib))).trans (f3.2 i (by have := hm i hi; have := f1.1; have := f2.1; omega) (by simpa using hib))).trans (f2.2 i (by have := hm i hi; have := f1.1; omega) (by simpa using hib))).trans (f1.2 i (hm i hi) (by simpa using hib)))
  · intro r h ys he hl
    have e1 := he.len
    rw [hl] at e1
    funext G
    simp only [S.laws_markCellS.l5, S.laws_markCellS.n6, S.laws_markCellS.n7, S.laws_markCellS.n8, S.laws_markCellS.n9, S.laws_markCellS.n10, e1, klt, Nat.lt_irrefl, decide_false, kcond_bool, cond_false, Option.bind_some, kx_ext, kb_ext]
    try rfl
theorem laws_markServerS_spec (h : Heap) (v : GV) (xs : List ((List (ByteArray) × Int))) (R : List Nat) (k : Nat) (hok : okServerS xs) (he : rServerS h [v] xs R) (nd : R.Nodup) (hk : k + cServerS xs ≤ 4611686018427387904) : ∃ h', HH fn.laws_markServerS [v, .int .i64 (k : Int)] h = some (.int .i64 ((k + cServerS xs : Nat) : Int), h') ∧ rServerS h' [v] (kServerS xs k) R ∧ Fr R h h' := by
  have hlim : k + cntL (fun x => (cStringS x.1) + 1) xs ≤ 4611686018427387904 := hk
  have hlen : xs.length ≤ 1048576 := hok.1
  have key := mark_loop (E := rServer) goodServer (m := (fun x k => (kStringS x.1 (k), ((k + (cStringS x.1) : Nat) : Int)))) (c := (fun x => (cStringS x.1) + 1)) (v := v) (xs := xs) (R := R) (k := k) nd (f := fun r j k h => fun (G : GX → GV → GV → Heap → Option (GV × Heap)) => S.laws_markServerS.l5 (xs.length + 1) G r v (.int .i64 (k : Int)) (.int .i64 0) (.int .i64 (j : Int)) h) (A := fun k h => fun G => G (.ext 0) (.int .i64 (k : Int)) (.int .i64 0) h) ?_ ?_ he (xs.length + 1) (by omega)
  · obtain ⟨h', a1, a2, a3⟩ := key
    refine ⟨h', S.laws_markServerS.gives (k := xs.length + 1) ?_, a2, a3⟩
    have a1' := fun G => congrFun a1 G
    simp only [show ((0 : Nat) : Int) = 0 from rfl] at a1'
    simp [S.laws_markServerS.run, a1', -Int.natCast_add]
    rfl
  · intro j r h ys he hl hj hy
    obtain ⟨b, css, c, r0, hv, hb, fl, hcn, hc, fe, hE, hbr, hbR, hrR, nd0, hup⟩ := RSl.focus goodServer he nd (j := j) (by omega)
    have ey : ys[j]'(by omega) = xs[j] := by rw [List.getElem?_eq_getElem (by omega)] at hy; exact Option.some.inj hy
    rw [ey] at hE
    rw [hl] at hv hcn
    have hcl := fe c (List.mem_of_getElem? hc)
    have hb0 : h[b]? = some (css.set j c).flatten := by rw [set_get_self hc]; exact hb
    have q1 := cntL_take (c := (fun x => (cStringS x.1) + 1)) hj
    have q2 := cntL_le (c := (fun x => (cStringS x.1) + 1)) (xs := xs) (j + 1)
    try simp only at q1
    obtain ⟨K, hK⟩ : ∃ K, k + cntL (fun x => (cStringS x.1) + 1) (xs.take j) = K := ⟨_, rfl⟩
    have hKb : K + ((cStringS xs[j].1) + 1) ≤ 4611686018427387904 := by omega
    rw [hK]
    clear hK q1 q2
    have hm := (RSl.good goodServer).mem he
    have hbl := (List.getElem?_eq_some_iff.1 hb).1
    have kj := kadd1 (n := j) (by omega)
    have k0 : kia 2 (.sl b 0 xs.length xs.length 2) (.int .i64 (j : Int)) = some (.ptr b (j * 2) (xs.length * 2)) := kia_at hj (by omega) (by omega)
    obtain ⟨c0, d0, R0, S0, rfl, rfl, E0, F0⟩ := hE
    have E1 := F0
    obtain ⟨rfl, rfl⟩ := E1
    obtain ⟨w0, rfl⟩ : ∃ w, c0 = [w] := List.length_eq_one_iff.1 (goodStringS.len E0)
    have l0 : kload1 h (.ptr b (j * 2) (xs.length * 2)) = some w0 := by rw [ld_leaf (es := 2) (off := 0) hb0 fe hcn hj hcl (by omega) (by omega) (by omega)]; rfl
    have nd1 : R0.Nodup := by simpa using nd0
    obtain ⟨H1, m1, x1, f1⟩ := laws_markStringS_spec h w0 (xs[j].1) R0 (K) ((show okServer xs[j] from (hok.2 _ (List.getElem_mem hj)))) E0 nd1 (by omega)
    have hb1 : H1[b]? = some (css.set j ([w0] ++ (ci xs[j].2))).flatten := by rw [f1.2 b hbl (by simpa using hbr)]; exact hb0
    have g1 : Fr R h H1 := f1.sub (fun i hi => hrR i (by simpa using hi))
    obtain ⟨H2, m2, hb2, f2⟩ := st_leaf (es := 2) (off := 1) (x := (.int .i64 ((K + (cStringS xs[j].1) : Nat) : Int))) (o := j * 2 + 1) (tot := xs.length * 2) hb1 fe hcn hj hcl (by omega) rfl rfl (by omega) (by omega)
    have g2 : Fr R H1 H2 := f2.sub (fun i hi => by rw [List.mem_singleton] at hi; rw [hi]; exact hbR)
    have ka1 := kadd1 (n := K + (cStringS xs[j].1)) (by omega)
    have y1_0 := goodStringS.keep x1 f2 (fun i hi hb => hbr (by rw [List.mem_singleton] at hb; rw [← hb]; simpa using hi))
    have hcl2 : (([w0] ++ (ci xs[j].2)).set 1 (.int .i64 ((K + (cStringS xs[j].1) : Nat) : Int))).length = 2 := by rw [List.length_set]; exact hcl
    refine ⟨H2, ?_, hup H2 (([w0] ++ (ci xs[j].2)).set 1 (.int .i64 ((K + (cStringS xs[j].1) : Nat) : Int))) _ hb2 ⟨_, _, _, _, rfl, rfl, y1_0, ⟨rfl, rfl⟩⟩ (fun i hi hib hir => ?_), (g1.trans g2)⟩
    · funext G
      simp only [S.laws_markServerS.l5, S.laws_markServerS.n8, S.laws_markServerS.n10, S.laws_markServerS.n9, S.laws_markServerS.n7, S.laws_markServerS.n6, hv, klen_sl, klt, decide_eq_true hj, kcond_bool, cond_true, kx_nrm, kb_nrm, Option.bind_some, kr_mk, kfa_ptr, kj, Nat.add_zero, kN_eq, bors_cons, bors_nil, bor_int, k0, l0, m1, m2, ka1]
      try rfl
    · exact ((f2.2 i (by have := hm i hi; have := f1.1; omega) (by simpa using hib)).trans (f1.2 i (hm i hi) (by simpa using hir)))
  · intro r h ys he hl
    have e1 := he.len
    rw [hl] at e1
    funext G
    simp only [S.laws_markServerS.l5, S.laws_markServerS.n6, S.laws_markServerS.n7, S.laws_markServerS.n8, S.laws_markServerS.n9, S.laws_markServerS.n10, e1, klt, Nat.lt_irrefl, decide_false, kcond_bool, cond_false, Option.bind_some, kx_ext, kb_ext]
    try rfl
theorem laws_szCellS_spec (xs : List ((Int × (Int × Int × Bool × Bool × Bool) × Int))) (left : Int) (hm : xs.length ≤ maxLen) (hl : 0 ≤ left) (hl' : left ≤ 1048576) : NN fn.laws_szCellS [fzl true 7 (mCell true) xs, .int .i64 left] = some (.int .i64 (if left < (zCellS xs : Int) then -1 else left - zCellS xs)) := by
  apply S.laws_szCellS.gives (k := 0)
  have w := wrap_sub hl hl' hm
  simp [S.laws_szCellS.run, w]
  by_cases h : left < xs.length
  · have : left - xs.length < 0 := by omega
    simp [h, this]
  · have : ¬ (left - xs.length < 0) := by omega
    simp [h, this]
theorem laws_toCellS_spec (xs : List ((Int × (Int × Int × Bool × Bool × Bool) × Int))) (hm : okCellS xs) (b : Nat) : ∃ v bl, OO fn.laws_toCellS [fzl true 7 (mCell true) xs] b = some (v, bl) ∧ ∀ H T, H.length = b → rCellS (H ++ bl ++ T) [v] xs (List.range' b bl.length) := by
  have hm' : xs.length ≤ 1048576 := hm
  have hk := kmake_eq (z := [(.int .i64 0), (.int .i64 0), (.int .i64 0), (.bool false), (.bool false), (.bool false), (.int .i64 0)]) (es := 7) (b := 40) (h := []) hm' (by omega) rfl
  have key := fill_loop (E := (RFl (mCell true))) (RFl.good (es := 7) (mk := (mCell true)) (fun _ => rfl) (fun _ => rfl)) (z := [(.int .i64 0), (.int .i64 0), (.int .i64 0), (.bool false), (.bool false), (.bool false), (.int .i64 0)]) rfl (xs := xs) (f := fun r j h => fun (G : GX → GV → GV → Heap → Option (GV × List (List GV))) => S.laws_toCellS.l6 (xs.length + 1) G r (fzl true 7 (mCell true) xs) .nils (.sl 0 0 xs.length xs.length 7) (.int .i64 (j : Int)) h) (A := fun h => fun G => G (.ext 0) .nils (.sl 0 0 xs.length xs.length 7) h) ?_ ?_ (xs.length + 1) (by omega)
  · obtain ⟨css, B, Rs, a1, a2, a3⟩ := key
    have he : rCellS (css.flatten :: B) [.sl 0 0 xs.length xs.length 7] xs (List.range' 0 (B.length + 1)) := Or.inr ⟨0, css, Rs, rfl, rfl, a2, by rw [a3, List.range'_succ]⟩
    obtain ⟨v, bl, f1, f2⟩ := goodCellS.fin (by omega) he List.nodup_range' b
    refine ⟨v, bl, S.laws_toCellS.gives (k := xs.length + 1) ?_, f2⟩
    have a1' := fun G => congrFun a1 G
    simp only [show ((0 : Nat) : Int) = 0 from rfl] at a1'
    simp [S.laws_toCellS.run, hk, a1', f1]
  · intro j r cells B hj hcl
    have g1 : (j : Int) < xs.length := by omega
    have w := wrap_succ (n := j) (by simp only [maxLen]; omega)
    have hj' : j * 7 + 7 ≤ xs.length * 7 := by omega
    have hj2 : j + 1 ≤ xs.length := hj
    refine ⟨(mCell true) xs[j], [], rfl, fun H T _ => ⟨rfl, rfl⟩, funext fun G => ?_⟩
    simp only [S.laws_toCellS.l6]
    simp [g1, get_of hj, hj, hj', hj2, w, hcl, laws_toCell_spec xs[j].1 xs[j].2.1.1 xs[j].2.1.2.1 xs[j].2.1.2.2.1 xs[j].2.1.2.2.2.1 xs[j].2.1.2.2.2.2 xs[j].2.2 trivial, -splice]
  · intro r h
    funext G
    simp [S.laws_toCellS.l6]

/-! CellSS -/
abbrev mCellSS (t : Bool) (a : List (List ((Int × (Int × Int × Bool × Bool × Bool) × Int)))) : List GV := [fzl t 1 (mCellS t) a]
def zCellSS (a : List (List ((Int × (Int × Int × Bool × Bool × Bool) × Int)))) : Nat := a.length + (a.map fun x => zCellS x).sum
def okCellSS (a : List (List ((Int × (Int × Int × Bool × Bool × Bool) × Int)))) : Prop := a.length ≤ 1048576 ∧ ∀ x ∈ a, okCellS x
theorem okCellSS_of {a : List (List ((Int × (Int × Int × Bool × Bool × Bool) × Int)))} (h : zCellSS a ≤ 1048576) : okCellSS a := by
  unfold zCellSS at h
  refine ⟨by omega, fun x hx => ?_⟩
  have : zCellS x ≤ _ := sum_mem (c := fun x => zCellS x) hx
  show zCellS x ≤ _
  omega
@[simp] theorem kload1_CellSS {h : Heap} {t : Bool} {xs : List (List (List ((Int × (Int × Int × Bool × Bool × Bool) × Int))))} {j : Nat} : kload1 h (elp t (mCellSS t) xs j) = xs[j]?.map fun a => fzl t 1 (mCellS t) a := kload1_elp _ (fun _ => rfl)
@[simp] theorem kia_CellSS {t : Bool} {xs : List (List (List ((Int × (Int × Int × Bool × Bool × Bool) × Int))))} {k : IntKind} {i : Int} : kia 1 (fzl t 1 (mCellSS t) xs) (.int k i) = if 0 ≤ i ∧ i < xs.length then some (elp t (mCellSS t) xs i.toNat) else none := kia_fzl (es := 1) (fun _ => rfl)
theorem ld_CellSS {d : Nat} {t : Bool} (a : List (List ((Int × (Int × Int × Bool × Bool × Bool) × Int)))) : (mCellSS t a).map (lend (d + 2)) = mCellSS true a := map_cons' (lend_fzl (d := d + 1) (mk := (mCellS t)) (mk' := (mCellS true)) (fun a => ld_CellS (d := d) a) a) (rfl)
@[simp] theorem bor_CellSS {d : Nat} {h : Heap} {t : Bool} {xs : List (List (List ((Int × (Int × Int × Bool × Bool × Bool) × Int))))} : bor (d + 4) h (fzl t 1 (mCellSS t) xs) = some (fzl true 1 (mCellSS true) xs, []) := bor_fzl (d := d + 3) (fun a => ld_CellSS (d := d + 1) a) xs
open Classical in
theorem laws_eqCellSS_spec (xs ys : List (List ((Int × (Int × Int × Bool × Bool × Bool) × Int)))) (hm : okCellSS xs) : NN fn.laws_eqCellSS [fzl true 1 (mCellS true) xs, fzl true 1 (mCellS true) ys] = some (.bool (decide (xs = ys))) := by
  apply S.laws_eqCellSS.gives (k := xs.length + 1)
  have hm' : xs.length ≤ 1048576 := hm.1
  simp [S.laws_eqCellSS.run]
  by_cases hl : xs.length = ys.length
  · have hi : (xs.length : Int) = ys.length := by omega
    simp [hi]
    refine (loop_all (f := fun r j => S.laws_eqCellSS.l6 _ _ r _ _ _ (.int .i64 (j : Int)) _) (A := some (GV.bool true)) (B := some (GV.bool false)) (n := xs.length) (P := fun j => xs[j]? = ys[j]?) (fun j r hj => ?_) (fun r => ?_) (xs.length + 1) 0 (by omega) (by omega)).trans ?_
    · have h1 : (j : Int) < xs.length := by omega
      have h2 : (j : Int) < ys.length := by omega
      have h3 : j < ys.length := by omega
      have w := wrap_succ (n := j) (by simp only [maxLen]; omega)
      have sp := laws_eqCellS_spec xs[j] ys[j] (hm.2 _ (List.getElem_mem hj))
      by_cases hc : xs[j] = ys[j]
      · have e1 : xs[j] = ys[j] := hc
        rw [decide_eq_true e1] at sp
        refine Eq.trans ?_ (if_pos (by rw [get_of hj, get_of h3, hc])).symm
        simp [S.laws_eqCellSS.l6, h1, h2, get_of hj, get_of h3, w, sp]
      · have e1 : ¬ (xs[j] = ys[j]) := hc
        rw [decide_eq_false e1] at sp
        refine Eq.trans ?_ (if_neg (by rw [get_of hj, get_of h3]; exact fun h => hc (Option.some.inj h))).symm
        simp [S.laws_eqCellSS.l6, h1, h2, get_of hj, get_of h3, w, sp]
    · simp [S.laws_eqCellSS.l6]
    · simp [list_eq_iff hl]
      by_cases hx : xs = ys <;> simp [hx]
  · have : ¬ ((xs.length : Int) = ys.length) := by omega
    have hne : xs ≠ ys := fun h => hl (by rw [h])
    simp [this, hne]

/-! Chain -/
abbrev mChain (t : Bool) (a : (List ((List (ByteArray) × Int)) × List (List (ByteArray)) × List (List (Int)))) : List GV := [fzl t 2 (mServer t) a.1, fzl t 1 (mStringS t) a.2.1, fzl t 1 (mInt64S t) a.2.2]
def zChain (a : (List ((List (ByteArray) × Int)) × List (List (ByteArray)) × List (List (Int)))) : Nat := zServerS a.1 + zStringSS a.2.1 + zInt64SS a.2.2
def okChain (a : (List ((List (ByteArray) × Int)) × List (List (ByteArray)) × List (List (Int)))) : Prop := okServerS a.1 ∧ okStringSS a.2.1 ∧ okInt64SS a.2.2
theorem okChain_of {a : (List ((List (ByteArray) × Int)) × List (List (ByteArray)) × List (List (Int)))} (h : zChain a ≤ 1048576) : okChain a := by
  unfold zChain at h
  exact ⟨okServerS_of (by omega), okStringSS_of (by omega), okInt64SS_of (by omega)⟩
@[simp] theorem kloadA_Chain {h : Heap} {t : Bool} {xs : List (List ((List (ByteArray) × Int)) × List (List (ByteArray)) × List (List (Int)))} {j : Nat} : kloadA 3 h (elp t (mChain t) xs j) = xs[j]?.map fun a => .agg (mChain t a) := kloadA_elp (mk := mChain t) (es := 3) (fun _ => rfl) (by omega)
@[simp] theorem kload1_Chain_0 {h : Heap} {t : Bool} {xs : List ((List ((List (ByteArray) × Int)) × List (List (ByteArray)) × List (List (Int))))} {j : Nat} : kload1 h (elf t (mChain t) xs j 0) = xs[j]?.bind fun a => (mChain t a)[0]? := kload1_elf (mk := mChain t) (es := 3) (fun _ => rfl) (by omega)
@[simp] theorem kload1_Chain_1 {h : Heap} {t : Bool} {xs : List ((List ((List (ByteArray) × Int)) × List (List (ByteArray)) × List (List (Int))))} {j : Nat} : kload1 h (elf t (mChain t) xs j 1) = xs[j]?.bind fun a => (mChain t a)[1]? := kload1_elf (mk := mChain t) (es := 3) (fun _ => rfl) (by omega)
@[simp] theorem kload1_Chain_2 {h : Heap} {t : Bool} {xs : List ((List ((List (ByteArray) × Int)) × List (List (ByteArray)) × List (List (Int))))} {j : Nat} : kload1 h (elf t (mChain t) xs j 2) = xs[j]?.bind fun a => (mChain t a)[2]? := kload1_elf (mk := mChain t) (es := 3) (fun _ => rfl) (by omega)
@[simp] theorem kia_Chain {t : Bool} {xs : List ((List ((List (ByteArray) × Int)) × List (List (ByteArray)) × List (List (Int))))} {k : IntKind} {i : Int} : kia 3 (fzl t 3 (mChain t) xs) (.int k i) = if 0 ≤ i ∧ i < xs.length then some (elp t (mChain t) xs i.toNat) else none := kia_fzl (es := 3) (fun _ => rfl)
theorem ld_Chain {d : Nat} {t : Bool} (a : (List ((List (ByteArray) × Int)) × List (List (ByteArray)) × List (List (Int)))) : (mChain t a).map (lend (d + 2)) = mChain true a := map_cons' (lend_fzl (d := d + 1) (mk := (mServer t)) (mk' := (mServer true)) (fun a => ld_Server (d := d) a) a.1) (map_cons' (lend_fzl (d := d + 1) (mk := (mStringS t)) (mk' := (mStringS true)) (fun a => ld_StringS (d := d) a) a.2.1) (map_cons' (lend_fzl (d := d + 1) (mk := (mInt64S t)) (mk' := (mInt64S true)) (fun a => ld_Int64S (d := d) a) a.2.2) (rfl)))
@[simp] theorem bor_Chain {d : Nat} {h : Heap} {t : Bool} {xs : List ((List ((List (ByteArray) × Int)) × List (List (ByteArray)) × List (List (Int))))} : bor (d + 4) h (fzl t 3 (mChain t) xs) = some (fzl true 3 (mChain true) xs, []) := bor_fzl (d := d + 3) (fun a => ld_Chain (d := d + 1) a) xs
open Classical in
theorem laws_eqChain_spec (a_1 b_1 : List ((List (ByteArray) × Int))) (a_2 b_2 : List (List (ByteArray))) (a_3 b_3 : List (List (Int))) (hm : okChain (a_1, a_2, a_3)) : NN fn.laws_eqChain [.agg [fzl true 2 (mServer true) a_1, fzl true 1 (mStringS true) a_2, fzl true 1 (mInt64S true) a_3], .agg [fzl true 2 (mServer true) b_1, fzl true 1 (mStringS true) b_2, fzl true 1 (mInt64S true) b_3]] = some (.bool (decide ((a_1, a_2, a_3) = (b_1, b_2, b_3)))) := by
  apply S.laws_eqChain.gives (k := 0)
  unfold okChain at hm
  have s0 := laws_eqServerS_spec a_1 b_1 hm.1
  by_cases c0 : a_1 = b_1
  rotate_left
  · have e : ¬ ((a_1, a_2, a_3) = (b_1, b_2, b_3)) := fun e => c0 (by simp only [Prod.mk.injEq] at e ⊢; simp [e])
    rw [decide_eq_false e]
    rw [decide_eq_false c0] at s0
    simp [S.laws_eqChain.run, s0]
  rw [decide_eq_true c0] at s0
  have s1 := laws_eqStringSS_spec a_2 b_2 hm.2.1
  by_cases c1 : a_2 = b_2
  rotate_left
  · have e : ¬ ((a_1, a_2, a_3) = (b_1, b_2, b_3)) := fun e => c1 (by simp only [Prod.mk.injEq] at e ⊢; simp [e])
    rw [decide_eq_false e]
    rw [decide_eq_false c1] at s1
    simp [S.laws_eqChain.run, s0, s1]
  rw [decide_eq_true c1] at s1
  have s2 := laws_eqInt64SS_spec a_3 b_3 hm.2.2
  by_cases c2 : a_3 = b_3
  rotate_left
  · have e : ¬ ((a_1, a_2, a_3) = (b_1, b_2, b_3)) := fun e => c2 (by simp only [Prod.mk.injEq] at e ⊢; simp [e])
    rw [decide_eq_false e]
    rw [decide_eq_false c2] at s2
    simp [S.laws_eqChain.run, s0, s1, s2]
  rw [decide_eq_true c2] at s2
  have e : (a_1, a_2, a_3) = (b_1, b_2, b_3) := by rw [c0, c1, c2]
  rw [decide_eq_true e]
  simp [S.laws_eqChain.run, s0, s1, s2]
abbrev rCellSS : Rel (List (List ((Int × (Int × Int × Bool × Bool × Bool) × Int)))) := RSl 1 rCellS
theorem goodCellSS : Good 1 3 (mCellSS true) rCellSS := RSl.good goodCellS
def cCellSS (xs : List (List ((Int × (Int × Int × Bool × Bool × Bool) × Int)))) : Nat := cntL (fun x => (cCellS x)) xs
noncomputable def kCellSS (xs : List (List ((Int × (Int × Int × Bool × Bool × Bool) × Int)))) (k : Nat) : List (List ((Int × (Int × Int × Bool × Bool × Bool) × Int))) := markL (fun x k => kCellS x (k)) (fun x => (cCellS x)) xs k
theorem cCellSS_le {xs : List (List ((Int × (Int × Int × Bool × Bool × Bool) × Int)))} (h : okCellSS xs) : cCellSS xs ≤ 7696581394432 := cntL_bound (M := 1048576) (B := 7340032) (h.1) (fun x hx => by have := cCellS_le (h.2 x hx); show _ ≤ _; omega)
theorem laws_heldCellSS_spec (xs : List (List ((Int × (Int × Int × Bool × Bool × Bool) × Int)))) (k : Nat) (hok : okCellSS xs) (hk : k + cCellSS xs ≤ 4611686018427387904) : NN fn.laws_heldCellSS [(fzl true 1 (mCellS true) (kCellSS xs k)), .int .i64 (k : Int)] = some (.int .i64 ((k + cCellSS xs : Nat) : Int)) := by
  have hlim : k + cntL (fun x => (cCellS x)) xs ≤ 4611686018427387904 := hk
  have hlen : xs.length ≤ 1048576 := hok.1
  obtain ⟨ys, hys⟩ : ∃ ys, kCellSS xs k = ys := ⟨_, rfl⟩
  have hl : ys.length = xs.length := by rw [← hys]; exact markL_len _ _
  have hg : ∀ j (hj : j < xs.length), ys[j]? = some (kCellS xs[j] ((k + cntL (fun x => (cCellS x)) (xs.take j)))) := fun j hj => by rw [← hys]; exact markL_get xs k j hj
  rw [hys]
  apply S.laws_heldCellSS.gives (k := xs.length + 1)
  have key := loop_to (f := fun r j => fun (G : GX → GV → GV → Heap → Option GV) => S.laws_heldCellSS.l5 (xs.length + 1) G r (fzl true 1 (mCellS true) ys) (.int .i64 ((k + cntL (fun x => (cCellS x)) (xs.take j) : Nat) : Int)) (.int .i64 0) (.int .i64 (j : Int)) []) (A := fun G => G (.ext 0) (.int .i64 ((k + cCellSS xs : Nat) : Int)) (.int .i64 0) []) (n := xs.length) ?_ ?_ (xs.length + 1) 0 (by omega) (by omega)
  · have key' := fun G => congrFun key G
    simp only [List.take_zero, cntL, List.map_nil, List.sum_nil, Nat.add_zero, show ((0 : Nat) : Int) = 0 from rfl] at key'
    simp [S.laws_heldCellSS.run, key', -Int.natCast_add]
  · intro j r hj
    have g1 : (j : Int) < (ys.length : Int) := by omega
    have kj := kadd1 (n := j) (by omega)
    have q1 := cntL_take (c := (fun x => (cCellS x))) hj
    have q2 := cntL_le (c := (fun x => (cCellS x))) (xs := xs) (j + 1)
    have hgj := hg j hj
    try simp only at q1
    rw [q1, ← Nat.add_assoc]
    obtain ⟨K, hK⟩ : ∃ K, k + cntL (fun x => (cCellS x)) (xs.take j) = K := ⟨_, rfl⟩
    have hKb : K + ((cCellS xs[j])) ≤ 4611686018427387904 := by omega
    rw [hK] at hgj ⊢
    have s0 := laws_heldCellS_spec (xs[j]) (K) (hok.2 _ (List.getElem_mem hj)) (by omega)
    have z0 : ¬ (((K + (cCellS xs[j]) : Nat) : Int) < 0) := by omega
    funext G
    simp only [S.laws_heldCellSS.l5]
    simp [g1, hgj, kj, s0, z0, -Int.natCast_add, -kbin_add]
    try rfl
  · intro r
    funext G
    have g1 : ¬ ((xs.length : Int) < (ys.length : Int)) := by omega
    simp only [S.laws_heldCellSS.l5, List.take_length]
    simp [g1, -Int.natCast_add]
    try rfl
abbrev rChain : Rel ((List ((List (ByteArray) × Int)) × List (List (ByteArray)) × List (List (Int)))) := (RSeq rServerS (RSeq rStringSS rInt64SS))
theorem goodChain : Good 3 3 (mChain true) rChain := (RSeq.good (goodServerS.mono (by omega)) (RSeq.good (goodStringSS.mono (by omega)) (goodInt64SS.mono (by omega))))
def cChain (x : (List ((List (ByteArray) × Int)) × List (List (ByteArray)) × List (List (Int)))) : Nat := cServerS x.1 + cStringSS x.2.1 + cInt64SS x.2.2
theorem cChain_le {x : (List ((List (ByteArray) × Int)) × List (List (ByteArray)) × List (List (Int)))} (h : okChain x) : cChain x ≤ 3298535931904 := by
  unfold okChain at h
  unfold cChain
  have := cServerS_le h.1
  have := cStringSS_le h.2.1
  have := cInt64SS_le h.2.2
  omega
noncomputable def kChain (x : (List ((List (ByteArray) × Int)) × List (List (ByteArray)) × List (List (Int)))) (k : Nat) : (List ((List (ByteArray) × Int)) × List (List (ByteArray)) × List (List (Int))) := (kServerS x.1 (k), kStringSS x.2.1 (k + cServerS x.1), kInt64SS x.2.2 (k + cServerS x.1 + cStringSS x.2.1))
theorem laws_heldChain_spec (x : (List ((List (ByteArray) × Int)) × List (List (ByteArray)) × List (List (Int)))) (k : Nat) (hok : okChain x) (hk : k + cChain x ≤ 4611686018427387904) : NN fn.laws_heldChain [.agg (mChain true (kChain x k)), .int .i64 (k : Int)] = some (.int .i64 ((k + cChain x : Nat) : Int)) := by
  unfold okChain at hok
  unfold cChain at hk
  apply S.laws_heldChain.gives (k := 0)
  have s0 := laws_heldServerS_spec x.1 (k) hok.1 (by omega)
  have z0 : ¬ (((k + cServerS x.1 : Nat) : Int) < 0) := by omega
  have s1 := laws_heldStringSS_spec x.2.1 (k + cServerS x.1) hok.2.1 (by omega)
  have z1 : ¬ (((k + cServerS x.1 + cStringSS x.2.1 : Nat) : Int) < 0) := by omega
  have s2 := laws_heldInt64SS_spec x.2.2 (k + cServerS x.1 + cStringSS x.2.1) hok.2.2 (by omega)
  have z2 : ¬ (((k + cServerS x.1 + cStringSS x.2.1 + cInt64SS x.2.2 : Nat) : Int) < 0) := by omega
  simp only [kChain, cChain, ← Nat.add_assoc]
  simp [S.laws_heldChain.run, s0, z0, s1, z1, s2, z2, -Int.natCast_add]
theorem laws_markCellSS_spec (h : Heap) (v : GV) (xs : List (List ((Int × (Int × Int × Bool × Bool × Bool) × Int)))) (R : List Nat) (k : Nat) (hok : okCellSS xs) (he : rCellSS h [v] xs R) (nd : R.Nodup) (hk : k + cCellSS xs ≤ 4611686018427387904) : ∃ h', HH fn.laws_markCellSS [v, .int .i64 (k : Int)] h = some (.int .i64 ((k + cCellSS xs : Nat) : Int), h') ∧ rCellSS h' [v] (kCellSS xs k) R ∧ Fr R h h' := by
  have hlim : k + cntL (fun x => (cCellS x)) xs ≤ 4611686018427387904 := hk
  have hlen : xs.length ≤ 1048576 := hok.1
  have key := mark_loop (E := rCellS) goodCellS (m := (fun x k => kCellS x (k))) (c := (fun x => (cCellS x))) (v := v) (xs := xs) (R := R) (k := k) nd (f := fun r j k h => fun (G : GX → GV → GV → Heap → Option (GV × Heap)) => S.laws_markCellSS.l5 (xs.length + 1) G r v (.int .i64 (k : Int)) (.int .i64 0) (.int .i64 (j : Int)) h) (A := fun k h => fun G => G (.ext 0) (.int .i64 (k : Int)) (.int .i64 0) h) ?_ ?_ he (xs.length + 1) (by omega)
  · obtain ⟨h', a1, a2, a3⟩ := key
    refine ⟨h', S.laws_markCellSS.gives (k := xs.length + 1) ?_, a2, a3⟩
    have a1' := fun G => congrFun a1 G
    simp only [show ((0 : Nat) : Int) = 0 from rfl] at a1'
    simp [S.laws_markCellSS.run, a1', -Int.natCast_add]
    rfl
  · intro j r h ys he hl hj hy
    obtain ⟨b, css, c, r0, hv, hb, fl, hcn, hc, fe, hE, hbr, hbR, hrR, nd0, hup⟩ := RSl.focus goodCellS he nd (j := j) (by omega)
    have ey : ys[j]'(by omega) = xs[j] := by rw [List.getElem?_eq_getElem (by omega)] at hy; exact Option.some.inj hy
    rw [ey] at hE
    rw [hl] at hv hcn
    have hcl := fe c (List.mem_of_getElem? hc)
    have hb0 : h[b]? = some (css.set j c).flatten := by rw [set_get_self hc]; exact hb
    have q1 := cntL_take (c := (fun x => (cCellS x))) hj
    have q2 := cntL_le (c := (fun x => (cCellS x))) (xs := xs) (j + 1)
    try simp only at q1
    obtain ⟨K, hK⟩ : ∃ K, k + cntL (fun x => (cCellS x)) (xs.take j) = K := ⟨_, rfl⟩
    have hKb : K + ((cCellS xs[j])) ≤ 4611686018427387904 := by omega
    rw [hK]
    clear hK q1 q2
    have hm := (RSl.good goodCellS).mem he
    have hbl := (List.getElem?_eq_some_iff.1 hb).1
    have kj := kadd1 (n := j) (by omega)
    have k0 : kia 1 (.sl b 0 xs.length xs.length 1) (.int .i64 (j : Int)) = some (.ptr b (j) (xs.length)) := kia_at hj (by omega) (by omega)
    obtain ⟨v0, rfl⟩ : ∃ v0, c = [v0] := List.length_eq_one_iff.1 hcl
    have l0 : kload1 h (.ptr b (j) (xs.length)) = some v0 := by rw [ld_leaf (es := 1) (off := 0) hb0 fe hcn hj hcl (by omega) (by omega) (by omega)]; rfl
    have nd1 := nd0
    obtain ⟨H1, m1, x1, f1⟩ := laws_markCellS_spec h v0 (xs[j]) r0 (K) (hok.2 _ (List.getElem_mem hj)) hE nd1 (by omega)
    have hb1 : H1[b]? = some (css.set j [v0]).flatten := by rw [f1.2 b hbl (by simpa using hbr)]; exact hb0
    have g1 : Fr R h H1 := f1.sub (fun i hi => hrR i (by simpa using hi))
    refine ⟨H1, ?_, hup H1 [v0] _ hb1 x1 (fun i hi hib hir => ?_), g1⟩
    · funext G
      simp only [S.laws_markCellSS.l5, S.laws_markCellSS.n8, S.laws_markCellSS.n10, S.laws_markCellSS.n9, S.laws_markCellSS.n7, S.laws_markCellSS.n6, hv, klen_sl, klt, decide_eq_true hj, kcond_bool, cond_true, kx_nrm, kb_nrm, Option.bind_some, kr_mk, kfa_ptr, kj, Nat.add_zero, kN_eq, bors_cons, bors_nil, bor_int, k0, l0, m1]
      try rfl
    · exact (f1.2 i (hm i hi) (by simpa using hir))
  · intro r h ys he hl
    have e1 := he.len
    rw [hl] at e1
    funext G
    simp only [S.laws_markCellSS.l5, S.laws_markCellSS.n6, S.laws_markCellSS.n7, S.laws_markCellSS.n8, S.laws_markCellSS.n9, S.laws_markCellSS.n10, e1, klt, Nat.lt_irrefl, decide_false, kcond_bool, cond_false, Option.bind_some, kx_ext, kb_ext]
    try rfl
theorem laws_markChain_spec (h : Heap) (c : List GV) (x : (List ((List (ByteArray) × Int)) × List (List (ByteArray)) × List (List (Int)))) (R : List Nat) (k : Nat) (hok : okChain x) (he : rChain h c x R) (nd : R.Nodup) (hk : k + cChain x ≤ 4611686018427387904) : ∃ h', HH fn.laws_markChain [.agg c, .int .i64 (k : Int)] h = some (.int .i64 ((k + cChain x : Nat) : Int), h') ∧ rChain h' c (kChain x k) R ∧ Fr R h h' := by
  have ek : k + cChain x = k + cServerS x.1 + cStringSS x.2.1 + cInt64SS x.2.2 := by unfold cChain; omega
  rw [ek] at hk ⊢
  unfold okChain at hok
  have hcl := goodChain.len he
  have hm := goodChain.mem he
  have he0 := goodChain.grow (t := [c]) he
  have hb0 : (h ++ [c])[h.length]? = some c := by simp
  have hbox : ∀ {Q : Type} (K : GV → Heap → Option Q), kbox (.agg c) h K = K (.ptr h.length 0 3) (h ++ [c]) := fun K => by rw [kbox_agg, hcl]
  obtain ⟨H0, hH0⟩ : ∃ H0, h ++ [c] = H0 := ⟨_, rfl⟩
  have g0 : Fr R h H0 := by rw [← hH0]; exact .app
  have hl0 : h.length < H0.length := by rw [← hH0]; simp
  rw [hH0] at he0 hb0
  simp only [hH0] at hbox
  obtain ⟨c0, d0, R0, S0, rfl, rfl, E0, F0⟩ := he0
  have N0 := List.nodup_append.1 nd
  obtain ⟨w0, rfl⟩ : ∃ w, c0 = [w] := List.length_eq_one_iff.1 (goodServerS.len E0)
  obtain ⟨c1, d1, R1, S1, rfl, rfl, E1, F1⟩ := F0
  have N1 := List.nodup_append.1 N0.2.1
  obtain ⟨w1, rfl⟩ : ∃ w, c1 = [w] := List.length_eq_one_iff.1 (goodStringSS.len E1)
  have E2 := F1
  obtain ⟨w2, rfl⟩ : ∃ w, d1 = [w] := List.length_eq_one_iff.1 (goodInt64SS.len E2)
  have l0 : kload1 H0 (.ptr h.length 0 3) = some w0 := by rw [kload1_at hb0 hcl]; rfl
  obtain ⟨H1, m0, x0, f0⟩ := laws_markServerS_spec H0 w0 x.1 R0 (k) hok.1 E0 (N0.1) (by omega)
  have i0 : h.length ∉ R0 := fun hz => by have := hm h.length (by simp [hz]); omega
  have hb1 : H1[h.length]? = some _ := (f0.2 _ (by omega) i0).trans hb0
  have y0_1 := goodStringSS.keep E1 f0 (fun z h1 h2 => N0.2.2 z h2 z (by simp [h1]) rfl)
  have y0_2 := goodInt64SS.keep E2 f0 (fun z h1 h2 => N0.2.2 z h2 z (by simp [h1]) rfl)
  have l1 : kload1 H1 (.ptr h.length 1 3) = some w1 := by rw [kload1_at hb1 hcl]; rfl
  obtain ⟨H2, m1, x1, f1⟩ := laws_markStringSS_spec H1 w1 x.2.1 R1 (k + cServerS x.1) hok.2.1 y0_1 (N1.1) (by omega)
  have i1 : h.length ∉ R1 := fun hz => by have := hm h.length (by simp [hz]); omega
  have hb2 : H2[h.length]? = some _ := (f1.2 _ (by have := f0.1; omega) i1).trans hb1
  have y1_0 := goodServerS.keep x0 f1 (fun z h1 h2 => N0.2.2 z h1 z (by simp [h2]) rfl)
  have y1_2 := goodInt64SS.keep y0_2 f1 (fun z h1 h2 => N1.2.2 z h2 z (by simp [h1]) rfl)
  have l2 : kload1 H2 (.ptr h.length 2 3) = some w2 := by rw [kload1_at hb2 hcl]; rfl
  obtain ⟨H3, m2, x2, f2⟩ := laws_markInt64SS_spec H2 w2 x.2.2 S1 (k + cServerS x.1 + cStringSS x.2.1) hok.2.2 y1_2 (N1.2.1) (by omega)
  have i2 : h.length ∉ S1 := fun hz => by have := hm h.length (by simp [hz]); omega
  have hb3 : H3[h.length]? = some _ := (f2.2 _ (by have := f0.1; have := f1.1; omega) i2).trans hb2
  have y2_0 := goodServerS.keep y1_0 f2 (fun z h1 h2 => N0.2.2 z h1 z (by simp [h2]) rfl)
  have y2_1 := goodStringSS.keep x1 f2 (fun z h1 h2 => N1.2.2 z h1 z (by simp [h2]) rfl)
  refine ⟨H3, S.laws_markChain.gives (k := 0) ?_, ⟨_, _, _, _, rfl, rfl, y2_0, ⟨_, _, _, _, rfl, rfl, y2_1, x2⟩⟩, (((g0.trans (f0.sub (fun z hz => by simp [hz]))).trans (f1.sub (fun z hz => by simp [hz]))).trans (f2.sub (fun z hz => by simp [hz])))⟩
  simp only [S.laws_markChain.run, S.laws_markChain.n0, hbox, l0, m0, l1, m1, l2, m2, kfa_ptr, Nat.zero_add, Option.bind_some, kr_mk, kend_ret, finH_eq]
theorem laws_szCellSS_spec (xs : List (List ((Int × (Int × Int × Bool × Bool × Bool) × Int)))) (left : Int) (hi : inSl (fun x1 : List ((Int × (Int × Int × Bool × Bool × Bool) × Int)) => inSl (fun x2 : (Int × (Int × Int × Bool × Bool × Bool) × Int) => ((Lit.int .i64 x2.1).wf = true) ∧ ((((Lit.int .i64 x2.2.1.1).wf = true) ∧ (((Lit.int .i64 x2.2.1.2.1).wf = true) ∧ ((True) ∧ ((True) ∧ (True))))) ∧ ((Lit.int .i64 x2.2.2).wf = true))) x1) xs) (hl : 0 ≤ left) (hl' : left ≤ 1048576) : NN fn.laws_szCellSS [fzl true 1 (mCellS true) xs, .int .i64 left] = some (.int .i64 (if left < (zCellSS xs : Int) then -1 else left - zCellSS xs)) := by
  apply S.laws_szCellSS.gives (k := xs.length + 1)
  have w := wrap_sub hl hl' hi.1
  simp [S.laws_szCellSS.run, w]
  by_cases h : left < xs.length
  · have h1 : left - xs.length < 0 := by omega
    have h2 : left < (zCellSS xs : Int) := by unfold zCellSS; omega
    simp [h, h1, h2]
  · have h1 : ¬ (left - xs.length < 0) := by omega
    simp [h, h1]
    refine (loop_sz (xs := xs) (c := fun x => zCellS x) (f := fun r j l => S.laws_szCellSS.l7 _ _ r _ (.int .i64 l) _ (.int .i64 (j : Int)) _) (A := fun l => some (GV.int .i64 l)) (B := some (GV.int .i64 (-1))) (fun j r l hj h0 h0' => ?_) (fun r l => ?_) (xs.length + 1) 0 _ (by omega) (by omega) (by omega) (by omega)).trans ?_
    · have g1 : (j : Int) < xs.length := by omega
      have ws := wrap_succ (n := j) (by have := hi.1; omega)
      have sp := laws_szCellS_spec xs[j] l (hi.2 _ (List.getElem_mem hj)).1 h0 h0'
      by_cases hc : l < ((zCellS xs[j] : Nat) : Int)
      · have hc' : l - ((zCellS xs[j] : Nat) : Int) < 0 := by omega
        simp [S.laws_szCellSS.l7, g1, get_of hj, ws, sp, hc, hc']
      · have hc' : ¬ (l - ((zCellS xs[j] : Nat) : Int) < 0) := by omega
        simp [S.laws_szCellSS.l7, g1, get_of hj, ws, sp, hc, hc']
    · simp [S.laws_szCellSS.l7]
    · simp only [List.drop_zero]
      have e : ((zCellSS xs : Nat) : Int) = (xs.length : Int) + ((xs.map fun x => zCellS x).sum : Nat) := by unfold zCellSS; omega
      by_cases hc : left < (zCellSS xs : Int)
      · rw [if_pos hc, if_pos (by omega)]
      · rw [if_neg hc, if_neg (by omega)]
        congr 2; omega
theorem laws_toCellSS_spec (xs : List (List ((Int × (Int × Int × Bool × Bool × Bool) × Int)))) (hm : okCellSS xs) (b : Nat) : ∃ v bl, OO fn.laws_toCellSS [fzl true 1 (mCellS true) xs] b = some (v, bl) ∧ ∀ H T, H.length = b → rCellSS (H ++ bl ++ T) [v] xs (List.range' b bl.length) := by
  have hm' : xs.length ≤ 1048576 := hm.1
  have hk := kmake_eq (z := [.nils]) (es := 1) (b := 24) (h := []) hm' (by omega) rfl
  have key := fill_loop (E := rCellS) goodCellS (z := [.nils]) rfl (xs := xs) (f := fun r j h => fun (G : GX → GV → GV → Heap → Option (GV × List (List GV))) => S.laws_toCellSS.l6 (xs.length + 1) G r (fzl true 1 (mCellS true) xs) .nils (.sl 0 0 xs.length xs.length 1) (.int .i64 (j : Int)) h) (A := fun h => fun G => G (.ext 0) .nils (.sl 0 0 xs.length xs.length 1) h) ?_ ?_ (xs.length + 1) (by omega)
  · obtain ⟨css, B, Rs, a1, a2, a3⟩ := key
    have he : rCellSS (css.flatten :: B) [.sl 0 0 xs.length xs.length 1] xs (List.range' 0 (B.length + 1)) := Or.inr ⟨0, css, Rs, rfl, rfl, a2, by rw [a3, List.range'_succ]⟩
    obtain ⟨v, bl, f1, f2⟩ := goodCellSS.fin (by omega) he List.nodup_range' b
    refine ⟨v, bl, S.laws_toCellSS.gives (k := xs.length + 1) ?_, f2⟩
    have a1' := fun G => congrFun a1 G
    simp only [show ((0 : Nat) : Int) = 0 from rfl] at a1'
    simp [S.laws_toCellSS.run, hk, a1', f1]
  · intro j r cells B hj hcl
    have g1 : (j : Int) < xs.length := by omega
    have w := wrap_succ (n := j) (by simp only [maxLen]; omega)
    have hj' : j * 1 + 1 ≤ xs.length * 1 := by omega
    have hj2 : j + 1 ≤ xs.length := hj
    obtain ⟨v, bl, o1, o2⟩ := laws_toCellS_spec xs[j] (hm.2 _ (List.getElem_mem hj)) (B.length + 1)
    refine ⟨[v], bl, rfl, fun H T hH => (by have := o2 H T (by omega); rwa [Nat.add_comm] at this), funext fun G => ?_⟩
    have vc : v.cells = [v] ∧ v.isCell = true := by
      have := goodCellS.cell (o2 (List.replicate (B.length + 1) []) [] (by simp))
      rcases o2 (List.replicate (B.length + 1) []) [] (by simp) with ⟨_, _, hc⟩ | ⟨_, _, _, hc, _⟩
      · rcases hc with hc | hc <;> (injection hc with hc; subst hc; exact ⟨rfl, rfl⟩)
      · injection hc with hc; subst hc; exact ⟨rfl, rfl⟩
    simp only [S.laws_toCellSS.l6]
    simp [g1, get_of hj, hj, hj', hj2, w, hcl, o1, vc.1, vc.2, -splice]
  · intro r h
    funext G
    simp [S.laws_toCellSS.l6]

/-! Grid -/
abbrev mGrid (t : Bool) (a : (Int × List (List ((Int × (Int × Int × Bool × Bool × Bool) × Int))))) : List GV := [.int .i64 a.1, fzl t 1 (mCellS t) a.2]
def zGrid (a : (Int × List (List ((Int × (Int × Int × Bool × Bool × Bool) × Int))))) : Nat := zCellSS a.2
def okGrid (a : (Int × List (List ((Int × (Int × Int × Bool × Bool × Bool) × Int))))) : Prop := okCellSS a.2
theorem okGrid_of {a : (Int × List (List ((Int × (Int × Int × Bool × Bool × Bool) × Int))))} (h : zGrid a ≤ 1048576) : okGrid a := by
  unfold zGrid at h
  exact okCellSS_of (by omega)
@[simp] theorem kloadA_Grid {h : Heap} {t : Bool} {xs : List (Int × List (List ((Int × (Int × Int × Bool × Bool × Bool) × Int))))} {j : Nat} : kloadA 2 h (elp t (mGrid t) xs j) = xs[j]?.map fun a => .agg (mGrid t a) := kloadA_elp (mk := mGrid t) (es := 2) (fun _ => rfl) (by omega)
@[simp] theorem kload1_Grid_0 {h : Heap} {t : Bool} {xs : List ((Int × List (List ((Int × (Int × Int × Bool × Bool × Bool) × Int)))))} {j : Nat} : kload1 h (elf t (mGrid t) xs j 0) = xs[j]?.bind fun a => (mGrid t a)[0]? := kload1_elf (mk := mGrid t) (es := 2) (fun _ => rfl) (by omega)
@[simp] theorem kload1_Grid_1 {h : Heap} {t : Bool} {xs : List ((Int × List (List ((Int × (Int × Int × Bool × Bool × Bool) × Int)))))} {j : Nat} : kload1 h (elf t (mGrid t) xs j 1) = xs[j]?.bind fun a => (mGrid t a)[1]? := kload1_elf (mk := mGrid t) (es := 2) (fun _ => rfl) (by omega)
@[simp] theorem kia_Grid {t : Bool} {xs : List ((Int × List (List ((Int × (Int × Int × Bool × Bool × Bool) × Int)))))} {k : IntKind} {i : Int} : kia 2 (fzl t 2 (mGrid t) xs) (.int k i) = if 0 ≤ i ∧ i < xs.length then some (elp t (mGrid t) xs i.toNat) else none := kia_fzl (es := 2) (fun _ => rfl)
theorem ld_Grid {d : Nat} {t : Bool} (a : (Int × List (List ((Int × (Int × Int × Bool × Bool × Bool) × Int))))) : (mGrid t a).map (lend (d + 2)) = mGrid true a := map_cons' lend_int (map_cons' (lend_fzl (d := d + 1) (mk := (mCellS t)) (mk' := (mCellS true)) (fun a => ld_CellS (d := d) a) a.2) (rfl))
@[simp] theorem bor_Grid {d : Nat} {h : Heap} {t : Bool} {xs : List ((Int × List (List ((Int × (Int × Int × Bool × Bool × Bool) × Int)))))} : bor (d + 4) h (fzl t 2 (mGrid t) xs) = some (fzl true 2 (mGrid true) xs, []) := bor_fzl (d := d + 3) (fun a => ld_Grid (d := d + 1) a) xs
open Classical in
theorem laws_eqGrid_spec (a_1 b_1 : Int) (a_2 b_2 : List (List ((Int × (Int × Int × Bool × Bool × Bool) × Int)))) (hm : okGrid (a_1, a_2)) : NN fn.laws_eqGrid [.agg [.int .i64 a_1, fzl true 1 (mCellS true) a_2], .agg [.int .i64 b_1, fzl true 1 (mCellS true) b_2]] = some (.bool (decide ((a_1, a_2) = (b_1, b_2)))) := by
  apply S.laws_eqGrid.gives (k := 0)
  unfold okGrid at hm
  by_cases c0 : a_1 = b_1
  rotate_left
  · have e : ¬ ((a_1, a_2) = (b_1, b_2)) := fun e => c0 (by simp only [Prod.mk.injEq] at e ⊢; simp [e])
    rw [decide_eq_false e]
    simp [S.laws_eqGrid.run, c0]
  have s1 := laws_eqCellSS_spec a_2 b_2 hm
  by_cases c1 : a_2 = b_2
  rotate_left
  · have e : ¬ ((a_1, a_2) = (b_1, b_2)) := fun e => c1 (by simp only [Prod.mk.injEq] at e ⊢; simp [e])
    rw [decide_eq_false e]
    rw [decide_eq_false c1] at s1
    simp [S.laws_eqGrid.run, c0, s1]
  rw [decide_eq_true c1] at s1
  have e : (a_1, a_2) = (b_1, b_2) := by rw [c0, c1]
  rw [decide_eq_true e]
  simp [S.laws_eqGrid.run, c0, s1]
abbrev rGrid : Rel ((Int × List (List ((Int × (Int × Int × Bool × Bool × Bool) × Int))))) := (RSeq (RFl ci) rCellSS)
theorem goodGrid : Good 2 3 (mGrid true) rGrid := (RSeq.good ((RFl.good (es := 1) (mk := ci) (fun _ => rfl) (fun _ => rfl)).mono (by omega)) (goodCellSS.mono (by omega)))
def cGrid (x : (Int × List (List ((Int × (Int × Int × Bool × Bool × Bool) × Int))))) : Nat := cCellSS x.2
theorem cGrid_le {x : (Int × List (List ((Int × (Int × Int × Bool × Bool × Bool) × Int))))} (h : okGrid x) : cGrid x ≤ 7696581394432 := by
  unfold okGrid at h
  unfold cGrid
  have := cCellSS_le h
  omega
noncomputable def kGrid (x : (Int × List (List ((Int × (Int × Int × Bool × Bool × Bool) × Int))))) (k : Nat) : (Int × List (List ((Int × (Int × Int × Bool × Bool × Bool) × Int)))) := (x.1, kCellSS x.2 (k))
theorem laws_heldGrid_spec (x : (Int × List (List ((Int × (Int × Int × Bool × Bool × Bool) × Int))))) (k : Nat) (hok : okGrid x) (hk : k + cGrid x ≤ 4611686018427387904) : NN fn.laws_heldGrid [.agg (mGrid true (kGrid x k)), .int .i64 (k : Int)] = some (.int .i64 ((k + cGrid x : Nat) : Int)) := by
  unfold okGrid at hok
  unfold cGrid at hk
  apply S.laws_heldGrid.gives (k := 0)
  have s1 := laws_heldCellSS_spec x.2 (k) hok (by omega)
  have z1 : ¬ (((k + cCellSS x.2 : Nat) : Int) < 0) := by omega
  simp only [kGrid, cGrid, ← Nat.add_assoc]
  simp [S.laws_heldGrid.run, s1, z1, -Int.natCast_add]
theorem laws_markGrid_spec (h : Heap) (c : List GV) (x : (Int × List (List ((Int × (Int × Int × Bool × Bool × Bool) × Int))))) (R : List Nat) (k : Nat) (hok : okGrid x) (he : rGrid h c x R) (nd : R.Nodup) (hk : k + cGrid x ≤ 4611686018427387904) : ∃ h', HH fn.laws_markGrid [.agg c, .int .i64 (k : Int)] h = some (.int .i64 ((k + cGrid x : Nat) : Int), h') ∧ rGrid h' c (kGrid x k) R ∧ Fr R h h' := by
  have ek : k + cGrid x = k + cCellSS x.2 := by unfold cGrid; omega
  rw [ek] at hk ⊢
  unfold okGrid at hok
  have hcl := goodGrid.len he
  have hm := goodGrid.mem he
  have he0 := goodGrid.grow (t := [c]) he
  have hb0 : (h ++ [c])[h.length]? = some c := by simp
  have hbox : ∀ {Q : Type} (K : GV → Heap → Option Q), kbox (.agg c) h K = K (.ptr h.length 0 2) (h ++ [c]) := fun K => by rw [kbox_agg, hcl]
  obtain ⟨H0, hH0⟩ : ∃ H0, h ++ [c] = H0 := ⟨_, rfl⟩
  have g0 : Fr R h H0 := by rw [← hH0]; exact .app
  have hl0 : h.length < H0.length := by rw [← hH0]; simp
  rw [hH0] at he0 hb0
  simp only [hH0] at hbox
  obtain ⟨c0, d0, R0, S0, rfl, rfl, E0, F0⟩ := he0
  have N0 := List.nodup_append.1 nd
  obtain ⟨rfl, rfl⟩ := E0
  have E1 := F0
  obtain ⟨w1, rfl⟩ : ∃ w, d0 = [w] := List.length_eq_one_iff.1 (goodCellSS.len E1)
  have l1 : kload1 H0 (.ptr h.length 1 2) = some w1 := by rw [kload1_at hb0 hcl]; rfl
  obtain ⟨H1, m1, x1, f1⟩ := laws_markCellSS_spec H0 w1 x.2 S0 (k) hok E1 (N0.2.1) (by omega)
  have i1 : h.length ∉ S0 := fun hz => by have := hm h.length (by simp [hz]); omega
  have hb1 : H1[h.length]? = some _ := (f1.2 _ (by omega) i1).trans hb0
  refine ⟨H1, S.laws_markGrid.gives (k := 0) ?_, ⟨_, _, _, _, rfl, rfl, ⟨rfl, rfl⟩, x1⟩, (g0.trans (f1.sub (fun z hz => by simp [hz])))⟩
  simp only [S.laws_markGrid.run, S.laws_markGrid.n0, hbox, l1, m1, kfa_ptr, Nat.zero_add, Option.bind_some, kr_mk, kend_ret, finH_eq]
theorem laws_szGrid_spec (a_1 : Int) (a_2 : List (List ((Int × (Int × Int × Bool × Bool × Bool) × Int)))) (left : Int) (hi : ((Lit.int .i64 a_1).wf = true) ∧ (inSl (fun x1 : List ((Int × (Int × Int × Bool × Bool × Bool) × Int)) => inSl (fun x2 : (Int × (Int × Int × Bool × Bool × Bool) × Int) => ((Lit.int .i64 x2.1).wf = true) ∧ ((((Lit.int .i64 x2.2.1.1).wf = true) ∧ (((Lit.int .i64 x2.2.1.2.1).wf = true) ∧ ((True) ∧ ((True) ∧ (True))))) ∧ ((Lit.int .i64 x2.2.2).wf = true))) x1) a_2)) (hl : 0 ≤ left) (hl' : left ≤ 1048576) : NN fn.laws_szGrid [.agg [.int .i64 a_1, fzl true 1 (mCellS true) a_2], .int .i64 left] = some (.int .i64 (if left < (zGrid (a_1, a_2) : Int) then -1 else left - zGrid (a_1, a_2))) := by
  apply S.laws_szGrid.gives (k := 0)
  show _ = some (GV.int .i64 (if left < ((zCellSS a_2 : Nat) : Int) then -1 else left - ((zCellSS a_2 : Nat) : Int)))
  have s0 := laws_szCellSS_spec a_2 (left) hi.2 (by omega) (by omega)
  by_cases c0 : left < ((zCellSS a_2 : Nat) : Int)
  · have d0 : left - ((zCellSS a_2 : Nat) : Int) < 0 := by omega
    rw [if_pos (by omega : left < ((zCellSS a_2 : Nat) : Int))]
    simp [S.laws_szGrid.run, s0, c0, d0]
  have d0 : ¬ (left - ((zCellSS a_2 : Nat) : Int) < 0) := by omega
  rw [if_neg (by omega)]
  simp [S.laws_szGrid.run, s0, c0, d0]
  try omega
theorem laws_toGrid_spec (x : (Int × List (List ((Int × (Int × Int × Bool × Bool × Bool) × Int))))) (hm : okGrid x) (b : Nat) : ∃ c bl, OO fn.laws_toGrid [.agg (mGrid true x)] b = some (.agg c, bl) ∧ ∀ H T, H.length = b → rGrid (H ++ bl ++ T) c x (List.range' b bl.length) := by
  unfold okGrid at hm
  obtain ⟨v1, B1, o1, e1⟩ := laws_toCellSS_spec x.2 hm (3)
  have vc1 := cell_of (e1 (List.replicate (3) []) [] (by simp))
  have he : ∀ a o1 o2 : List GV, rGrid ([a, o1, o2] ++ B1) (ci x.1 ++ ([v1])) x ([] ++ (List.range' (3) B1.length)) := fun a o1 o2 => ⟨_, _, _, _, rfl, rfl, ⟨rfl, rfl⟩, (by have := e1 ([a, o1, o2]) ([]) (by simp <;> omega); simpa using this)⟩
  have nd : ([] ++ (List.range' (3) B1.length)).Nodup := List.nodup_range'
  obtain ⟨c, bl, f1, f2⟩ := goodGrid.finS (by omega) (he (mGrid true x) (ci x.1 ++ ([v1])) (ci x.1 ++ ([v1]))) nd b
  refine ⟨c, bl, S.laws_toGrid.gives (k := 0) ?_, f2⟩
  simp [S.laws_toGrid.run, o1, vc1.1, vc1.2]
  simpa using f1

/-! Client -/
abbrev mClient (t : Bool) (a : (Int × List (ByteArray) × Int × (Int × List (List ((Int × (Int × Int × Bool × Bool × Bool) × Int)))) × Int × (Int × List (Int)) × Int)) : List GV := [.int .i64 a.1, fzl t 1 cs a.2.1, .int .i64 a.2.2.1, .int .i64 a.2.2.2.1.1, fzl t 1 (mCellS t) a.2.2.2.1.2, .int .i64 a.2.2.2.2.1, .int .i64 a.2.2.2.2.2.1.1, fzl t 1 ci a.2.2.2.2.2.1.2, .int .i64 a.2.2.2.2.2.2]
def zClient (a : (Int × List (ByteArray) × Int × (Int × List (List ((Int × (Int × Int × Bool × Bool × Bool) × Int)))) × Int × (Int × List (Int)) × Int)) : Nat := zStringS a.2.1 + zGrid a.2.2.2.1 + zWindow a.2.2.2.2.2.1
def okClient (a : (Int × List (ByteArray) × Int × (Int × List (List ((Int × (Int × Int × Bool × Bool × Bool) × Int)))) × Int × (Int × List (Int)) × Int)) : Prop := okStringS a.2.1 ∧ okGrid a.2.2.2.1 ∧ okWindow a.2.2.2.2.2.1
theorem okClient_of {a : (Int × List (ByteArray) × Int × (Int × List (List ((Int × (Int × Int × Bool × Bool × Bool) × Int)))) × Int × (Int × List (Int)) × Int)} (h : zClient a ≤ 1048576) : okClient a := by
  unfold zClient at h
  exact ⟨okStringS_of (by omega), okGrid_of (by omega), okWindow_of (by omega)⟩
@[simp] theorem kloadA_Client {h : Heap} {t : Bool} {xs : List (Int × List (ByteArray) × Int × (Int × List (List ((Int × (Int × Int × Bool × Bool × Bool) × Int)))) × Int × (Int × List (Int)) × Int)} {j : Nat} : kloadA 9 h (elp t (mClient t) xs j) = xs[j]?.map fun a => .agg (mClient t a) := kloadA_elp (mk := mClient t) (es := 9) (fun _ => rfl) (by omega)
@[simp] theorem kload1_Client_0 {h : Heap} {t : Bool} {xs : List ((Int × List (ByteArray) × Int × (Int × List (List ((Int × (Int × Int × Bool × Bool × Bool) × Int)))) × Int × (Int × List (Int)) × Int))} {j : Nat} : kload1 h (elf t (mClient t) xs j 0) = xs[j]?.bind fun a => (mClient t a)[0]? := kload1_elf (mk := mClient t) (es := 9) (fun _ => rfl) (by omega)
@[simp] theorem kload1_Client_1 {h : Heap} {t : Bool} {xs : List ((Int × List (ByteArray) × Int × (Int × List (List ((Int × (Int × Int × Bool × Bool × Bool) × Int)))) × Int × (Int × List (Int)) × Int))} {j : Nat} : kload1 h (elf t (mClient t) xs j 1) = xs[j]?.bind fun a => (mClient t a)[1]? := kload1_elf (mk := mClient t) (es := 9) (fun _ => rfl) (by omega)
@[simp] theorem kload1_Client_2 {h : Heap} {t : Bool} {xs : List ((Int × List (ByteArray) × Int × (Int × List (List ((Int × (Int × Int × Bool × Bool × Bool) × Int)))) × Int × (Int × List (Int)) × Int))} {j : Nat} : kload1 h (elf t (mClient t) xs j 2) = xs[j]?.bind fun a => (mClient t a)[2]? := kload1_elf (mk := mClient t) (es := 9) (fun _ => rfl) (by omega)
@[simp] theorem kload1_Client_3 {h : Heap} {t : Bool} {xs : List ((Int × List (ByteArray) × Int × (Int × List (List ((Int × (Int × Int × Bool × Bool × Bool) × Int)))) × Int × (Int × List (Int)) × Int))} {j : Nat} : kload1 h (elf t (mClient t) xs j 3) = xs[j]?.bind fun a => (mClient t a)[3]? := kload1_elf (mk := mClient t) (es := 9) (fun _ => rfl) (by omega)
@[simp] theorem kload1_Client_4 {h : Heap} {t : Bool} {xs : List ((Int × List (ByteArray) × Int × (Int × List (List ((Int × (Int × Int × Bool × Bool × Bool) × Int)))) × Int × (Int × List (Int)) × Int))} {j : Nat} : kload1 h (elf t (mClient t) xs j 4) = xs[j]?.bind fun a => (mClient t a)[4]? := kload1_elf (mk := mClient t) (es := 9) (fun _ => rfl) (by omega)
@[simp] theorem kload1_Client_5 {h : Heap} {t : Bool} {xs : List ((Int × List (ByteArray) × Int × (Int × List (List ((Int × (Int × Int × Bool × Bool × Bool) × Int)))) × Int × (Int × List (Int)) × Int))} {j : Nat} : kload1 h (elf t (mClient t) xs j 5) = xs[j]?.bind fun a => (mClient t a)[5]? := kload1_elf (mk := mClient t) (es := 9) (fun _ => rfl) (by omega)
@[simp] theorem kload1_Client_6 {h : Heap} {t : Bool} {xs : List ((Int × List (ByteArray) × Int × (Int × List (List ((Int × (Int × Int × Bool × Bool × Bool) × Int)))) × Int × (Int × List (Int)) × Int))} {j : Nat} : kload1 h (elf t (mClient t) xs j 6) = xs[j]?.bind fun a => (mClient t a)[6]? := kload1_elf (mk := mClient t) (es := 9) (fun _ => rfl) (by omega)
@[simp] theorem kload1_Client_7 {h : Heap} {t : Bool} {xs : List ((Int × List (ByteArray) × Int × (Int × List (List ((Int × (Int × Int × Bool × Bool × Bool) × Int)))) × Int × (Int × List (Int)) × Int))} {j : Nat} : kload1 h (elf t (mClient t) xs j 7) = xs[j]?.bind fun a => (mClient t a)[7]? := kload1_elf (mk := mClient t) (es := 9) (fun _ => rfl) (by omega)
@[simp] theorem kload1_Client_8 {h : Heap} {t : Bool} {xs : List ((Int × List (ByteArray) × Int × (Int × List (List ((Int × (Int × Int × Bool × Bool × Bool) × Int)))) × Int × (Int × List (Int)) × Int))} {j : Nat} : kload1 h (elf t (mClient t) xs j 8) = xs[j]?.bind fun a => (mClient t a)[8]? := kload1_elf (mk := mClient t) (es := 9) (fun _ => rfl) (by omega)
@[simp] theorem kia_Client {t : Bool} {xs : List ((Int × List (ByteArray) × Int × (Int × List (List ((Int × (Int × Int × Bool × Bool × Bool) × Int)))) × Int × (Int × List (Int)) × Int))} {k : IntKind} {i : Int} : kia 9 (fzl t 9 (mClient t) xs) (.int k i) = if 0 ≤ i ∧ i < xs.length then some (elp t (mClient t) xs i.toNat) else none := kia_fzl (es := 9) (fun _ => rfl)
theorem ld_Client {d : Nat} {t : Bool} (a : (Int × List (ByteArray) × Int × (Int × List (List ((Int × (Int × Int × Bool × Bool × Bool) × Int)))) × Int × (Int × List (Int)) × Int)) : (mClient t a).map (lend (d + 2)) = mClient true a := map_cons' lend_int (map_cons' (lend_fzl (d := d + 1) (mk := cs) (mk' := cs) (fun a => map_cons' lend_str rfl) a.2.1) (map_cons' lend_int (map_cons' lend_int (map_cons' (lend_fzl (d := d + 1) (mk := (mCellS t)) (mk' := (mCellS true)) (fun a => ld_CellS (d := d) a) a.2.2.2.1.2) (map_cons' lend_int (map_cons' lend_int (map_cons' (lend_fzl (d := d + 1) (mk := ci) (mk' := ci) (fun a => map_cons' lend_int rfl) a.2.2.2.2.2.1.2) (map_cons' lend_int (rfl)))))))))
@[simp] theorem bor_Client {d : Nat} {h : Heap} {t : Bool} {xs : List ((Int × List (ByteArray) × Int × (Int × List (List ((Int × (Int × Int × Bool × Bool × Bool) × Int)))) × Int × (Int × List (Int)) × Int))} : bor (d + 4) h (fzl t 9 (mClient t) xs) = some (fzl true 9 (mClient true) xs, []) := bor_fzl (d := d + 3) (fun a => ld_Client (d := d + 1) a) xs
open Classical in
theorem laws_eqClient_spec (a_1 b_1 : Int) (a_2 b_2 : List (ByteArray)) (a_3 b_3 : Int) (a_4_1 b_4_1 : Int) (a_4_2 b_4_2 : List (List ((Int × (Int × Int × Bool × Bool × Bool) × Int)))) (a_5 b_5 : Int) (a_6_1 b_6_1 : Int) (a_6_2 b_6_2 : List (Int)) (a_7 b_7 : Int) (hm : okClient (a_1, a_2, a_3, (a_4_1, a_4_2), a_5, (a_6_1, a_6_2), a_7)) : NN fn.laws_eqClient [.agg [.int .i64 a_1, fzl true 1 cs a_2, .int .i64 a_3, .int .i64 a_4_1, fzl true 1 (mCellS true) a_4_2, .int .i64 a_5, .int .i64 a_6_1, fzl true 1 ci a_6_2, .int .i64 a_7], .agg [.int .i64 b_1, fzl true 1 cs b_2, .int .i64 b_3, .int .i64 b_4_1, fzl true 1 (mCellS true) b_4_2, .int .i64 b_5, .int .i64 b_6_1, fzl true 1 ci b_6_2, .int .i64 b_7]] = some (.bool (decide ((a_1, a_2, a_3, (a_4_1, a_4_2), a_5, (a_6_1, a_6_2), a_7) = (b_1, b_2, b_3, (b_4_1, b_4_2), b_5, (b_6_1, b_6_2), b_7)))) := by
  apply S.laws_eqClient.gives (k := 0)
  unfold okClient at hm
  by_cases c0 : a_1 = b_1
  rotate_left
  · have e : ¬ ((a_1, a_2, a_3, (a_4_1, a_4_2), a_5, (a_6_1, a_6_2), a_7) = (b_1, b_2, b_3, (b_4_1, b_4_2), b_5, (b_6_1, b_6_2), b_7)) := fun e => c0 (by simp only [Prod.mk.injEq] at e ⊢; simp [e])
    rw [decide_eq_false e]
    simp [S.laws_eqClient.run, c0]
  have s1 := laws_eqStringS_spec a_2 b_2 hm.1
  by_cases c1 : a_2 = b_2
  rotate_left
  · have e : ¬ ((a_1, a_2, a_3, (a_4_1, a_4_2), a_5, (a_6_1, a_6_2), a_7) = (b_1, b_2, b_3, (b_4_1, b_4_2), b_5, (b_6_1, b_6_2), b_7)) := fun e => c1 (by simp only [Prod.mk.injEq] at e ⊢; simp [e])
    rw [decide_eq_false e]
    rw [decide_eq_false c1] at s1
    simp [S.laws_eqClient.run, c0, s1]
  rw [decide_eq_true c1] at s1
  by_cases c2 : a_3 = b_3
  rotate_left
  · have e : ¬ ((a_1, a_2, a_3, (a_4_1, a_4_2), a_5, (a_6_1, a_6_2), a_7) = (b_1, b_2, b_3, (b_4_1, b_4_2), b_5, (b_6_1, b_6_2), b_7)) := fun e => c2 (by simp only [Prod.mk.injEq] at e ⊢; simp [e])
    rw [decide_eq_false e]
    simp [S.laws_eqClient.run, c0, s1, c2]
  have s3 := laws_eqGrid_spec a_4_1 b_4_1 a_4_2 b_4_2 hm.2.1
  by_cases c3 : (a_4_1, a_4_2) = (b_4_1, b_4_2)
  rotate_left
  · have e : ¬ ((a_1, a_2, a_3, (a_4_1, a_4_2), a_5, (a_6_1, a_6_2), a_7) = (b_1, b_2, b_3, (b_4_1, b_4_2), b_5, (b_6_1, b_6_2), b_7)) := fun e => c3 (by simp only [Prod.mk.injEq] at e ⊢; simp [e])
    rw [decide_eq_false e]
    rw [decide_eq_false c3] at s3
    simp [S.laws_eqClient.run, c0, s1, c2, s3]
  rw [decide_eq_true c3] at s3
  by_cases c4 : a_5 = b_5
  rotate_left
  · have e : ¬ ((a_1, a_2, a_3, (a_4_1, a_4_2), a_5, (a_6_1, a_6_2), a_7) = (b_1, b_2, b_3, (b_4_1, b_4_2), b_5, (b_6_1, b_6_2), b_7)) := fun e => c4 (by simp only [Prod.mk.injEq] at e ⊢; simp [e])
    rw [decide_eq_false e]
    simp [S.laws_eqClient.run, c0, s1, c2, s3, c4]
  have s5 := laws_eqWindow_spec a_6_1 b_6_1 a_6_2 b_6_2 hm.2.2
  by_cases c5 : (a_6_1, a_6_2) = (b_6_1, b_6_2)
  rotate_left
  · have e : ¬ ((a_1, a_2, a_3, (a_4_1, a_4_2), a_5, (a_6_1, a_6_2), a_7) = (b_1, b_2, b_3, (b_4_1, b_4_2), b_5, (b_6_1, b_6_2), b_7)) := fun e => c5 (by simp only [Prod.mk.injEq] at e ⊢; simp [e])
    rw [decide_eq_false e]
    rw [decide_eq_false c5] at s5
    simp [S.laws_eqClient.run, c0, s1, c2, s3, c4, s5]
  rw [decide_eq_true c5] at s5
  by_cases c6 : a_7 = b_7
  rotate_left
  · have e : ¬ ((a_1, a_2, a_3, (a_4_1, a_4_2), a_5, (a_6_1, a_6_2), a_7) = (b_1, b_2, b_3, (b_4_1, b_4_2), b_5, (b_6_1, b_6_2), b_7)) := fun e => c6 (by simp only [Prod.mk.injEq] at e ⊢; simp [e])
    rw [decide_eq_false e]
    simp [S.laws_eqClient.run, c0, s1, c2, s3, c4, s5, c6]
  have e : (a_1, a_2, a_3, (a_4_1, a_4_2), a_5, (a_6_1, a_6_2), a_7) = (b_1, b_2, b_3, (b_4_1, b_4_2), b_5, (b_6_1, b_6_2), b_7) := by
    simp only [Prod.mk.injEq] at *
    simp [c0, c1, c2, c3, c4, c5, c6]
  rw [decide_eq_true e]
  simp [S.laws_eqClient.run, c0, s1, c2, s3, c4, s5, c6]

/-! ClientS -/
abbrev mClientS (t : Bool) (a : List ((Int × List (ByteArray) × Int × (Int × List (List ((Int × (Int × Int × Bool × Bool × Bool) × Int)))) × Int × (Int × List (Int)) × Int))) : List GV := [fzl t 9 (mClient t) a]
def zClientS (a : List ((Int × List (ByteArray) × Int × (Int × List (List ((Int × (Int × Int × Bool × Bool × Bool) × Int)))) × Int × (Int × List (Int)) × Int))) : Nat := a.length + (a.map fun x => zClient x).sum
def okClientS (a : List ((Int × List (ByteArray) × Int × (Int × List (List ((Int × (Int × Int × Bool × Bool × Bool) × Int)))) × Int × (Int × List (Int)) × Int))) : Prop := a.length ≤ 1048576 ∧ ∀ x ∈ a, okClient x
theorem okClientS_of {a : List ((Int × List (ByteArray) × Int × (Int × List (List ((Int × (Int × Int × Bool × Bool × Bool) × Int)))) × Int × (Int × List (Int)) × Int))} (h : zClientS a ≤ 1048576) : okClientS a := by
  unfold zClientS at h
  refine ⟨by omega, fun x hx => ?_⟩
  have : zClient x ≤ _ := sum_mem (c := fun x => zClient x) hx
  exact okClient_of (by omega)
@[simp] theorem kload1_ClientS {h : Heap} {t : Bool} {xs : List (List ((Int × List (ByteArray) × Int × (Int × List (List ((Int × (Int × Int × Bool × Bool × Bool) × Int)))) × Int × (Int × List (Int)) × Int)))} {j : Nat} : kload1 h (elp t (mClientS t) xs j) = xs[j]?.map fun a => fzl t 9 (mClient t) a := kload1_elp _ (fun _ => rfl)
@[simp] theorem kia_ClientS {t : Bool} {xs : List (List ((Int × List (ByteArray) × Int × (Int × List (List ((Int × (Int × Int × Bool × Bool × Bool) × Int)))) × Int × (Int × List (Int)) × Int)))} {k : IntKind} {i : Int} : kia 1 (fzl t 1 (mClientS t) xs) (.int k i) = if 0 ≤ i ∧ i < xs.length then some (elp t (mClientS t) xs i.toNat) else none := kia_fzl (es := 1) (fun _ => rfl)
theorem ld_ClientS {d : Nat} {t : Bool} (a : List ((Int × List (ByteArray) × Int × (Int × List (List ((Int × (Int × Int × Bool × Bool × Bool) × Int)))) × Int × (Int × List (Int)) × Int))) : (mClientS t a).map (lend (d + 3)) = mClientS true a := map_cons' (lend_fzl (d := d + 2) (mk := (mClient t)) (mk' := (mClient true)) (fun a => ld_Client (d := d) a) a) (rfl)
@[simp] theorem bor_ClientS {d : Nat} {h : Heap} {t : Bool} {xs : List (List ((Int × List (ByteArray) × Int × (Int × List (List ((Int × (Int × Int × Bool × Bool × Bool) × Int)))) × Int × (Int × List (Int)) × Int)))} : bor (d + 5) h (fzl t 1 (mClientS t) xs) = some (fzl true 1 (mClientS true) xs, []) := bor_fzl (d := d + 4) (fun a => ld_ClientS (d := d + 1) a) xs
open Classical in
theorem laws_eqClientS_spec (xs ys : List ((Int × List (ByteArray) × Int × (Int × List (List ((Int × (Int × Int × Bool × Bool × Bool) × Int)))) × Int × (Int × List (Int)) × Int))) (hm : okClientS xs) : NN fn.laws_eqClientS [fzl true 9 (mClient true) xs, fzl true 9 (mClient true) ys] = some (.bool (decide (xs = ys))) := by
  apply S.laws_eqClientS.gives (k := xs.length + 1)
  have hm' : xs.length ≤ 1048576 := hm.1
  simp [S.laws_eqClientS.run]
  by_cases hl : xs.length = ys.length
  · have hi : (xs.length : Int) = ys.length := by omega
    simp [hi]
    refine (loop_all (f := fun r j => S.laws_eqClientS.l6 _ _ r _ _ _ (.int .i64 (j : Int)) _) (A := some (GV.bool true)) (B := some (GV.bool false)) (n := xs.length) (P := fun j => xs[j]? = ys[j]?) (fun j r hj => ?_) (fun r => ?_) (xs.length + 1) 0 (by omega) (by omega)).trans ?_
    · have h1 : (j : Int) < xs.length := by omega
      have h2 : (j : Int) < ys.length := by omega
      have h3 : j < ys.length := by omega
      have w := wrap_succ (n := j) (by simp only [maxLen]; omega)
      have sp := laws_eqClient_spec xs[j].1 ys[j].1 xs[j].2.1 ys[j].2.1 xs[j].2.2.1 ys[j].2.2.1 xs[j].2.2.2.1.1 ys[j].2.2.2.1.1 xs[j].2.2.2.1.2 ys[j].2.2.2.1.2 xs[j].2.2.2.2.1 ys[j].2.2.2.2.1 xs[j].2.2.2.2.2.1.1 ys[j].2.2.2.2.2.1.1 xs[j].2.2.2.2.2.1.2 ys[j].2.2.2.2.2.1.2 xs[j].2.2.2.2.2.2 ys[j].2.2.2.2.2.2  (hm.2 _ (List.getElem_mem hj))
      by_cases hc : xs[j] = ys[j]
      · have e1 : (xs[j].1, xs[j].2.1, xs[j].2.2.1, (xs[j].2.2.2.1.1, xs[j].2.2.2.1.2), xs[j].2.2.2.2.1, (xs[j].2.2.2.2.2.1.1, xs[j].2.2.2.2.2.1.2), xs[j].2.2.2.2.2.2) = (ys[j].1, ys[j].2.1, ys[j].2.2.1, (ys[j].2.2.2.1.1, ys[j].2.2.2.1.2), ys[j].2.2.2.2.1, (ys[j].2.2.2.2.2.1.1, ys[j].2.2.2.2.2.1.2), ys[j].2.2.2.2.2.2) := hc
        rw [decide_eq_true e1] at sp
        refine Eq.trans ?_ (if_pos (by rw [get_of hj, get_of h3, hc])).symm
        simp [S.laws_eqClientS.l6, h1, h2, get_of hj, get_of h3, w, sp]
      · have e1 : ¬ ((xs[j].1, xs[j].2.1, xs[j].2.2.1, (xs[j].2.2.2.1.1, xs[j].2.2.2.1.2), xs[j].2.2.2.2.1, (xs[j].2.2.2.2.2.1.1, xs[j].2.2.2.2.2.1.2), xs[j].2.2.2.2.2.2) = (ys[j].1, ys[j].2.1, ys[j].2.2.1, (ys[j].2.2.2.1.1, ys[j].2.2.2.1.2), ys[j].2.2.2.2.1, (ys[j].2.2.2.2.2.1.1, ys[j].2.2.2.2.2.1.2), ys[j].2.2.2.2.2.2)) := hc
        rw [decide_eq_false e1] at sp
        refine Eq.trans ?_ (if_neg (by rw [get_of hj, get_of h3]; exact fun h => hc (Option.some.inj h))).symm
        simp [S.laws_eqClientS.l6, h1, h2, get_of hj, get_of h3, w, sp]
    · simp [S.laws_eqClientS.l6]
    · simp [list_eq_iff hl]
      by_cases hx : xs = ys <;> simp [hx]
  · have : ¬ ((xs.length : Int) = ys.length) := by omega
    have hne : xs ≠ ys := fun h => hl (by rw [h])
    simp [this, hne]
abbrev rWindow : Rel ((Int × List (Int))) := (RSeq (RFl ci) rInt64S)
theorem goodWindow : Good 2 2 (mWindow true) rWindow := (RSeq.good ((RFl.good (es := 1) (mk := ci) (fun _ => rfl) (fun _ => rfl)).mono (by omega)) (goodInt64S.mono (by omega)))
def cWindow (x : (Int × List (Int))) : Nat := cInt64S x.2
theorem cWindow_le {x : (Int × List (Int))} (h : okWindow x) : cWindow x ≤ 1048576 := by
  unfold okWindow at h
  unfold cWindow
  have := cInt64S_le h
  omega
noncomputable def kWindow (x : (Int × List (Int))) (k : Nat) : (Int × List (Int)) := (x.1, kInt64S x.2 (k))
abbrev rClient : Rel ((Int × List (ByteArray) × Int × (Int × List (List ((Int × (Int × Int × Bool × Bool × Bool) × Int)))) × Int × (Int × List (Int)) × Int)) := (RSeq (RFl ci) (RSeq rStringS (RSeq (RFl ci) (RSeq rGrid (RSeq (RFl ci) (RSeq rWindow (RFl ci)))))))
theorem goodClient : Good 9 3 (mClient true) rClient := (RSeq.good ((RFl.good (es := 1) (mk := ci) (fun _ => rfl) (fun _ => rfl)).mono (by omega)) (RSeq.good (goodStringS.mono (by omega)) (RSeq.good ((RFl.good (es := 1) (mk := ci) (fun _ => rfl) (fun _ => rfl)).mono (by omega)) (RSeq.good (goodGrid.mono (by omega)) (RSeq.good ((RFl.good (es := 1) (mk := ci) (fun _ => rfl) (fun _ => rfl)).mono (by omega)) (RSeq.good (goodWindow.mono (by omega)) ((RFl.good (es := 1) (mk := ci) (fun _ => rfl) (fun _ => rfl)).mono (by omega))))))))
def cClient (x : (Int × List (ByteArray) × Int × (Int × List (List ((Int × (Int × Int × Bool × Bool × Bool) × Int)))) × Int × (Int × List (Int)) × Int)) : Nat := cStringS x.2.1 + cGrid x.2.2.2.1 + cWindow x.2.2.2.2.2.1
theorem cClient_le {x : (Int × List (ByteArray) × Int × (Int × List (List ((Int × (Int × Int × Bool × Bool × Bool) × Int)))) × Int × (Int × List (Int)) × Int)} (h : okClient x) : cClient x ≤ 7696583491584 := by
  unfold okClient at h
  unfold cClient
  have := cStringS_le h.1
  have := cGrid_le h.2.1
  have := cWindow_le h.2.2
  omega
noncomputable def kClient (x : (Int × List (ByteArray) × Int × (Int × List (List ((Int × (Int × Int × Bool × Bool × Bool) × Int)))) × Int × (Int × List (Int)) × Int)) (k : Nat) : (Int × List (ByteArray) × Int × (Int × List (List ((Int × (Int × Int × Bool × Bool × Bool) × Int)))) × Int × (Int × List (Int)) × Int) := (x.1, kStringS x.2.1 (k), x.2.2.1, kGrid x.2.2.2.1 (k + cStringS x.2.1), x.2.2.2.2.1, kWindow x.2.2.2.2.2.1 (k + cStringS x.2.1 + cGrid x.2.2.2.1), x.2.2.2.2.2.2)
abbrev rClientS : Rel (List ((Int × List (ByteArray) × Int × (Int × List (List ((Int × (Int × Int × Bool × Bool × Bool) × Int)))) × Int × (Int × List (Int)) × Int))) := RSl 9 rClient
theorem goodClientS : Good 1 4 (mClientS true) rClientS := RSl.good goodClient
def cClientS (xs : List ((Int × List (ByteArray) × Int × (Int × List (List ((Int × (Int × Int × Bool × Bool × Bool) × Int)))) × Int × (Int × List (Int)) × Int))) : Nat := cntL (fun x => 1 + (cStringS x.2.1) + 1 + 1 + (cCellSS x.2.2.2.1.2) + 1 + 1 + (cInt64S x.2.2.2.2.2.1.2) + 1) xs
noncomputable def kClientS (xs : List ((Int × List (ByteArray) × Int × (Int × List (List ((Int × (Int × Int × Bool × Bool × Bool) × Int)))) × Int × (Int × List (Int)) × Int))) (k : Nat) : List ((Int × List (ByteArray) × Int × (Int × List (List ((Int × (Int × Int × Bool × Bool × Bool) × Int)))) × Int × (Int × List (Int)) × Int)) := markL (fun x k => (((k : Nat) : Int), kStringS x.2.1 (k + 1), ((k + 1 + (cStringS x.2.1) : Nat) : Int), (((k + 1 + (cStringS x.2.1) + 1 : Nat) : Int), kCellSS x.2.2.2.1.2 (k + 1 + (cStringS x.2.1) + 1 + 1)), ((k + 1 + (cStringS x.2.1) + 1 + 1 + (cCellSS x.2.2.2.1.2) : Nat) : Int), (((k + 1 + (cStringS x.2.1) + 1 + 1 + (cCellSS x.2.2.2.1.2) + 1 : Nat) : Int), kInt64S x.2.2.2.2.2.1.2 (k + 1 + (cStringS x.2.1) + 1 + 1 + (cCellSS x.2.2.2.1.2) + 1 + 1)), ((k + 1 + (cStringS x.2.1) + 1 + 1 + (cCellSS x.2.2.2.1.2) + 1 + 1 + (cInt64S x.2.2.2.2.2.1.2) : Nat) : Int))) (fun x => 1 + (cStringS x.2.1) + 1 + 1 + (cCellSS x.2.2.2.1.2) + 1 + 1 + (cInt64S x.2.2.2.2.2.1.2) + 1) xs k
theorem cClientS_le {xs : List ((Int × List (ByteArray) × Int × (Int × List (List ((Int × (Int × Int × Bool × Bool × Bool) × Int)))) × Int × (Int × List (Int)) × Int))} (h : okClientS xs) : cClientS xs ≤ 8070452731277475840 := cntL_bound (M := 1048576) (B := 7696583491590) (h.1) (fun x hx => by have := cStringS_le ((show okClient x from (h.2 x hx)).1); have := cCellSS_le ((show okGrid x.2.2.2.1 from ((show okClient x from (h.2 x hx)).2.1))); have := cInt64S_le ((show okWindow x.2.2.2.2.2.1 from ((show okClient x from (h.2 x hx)).2.2))); show _ ≤ _; omega)
theorem laws_heldClientS_spec (xs : List ((Int × List (ByteArray) × Int × (Int × List (List ((Int × (Int × Int × Bool × Bool × Bool) × Int)))) × Int × (Int × List (Int)) × Int))) (k : Nat) (hok : okClientS xs) (hk : k + cClientS xs ≤ 4611686018427387904) : NN fn.laws_heldClientS [(fzl true 9 (mClient true) (kClientS xs k)), .int .i64 (k : Int)] = some (.int .i64 ((k + cClientS xs : Nat) : Int)) := by
  have hlim : k + cntL (fun x => 1 + (cStringS x.2.1) + 1 + 1 + (cCellSS x.2.2.2.1.2) + 1 + 1 + (cInt64S x.2.2.2.2.2.1.2) + 1) xs ≤ 4611686018427387904 := hk
  have hlen : xs.length ≤ 1048576 := hok.1
  obtain ⟨ys, hys⟩ : ∃ ys, kClientS xs k = ys := ⟨_, rfl⟩
  have hl : ys.length = xs.length := by rw [← hys]; exact markL_len _ _
  have hg : ∀ j (hj : j < xs.length), ys[j]? = some (((((k + cntL (fun x => 1 + (cStringS x.2.1) + 1 + 1 + (cCellSS x.2.2.2.1.2) + 1 + 1 + (cInt64S x.2.2.2.2.2.1.2) + 1) (xs.take j)) : Nat) : Int), kStringS xs[j].2.1 ((k + cntL (fun x => 1 + (cStringS x.2.1) + 1 + 1 + (cCellSS x.2.2.2.1.2) + 1 + 1 + (cInt64S x.2.2.2.2.2.1.2) + 1) (xs.take j)) + 1), (((k + cntL (fun x => 1 + (cStringS x.2.1) + 1 + 1 + (cCellSS x.2.2.2.1.2) + 1 + 1 + (cInt64S x.2.2.2.2.2.1.2) + 1) (xs.take j)) + 1 + (cStringS xs[j].2.1) : Nat) : Int), ((((k + cntL (fun x => 1 + (cStringS x.2.1) + 1 + 1 + (cCellSS x.2.2.2.1.2) + 1 + 1 + (cInt64S x.2.2.2.2.2.1.2) + 1) (xs.take j)) + 1 + (cStringS xs[j].2.1) + 1 : Nat) : Int), kCellSS xs[j].2.2.2.1.2 ((k + cntL (fun x => 1 + (cStringS x.2.1) + 1 + 1 + (cCellSS x.2.2.2.1.2) + 1 + 1 + (cInt64S x.2.2.2.2.2.1.2) + 1) (xs.take j)) + 1 + (cStringS xs[j].2.1) + 1 + 1)), (((k + cntL (fun x => 1 + (cStringS x.2.1) + 1 + 1 + (cCellSS x.2.2.2.1.2) + 1 + 1 + (cInt64S x.2.2.2.2.2.1.2) + 1) (xs.take j)) + 1 + (cStringS xs[j].2.1) + 1 + 1 + (cCellSS xs[j].2.2.2.1.2) : Nat) : Int), ((((k + cntL (fun x => 1 + (cStringS x.2.1) + 1 + 1 + (cCellSS x.2.2.2.1.2) + 1 + 1 + (cInt64S x.2.2.2.2.2.1.2) + 1) (xs.take j)) + 1 + (cStringS xs[j].2.1) + 1 + 1 + (cCellSS xs[j].2.2.2.1.2) + 1 : Nat) : Int), kInt64S xs[j].2.2.2.2.2.1.2 ((k + cntL (fun x => 1 + (cStringS x.2.1) + 1 + 1 + (cCellSS x.2.2.2.1.2) + 1 + 1 + (cInt64S x.2.2.2.2.2.1.2) + 1) (xs.take j)) + 1 + (cStringS xs[j].2.1) + 1 + 1 + (cCellSS xs[j].2.2.2.1.2) + 1 + 1)), (((k + cntL (fun x => 1 + (cStringS x.2.1) + 1 + 1 + (cCellSS x.2.2.2.1.2) + 1 + 1 + (cInt64S x.2.2.2.2.2.1.2) + 1) (xs.take j)) + 1 + (cStringS xs[j].2.1) + 1 + 1 + (cCellSS xs[j].2.2.2.1.2) + 1 + 1 + (cInt64S xs[j].2.2.2.2.2.1.2) : Nat) : Int))) := fun j hj => by rw [← hys]; exact markL_get xs k j hj
  rw [hys]
  apply S.laws_heldClientS.gives (k := xs.length + 1)
  have key := loop_to (f := fun r j => fun (G : GX → GV → GV → Heap → Option GV) => S.laws_heldClientS.l5 (xs.length + 1) G r (fzl true 9 (mClient true) ys) (.int .i64 ((k + cntL (fun x => 1 + (cStringS x.2.1) + 1 + 1 + (cCellSS x.2.2.2.1.2) + 1 + 1 + (cInt64S x.2.2.2.2.2.1.2) + 1) (xs.take j) : Nat) : Int)) (.int .i64 0) (.int .i64 (j : Int)) []) (A := fun G => G (.ext 0) (.int .i64 ((k + cClientS xs : Nat) : Int)) (.int .i64 0) []) (n := xs.length) ?_ ?_ (xs.length + 1) 0 (by omega) (by omega)
  · have key' := fun G => congrFun key G
    simp only [List.take_zero, cntL, List.map_nil, List.sum_nil, Nat.add_zero, show ((0 : Nat) : Int) = 0 from rfl] at key'
    simp [S.laws_heldClientS.run, key', -Int.natCast_add]
  · intro j r hj
    have g1 : (j : Int) < (ys.length : Int) := by omega
    have kj := kadd1 (n := j) (by omega)
    have q1 := cntL_take (c := (fun x => 1 + (cStringS x.2.1) + 1 + 1 + (cCellSS x.2.2.2.1.2) + 1 + 1 + (cInt64S x.2.2.2.2.2.1.2) + 1)) hj
    have q2 := cntL_le (c := (fun x => 1 + (cStringS x.2.1) + 1 + 1 + (cCellSS x.2.2.2.1.2) + 1 + 1 + (cInt64S x.2.2.2.2.2.1.2) + 1)) (xs := xs) (j + 1)
    have hgj := hg j hj
    try simp only at q1
    rw [q1, ← Nat.add_assoc]
    obtain ⟨K, hK⟩ : ∃ K, k + cntL (fun x => 1 + (cStringS x.2.1) + 1 + 1 + (cCellSS x.2.2.2.1.2) + 1 + 1 + (cInt64S x.2.2.2.2.2.1.2) + 1) (xs.take j) = K := ⟨_, rfl⟩
    have hKb : K + (1 + (cStringS xs[j].2.1) + 1 + 1 + (cCellSS xs[j].2.2.2.1.2) + 1 + 1 + (cInt64S xs[j].2.2.2.2.2.1.2) + 1) ≤ 4611686018427387904 := by omega
    rw [hK] at hgj ⊢
    have ka0 := kadd1 (n := K) (by omega)
    have s1 := laws_heldStringS_spec (xs[j].2.1) (K + 1) ((show okClient xs[j] from (hok.2 _ (List.getElem_mem hj))).1) (by omega)
    have z1 : ¬ (((K + 1 + (cStringS xs[j].2.1) : Nat) : Int) < 0) := by omega
    have ka2 := kadd1 (n := K + 1 + (cStringS xs[j].2.1)) (by omega)
    have ka3 := kadd1 (n := K + 1 + (cStringS xs[j].2.1) + 1) (by omega)
    have s4 := laws_heldCellSS_spec (xs[j].2.2.2.1.2) (K + 1 + (cStringS xs[j].2.1) + 1 + 1) ((show okGrid xs[j].2.2.2.1 from ((show okClient xs[j] from (hok.2 _ (List.getElem_mem hj))).2.1))) (by omega)
    have z4 : ¬ (((K + 1 + (cStringS xs[j].2.1) + 1 + 1 + (cCellSS xs[j].2.2.2.1.2) : Nat) : Int) < 0) := by omega
    have ka5 := kadd1 (n := K + 1 + (cStringS xs[j].2.1) + 1 + 1 + (cCellSS xs[j].2.2.2.1.2)) (by omega)
    have ka6 := kadd1 (n := K + 1 + (cStringS xs[j].2.1) + 1 + 1 + (cCellSS xs[j].2.2.2.1.2) + 1) (by omega)
    have s7 := laws_heldInt64S_spec (xs[j].2.2.2.2.2.1.2) (K + 1 + (cStringS xs[j].2.1) + 1 + 1 + (cCellSS xs[j].2.2.2.1.2) + 1 + 1) ((show okWindow xs[j].2.2.2.2.2.1 from ((show okClient xs[j] from (hok.2 _ (List.getElem_mem hj))).2.2))) (by omega)
    have z7 : ¬ (((K + 1 + (cStringS xs[j].2.1) + 1 + 1 + (cCellSS xs[j].2.2.2.1.2) + 1 + 1 + (cInt64S xs[j].2.2.2.2.2.1.2) : Nat) : Int) < 0) := by omega
    have ka8 := kadd1 (n := K + 1 + (cStringS xs[j].2.1) + 1 + 1 + (cCellSS xs[j].2.2.2.1.2) + 1 + 1 + (cInt64S xs[j].2.2.2.2.2.1.2)) (by omega)
    rw [show K + (1 + (cStringS xs[j].2.1) + 1 + 1 + (cCellSS xs[j].2.2.2.1.2) + 1 + 1 + (cInt64S xs[j].2.2.2.2.2.1.2) + 1) = K + 1 + (cStringS xs[j].2.1) + 1 + 1 + (cCellSS xs[j].2.2.2.1.2) + 1 + 1 + (cInt64S xs[j].2.2.2.2.2.1.2) + 1 from by omega]
    funext G
    simp only [S.laws_heldClientS.l5]
    simp [g1, hgj, kj, ka0, s1, z1, ka2, ka3, s4, z4, ka5, ka6, s7, z7, ka8, -Int.natCast_add, -kbin_add]
    try rfl
  · intro r
    funext G
    have g1 : ¬ ((xs.length : Int) < (ys.length : Int)) := by omega
    simp only [S.laws_heldClientS.l5, List.take_length]
    simp [g1, -Int.natCast_add]
    try rfl
theorem laws_markClientS_spec (h : Heap) (v : GV) (xs : List ((Int × List (ByteArray) × Int × (Int × List (List ((Int × (Int × Int × Bool × Bool × Bool) × Int)))) × Int × (Int × List (Int)) × Int))) (R : List Nat) (k : Nat) (hok : okClientS xs) (he : rClientS h [v] xs R) (nd : R.Nodup) (hk : k + cClientS xs ≤ 4611686018427387904) : ∃ h', HH fn.laws_markClientS [v, .int .i64 (k : Int)] h = some (.int .i64 ((k + cClientS xs : Nat) : Int), h') ∧ rClientS h' [v] (kClientS xs k) R ∧ Fr R h h' := by
  have hlim : k + cntL (fun x => 1 + (cStringS x.2.1) + 1 + 1 + (cCellSS x.2.2.2.1.2) + 1 + 1 + (cInt64S x.2.2.2.2.2.1.2) + 1) xs ≤ 4611686018427387904 := hk
  have hlen : xs.length ≤ 1048576 := hok.1
  have key := mark_loop (E := rClient) goodClient (m := (fun x k => (((k : Nat) : Int), kStringS x.2.1 (k + 1), ((k + 1 + (cStringS x.2.1) : Nat) : Int), (((k + 1 + (cStringS x.2.1) + 1 : Nat) : Int), kCellSS x.2.2.2.1.2 (k + 1 + (cStringS x.2.1) + 1 + 1)), ((k + 1 + (cStringS x.2.1) + 1 + 1 + (cCellSS x.2.2.2.1.2) : Nat) : Int), (((k + 1 + (cStringS x.2.1) + 1 + 1 + (cCellSS x.2.2.2.1.2) + 1 : Nat) : Int), kInt64S x.2.2.2.2.2.1.2 (k + 1 + (cStringS x.2.1) + 1 + 1 + (cCellSS x.2.2.2.1.2) + 1 + 1)), ((k + 1 + (cStringS x.2.1) + 1 + 1 + (cCellSS x.2.2.2.1.2) + 1 + 1 + (cInt64S x.2.2.2.2.2.1.2) : Nat) : Int)))) (c := (fun x => 1 + (cStringS x.2.1) + 1 + 1 + (cCellSS x.2.2.2.1.2) + 1 + 1 + (cInt64S x.2.2.2.2.2.1.2) + 1)) (v := v) (xs := xs) (R := R) (k := k) nd (f := fun r j k h => fun (G : GX → GV → GV → Heap → Option (GV × Heap)) => S.laws_markClientS.l5 (xs.length + 1) G r v (.int .i64 (k : Int)) (.int .i64 0) (.int .i64 (j : Int)) h) (A := fun k h => fun G => G (.ext 0) (.int .i64 (k : Int)) (.int .i64 0) h) ?_ ?_ he (xs.length + 1) (by omega)
  · obtain ⟨h', a1, a2, a3⟩ := key
    refine ⟨h', S.laws_markClientS.gives (k := xs.length + 1) ?_, a2, a3⟩
    have a1' := fun G => congrFun a1 G
    simp only [show ((0 : Nat) : Int) = 0 from rfl] at a1'
    simp [S.laws_markClientS.run, a1', -Int.natCast_add]
    rfl
  · intro j r h ys he hl hj hy
    obtain ⟨b, css, c, r0, hv, hb, fl, hcn, hc, fe, hE, hbr, hbR, hrR, nd0, hup⟩ := RSl.focus goodClient he nd (j := j) (by omega)
    have ey : ys[j]'(by omega) = xs[j] := by rw [List.getElem?_eq_getElem (by omega)] at hy; exact Option.some.inj hy
    rw [ey] at hE
    rw [hl] at hv hcn
    have hcl := fe c (List.mem_of_getElem? hc)
    have hb0 : h[b]? = some (css.set j c).flatten := by rw [set_get_self hc]; exact hb
    have q1 := cntL_take (c := (fun x => 1 + (cStringS x.2.1) + 1 + 1 + (cCellSS x.2.2.2.1.2) + 1 + 1 + (cInt64S x.2.2.2.2.2.1.2) + 1)) hj
    have q2 := cntL_le (c := (fun x => 1 + (cStringS x.2.1) + 1 + 1 + (cCellSS x.2.2.2.1.2) + 1 + 1 + (cInt64S x.2.2.2.2.2.1.2) + 1)) (xs := xs) (j + 1)
    try simp only at q1
    obtain ⟨K, hK⟩ : ∃ K, k + cntL (fun x => 1 + (cStringS x.2.1) + 1 + 1 + (cCellSS x.2.2.2.1.2) + 1 + 1 + (cInt64S x.2.2.2.2.2.1.2) + 1) (xs.take j) = K := ⟨_, rfl⟩
    have hKb : K + (1 + (cStringS xs[j].2.1) + 1 + 1 + (cCellSS xs[j].2.2.2.1.2) + 1 + 1 + (cInt64S xs[j].2.2.2.2.2.1.2) + 1) ≤ 4611686018427387904 := by omega
    rw [hK]
    clear hK q1 q2
    have hm := (RSl.good goodClient).mem he
    have hbl := (List.getElem?_eq_some_iff.1 hb).1
    have kj := kadd1 (n := j) (by omega)
    have k0 : kia 9 (.sl b 0 xs.length xs.length 9) (.int .i64 (j : Int)) = some (.ptr b (j * 9) (xs.length * 9)) := kia_at hj (by omega) (by omega)
    obtain ⟨c0, d0, R0, S0, rfl, rfl, E0, F0⟩ := hE
    obtain ⟨c1, d1, R1, S1, rfl, rfl, E1, F1⟩ := F0
    obtain ⟨c2, d2, R2, S2, rfl, rfl, E2, F2⟩ := F1
    obtain ⟨c3, d3, R3, S3, rfl, rfl, E3, F3⟩ := F2
    obtain ⟨c4, d4, R4, S4, rfl, rfl, E4, F4⟩ := F3
    obtain ⟨c5, d5, R5, S5, rfl, rfl, E5, F5⟩ := F4
    obtain ⟨rfl, rfl⟩ := E0
    obtain ⟨w6, rfl⟩ : ∃ w, c1 = [w] := List.length_eq_one_iff.1 (goodStringS.len E1)
    obtain ⟨rfl, rfl⟩ := E2
    obtain ⟨c7, d7, R7, S7, rfl, rfl, E7, F7⟩ := E3
    obtain ⟨rfl, rfl⟩ := E7
    obtain ⟨w8, rfl⟩ : ∃ w, d7 = [w] := List.length_eq_one_iff.1 (goodCellSS.len F7)
    obtain ⟨rfl, rfl⟩ := E4
    obtain ⟨c9, d9, R9, S9, rfl, rfl, E9, F9⟩ := E5
    obtain ⟨rfl, rfl⟩ := E9
    obtain ⟨w10, rfl⟩ : ∃ w, d9 = [w] := List.length_eq_one_iff.1 (goodInt64S.len F9)
    obtain ⟨rfl, rfl⟩ := F5
    have nr : (R1 ++ (S7 ++ (S9))).Nodup := by simpa using nd0
    have N0 := List.nodup_append.1 nr
    have N1 := List.nodup_append.1 N0.2.1
    have ib0 : b ∉ R1 := fun hz => hbr (by simp [hz])
    have ib1 : b ∉ S7 := fun hz => hbr (by simp [hz])
    have ib2 : b ∉ S9 := fun hz => hbr (by simp [hz])
    have hb0 : h[b]? = some (css.set j [.int .i64 xs[j].1, w6, .int .i64 xs[j].2.2.1, .int .i64 xs[j].2.2.2.1.1, w8, .int .i64 xs[j].2.2.2.2.1, .int .i64 xs[j].2.2.2.2.2.1.1, w10, .int .i64 xs[j].2.2.2.2.2.2]).flatten := hb0
    have hcl : ([.int .i64 xs[j].1, w6, .int .i64 xs[j].2.2.1, .int .i64 xs[j].2.2.2.1.1, w8, .int .i64 xs[j].2.2.2.2.1, .int .i64 xs[j].2.2.2.2.2.1.1, w10, .int .i64 xs[j].2.2.2.2.2.2] : List GV).length = 9 := rfl
    obtain ⟨H1, m1, hb1, f1⟩ := st_leaf (es := 9) (off := 0) (x := (.int .i64 ((K : Nat) : Int))) (o := j * 9) (tot := xs.length * 9) hb0 fe hcn hj rfl (by omega) rfl rfl (by omega) (by omega)
    have hb1 : H1[b]? = some (css.set j [(.int .i64 ((K : Nat) : Int)), w6, .int .i64 xs[j].2.2.1, .int .i64 xs[j].2.2.2.1.1, w8, .int .i64 xs[j].2.2.2.2.1, .int .i64 xs[j].2.2.2.2.2.1.1, w10, .int .i64 xs[j].2.2.2.2.2.2]).flatten := hb1
    have g1 : Fr R h H1 := f1.sub (fun i hi => by rw [List.mem_singleton] at hi; rw [hi]; exact hbR)
    have ka0 := kadd1 (n := K) (by omega)
    have y0_0 := goodStringS.keep E1 f1 (fun i hi hb => ib0 (by rw [List.mem_singleton] at hb; rw [← hb]; exact hi))
    have y0_1 := goodCellSS.keep F7 f1 (fun i hi hb => ib1 (by rw [List.mem_singleton] at hb; rw [← hb]; exact hi))
    have y0_2 := goodInt64S.keep F9 f1 (fun i hi hb => ib2 (by rw [List.mem_singleton] at hb; rw [← hb]; exact hi))
    have l1 : kload1 H1 (.ptr b (j * 9 + 1) (xs.length * 9)) = some w6 := by rw [ld_leaf (es := 9) (off := 1) hb1 fe hcn hj rfl (by omega) (by omega) (by omega)]; rfl
    obtain ⟨H2, m2, x2, f2⟩ := laws_markStringS_spec H1 w6 (xs[j].2.1) R1 (K + 1) ((show okClient xs[j] from (hok.2 _ (List.getElem_mem hj))).1) y0_0 (N0.1) (by omega)
    have hb2 : H2[b]? = some (css.set j [(.int .i64 ((K : Nat) : Int)), w6, .int .i64 xs[j].2.2.1, .int .i64 xs[j].2.2.2.1.1, w8, .int .i64 xs[j].2.2.2.2.1, .int .i64 xs[j].2.2.2.2.2.1.1, w10, .int .i64 xs[j].2.2.2.2.2.2]).flatten := by rw [f2.2 b (by have := f1.1; omega) ib0]; exact hb1
    have g2 : Fr R H1 H2 := f2.sub (fun i hi => hrR i (by simp [hi]))
    have y1_1 := goodCellSS.keep y0_1 f2 (fun z h1 h2 => N0.2.2 z h2 z (by simp [h1]) rfl)
    have y1_2 := goodInt64S.keep y0_2 f2 (fun z h1 h2 => N0.2.2 z h2 z (by simp [h1]) rfl)
    obtain ⟨H3, m3, hb3, f3⟩ := st_leaf (es := 9) (off := 2) (x := (.int .i64 ((K + 1 + (cStringS xs[j].2.1) : Nat) : Int))) (o := j * 9 + 2) (tot := xs.length * 9) hb2 fe hcn hj rfl (by omega) rfl rfl (by omega) (by omega)
    have hb3 : H3[b]? = some (css.set j [(.int .i64 ((K : Nat) : Int)), w6, (.int .i64 ((K + 1 + (cStringS xs[j].2.1) : Nat) : Int)), .int .i64 xs[j].2.2.2.1.1, w8, .int .i64 xs[j].2.2.2.2.1, .int .i64 xs[j].2.2.2.2.2.1.1, w10, .int .i64 xs[j].2.2.2.2.2.2]).flatten := hb3
    have g3 : Fr R H2 H3 := f3.sub (fun i hi => by rw [List.mem_singleton] at hi; rw [hi]; exact hbR)
    have ka2 := kadd1 (n := K + 1 + (cStringS xs[j].2.1)) (by omega)
    have y2_0 := goodStringS.keep x2 f3 (fun i hi hb => ib0 (by rw [List.mem_singleton] at hb; rw [← hb]; exact hi))
    have y2_1 := goodCellSS.keep y1_1 f3 (fun i hi hb => ib1 (by rw [List.mem_singleton] at hb; rw [← hb]; exact hi))
    have y2_2 := goodInt64S.keep y1_2 f3 (fun i hi hb => ib2 (by rw [List.mem_singleton] at hb; rw [← hb]; exact hi))
    obtain ⟨H4, m4, hb4, f4⟩ := st_leaf (es := 9) (off := 3) (x := (.int .i64 ((K + 1 + (cStringS xs[j].2.1) + 1 : Nat) : Int))) (o := j * 9 + 3) (tot := xs.length * 9) hb3 fe hcn hj rfl (by omega) rfl rfl (by omega) (by omega)
    have hb4 : H4[b]? = some (css.set j [(.int .i64 ((K : Nat) : Int)), w6, (.int .i64 ((K + 1 + (cStringS xs[j].2.1) : Nat) : Int)), (.int .i64 ((K + 1 + (cStringS xs[j].2.1) + 1 : Nat) : Int)), w8, .int .i64 xs[j].2.2.2.2.1, .int .i64 xs[j].2.2.2.2.2.1.1, w10, .int .i64 xs[j].2.2.2.2.2.2]).flatten := hb4
    have g4 : Fr R H3 H4 := f4.sub (fun i hi => by rw [List.mem_singleton] at hi; rw [hi]; exact hbR)
    have ka3 := kadd1 (n := K + 1 + (cStringS xs[j].2.1) + 1) (by omega)
    have y3_0 := goodStringS.keep y2_0 f4 (fun i hi hb => ib0 (by rw [List.mem_singleton] at hb; rw [← hb]; exact hi))
    have y3_1 := goodCellSS.keep y2_1 f4 (fun i hi hb => ib1 (by rw [List.mem_singleton] at hb; rw [← hb]; exact hi))
    have y3_2 := goodInt64S.keep y2_2 f4 (fun i hi hb => ib2 (by rw [List.mem_singleton] at hb; rw [← hb]; exact hi))
    have l4 : kload1 H4 (.ptr b (j * 9 + 4) (xs.length * 9)) = some w8 := by rw [ld_leaf (es := 9) (off := 4) hb4 fe hcn hj rfl (by omega) (by omega) (by omega)]; rfl
    obtain ⟨H5, m5, x5, f5⟩ := laws_markCellSS_spec H4 w8 (xs[j].2.2.2.1.2) S7 (K + 1 + (cStringS xs[j].2.1) + 1 + 1) ((show okGrid xs[j].2.2.2.1 from ((show okClient xs[j] from (hok.2 _ (List.getElem_mem hj))).2.1))) y3_1 (N1.1) (by omega)
    have hb5 : H5[b]? = some (css.set j [(.int .i64 ((K : Nat) : Int)), w6, (.int .i64 ((K + 1 + (cStringS xs[j].2.1) : Nat) : Int)), (.int .i64 ((K + 1 + (cStringS xs[j].2.1) + 1 : Nat) : Int)), w8, .int .i64 xs[j].2.2.2.2.1, .int .i64 xs[j].2.2.2.2.2.1.1, w10, .int .i64 xs[j].2.2.2.2.2.2]).flatten := by rw [f5.2 b (by have := f1.1; have := f2.1; have := f3.1; have := f4.1; omega) ib1]; exact hb4
    have g5 : Fr R H4 H5 := f5.sub (fun i hi => hrR i (by simp [hi]))
    have y4_0 := goodStringS.keep y3_0 f5 (fun z h1 h2 => N0.2.2 z h1 z (by simp [h2]) rfl)
    have y4_2 := goodInt64S.keep y3_2 f5 (fun z h1 h2 => N1.2.2 z h2 z (by simp [h1]) rfl)
    obtain ⟨H6, m6, hb6, f6⟩ := st_leaf (es := 9) (off := 5) (x := (.int .i64 ((K + 1 + (cStringS xs[j].2.1) + 1 + 1 + (cCellSS xs[j].2.2.2.1.2) : Nat) : Int))) (o := j * 9 + 5) (tot := xs.length * 9) hb5 fe hcn hj rfl (by omega) rfl rfl (by omega) (by omega)
    have hb6 : H6[b]? = some (css.set j [(.int .i64 ((K : Nat) : Int)), w6, (.int .i64 ((K + 1 + (cStringS xs[j].2.1) : Nat) : Int)), (.int .i64 ((K + 1 + (cStringS xs[j].2.1) + 1 : Nat) : Int)), w8, (.int .i64 ((K + 1 + (cStringS xs[j].2.1) + 1 + 1 + (cCellSS xs[j].2.2.2.1.2) : Nat) : Int)), .int .i64 xs[j].2.2.2.2.2.1.1, w10, .int .i64 xs[j].2.2.2.2.2.2]).flatten := hb6
    have g6 : Fr R H5 H6 := f6.sub (fun i hi => by rw [List.mem_singleton] at hi; rw [hi]; exact hbR)
    have ka5 := kadd1 (n := K + 1 + (cStringS xs[j].2.1) + 1 + 1 + (cCellSS xs[j].2.2.2.1.2)) (by omega)
    have y5_0 := goodStringS.keep y4_0 f6 (fun i hi hb => ib0 (by rw [List.mem_singleton] at hb; rw [← hb]; exact hi))
    have y5_1 := goodCellSS.keep x5 f6 (fun i hi hb => ib1 (by rw [List.mem_singleton] at hb; rw [← hb]; exact hi))
    have y5_2 := goodInt64S.keep y4_2 f6 (fun i hi hb => ib2 (by rw [List.mem_singleton] at hb; rw [← hb]; exact hi))
    obtain ⟨H7, m7, hb7, f7⟩ := st_leaf (es := 9) (off := 6) (x := (.int .i64 ((K + 1 + (cStringS xs[j].2.1) + 1 + 1 + (cCellSS xs[j].2.2.2.1.2) + 1 : Nat) : Int))) (o := j * 9 + 6) (tot := xs.length * 9) hb6 fe hcn hj rfl (by omega) rfl rfl (by omega) (by omega)
    have hb7 : H7[b]? = some (css.set j [(.int .i64 ((K : Nat) : Int)), w6, (.int .i64 ((K + 1 + (cStringS xs[j].2.1) : Nat) : Int)), (.int .i64 ((K + 1 + (cStringS xs[j].2.1) + 1 : Nat) : Int)), w8, (.int .i64 ((K + 1 + (cStringS xs[j].2.1) + 1 + 1 + (cCellSS xs[j].2.2.2.1.2) : Nat) : Int)), (.int .i64 ((K + 1 + (cStringS xs[j].2.1) + 1 + 1 + (cCellSS xs[j].2.2.2.1.2) + 1 : Nat) : Int)), w10, .int .i64 xs[j].2.2.2.2.2.2]).flatten := hb7
    have g7 : Fr R H6 H7 := f7.sub (fun i hi => by rw [List.mem_singleton] at hi; rw [hi]; exact hbR)
    have ka6 := kadd1 (n := K + 1 + (cStringS xs[j].2.1) + 1 + 1 + (cCellSS xs[j].2.2.2.1.2) + 1) (by omega)
    have y6_0 := goodStringS.keep y5_0 f7 (fun i hi hb => ib0 (by rw [List.mem_singleton] at hb; rw [← hb]; exact hi))
    have y6_1 := goodCellSS.keep y5_1 f7 (fun i hi hb => ib1 (by rw [List.mem_singleton] at hb; rw [← hb]; exact hi))
    have y6_2 := goodInt64S.keep y5_2 f7 (fun i hi hb => ib2 (by rw [List.mem_singleton] at hb; rw [← hb]; exact hi))
    have l7 : kload1 H7 (.ptr b (j * 9 + 7) (xs.length * 9)) = some w10 := by rw [ld_leaf (es := 9) (off := 7) hb7 fe hcn hj rfl (by omega) (by omega) (by omega)]; rfl
    obtain ⟨H8, m8, x8, f8⟩ := laws_markInt64S_spec H7 w10 (xs[j].2.2.2.2.2.1.2) S9 (K + 1 + (cStringS xs[j].2.1) + 1 + 1 + (cCellSS xs[j].2.2.2.1.2) + 1 + 1) ((show okWindow xs[j].2.2.2.2.2.1 from ((show okClient xs[j] from (hok.2 _ (List.getElem_mem hj))).2.2))) y6_2 (N1.2.1) (by omega)
    have hb8 : H8[b]? = some (css.set j [(.int .i64 ((K : Nat) : Int)), w6, (.int .i64 ((K + 1 + (cStringS xs[j].2.1) : Nat) : Int)), (.int .i64 ((K + 1 + (cStringS xs[j].2.1) + 1 : Nat) : Int)), w8, (.int .i64 ((K + 1 + (cStringS xs[j].2.1) + 1 + 1 + (cCellSS xs[j].2.2.2.1.2) : Nat) : Int)), (.int .i64 ((K + 1 + (cStringS xs[j].2.1) + 1 + 1 + (cCellSS xs[j].2.2.2.1.2) + 1 : Nat) : Int)), w10, .int .i64 xs[j].2.2.2.2.2.2]).flatten := by rw [f8.2 b (by have := f1.1; have := f2.1; have := f3.1; have := f4.1; have := f5.1; have := f6.1; have := f7.1; omega) ib2]; exact hb7
    have g8 : Fr R H7 H8 := f8.sub (fun i hi => hrR i (by simp [hi]))
    have y7_0 := goodStringS.keep y6_0 f8 (fun z h1 h2 => N0.2.2 z h1 z (by simp [h2]) rfl)
    have y7_1 := goodCellSS.keep y6_1 f8 (fun z h1 h2 => N1.2.2 z h1 z (by simp [h2]) rfl)
    obtain ⟨H9, m9, hb9, f9⟩ := st_leaf (es := 9) (off := 8) (x := (.int .i64 ((K + 1 + (cStringS xs[j].2.1) + 1 + 1 + (cCellSS xs[j].2.2.2.1.2) + 1 + 1 + (cInt64S xs[j].2.2.2.2.2.1.2) : Nat) : Int))) (o := j * 9 + 8) (tot := xs.length * 9) hb8 fe hcn hj rfl (by omega) rfl rfl (by omega) (by omega)
    have hb9 : H9[b]? = some (css.set j [(.int .i64 ((K : Nat) : Int)), w6, (.int .i64 ((K + 1 + (cStringS xs[j].2.1) : Nat) : Int)), (.int .i64 ((K + 1 + (cStringS xs[j].2.1) + 1 : Nat) : Int)), w8, (.int .i64 ((K + 1 + (cStringS xs[j].2.1) + 1 + 1 + (cCellSS xs[j].2.2.2.1.2) : Nat) : Int)), (.int .i64 ((K + 1 + (cStringS xs[j].2.1) + 1 + 1 + (cCellSS xs[j].2.2.2.1.2) + 1 : Nat) : Int)), w10, (.int .i64 ((K + 1 + (cStringS xs[j].2.1) + 1 + 1 + (cCellSS xs[j].2.2.2.1.2) + 1 + 1 + (cInt64S xs[j].2.2.2.2.2.1.2) : Nat) : Int))]).flatten := hb9
    have g9 : Fr R H8 H9 := f9.sub (fun i hi => by rw [List.mem_singleton] at hi; rw [hi]; exact hbR)
    have ka8 := kadd1 (n := K + 1 + (cStringS xs[j].2.1) + 1 + 1 + (cCellSS xs[j].2.2.2.1.2) + 1 + 1 + (cInt64S xs[j].2.2.2.2.2.1.2)) (by omega)
    have y8_0 := goodStringS.keep y7_0 f9 (fun i hi hb => ib0 (by rw [List.mem_singleton] at hb; rw [← hb]; exact hi))
    have y8_1 := goodCellSS.keep y7_1 f9 (fun i hi hb => ib1 (by rw [List.mem_singleton] at hb; rw [← hb]; exact hi))
    have y8_2 := goodInt64S.keep x8 f9 (fun i hi hb => ib2 (by rw [List.mem_singleton] at hb; rw [← hb]; exact hi))
    refine ⟨H9, ?_, hup H9 [(.int .i64 ((K : Nat) : Int)), w6, (.int .i64 ((K + 1 + (cStringS xs[j].2.1) : Nat) : Int)), (.int .i64 ((K + 1 + (cStringS xs[j].2.1) + 1 : Nat) : Int)), w8, (.int .i64 ((K + 1 + (cStringS xs[j].2.1) + 1 + 1 + (cCellSS xs[j].2.2.2.1.2) : Nat) : Int)), (.int .i64 ((K + 1 + (cStringS xs[j].2.1) + 1 + 1 + (cCellSS xs[j].2.2.2.1.2) + 1 : Nat) : Int)), w10, (.int .i64 ((K + 1 + (cStringS xs[j].2.1) + 1 + 1 + (cCellSS xs[j].2.2.2.1.2) + 1 + 1 + (cInt64S xs[j].2.2.2.2.2.1.2) : Nat) : Int))] _ hb9 ⟨[(.int .i64 ((K : Nat) : Int))], ([w6] ++ ([(.int .i64 ((K + 1 + (cStringS xs[j].2.1) : Nat) : Int))] ++ (([(.int .i64 ((K + 1 + (cStringS xs[j].2.1) + 1 : Nat) : Int))] ++ ([w8])) ++ ([(.int .i64 ((K + 1 + (cStringS xs[j].2.1) + 1 + 1 + (cCellSS xs[j].2.2.2.1.2) : Nat) : Int))] ++ (([(.int .i64 ((K + 1 + (cStringS xs[j].2.1) + 1 + 1 + (cCellSS xs[j].2.2.2.1.2) + 1 : Nat) : Int))] ++ ([w10])) ++ ([(.int .i64 ((K + 1 + (cStringS xs[j].2.1) + 1 + 1 + (cCellSS xs[j].2.2.2.1.2) + 1 + 1 + (cInt64S xs[j].2.2.2.2.2.1.2) : Nat) : Int))])))))), [], (R1 ++ ([] ++ (([] ++ (S7)) ++ ([] ++ (([] ++ (S9)) ++ ([])))))), rfl, rfl, ⟨rfl, rfl⟩, ⟨[w6], ([(.int .i64 ((K + 1 + (cStringS xs[j].2.1) : Nat) : Int))] ++ (([(.int .i64 ((K + 1 + (cStringS xs[j].2.1) + 1 : Nat) : Int))] ++ ([w8])) ++ ([(.int .i64 ((K + 1 + (cStringS xs[j].2.1) + 1 + 1 + (cCellSS xs[j].2.2.2.1.2) : Nat) : Int))] ++ (([(.int .i64 ((K + 1 + (cStringS xs[j].2.1) + 1 + 1 + (cCellSS xs[j].2.2.2.1.2) + 1 : Nat) : Int))] ++ ([w10])) ++ ([(.int .i64 ((K + 1 + (cStringS xs[j].2.1) + 1 + 1 + (cCellSS xs[j].2.2.2.1.2) + 1 + 1 + (cInt64S xs[j].2.2.2.2.2.1.2) : Nat) : Int))]))))), R1, ([] ++ (([] ++ (S7)) ++ ([] ++ (([] ++ (S9)) ++ ([]))))), rfl, rfl, y8_0, ⟨[(.int .i64 ((K + 1 + (cStringS xs[j].2.1) : Nat) : Int))], (([(.int .i64 ((K + 1 + (cStringS xs[j].2.1) + 1 : Nat) : Int))] ++ ([w8])) ++ ([(.int .i64 ((K + 1 + (cStringS xs[j].2.1) + 1 + 1 + (cCellSS xs[j].2.2.2.1.2) : Nat) : Int))] ++ (([(.int .i64 ((K + 1 + (cStringS xs[j].2.1) + 1 + 1 + (cCellSS xs[j].2.2.2.1.2) + 1 : Nat) : Int))] ++ ([w10])) ++ ([(.int .i64 ((K + 1 + (cStringS xs[j].2.1) + 1 + 1 + (cCellSS xs[j].2.2.2.1.2) + 1 + 1 + (cInt64S xs[j].2.2.2.2.2.1.2) : Nat) : Int))])))), [], (([] ++ (S7)) ++ ([] ++ (([] ++ (S9)) ++ ([])))), rfl, rfl, ⟨rfl, rfl⟩, ⟨([(.int .i64 ((K + 1 + (cStringS xs[j].2.1) + 1 : Nat) : Int))] ++ ([w8])), ([(.int .i64 ((K + 1 + (cStringS xs[j].2.1) + 1 + 1 + (cCellSS xs[j].2.2.2.1.2) : Nat) : Int))] ++ (([(.int .i64 ((K + 1 + (cStringS xs[j].2.1) + 1 + 1 + (cCellSS xs[j].2.2.2.1.2) + 1 : Nat) : Int))] ++ ([w10])) ++ ([(.int .i64 ((K + 1 + (cStringS xs[j].2.1) + 1 + 1 + (cCellSS xs[j].2.2.2.1.2) + 1 + 1 + (cInt64S xs[j].2.2.2.2.2.1.2) : Nat) : Int))]))), ([] ++ (S7)), ([] ++ (([] ++ (S9)) ++ ([]))), rfl, rfl, ⟨[(.int .i64 ((K + 1 + (cStringS xs[j].2.1) + 1 : Nat) : Int))], [w8], [], S7, rfl, rfl, ⟨rfl, rfl⟩, y8_1⟩, ⟨[(.int .i64 ((K + 1 + (cStringS xs[j].2.1) + 1 + 1 + (cCellSS xs[j].2.2.2.1.2) : Nat) : Int))], (([(.int .i64 ((K + 1 + (cStringS xs[j].2.1) + 1 + 1 + (cCellSS xs[j].2.2.2.1.2) + 1 : Nat) : Int))] ++ ([w10])) ++ ([(.int .i64 ((K + 1 + (cStringS xs[j].2.1) + 1 + 1 + (cCellSS xs[j].2.2.2.1.2) + 1 + 1 + (cInt64S xs[j].2.2.2.2.2.1.2) : Nat) : Int))])), [], (([] ++ (S9)) ++ ([])), rfl, rfl, ⟨rfl, rfl⟩, ⟨([(.int .i64 ((K + 1 + (cStringS xs[j].2.1) + 1 + 1 + (cCellSS xs[j].2.2.2.1.2) + 1 : Nat) : Int))] ++ ([w10])), [(.int .i64 ((K + 1 + (cStringS xs[j].2.1) + 1 + 1 + (cCellSS xs[j].2.2.2.1.2) + 1 + 1 + (cInt64S xs[j].2.2.2.2.2.1.2) : Nat) : Int))], ([] ++ (S9)), [], rfl, rfl, ⟨[(.int .i64 ((K + 1 + (cStringS xs[j].2.1) + 1 + 1 + (cCellSS xs[j].2.2.2.1.2) + 1 : Nat) : Int))], [w10], [], S9, rfl, rfl, ⟨rfl, rfl⟩, y8_2⟩, ⟨rfl, rfl⟩⟩⟩⟩⟩⟩⟩ (fun i hi hib hir => ?_), ((((((((g1.trans g2).trans g3).trans g4).trans g5).trans g6).trans g7).trans g8).trans g9)⟩
    · rw [show K + (1 + (cStringS xs[j].2.1) + 1 + 1 + (cCellSS xs[j].2.2.2.1.2) + 1 + 1 + (cInt64S xs[j].2.2.2.2.2.1.2) + 1) = K + 1 + (cStringS xs[j].2.1) + 1 + 1 + (cCellSS xs[j].2.2.2.1.2) + 1 + 1 + (cInt64S xs[j].2.2.2.2.2.1.2) + 1 from by omega]
      funext G
      simp only [S.laws_markClientS.l5, S.laws_markClientS.n8, S.laws_markClientS.n14, S.laws_markClientS.n13, S.laws_markClientS.n12, S.laws_markClientS.n11, S.laws_markClientS.n10, S.laws_markClientS.n9, S.laws_markClientS.n7, S.laws_markClientS.n6, hv, klen_sl, klt, decide_eq_true hj, kcond_bool, cond_true, kx_nrm, kb_nrm, Option.bind_some, kr_mk, kfa_ptr, kj, Nat.add_zero, kN_eq, bors_cons, bors_nil, bor_int, k0, m1, ka0, l1, m2, m3, ka2, m4, ka3, l4, m5, m6, ka5, m7, ka6, l7, m8, m9, ka8]
      try rfl
    · exact (((((((((f9.2 i (by have := hm i hi; have := f1.1; have := f2.1; have := f3.1; have := f4.1; have := f5.1; have := f6.1; have := f7.1; have := f8.1; omega) (by simpa using hib)).trans (f8.2 i (by have := hm i hi; have := f1.1; have := f2.1; have := f3.1; have := f4.1; have := f5.1; have := f6.1; have := f7.1; omega) (fun hz => hir (by simp [hz])))).trans (f7.2 i (by have := hm i hi; have := f1.1; have := f2.1; have := f3.1; have := f4.1; have := f5.1; have := f6.1; omega) (by simpa using hib))).trans (f6.2 i (by have := hm i hi; have := f1.1; have := f2.1; have := f3.1; have := f4.1; have := f5.1; omega) (by simpa using hib))).trans (f5.2 i (by have := hm i hi; have := f1.1; have := f2.1; have := f3.1; have := f4.1; omega) (fun hz => hir (by simp [hz])))).trans (f4.2 i (by have := hm i hi; have := f1.1; have := f2.1; have := f3.1; omega) (by simpa using hib))).trans (f3.2 i (by have := hm i hi; have := f1.1; have := f2.1; omega) (by simpa using hib))).trans (f2.2 i (by have := hm i hi; have := f1.1; omega) (fun hz => hir (by simp [hz])))).trans (f1.2 i (hm i hi) (by simpa using hib)))
  · intro r h ys he hl
    have e1 := he.len
    rw [hl] at e1
    funext G
    simp only [S.laws_markClientS.l5, S.laws_markClientS.n6, S.laws_markClientS.n7, S.laws_markClientS.n8, S.laws_markClientS.n9, S.laws_markClientS.n10, e1, klt, Nat.lt_irrefl, decide_false, kcond_bool, cond_false, Option.bind_some, kx_ext, kb_ext]
    try rfl

/-! World -/
abbrev mWorld (t : Bool) (a : ((List ((List (ByteArray) × Int)) × List (List (ByteArray)) × List (List (Int))) × List ((Int × List (ByteArray) × Int × (Int × List (List ((Int × (Int × Int × Bool × Bool × Bool) × Int)))) × Int × (Int × List (Int)) × Int)) × List (ByteArray) × List ((Int × ByteArray)))) : List GV := [fzl t 2 (mServer t) a.1.1, fzl t 1 (mStringS t) a.1.2.1, fzl t 1 (mInt64S t) a.1.2.2, fzl t 9 (mClient t) a.2.1, fzl t 1 cs a.2.2.1, fzl t 2 (mDatagram t) a.2.2.2]
def zWorld (a : ((List ((List (ByteArray) × Int)) × List (List (ByteArray)) × List (List (Int))) × List ((Int × List (ByteArray) × Int × (Int × List (List ((Int × (Int × Int × Bool × Bool × Bool) × Int)))) × Int × (Int × List (Int)) × Int)) × List (ByteArray) × List ((Int × ByteArray)))) : Nat := zChain a.1 + zClientS a.2.1 + zStringS a.2.2.1 + zDatagramS a.2.2.2
def okWorld (a : ((List ((List (ByteArray) × Int)) × List (List (ByteArray)) × List (List (Int))) × List ((Int × List (ByteArray) × Int × (Int × List (List ((Int × (Int × Int × Bool × Bool × Bool) × Int)))) × Int × (Int × List (Int)) × Int)) × List (ByteArray) × List ((Int × ByteArray)))) : Prop := okChain a.1 ∧ okClientS a.2.1 ∧ okStringS a.2.2.1 ∧ okDatagramS a.2.2.2
theorem okWorld_of {a : ((List ((List (ByteArray) × Int)) × List (List (ByteArray)) × List (List (Int))) × List ((Int × List (ByteArray) × Int × (Int × List (List ((Int × (Int × Int × Bool × Bool × Bool) × Int)))) × Int × (Int × List (Int)) × Int)) × List (ByteArray) × List ((Int × ByteArray)))} (h : zWorld a ≤ 1048576) : okWorld a := by
  unfold zWorld at h
  exact ⟨okChain_of (by omega), okClientS_of (by omega), okStringS_of (by omega), okDatagramS_of (by omega)⟩
@[simp] theorem kloadA_World {h : Heap} {t : Bool} {xs : List ((List ((List (ByteArray) × Int)) × List (List (ByteArray)) × List (List (Int))) × List ((Int × List (ByteArray) × Int × (Int × List (List ((Int × (Int × Int × Bool × Bool × Bool) × Int)))) × Int × (Int × List (Int)) × Int)) × List (ByteArray) × List ((Int × ByteArray)))} {j : Nat} : kloadA 6 h (elp t (mWorld t) xs j) = xs[j]?.map fun a => .agg (mWorld t a) := kloadA_elp (mk := mWorld t) (es := 6) (fun _ => rfl) (by omega)
@[simp] theorem kload1_World_0 {h : Heap} {t : Bool} {xs : List (((List ((List (ByteArray) × Int)) × List (List (ByteArray)) × List (List (Int))) × List ((Int × List (ByteArray) × Int × (Int × List (List ((Int × (Int × Int × Bool × Bool × Bool) × Int)))) × Int × (Int × List (Int)) × Int)) × List (ByteArray) × List ((Int × ByteArray))))} {j : Nat} : kload1 h (elf t (mWorld t) xs j 0) = xs[j]?.bind fun a => (mWorld t a)[0]? := kload1_elf (mk := mWorld t) (es := 6) (fun _ => rfl) (by omega)
@[simp] theorem kload1_World_1 {h : Heap} {t : Bool} {xs : List (((List ((List (ByteArray) × Int)) × List (List (ByteArray)) × List (List (Int))) × List ((Int × List (ByteArray) × Int × (Int × List (List ((Int × (Int × Int × Bool × Bool × Bool) × Int)))) × Int × (Int × List (Int)) × Int)) × List (ByteArray) × List ((Int × ByteArray))))} {j : Nat} : kload1 h (elf t (mWorld t) xs j 1) = xs[j]?.bind fun a => (mWorld t a)[1]? := kload1_elf (mk := mWorld t) (es := 6) (fun _ => rfl) (by omega)
@[simp] theorem kload1_World_2 {h : Heap} {t : Bool} {xs : List (((List ((List (ByteArray) × Int)) × List (List (ByteArray)) × List (List (Int))) × List ((Int × List (ByteArray) × Int × (Int × List (List ((Int × (Int × Int × Bool × Bool × Bool) × Int)))) × Int × (Int × List (Int)) × Int)) × List (ByteArray) × List ((Int × ByteArray))))} {j : Nat} : kload1 h (elf t (mWorld t) xs j 2) = xs[j]?.bind fun a => (mWorld t a)[2]? := kload1_elf (mk := mWorld t) (es := 6) (fun _ => rfl) (by omega)
@[simp] theorem kload1_World_3 {h : Heap} {t : Bool} {xs : List (((List ((List (ByteArray) × Int)) × List (List (ByteArray)) × List (List (Int))) × List ((Int × List (ByteArray) × Int × (Int × List (List ((Int × (Int × Int × Bool × Bool × Bool) × Int)))) × Int × (Int × List (Int)) × Int)) × List (ByteArray) × List ((Int × ByteArray))))} {j : Nat} : kload1 h (elf t (mWorld t) xs j 3) = xs[j]?.bind fun a => (mWorld t a)[3]? := kload1_elf (mk := mWorld t) (es := 6) (fun _ => rfl) (by omega)
@[simp] theorem kload1_World_4 {h : Heap} {t : Bool} {xs : List (((List ((List (ByteArray) × Int)) × List (List (ByteArray)) × List (List (Int))) × List ((Int × List (ByteArray) × Int × (Int × List (List ((Int × (Int × Int × Bool × Bool × Bool) × Int)))) × Int × (Int × List (Int)) × Int)) × List (ByteArray) × List ((Int × ByteArray))))} {j : Nat} : kload1 h (elf t (mWorld t) xs j 4) = xs[j]?.bind fun a => (mWorld t a)[4]? := kload1_elf (mk := mWorld t) (es := 6) (fun _ => rfl) (by omega)
@[simp] theorem kload1_World_5 {h : Heap} {t : Bool} {xs : List (((List ((List (ByteArray) × Int)) × List (List (ByteArray)) × List (List (Int))) × List ((Int × List (ByteArray) × Int × (Int × List (List ((Int × (Int × Int × Bool × Bool × Bool) × Int)))) × Int × (Int × List (Int)) × Int)) × List (ByteArray) × List ((Int × ByteArray))))} {j : Nat} : kload1 h (elf t (mWorld t) xs j 5) = xs[j]?.bind fun a => (mWorld t a)[5]? := kload1_elf (mk := mWorld t) (es := 6) (fun _ => rfl) (by omega)
@[simp] theorem kia_World {t : Bool} {xs : List (((List ((List (ByteArray) × Int)) × List (List (ByteArray)) × List (List (Int))) × List ((Int × List (ByteArray) × Int × (Int × List (List ((Int × (Int × Int × Bool × Bool × Bool) × Int)))) × Int × (Int × List (Int)) × Int)) × List (ByteArray) × List ((Int × ByteArray))))} {k : IntKind} {i : Int} : kia 6 (fzl t 6 (mWorld t) xs) (.int k i) = if 0 ≤ i ∧ i < xs.length then some (elp t (mWorld t) xs i.toNat) else none := kia_fzl (es := 6) (fun _ => rfl)
theorem ld_World {d : Nat} {t : Bool} (a : ((List ((List (ByteArray) × Int)) × List (List (ByteArray)) × List (List (Int))) × List ((Int × List (ByteArray) × Int × (Int × List (List ((Int × (Int × Int × Bool × Bool × Bool) × Int)))) × Int × (Int × List (Int)) × Int)) × List (ByteArray) × List ((Int × ByteArray)))) : (mWorld t a).map (lend (d + 3)) = mWorld true a := map_cons' (lend_fzl (d := d + 2) (mk := (mServer t)) (mk' := (mServer true)) (fun a => ld_Server (d := d + 1) a) a.1.1) (map_cons' (lend_fzl (d := d + 2) (mk := (mStringS t)) (mk' := (mStringS true)) (fun a => ld_StringS (d := d + 1) a) a.1.2.1) (map_cons' (lend_fzl (d := d + 2) (mk := (mInt64S t)) (mk' := (mInt64S true)) (fun a => ld_Int64S (d := d + 1) a) a.1.2.2) (map_cons' (lend_fzl (d := d + 2) (mk := (mClient t)) (mk' := (mClient true)) (fun a => ld_Client (d := d) a) a.2.1) (map_cons' (lend_fzl (d := d + 2) (mk := cs) (mk' := cs) (fun a => map_cons' lend_str rfl) a.2.2.1) (map_cons' (lend_fzl (d := d + 2) (mk := (mDatagram t)) (mk' := (mDatagram true)) (fun a => ld_Datagram (d := d + 2) a) a.2.2.2) (rfl))))))
@[simp] theorem bor_World {d : Nat} {h : Heap} {t : Bool} {xs : List (((List ((List (ByteArray) × Int)) × List (List (ByteArray)) × List (List (Int))) × List ((Int × List (ByteArray) × Int × (Int × List (List ((Int × (Int × Int × Bool × Bool × Bool) × Int)))) × Int × (Int × List (Int)) × Int)) × List (ByteArray) × List ((Int × ByteArray))))} : bor (d + 5) h (fzl t 6 (mWorld t) xs) = some (fzl true 6 (mWorld true) xs, []) := bor_fzl (d := d + 4) (fun a => ld_World (d := d + 1) a) xs
open Classical in
theorem laws_eqWorld_spec (a_1_1 b_1_1 : List ((List (ByteArray) × Int))) (a_1_2 b_1_2 : List (List (ByteArray))) (a_1_3 b_1_3 : List (List (Int))) (a_2 b_2 : List ((Int × List (ByteArray) × Int × (Int × List (List ((Int × (Int × Int × Bool × Bool × Bool) × Int)))) × Int × (Int × List (Int)) × Int))) (a_3 b_3 : List (ByteArray)) (a_4 b_4 : List ((Int × ByteArray))) (hm : okWorld ((a_1_1, a_1_2, a_1_3), a_2, a_3, a_4)) : NN fn.laws_eqWorld [.agg [fzl true 2 (mServer true) a_1_1, fzl true 1 (mStringS true) a_1_2, fzl true 1 (mInt64S true) a_1_3, fzl true 9 (mClient true) a_2, fzl true 1 cs a_3, fzl true 2 (mDatagram true) a_4], .agg [fzl true 2 (mServer true) b_1_1, fzl true 1 (mStringS true) b_1_2, fzl true 1 (mInt64S true) b_1_3, fzl true 9 (mClient true) b_2, fzl true 1 cs b_3, fzl true 2 (mDatagram true) b_4]] = some (.bool (decide (((a_1_1, a_1_2, a_1_3), a_2, a_3, a_4) = ((b_1_1, b_1_2, b_1_3), b_2, b_3, b_4)))) := by
  apply S.laws_eqWorld.gives (k := 0)
  unfold okWorld at hm
  have s0 := laws_eqChain_spec a_1_1 b_1_1 a_1_2 b_1_2 a_1_3 b_1_3 hm.1
  by_cases c0 : (a_1_1, a_1_2, a_1_3) = (b_1_1, b_1_2, b_1_3)
  rotate_left
  · have e : ¬ (((a_1_1, a_1_2, a_1_3), a_2, a_3, a_4) = ((b_1_1, b_1_2, b_1_3), b_2, b_3, b_4)) := fun e => c0 (by simp only [Prod.mk.injEq] at e ⊢; simp [e])
    rw [decide_eq_false e]
    rw [decide_eq_false c0] at s0
    simp [S.laws_eqWorld.run, s0]
  rw [decide_eq_true c0] at s0
  have s1 := laws_eqClientS_spec a_2 b_2 hm.2.1
  by_cases c1 : a_2 = b_2
  rotate_left
  · have e : ¬ (((a_1_1, a_1_2, a_1_3), a_2, a_3, a_4) = ((b_1_1, b_1_2, b_1_3), b_2, b_3, b_4)) := fun e => c1 (by simp only [Prod.mk.injEq] at e ⊢; simp [e])
    rw [decide_eq_false e]
    rw [decide_eq_false c1] at s1
    simp [S.laws_eqWorld.run, s0, s1]
  rw [decide_eq_true c1] at s1
  have s2 := laws_eqStringS_spec a_3 b_3 hm.2.2.1
  by_cases c2 : a_3 = b_3
  rotate_left
  · have e : ¬ (((a_1_1, a_1_2, a_1_3), a_2, a_3, a_4) = ((b_1_1, b_1_2, b_1_3), b_2, b_3, b_4)) := fun e => c2 (by simp only [Prod.mk.injEq] at e ⊢; simp [e])
    rw [decide_eq_false e]
    rw [decide_eq_false c2] at s2
    simp [S.laws_eqWorld.run, s0, s1, s2]
  rw [decide_eq_true c2] at s2
  have s3 := laws_eqDatagramS_spec a_4 b_4 hm.2.2.2
  by_cases c3 : a_4 = b_4
  rotate_left
  · have e : ¬ (((a_1_1, a_1_2, a_1_3), a_2, a_3, a_4) = ((b_1_1, b_1_2, b_1_3), b_2, b_3, b_4)) := fun e => c3 (by simp only [Prod.mk.injEq] at e ⊢; simp [e])
    rw [decide_eq_false e]
    rw [decide_eq_false c3] at s3
    simp [S.laws_eqWorld.run, s0, s1, s2, s3]
  rw [decide_eq_true c3] at s3
  have e : ((a_1_1, a_1_2, a_1_3), a_2, a_3, a_4) = ((b_1_1, b_1_2, b_1_3), b_2, b_3, b_4) := by
    simp only [Prod.mk.injEq] at *
    simp [c0, c1, c2, c3]
  rw [decide_eq_true e]
  simp [S.laws_eqWorld.run, s0, s1, s2, s3]
abbrev rWorld : Rel (((List ((List (ByteArray) × Int)) × List (List (ByteArray)) × List (List (Int))) × List ((Int × List (ByteArray) × Int × (Int × List (List ((Int × (Int × Int × Bool × Bool × Bool) × Int)))) × Int × (Int × List (Int)) × Int)) × List (ByteArray) × List ((Int × ByteArray)))) := (RSeq rChain (RSeq rClientS (RSeq rStringS rDatagramS)))
theorem goodWorld : Good 6 4 (mWorld true) rWorld := (RSeq.good (goodChain.mono (by omega)) (RSeq.good (goodClientS.mono (by omega)) (RSeq.good (goodStringS.mono (by omega)) (goodDatagramS.mono (by omega)))))
def cWorld (x : ((List ((List (ByteArray) × Int)) × List (List (ByteArray)) × List (List (Int))) × List ((Int × List (ByteArray) × Int × (Int × List (List ((Int × (Int × Int × Bool × Bool × Bool) × Int)))) × Int × (Int × List (Int)) × Int)) × List (ByteArray) × List ((Int × ByteArray)))) : Nat := cChain x.1 + cClientS x.2.1 + cStringS x.2.2.1 + cDatagramS x.2.2.2
theorem cWorld_le {x : ((List ((List (ByteArray) × Int)) × List (List (ByteArray)) × List (List (Int))) × List ((Int × List (ByteArray) × Int × (Int × List (List ((Int × (Int × Int × Bool × Bool × Bool) × Int)))) × Int × (Int × List (Int)) × Int)) × List (ByteArray) × List ((Int × ByteArray)))} (h : okWorld x) : cWorld x ≤ 8070456029816553472 := by
  unfold okWorld at h
  unfold cWorld
  have := cChain_le h.1
  have := cClientS_le h.2.1
  have := cStringS_le h.2.2.1
  have := cDatagramS_le h.2.2.2
  omega
noncomputable def kWorld (x : ((List ((List (ByteArray) × Int)) × List (List (ByteArray)) × List (List (Int))) × List ((Int × List (ByteArray) × Int × (Int × List (List ((Int × (Int × Int × Bool × Bool × Bool) × Int)))) × Int × (Int × List (Int)) × Int)) × List (ByteArray) × List ((Int × ByteArray)))) (k : Nat) : ((List ((List (ByteArray) × Int)) × List (List (ByteArray)) × List (List (Int))) × List ((Int × List (ByteArray) × Int × (Int × List (List ((Int × (Int × Int × Bool × Bool × Bool) × Int)))) × Int × (Int × List (Int)) × Int)) × List (ByteArray) × List ((Int × ByteArray))) := (kChain x.1 (k), kClientS x.2.1 (k + cChain x.1), kStringS x.2.2.1 (k + cChain x.1 + cClientS x.2.1), kDatagramS x.2.2.2 (k + cChain x.1 + cClientS x.2.1 + cStringS x.2.2.1))
theorem laws_heldWorld_spec (x : ((List ((List (ByteArray) × Int)) × List (List (ByteArray)) × List (List (Int))) × List ((Int × List (ByteArray) × Int × (Int × List (List ((Int × (Int × Int × Bool × Bool × Bool) × Int)))) × Int × (Int × List (Int)) × Int)) × List (ByteArray) × List ((Int × ByteArray)))) (k : Nat) (hok : okWorld x) (hk : k + cWorld x ≤ 4611686018427387904) : NN fn.laws_heldWorld [.agg (mWorld true (kWorld x k)), .int .i64 (k : Int)] = some (.int .i64 ((k + cWorld x : Nat) : Int)) := by
  unfold okWorld at hok
  unfold cWorld at hk
  apply S.laws_heldWorld.gives (k := 0)
  have s0 := laws_heldChain_spec x.1 (k) hok.1 (by omega)
  have z0 : ¬ (((k + cChain x.1 : Nat) : Int) < 0) := by omega
  have s1 := laws_heldClientS_spec x.2.1 (k + cChain x.1) hok.2.1 (by omega)
  have z1 : ¬ (((k + cChain x.1 + cClientS x.2.1 : Nat) : Int) < 0) := by omega
  have s2 := laws_heldStringS_spec x.2.2.1 (k + cChain x.1 + cClientS x.2.1) hok.2.2.1 (by omega)
  have z2 : ¬ (((k + cChain x.1 + cClientS x.2.1 + cStringS x.2.2.1 : Nat) : Int) < 0) := by omega
  have s3 := laws_heldDatagramS_spec x.2.2.2 (k + cChain x.1 + cClientS x.2.1 + cStringS x.2.2.1) hok.2.2.2 (by omega)
  have z3 : ¬ (((k + cChain x.1 + cClientS x.2.1 + cStringS x.2.2.1 + cDatagramS x.2.2.2 : Nat) : Int) < 0) := by omega
  simp only [kWorld, cWorld, ← Nat.add_assoc]
  simp [S.laws_heldWorld.run, s0, z0, s1, z1, s2, z2, s3, z3, -Int.natCast_add]
theorem laws_markWorld_spec (h : Heap) (c : List GV) (x : ((List ((List (ByteArray) × Int)) × List (List (ByteArray)) × List (List (Int))) × List ((Int × List (ByteArray) × Int × (Int × List (List ((Int × (Int × Int × Bool × Bool × Bool) × Int)))) × Int × (Int × List (Int)) × Int)) × List (ByteArray) × List ((Int × ByteArray)))) (R : List Nat) (k : Nat) (hok : okWorld x) (he : rWorld h c x R) (nd : R.Nodup) (hk : k + cWorld x ≤ 4611686018427387904) : ∃ h', HH fn.laws_markWorld [.agg c, .int .i64 (k : Int)] h = some (.int .i64 ((k + cWorld x : Nat) : Int), h') ∧ rWorld h' c (kWorld x k) R ∧ Fr R h h' := by
  have ek : k + cWorld x = k + cChain x.1 + cClientS x.2.1 + cStringS x.2.2.1 + cDatagramS x.2.2.2 := by unfold cWorld; omega
  rw [ek] at hk ⊢
  unfold okWorld at hok
  have hcl := goodWorld.len he
  have hm := goodWorld.mem he
  have he0 := goodWorld.grow (t := [c]) he
  have hb0 : (h ++ [c])[h.length]? = some c := by simp
  have hbox : ∀ {Q : Type} (K : GV → Heap → Option Q), kbox (.agg c) h K = K (.ptr h.length 0 6) (h ++ [c]) := fun K => by rw [kbox_agg, hcl]
  obtain ⟨H0, hH0⟩ : ∃ H0, h ++ [c] = H0 := ⟨_, rfl⟩
  have g0 : Fr R h H0 := by rw [← hH0]; exact .app
  have hl0 : h.length < H0.length := by rw [← hH0]; simp
  rw [hH0] at he0 hb0
  simp only [hH0] at hbox
  obtain ⟨c0, d0, R0, S0, rfl, rfl, E0, F0⟩ := he0
  have N0 := List.nodup_append.1 nd
  have cl0 := goodChain.len E0
  obtain ⟨c1, d1, R1, S1, rfl, rfl, E1, F1⟩ := F0
  have N1 := List.nodup_append.1 N0.2.1
  obtain ⟨w1, rfl⟩ : ∃ w, c1 = [w] := List.length_eq_one_iff.1 (goodClientS.len E1)
  obtain ⟨c2, d2, R2, S2, rfl, rfl, E2, F2⟩ := F1
  have N2 := List.nodup_append.1 N1.2.1
  obtain ⟨w2, rfl⟩ : ∃ w, c2 = [w] := List.length_eq_one_iff.1 (goodStringS.len E2)
  have E3 := F2
  obtain ⟨w3, rfl⟩ : ∃ w, d2 = [w] := List.length_eq_one_iff.1 (goodDatagramS.len E3)
  have l0 : kloadA 3 H0 (.ptr h.length 0 6) = some (.agg c0) := kpartA_at hb0 hcl (part_at (pre := []) (post := ([w1] ++ [w2] ++ [w3])) (by simp [List.append_assoc]) (by simp) cl0) (by rw [hcl]; omega)
  obtain ⟨H1, m0, x0, f0⟩ := laws_markChain_spec H0 c0 x.1 R0 (k) hok.1 E0 (N0.1) (by omega)
  have i0 : h.length ∉ R0 := fun hz => by have := hm h.length (by simp [hz]); omega
  have hb1 : H1[h.length]? = some _ := (f0.2 _ (by omega) i0).trans hb0
  have y0_1 := goodClientS.keep E1 f0 (fun z h1 h2 => N0.2.2 z h2 z (by simp [h1]) rfl)
  have y0_2 := goodStringS.keep E2 f0 (fun z h1 h2 => N0.2.2 z h2 z (by simp [h1]) rfl)
  have y0_3 := goodDatagramS.keep E3 f0 (fun z h1 h2 => N0.2.2 z h2 z (by simp [h1]) rfl)
  have l1 : kload1 H1 (.ptr h.length 3 6) = some w1 := by rw [kload1_at hb1 hcl]; exact part1_at (pre := (c0)) (post := ([w2] ++ [w3])) (by simp [List.append_assoc]) (by simp [cl0])
  obtain ⟨H2, m1, x1, f1⟩ := laws_markClientS_spec H1 w1 x.2.1 R1 (k + cChain x.1) hok.2.1 y0_1 (N1.1) (by omega)
  have i1 : h.length ∉ R1 := fun hz => by have := hm h.length (by simp [hz]); omega
  have hb2 : H2[h.length]? = some _ := (f1.2 _ (by have := f0.1; omega) i1).trans hb1
  have y1_0 := goodChain.keep x0 f1 (fun z h1 h2 => N0.2.2 z h1 z (by simp [h2]) rfl)
  have y1_2 := goodStringS.keep y0_2 f1 (fun z h1 h2 => N1.2.2 z h2 z (by simp [h1]) rfl)
  have y1_3 := goodDatagramS.keep y0_3 f1 (fun z h1 h2 => N1.2.2 z h2 z (by simp [h1]) rfl)
  have l2 : kload1 H2 (.ptr h.length 4 6) = some w2 := by rw [kload1_at hb2 hcl]; exact part1_at (pre := (c0 ++ [w1])) (post := ([w3])) (by simp [List.append_assoc]) (by simp [cl0])
  obtain ⟨H3, m2, x2, f2⟩ := laws_markStringS_spec H2 w2 x.2.2.1 R2 (k + cChain x.1 + cClientS x.2.1) hok.2.2.1 y1_2 (N2.1) (by omega)
  have i2 : h.length ∉ R2 := fun hz => by have := hm h.length (by simp [hz]); omega
  have hb3 : H3[h.length]? = some _ := (f2.2 _ (by have := f0.1; have := f1.1; omega) i2).trans hb2
  have y2_0 := goodChain.keep y1_0 f2 (fun z h1 h2 => N0.2.2 z h1 z (by simp [h2]) rfl)
  have y2_1 := goodClientS.keep x1 f2 (fun z h1 h2 => N1.2.2 z h1 z (by simp [h2]) rfl)
  have y2_3 := goodDatagramS.keep y1_3 f2 (fun z h1 h2 => N2.2.2 z h2 z (by simp [h1]) rfl)
  have l3 : kload1 H3 (.ptr h.length 5 6) = some w3 := by rw [kload1_at hb3 hcl]; exact part1_at (pre := (c0 ++ [w1] ++ [w2])) (post := []) (by simp [List.append_assoc]) (by simp [cl0])
  obtain ⟨H4, m3, x3, f3⟩ := laws_markDatagramS_spec H3 w3 x.2.2.2 S2 (k + cChain x.1 + cClientS x.2.1 + cStringS x.2.2.1) hok.2.2.2 y2_3 (N2.2.1) (by omega)
  have i3 : h.length ∉ S2 := fun hz => by have := hm h.length (by simp [hz]); omega
  have hb4 : H4[h.length]? = some _ := (f3.2 _ (by have := f0.1; have := f1.1; have := f2.1; omega) i3).trans hb3
  have y3_0 := goodChain.keep y2_0 f3 (fun z h1 h2 => N0.2.2 z h1 z (by simp [h2]) rfl)
  have y3_1 := goodClientS.keep y2_1 f3 (fun z h1 h2 => N1.2.2 z h1 z (by simp [h2]) rfl)
  have y3_2 := goodStringS.keep x2 f3 (fun z h1 h2 => N2.2.2 z h1 z (by simp [h2]) rfl)
  refine ⟨H4, S.laws_markWorld.gives (k := 0) ?_, ⟨_, _, _, _, rfl, rfl, y3_0, ⟨_, _, _, _, rfl, rfl, y3_1, ⟨_, _, _, _, rfl, rfl, y3_2, x3⟩⟩⟩, ((((g0.trans (f0.sub (fun z hz => by simp [hz]))).trans (f1.sub (fun z hz => by simp [hz]))).trans (f2.sub (fun z hz => by simp [hz]))).trans (f3.sub (fun z hz => by simp [hz])))⟩
  simp only [S.laws_markWorld.run, S.laws_markWorld.n0, hbox, l0, m0, l1, m1, l2, m2, l3, m3, kfa_ptr, Nat.zero_add, Option.bind_some, kr_mk, kend_ret, finH_eq]
end Go.Proofs.Ytlbnioapepelnaa.G
