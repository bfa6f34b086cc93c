/- Small functions that many laws reach. -/
import Derived.Test.YtopmnigfklgnkaaT5
import Derived.Test.YtopmnigfklgnkaaSA
namespace Go.Proofs.Ytopmnigfklgnkaa.G
open Go.RowKit
set_option linter.unusedVariables false
set_option linter.unusedSimpArgs false

@[simp] theorem bor_fn0 {d : Nat} {h : Heap} {f : FuncId} : bor (d + 1) h (.fn f []) = some (.fn f [], []) := rfl
theorem impl_in_spec (a b c : Int) : NN fn.impl_in [.int .i64 a, .int .i64 b, .int .i64 c] = some (.bool (decide (b ≤ a ∧ a ≤ c))) := by
  apply S.impl_in.gives (k := 0)
  by_cases h1 : b ≤ a <;> by_cases h2 : a ≤ c <;> simp [S.impl_in.run, h1, h2]
theorem spec_l1In_spec (a b c : Int) : NN fn.spec_l1In [.int .i64 a, .int .i64 b, .int .i64 c] = some (.bool (decide (b ≤ a ∧ a ≤ c))) := by
  apply S.spec_l1In.gives (k := 0)
  by_cases h1 : b ≤ a <;> by_cases h2 : a ≤ c <;> simp [S.spec_l1In.run, h1, h2]
theorem cmp_isNaN_int64_spec (a : Int) : NN fn.cmp_isNaN_int64 [.int .i64 a] = some (.bool false) := by
  apply S.cmp_isNaN_int64.gives (k := 0)
  simp [S.cmp_isNaN_int64.run]
theorem cmp_Less_int64_spec (a b : Int) : NN fn.cmp_Less_int64 [.int .i64 a, .int .i64 b] = some (.bool (decide (a < b))) := by
  apply S.cmp_Less_int64.gives (k := 0)
  simp [S.cmp_Less_int64.run, cmp_isNaN_int64_spec]
theorem slices_Equal_string_spec (xs ys : List ByteArray) (hm : xs.length ≤ 1048576) : NN fn.slices_Equal_string [fzl true 1 cs xs, fzl true 1 cs ys] = some (.bool (decide (xs = ys))) := by
  apply S.slices_Equal_string.gives (k := xs.length + 1)
  simp [S.slices_Equal_string.run]
  by_cases hl : xs.length = ys.length
  · have hi : (xs.length : Int) = ys.length := by omega
    simp [hi]
    refine (loop_all (f := fun r j => S.slices_Equal_string.l6 _ _ r _ _ _ _ (.int .i64 (j : Int)) _) (A := some (GV.bool true)) (B := some (GV.bool false)) (n := xs.length) (P := fun j => xs[j]? = ys[j]?) (fun j r hj => ?_) (fun r => ?_) (xs.length + 1) 0 (by omega) (by omega)).trans ?_
    · have h1 : (j : Int) < xs.length := by omega
      have h2 : (j : Int) < ys.length := by omega
      have h3 : j < ys.length := by omega
      have w := wrap_succ (n := j) (by simp only [maxLen]; omega)
      by_cases hc : xs[j] = ys[j]
      · simp [S.slices_Equal_string.l6, h1, h2, get_of hj, get_of h3, w, hc]
      · simp [S.slices_Equal_string.l6, h1, h2, get_of hj, get_of h3, w, hc]
    · simp [S.slices_Equal_string.l6, hi]
    · simp [list_eq_iff hl]
      by_cases hx : xs = ys <;> simp [hx]
  · have : ¬ ((xs.length : Int) = ys.length) := by omega
    have hne : xs ≠ ys := fun h => hl (by rw [h])
    simp [this, hne]
theorem spec_l17Same_spec (xs ys : List ByteArray) (hm : xs.length ≤ 1048576) : NN fn.spec_l17Same [fzl true 1 cs xs, fzl true 1 cs ys] = some (.bool (decide (xs = ys))) := by
  apply S.spec_l17Same.gives (k := xs.length + 1)
  simp [S.spec_l17Same.run]
  by_cases hl : xs.length = ys.length
  · have hi : (xs.length : Int) = ys.length := by omega
    simp [hi]
    refine (loop_all (f := fun r j => S.spec_l17Same.l6 _ _ r _ _ _ (.int .i64 (j : Int)) _) (A := some (GV.bool true)) (B := some (GV.bool false)) (n := xs.length) (P := fun j => xs[j]? = ys[j]?) (fun j r hj => ?_) (fun r => ?_) (xs.length + 1) 0 (by omega) (by omega)).trans ?_
    · have h1 : (j : Int) < xs.length := by omega
      have h2 : (j : Int) < ys.length := by omega
      have h3 : j < ys.length := by omega
      have w := wrap_succ (n := j) (by simp only [maxLen]; omega)
      by_cases hc : xs[j] = ys[j]
      · simp [S.spec_l17Same.l6, h1, h2, get_of hj, get_of h3, w, hc]
      · simp [S.spec_l17Same.l6, h1, h2, get_of hj, get_of h3, w, hc]
    · simp [S.spec_l17Same.l6]
    · simp [list_eq_iff hl]
      by_cases hx : xs = ys <;> simp [hx]
  · have : ¬ ((xs.length : Int) = ys.length) := by omega
    have hne : xs ≠ ys := fun h => hl (by rw [h])
    simp [this, hne]
theorem spec_l17Texts_spec (xs : List ByteArray) (hm : xs.length ≤ 4194304) (b : Nat) : OO fn.spec_l17Texts [fzl true 1 cs xs] b = if xs.length = 0 then some (.emp, []) else some (.sl b 0 xs.length xs.length 1, [xs.flatMap cs]) := by
  by_cases h : xs.length = 0
  · rw [if_pos h]
    apply S.spec_l17Texts.gives (k := 0)
    simp [S.spec_l17Texts.run, kapp_emp (mk := cs) (es := 1) (b := 16) (z := [.str { data := #[] }]) (fun _ => rfl) (fun _ => rfl) rfl (by omega) hm, h]
  · rw [if_neg h]
    apply S.spec_l17Texts.gives (k := 0)
    simp [S.spec_l17Texts.run, kapp_emp (mk := cs) (es := 1) (b := 16) (z := [.str { data := #[] }]) (fun _ => rfl) (fun _ => rfl) rfl (by omega) hm, h]
    have hl : (xs.flatMap cs).length = xs.length * 1 := len_flat (mk := cs) (es := 1) (fun _ => rfl) xs
    rw [finO_sl_pl (cs := xs.flatMap cs) (by simp) hl (Nat.le_refl _) (by rw [List.take_of_length_le (by omega)]; exact all_flat (fun _ => rfl) xs)]
    rw [List.take_of_length_le (by omega)]

/-- A loop that leaves at the first place that is right. -/
theorem loop_find {α R : Type} {xs : List α} {p : α → Bool} {f : Nat → Nat → R} {A : Nat → R} {B : R} (h1 : ∀ j r (hj : j < xs.length), f (r + 1) j = if p xs[j] = true then A j else f r (j + 1)) (h2 : ∀ r, f (r + 1) xs.length = B) :
    ∀ r j, xs.length - j < r → j ≤ xs.length → f r j = if (xs.drop j).any p = true then A (j + (xs.drop j).findIdx p) else B := by
  intro r
  induction r with
  | zero => intro j h; omega
  | succ r ih =>
    intro j hr hj
    rcases Nat.lt_or_ge j xs.length with h | h
    · rw [h1 j r h, List.drop_eq_getElem_cons h, List.any_cons, List.findIdx_cons]
      by_cases hp : p xs[j] = true
      · simp [hp]
      · rw [if_neg hp, ih (j + 1) (by omega) (by omega)]
        simp only [Bool.not_eq_true] at hp
        simp only [hp, Bool.false_or, cond_false]
        split
        · congr 1; omega
        · rfl
    · have : j = xs.length := by omega
      subst this
      rw [h2 r]
      simp
theorem slices_IndexFunc_string_spec (xs : List ByteArray) (fv : GV) (p : ByteArray → Bool) (hm : xs.length ≤ 1048576) (hf : ∀ a ∈ xs, ∀ (h : Heap) (K : GV → Heap → Option GV), kval fv [.str a] h K = K (.bool (p a)) h) :
    NN fn.slices_IndexFunc_string [fzl true 1 cs xs, fv] = some (.int .i64 (if xs.any p = true then (xs.findIdx p : Int) else -1)) := by
  apply S.slices_IndexFunc_string.gives (k := xs.length + 1)
  simp [S.slices_IndexFunc_string.run, -List.any_eq_true]
  refine (loop_find (xs := xs) (p := p) (f := fun r j => S.slices_IndexFunc_string.l5 _ _ r _ _ _ _ (.int .i64 (j : Int)) _) (A := fun j => some (GV.int .i64 (j : Int))) (B := some (GV.int .i64 (-1))) (fun j r hj => ?_) (fun r => ?_) (xs.length + 1) 0 (by omega) (by omega)).trans ?_
  · have h1 : (j : Int) < xs.length := by omega
    have w := wrap_succ (n := j) (by simp only [maxLen]; omega)
    have hk := hf xs[j] (List.getElem_mem hj)
    cases hp : p xs[j] <;> simp [S.slices_IndexFunc_string.l5, h1, get_of hj, w, hk, hp]
  · simp [S.slices_IndexFunc_string.l5]
  · simp only [List.drop_zero, Nat.zero_add]
    by_cases hx : xs.any p = true
    · rw [if_pos hx, if_pos hx]
    · rw [if_neg hx, if_neg hx]
theorem slices_ContainsFunc_string_spec (xs : List ByteArray) (fv fv' : GV) (p : ByteArray → Bool) (hm : xs.length ≤ 1048576) (hb : bor 9 [] fv' = some (fv, [])) (hf : ∀ a ∈ xs, ∀ (h : Heap) (K : GV → Heap → Option GV), kval fv [.str a] h K = K (.bool (p a)) h) :
    NN fn.slices_ContainsFunc_string [fzl true 1 cs xs, fv'] = some (.bool (xs.any p)) := by
  apply S.slices_ContainsFunc_string.gives (k := 0)
  by_cases h : xs.any p = true
  · have : (0 : Int) ≤ (xs.findIdx p : Int) := by omega
    simp only [h]
    simp [S.slices_ContainsFunc_string.run, hb, slices_IndexFunc_string_spec xs fv p hm hf, -List.any_eq_true, h, this]
  · simp only [Bool.not_eq_true] at h
    simp only [h]
    simp [S.slices_ContainsFunc_string.run, hb, slices_IndexFunc_string_spec xs fv p hm hf, -List.any_eq_false, h]
theorem slices_IndexFunc_int64_spec (xs : List Int) (fv : GV) (p : Int → Bool) (hm : xs.length ≤ 1048576) (hf : ∀ a ∈ xs, ∀ (h : Heap) (K : GV → Heap → Option GV), kval fv [.int .i64 a] h K = K (.bool (p a)) h) :
    NN fn.slices_IndexFunc_int64 [fzl true 1 ci xs, fv] = some (.int .i64 (if xs.any p = true then (xs.findIdx p : Int) else -1)) := by
  apply S.slices_IndexFunc_int64.gives (k := xs.length + 1)
  simp [S.slices_IndexFunc_int64.run, -List.any_eq_true]
  refine (loop_find (xs := xs) (p := p) (f := fun r j => S.slices_IndexFunc_int64.l5 _ _ r _ _ _ _ (.int .i64 (j : Int)) _) (A := fun j => some (GV.int .i64 (j : Int))) (B := some (GV.int .i64 (-1))) (fun j r hj => ?_) (fun r => ?_) (xs.length + 1) 0 (by omega) (by omega)).trans ?_
  · have h1 : (j : Int) < xs.length := by omega
    have w := wrap_succ (n := j) (by simp only [maxLen]; omega)
    have hk := hf xs[j] (List.getElem_mem hj)
    cases hp : p xs[j] <;> simp [S.slices_IndexFunc_int64.l5, h1, get_of hj, w, hk, hp]
  · simp [S.slices_IndexFunc_int64.l5]
  · simp only [List.drop_zero, Nat.zero_add]
    by_cases hx : xs.any p = true
    · rw [if_pos hx, if_pos hx]
    · rw [if_neg hx, if_neg hx]
theorem slices_ContainsFunc_int64_spec (xs : List Int) (fv fv' : GV) (p : Int → Bool) (hm : xs.length ≤ 1048576) (hb : bor 9 [] fv' = some (fv, [])) (hf : ∀ a ∈ xs, ∀ (h : Heap) (K : GV → Heap → Option GV), kval fv [.int .i64 a] h K = K (.bool (p a)) h) :
    NN fn.slices_ContainsFunc_int64 [fzl true 1 ci xs, fv'] = some (.bool (xs.any p)) := by
  apply S.slices_ContainsFunc_int64.gives (k := 0)
  by_cases h : xs.any p = true
  · have : (0 : Int) ≤ (xs.findIdx p : Int) := by omega
    simp only [h]
    simp [S.slices_ContainsFunc_int64.run, hb, slices_IndexFunc_int64_spec xs fv p hm hf, -List.any_eq_true, h, this]
  · simp only [Bool.not_eq_true] at h
    simp only [h]
    simp [S.slices_ContainsFunc_int64.run, hb, slices_IndexFunc_int64_spec xs fv p hm hf, -List.any_eq_false, h]
theorem kval_isServer_1 {R : Type} {caps args : List GV} {h : Heap} {K : GV → Heap → Option R} : kval (.fn fn.impl_isServer_1 caps) args h K = (kN NN fn.impl_isServer_1 (args ++ caps) h).bind fun v => K v h := by kernel_rfl
theorem impl_isServer_1_spec (a : ByteArray) : NN fn.impl_isServer_1 [.str a] = some (.bool (decide (200 < (a.size : Int)))) := by
  apply S.impl_isServer_1.gives (k := 0)
  simp [S.impl_isServer_1.run]
/-- A server that is right. -/
def ServerP (log : List ByteArray) (sure : Int) : Prop := log.length ≤ 60 ∧ (0 ≤ sure ∧ sure ≤ log.length) ∧ ∀ a ∈ log, a.size ≤ 200
open Classical in
theorem impl_isServer_spec (log : List ByteArray) (sure : Int) (hm : log.length ≤ 1048576) : NN fn.impl_isServer [.agg [fzl true 1 cs log, .int .i64 sure]] = some (.bool (decide (ServerP log sure))) := by
  apply S.impl_isServer.gives (k := 0)
  have hs := slices_ContainsFunc_string_spec log (.fn fn.impl_isServer_1 []) (.fn fn.impl_isServer_1 []) (fun a => decide (200 < (a.size : Int))) hm rfl (fun a _ h K => by rw [kval_isServer_1]; simp [impl_isServer_1_spec])
  by_cases h1 : log.length ≤ 60
  · have h1' : (log.length : Int) ≤ 60 := by omega
    by_cases h2 : 0 ≤ sure ∧ sure ≤ log.length
    · have e : ServerP log sure ↔ (log.any fun a => decide (200 < (a.size : Int))) = false := by
        unfold ServerP
        simp only [h1, h2, true_and, List.any_eq_false, decide_eq_true_eq, and_self]
        constructor
        · intro h a ha; have := h a ha; omega
        · intro h a ha; have := h a ha; omega
      cases h3 : (log.any fun a => decide (200 < (a.size : Int))) with
      | false =>
        rw [h3] at hs
        rw [decide_eq_true (e.2 h3)]
        simp [S.impl_isServer.run, impl_in_spec, h1', h2, hs]
      | true =>
        rw [h3] at hs
        rw [decide_eq_false (fun h => by rw [e.1 h] at h3; cases h3)]
        simp [S.impl_isServer.run, impl_in_spec, h1', h2, hs]
    · have : ¬ ServerP log sure := fun h => h2 h.2.1
      have hd : decide (0 ≤ sure ∧ sure ≤ (log.length : Int)) = false := decide_eq_false h2
      have hi := impl_in_spec sure 0 log.length
      rw [hd] at hi
      simp [S.impl_isServer.run, hi, h1', this]
  · have h1' : ¬ (log.length : Int) ≤ 60 := by omega
    have : ¬ ServerP log sure := fun h => h1 h.1
    simp [S.impl_isServer.run, h1', this]
end Go.Proofs.Ytopmnigfklgnkaa.G
