/- Chains: what ChainOk reaches. -/
import Derived.Test.YtopmnigfklgnkaaTB
import Derived.Test.YtopmnigfklgnkaaYChain
namespace Go.Proofs.Ytopmnigfklgnkaa.G
open Go.RowKit
set_option linter.unusedVariables false
set_option linter.unusedSimpArgs false

theorem slices_IndexFunc_impl_Server_spec (xs : List (List ByteArray × Int)) (fv : GV) (p : List ByteArray × Int → Bool) (hm : xs.length ≤ 1048576) (hf : ∀ a ∈ xs, ∀ (h : Heap) (K : GV → Heap → Option GV), kval fv [.agg (mServer true a)] h K = K (.bool (p a)) h) :
    NN fn.slices_IndexFunc_impl_Server [fzl true 2 (mServer true) xs, fv] = some (.int .i64 (if xs.any p = true then (xs.findIdx p : Int) else -1)) := by
  apply S.slices_IndexFunc_impl_Server.gives (k := xs.length + 1)
  simp [S.slices_IndexFunc_impl_Server.run, -List.any_eq_true]
  refine (loop_find (xs := xs) (p := p) (f := fun r j => S.slices_IndexFunc_impl_Server.l5 _ _ r _ _ _ _ (.int .i64 (j : Int)) _) (A := fun j => some (GV.int .i64 (j : Int))) (B := some (GV.int .i64 (-1))) (fun j r hj => ?_) (fun r => ?_) (xs.length + 1) 0 (by omega) (by omega)).trans ?_
  · have h1 : (j : Int) < xs.length := by omega
    have w := wrap_succ (n := j) (by simp only [maxLen]; omega)
    have hk := hf xs[j] (List.getElem_mem hj)
    cases hp : p xs[j] <;> simp [S.slices_IndexFunc_impl_Server.l5, h1, get_of hj, w, hk, hp]
  · simp [S.slices_IndexFunc_impl_Server.l5]
  · simp only [List.drop_zero, Nat.zero_add]
    by_cases hx : xs.any p = true
    · rw [if_pos hx, if_pos hx]
    · rw [if_neg hx, if_neg hx]
theorem slices_ContainsFunc_impl_Server_spec (xs : List (List ByteArray × Int)) (fv fv' : GV) (p : List ByteArray × Int → Bool) (hm : xs.length ≤ 1048576) (hb : bor 9 [] fv' = some (fv, [])) (hf : ∀ a ∈ xs, ∀ (h : Heap) (K : GV → Heap → Option GV), kval fv [.agg (mServer true a)] h K = K (.bool (p a)) h) :
    NN fn.slices_ContainsFunc_impl_Server [fzl true 2 (mServer true) xs, fv'] = some (.bool (xs.any p)) := by
  apply S.slices_ContainsFunc_impl_Server.gives (k := 0)
  by_cases h : xs.any p = true
  · have : (0 : Int) ≤ (xs.findIdx p : Int) := by omega
    simp only [h]
    simp [S.slices_ContainsFunc_impl_Server.run, hb, slices_IndexFunc_impl_Server_spec xs fv p hm hf, -List.any_eq_true, h, this]
  · simp only [Bool.not_eq_true] at h
    simp only [h]
    simp [S.slices_ContainsFunc_impl_Server.run, hb, slices_IndexFunc_impl_Server_spec xs fv p hm hf, -List.any_eq_false, h]
open Classical in
theorem impl_ChainOk_1_spec (log : List ByteArray) (sure : Int) (hm : log.length ≤ 1048576) : NN fn.impl_ChainOk_1 [.agg [fzl true 1 cs log, .int .i64 sure]] = some (.bool (!decide (ServerP log sure))) := by
  apply S.impl_ChainOk_1.gives (k := 0)
  simp [S.impl_ChainOk_1.run, impl_isServer_spec log sure hm]
theorem kval_ChainOk_1 {R : Type} {caps args : List GV} {h : Heap} {K : GV → Heap → Option R} : kval (.fn fn.impl_ChainOk_1 caps) args h K = (kN NN fn.impl_ChainOk_1 (args ++ caps) h).bind fun v => K v h := by kernel_rfl
theorem kval_areUp_1 {R : Type} {caps args : List GV} {h : Heap} {K : GV → Heap → Option R} : kval (.fn fn.impl_areUp_1 caps) args h K = (kN NN fn.impl_areUp_1 (args ++ caps) h).bind fun v => K v h := by kernel_rfl
/-- Numbers that do not fall. -/
def UpP (xs : List Int) : Prop := ∀ j, 0 < j → j < xs.length → xs[j - 1]?.getD 0 ≤ xs[j]?.getD 0
open Classical in
theorem slices_IsSorted_int64_spec (xs : List Int) (hm : xs.length ≤ 1048576) : NN fn.slices_IsSorted_int64 [fzl true 1 ci xs] = some (.bool (decide (UpP xs))) := by
  apply S.slices_IsSorted_int64.gives (k := xs.length + 1)
  have w0 : IntKind.i64.wrap ((xs.length : Int) - 1) = (xs.length : Int) - 1 := by rw [wrap_id] <;> omega
  simp [S.slices_IsSorted_int64.run, w0]
  rw [show (xs.length : Int) - 1 = (xs.length : Int) - 1 - ((0 : Nat) : Int) by omega]
  refine (loop_all (f := fun r j => S.slices_IsSorted_int64.l5 _ _ r _ _ (.int .i64 ((xs.length : Int) - 1 - (j : Int))) _) (A := some (GV.bool true)) (B := some (GV.bool false)) (n := xs.length - 1) (P := fun j => xs[xs.length - 1 - j - 1]?.getD 0 ≤ xs[xs.length - 1 - j]?.getD 0) (fun j r hj => ?_) (fun r => ?_) (xs.length + 1) 0 (by omega) (by omega)).trans ?_
  · obtain ⟨i, hi⟩ : ∃ i, xs.length = j + i + 2 := ⟨xs.length - j - 2, by omega⟩
    have q1 : xs.length - 1 - j - 1 = i := by omega
    have q2 : xs.length - 1 - j = i + 1 := by omega
    have q3 : (xs.length : Int) - 1 - j = (i : Int) + 1 := by omega
    have q4 : (xs.length : Int) - 1 - ((j + 1 : Nat) : Int) = (i : Int) := by omega
    have l1 : i + 1 < xs.length := by omega
    have l2 : i < xs.length := by omega
    have g0 : (0 : Int) < (i : Int) + 1 := by omega
    have g1 : (0 : Int) ≤ (i : Int) + 1 ∧ (i : Int) + 1 < xs.length := by omega
    have g2 : (i : Int) < xs.length := by omega
    have w : IntKind.i64.wrap ((i : Int) + 1 - 1) = (i : Int) := by rw [wrap_id] <;> omega
    have w' : IntKind.i64.wrap (i : Int) = (i : Int) := by rw [wrap_id] <;> omega
    have t1 : ((i : Int) + 1).toNat = i + 1 := by omega
    simp only [q1, q2, q3, q4]
    by_cases hc : xs[i] ≤ xs[i + 1]
    · have hc' : ¬ (xs[i + 1] < xs[i]) := by omega
      refine Eq.trans ?_ (if_pos (by rw [Nat.add_sub_cancel, get_of l1, get_of l2]; exact hc)).symm
      simp only [S.slices_IsSorted_int64.l5]
      simp [g0, g1.1, g1.2, g2, w, w', t1, get_of l1, get_of l2, cmp_Less_int64_spec, hc']
    · have hc' : xs[i + 1] < xs[i] := by omega
      refine Eq.trans ?_ (if_neg (by rw [Nat.add_sub_cancel, get_of l1, get_of l2]; exact hc)).symm
      simp only [S.slices_IsSorted_int64.l5]
      simp [g0, g1.1, g1.2, g2, w, w', t1, get_of l1, get_of l2, cmp_Less_int64_spec, hc']
  · obtain ⟨z, hz, hz'⟩ : ∃ z : Int, (xs.length : Int) - 1 - ((xs.length - 1 : Nat) : Int) = z ∧ ¬ (0 < z) := ⟨_, rfl, by omega⟩
    rw [hz]
    simp only [S.slices_IsSorted_int64.l5]
    simp [hz']
  · have key : (∀ i, 0 ≤ i → i < xs.length - 1 → xs[xs.length - 1 - i - 1]?.getD 0 ≤ xs[xs.length - 1 - i]?.getD 0) ↔ UpP xs := by
      unfold UpP
      constructor
      · intro h j h0 h1
        have := h (xs.length - 1 - j) (by omega) (by omega)
        rwa [show xs.length - 1 - (xs.length - 1 - j) = j by omega] at this
      · intro h i _ hi
        exact h (xs.length - 1 - i) (by omega) (by omega)
    by_cases hx : UpP xs
    · rw [if_pos (key.2 hx), decide_eq_true hx]
    · rw [if_neg (fun h => hx (key.1 h)), decide_eq_false hx]
theorem impl_areUp_1_spec (n a b : Int) : NN fn.impl_areUp_1 [.int .i64 n, .fp true [.int .i64 a], .fp true [.int .i64 b]] = some (.bool (!decide (a ≤ n ∧ n ≤ b))) := by
  apply S.impl_areUp_1.gives (k := 0)
  have e1 : ∀ (h : Heap) (x : GV), kload1 h (.fp true [x]) = some x := fun h x => rfl
  simp [S.impl_areUp_1.run, e1, impl_in_spec]
open Classical in
theorem impl_areUp_spec (xs : List Int) (a b : Int) (hm : xs.length ≤ 1048576) : NN fn.impl_areUp [fzl true 1 ci xs, .int .i64 a, .int .i64 b] = some (.bool (decide (UpP xs ∧ ∀ n ∈ xs, a ≤ n ∧ n ≤ b))) := by
  apply S.impl_areUp.gives (k := 0)
  have e2 : bor 9 [[.int .i64 a], [.int .i64 b]] (.fn fn.impl_areUp_1 [.ptr 0 0 1, .ptr 1 0 1]) = some (.fn fn.impl_areUp_1 [.fp true [.int .i64 a], .fp true [.int .i64 b]], [0, 1]) := by rfl
  have b1 : ∀ (d : Nat) (h : Heap) (x : Int), bor (d + 2) h (.fp true [.int .i64 x]) = some (.fp true [.int .i64 x], []) := fun d h x => rfl
  have hs := slices_ContainsFunc_int64_spec xs (.fn fn.impl_areUp_1 [.fp true [.int .i64 a], .fp true [.int .i64 b]]) (.fn fn.impl_areUp_1 [.fp true [.int .i64 a], .fp true [.int .i64 b]]) (fun n => !decide (a ≤ n ∧ n ≤ b)) hm rfl (fun n _ h K => by rw [kval_areUp_1]; simp [b1, impl_areUp_1_spec])
  have hb : ∀ (x : Int) (h : Heap) (K : GV → Heap → Option GV), kbox (.int .i64 x) h K = K (.ptr h.length 0 1) (h ++ [[.int .i64 x]]) := fun _ _ _ => rfl
  by_cases h1 : UpP xs
  · cases h2 : (xs.any fun n => !decide (a ≤ n ∧ n ≤ b)) with
    | true =>
      rw [h2] at hs
      rw [decide_eq_false (fun h => by
        obtain ⟨n, hn, hp⟩ := List.any_eq_true.1 h2
        have := h.2 n hn
        simp [this] at hp)]
      simp [S.impl_areUp.run, slices_IsSorted_int64_spec xs hm, e2, hb, hs, h1]
    | false =>
      rw [h2] at hs
      rw [decide_eq_true ⟨h1, fun n hn => by
        have := List.any_eq_false.1 h2 n hn
        simpa using this⟩]
      simp [S.impl_areUp.run, slices_IsSorted_int64_spec xs hm, e2, hb, hs, h1]
  · rw [decide_eq_false (fun h => h1 h.1)]
    simp [S.impl_areUp.run, slices_IsSorted_int64_spec xs hm, hb, h1]
theorem slices_Grow_string_spec (n : Nat) (hn : n ≤ 4194304) (h : Heap) : HH fn.slices_Grow_string [.nils, .int .i64 n] h = if n = 0 then some (.nils, h) else some (.sl h.length 0 0 n 1, h ++ [zeros [.str { data := #[] }] n]) := by
  have w1 : IntKind.i64.wrap (0 : Int) = 0 := rfl
  have w2 : IntKind.i64.wrap (n : Int) = n := by rw [wrap_id] <;> omega
  have g0 : ¬ ((n : Int) < 0) := by omega
  by_cases h0 : n = 0
  · subst h0
    rw [if_pos rfl]
    apply S.slices_Grow_string.gives (k := 0)
    simp [S.slices_Grow_string.run, w1]
  · rw [if_neg h0]
    apply S.slices_Grow_string.gives (k := 0)
    have g1 : (0 : Int) < n := by omega
    have g2 : 0 < n := by omega
    have e1 : ksl 1 .nils none (some (.int .i64 0)) none = some .nils := rfl
    have e2 : kapz [.str { data := #[] }] 1 16 .nils (.int .i64 n) h = some (.sl h.length 0 n n 1, h ++ [zeros [.str { data := #[] }] n]) := by
      have a1 : n * 16 ≤ roomMax := by simp only [roomMax]; omega
      have a2 : (n : Int) ≤ maxLen := by simp only [maxLen]; omega
      simp [kapz, a1, a2, h0]
    have e3 : ksl 1 (.sl h.length 0 n n 1) none (some (.int .i64 0)) none = some (.sl h.length 0 0 n 1) := by
      simp [ksl, kslice, gslice, gopt, gint]
    simp [S.slices_Grow_string.run, w1, w2, g0, g1, g2, e1, e2, e3]
theorem flat_take_len {α : Type} (xss : List (List α)) (j : Nat) (hj : j < xss.length) : (xss.take (j + 1)).flatten = (xss.take j).flatten ++ xss[j] := by
  rw [List.take_add_one, List.getElem?_eq_getElem hj, List.flatten_append]
  simp
theorem flat_take_le {α : Type} (xss : List (List α)) (j : Nat) : (xss.take j).flatten.length ≤ xss.flatten.length := by
  have e : xss.flatten = (xss.take j).flatten ++ (xss.drop j).flatten := by rw [← List.flatten_append, List.take_append_drop]
  rw [e, List.length_append]
  omega
theorem slices_Concat_string_spec (xss : List (List ByteArray)) (hm : xss.length ≤ 1048576) (hn : xss.flatten.length ≤ 4194304) : NN fn.slices_Concat_string [fzl true 1 (mStringS true) xss] = some (fzl false 1 cs xss.flatten) := by
  apply S.slices_Concat_string.gives (k := xss.length + 1)
  have w00 : IntKind.i64.wrap (0 : Int) = 0 := rfl
  simp [S.slices_Concat_string.run]
  refine (loop_to (f := fun r j => S.slices_Concat_string.l21 _ _ r _ _ (.int .i64 (((xss.take j).flatten.length : Nat) : Int)) _ _ (.int .i64 (j : Int)) _) (A := some (fzl false 1 cs xss.flatten)) (n := xss.length) (fun j r hj => ?_) (fun r => ?_) (xss.length + 1) 0 (by omega) (by omega))
  · have g1 : (j : Int) < xss.length := by omega
    have w := wrap_succ (n := j) (by simp only [maxLen]; omega)
    have l1 := flat_take_le xss (j + 1)
    have l2 := flat_take_len xss j hj
    have l3 : ((xss.take (j + 1)).flatten.length : Int) = ((xss.take j).flatten.length : Int) + (xss[j].length : Int) := by rw [l2, List.length_append]; omega
    have w2 : IntKind.i64.wrap (((xss.take j).flatten.length : Int) + (xss[j].length : Int)) = ((xss.take (j + 1)).flatten.length : Int) := by rw [wrap_id] <;> omega
    have g2 : ¬ (((xss.take (j + 1)).flatten.length : Int) < 0) := by omega
    simp only [S.slices_Concat_string.l21]
    simp [g1, get_of hj, w, w2, g2, -List.length_flatten, -List.length_take]
  · simp only [S.slices_Concat_string.l21]
    have g0 : ¬ ((xss.length : Int) < xss.length) := by omega
    have sp := slices_Grow_string_spec xss.flatten.length hn []
    by_cases h0 : xss.flatten.length = 0
    · rw [if_pos h0] at sp
      have hz : xss.flatten = [] := List.eq_nil_of_length_eq_zero h0
      simp [g0, sp, -List.length_flatten]
      refine (loop_to (f := fun r j => S.slices_Concat_string.l8 _ _ r _ .nils _ _ (.int .i64 (j : Int)) []) (A := some (fzl false 1 cs xss.flatten)) (n := xss.length) (fun j r hj => ?_) (fun r => ?_) (xss.length + 1) 0 (by omega) (by omega))
      · have g1 : (j : Int) < xss.length := by omega
        have w := wrap_succ (n := j) (by simp only [maxLen]; omega)
        have e0 : xss[j] = [] := List.flatten_eq_nil_iff.1 hz _ (List.getElem_mem hj)
        have ka := kapp_nils (mk := cs) (es := 1) (b := 16) (z := [.str { data := #[] }]) (t := true) (xs := ([] : List ByteArray)) (h := []) (fun _ => rfl) (fun _ => rfl) rfl (by omega) (by simp)
        simp only [fzl_nil] at ka
        simp only [S.slices_Concat_string.l8]
        simp [g1, get_of hj, w, e0, ka]
      · simp only [S.slices_Concat_string.l8]
        simp [g0, hz, -List.flatten_eq_nil_iff]
        exact finN_of frz_nils
    · rw [if_neg h0] at sp
      simp [g0, sp, -List.length_flatten]
      refine (loop_to (f := fun r j => S.slices_Concat_string.l8 _ _ r _ (.sl 0 0 (xss.take j).flatten.length xss.flatten.length 1) _ _ (.int .i64 (j : Int)) [(xss.take j).flatten.flatMap cs ++ zeros [.str { data := #[] }] (xss.flatten.length - (xss.take j).flatten.length)]) (A := some (fzl false 1 cs xss.flatten)) (n := xss.length) (fun j r hj => ?_) (fun r => ?_) (xss.length + 1) 0 (by omega) (by omega))
      · have g1 : (j : Int) < xss.length := by omega
        have w := wrap_succ (n := j) (by simp only [maxLen]; omega)
        have l1 := flat_take_le xss (j + 1)
        have l2 := flat_take_len xss j hj
        have l3 : (xss.take j).flatten.length + xss[j].length ≤ xss.flatten.length := by rw [l2, List.length_append] at l1; omega
        have ka := kapp_fill (mk := cs) (es := 1) (b := 16) (z := [.str { data := #[] }]) (t := true) (i := 0) (n := xss.flatten.length) (ys := (xss.take j).flatten) (xs := xss[j]) (h := [(xss.take j).flatten.flatMap cs ++ zeros [.str { data := #[] }] (xss.flatten.length - (xss.take j).flatten.length)]) (fun _ => rfl) (fun _ => rfl) rfl (by omega) hn l3 rfl
        rw [← l2] at ka
        simp only [S.slices_Concat_string.l8]
        simp [g1, get_of hj, w, ka, -List.length_flatten, -List.length_take]
      · simp only [S.slices_Concat_string.l8]
        simp [g0, -List.length_flatten, zeros]
        exact finN_of (frz_sl (mk := cs) (mk' := cs) (rest := []) (fun _ => rfl) (by simp) (by rw [List.append_nil]; exact len_flat (mk := cs) (es := 1) (fun _ => rfl) xss.flatten) (Nat.le_refl _) (fun a _ => .cs))
end Go.Proofs.Ytopmnigfklgnkaa.G
